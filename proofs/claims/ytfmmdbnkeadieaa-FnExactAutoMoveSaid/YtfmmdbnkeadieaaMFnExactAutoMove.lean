/- That the Go functions come to the answers of the plain ones. Printed by a program. -/
import Derived.Test.YtfmmdbnkeadieaaT
import Derived.Test.YtfmmdbnkeadieaaMFnExactRecordOut
import Derived.Test.YtfmmdbnkeadieaaFFnExactAutoMove
set_option linter.unusedVariables false
set_option maxRecDepth 100000
set_option maxHeartbeats 20000000
namespace Go.Proofs.Ytfmmdbnkeadieaa
open Go Go.Proofs.Ytfmmdbnkeadieaa.V Go.Proofs.Ytfmmdbnkeadieaa.M

namespace impl_AutoMove
def S : Sp := ⟨40, ⟨[38, 3], [38, 4], [.bor, .bor], .own⟩, [.agg .lent kd31, .I], [.agg .own kd31, .B]⟩
theorem con (k : Nat) : Con Try.prog S (f k) := con_fn (nt := 13) (live := []) (Λ := noL) tok (all_cons (ok_con (impl_ChoiceOf.con k)) (all_cons (ok_con (impl_ReplayMove.con k)) all_nil)) mixed Try.func40 (by kernel_rfl) all_nil fun x => by kernel_rfl
end impl_AutoMove

namespace laws_heldRules
def S : Sp := ⟨112, ⟨[36, 3], [3], [.bor, .bor], .own⟩, [.agg .lent kd28, .I], [.O]⟩
theorem con (k : Nat) : Con Try.prog S (f k) := con_fn (nt := 18) (live := []) (Λ := noL) tok (all_cons (ok_con (laws_heldIntS.con k)) all_nil) mixed Try.func112 (by kernel_rfl) all_nil fun x => by kernel_rfl
end laws_heldRules

namespace laws_heldIntSS
def S : Sp := ⟨113, ⟨[29, 3], [3], [.bor, .bor], .own⟩, [.l .lent .rows, .I], [.O]⟩
def live : List (Nat × List Nat) := [(2, [0, 1, 5]), (100002, [1, 4])]
def G {R : Type} (k : Nat) : Glob R := mkG tt [laws_heldIntS.S.ent (laws_heldIntS.f k)] 21
def h2 : Hd := ⟨[.W, .I, .I], []⟩
def T2 {R : Type} (k : Nat) (K : X → St → Option R) : h2.Fn (Option R) := fun v0 v1 v2 => l2 k v0 (fun p0 => K .ret (stOf [1, 4] [.one (.l (.i .i64 p0)), .one (.l (.i .i64 (-1)))] [])) (fun p0 => K (.exit 0) (stOf [1, 4] [.one (.l (.i .i64 p0)), .one (.l (.any))] [])) k v1 v2
def tab {R : Type} (k : Nat) : LTab R := fun id K vs hs => bif id == 2 then h2.tell vs hs (T2 k K) else none
theorem fit2 {R : Type} (k : Nat) : Fit (R := R) (G k) live (tab k) (bl Try.f113 0) := h2.fit (key := 2) (by kernel_rfl) (T2 k) (fun _ _ _ => rfl) fun K r v0 v1 v2 h => fit_mk h (fun a => h2.mk' v0 a.1 a.2) (fun _ v1 v2 => some (v1, v2)) (by kernel_rfl) (fun _ => by kernel_rfl) fun Lp a => by kernel_rfl
theorem con (k : Nat) : Con Try.prog S (f k) := con_fn (nt := 21) (live := live) (Λ := tab k) tok (all_cons (ok_con (laws_heldIntS.con k)) all_nil) mixed Try.func113 (by kernel_rfl) (all_cons (fit2 k) all_nil) fun x => by kernel_rfl
end laws_heldIntSS

namespace laws_heldGame
def S : Sp := ⟨61, ⟨[38, 3], [3], [.bor, .bor], .own⟩, [.agg .lent kd31, .I], [.O]⟩
theorem con (k : Nat) : Con Try.prog S (f k) := con_fn (nt := 30) (live := []) (Λ := noL) tok (all_cons (ok_con (laws_heldIntS.con k)) (all_cons (ok_con (laws_heldRules.con k)) (all_cons (ok_con (laws_heldIntSS.con k)) all_nil))) mixed Try.func61 (by kernel_rfl) all_nil fun x => by kernel_rfl
end laws_heldGame

namespace laws_FnExactAutoMove
def S : Sp := ⟨10, ⟨[31, 3], [4], [.bor, .bor], .own⟩, [.agg .lent kd31, .I], [.B]⟩
theorem con (k : Nat) : Con Try.prog S (f k) := con_fn (nt := 101) (live := []) (Λ := noL) tok (all_cons (ok_con (impl_AutoMove.con k)) (all_cons (ok_con (laws_szGame.con k)) (all_cons (ok_con (laws_toGame.con k)) (all_cons (ok_con (laws_eqGame.con k)) (all_cons (ok_con (laws_markGame.con k)) (all_cons (ok_con (spec_AutoMove.con k)) (all_cons (ok_con (laws_heldGame.con k)) all_nil))))))) mixed Try.func10 (by kernel_rfl) all_nil fun x => by kernel_rfl
end laws_FnExactAutoMove
end Go.Proofs.Ytfmmdbnkeadieaa
