/- That the Go functions come to the answers of the plain ones. Printed by a program. -/
import Derived.Test.YtfmmdbnkeadieaaT
import Derived.Test.YtfmmdbnkeadieaaMFnExactRecordOut
import Derived.Test.YtfmmdbnkeadieaaFFnExactNothingLost
set_option linter.unusedVariables false
set_option maxRecDepth 100000
set_option maxHeartbeats 20000000
namespace Go.Proofs.Ytfmmdbnkeadieaa
open Go Go.Proofs.Ytfmmdbnkeadieaa.V Go.Proofs.Ytfmmdbnkeadieaa.M

namespace laws_szTable
def S : Sp := ⟨15, ⟨[33, 3], [3], [.bor, .bor], .own⟩, [.agg .lent kd33, .I], [.O]⟩
theorem con (k : Nat) : Con Try.prog S (f k) := con_fn (nt := 42) (live := []) (Λ := noL) tok (all_cons (ok_con (laws_szGame.con k)) (all_cons (ok_con (laws_szRules.con k)) (all_cons (ok_con (laws_szIntS.con k)) (all_cons (ok_con (laws_szIntSS.con k)) all_nil)))) mixed Try.func15 (by kernel_rfl) all_nil fun x => by kernel_rfl
end laws_szTable

namespace spec_NothingLost
def S : Sp := ⟨16, ⟨[40], [4], [.bor], .own⟩, [.agg .lent kd33], [.B]⟩
def live : List (Nat × List Nat) := [(5, [1, 3, 4]), (100005, [2, 3])]
def G {R : Type} (k : Nat) : Glob R := mkG tt [spec_IsHand.S.ent (spec_IsHand.f k)] 40
def h5 : Hd := ⟨[.l (.ptr 0 0), .l (.own 1), .I], [.box [.I, .I, .b, .b, .V, .V, .I, .I, .V, .b, .V, .I, .I, .b, .b, .V, .V, .I, .I, .W, .V, .V, .I, .I, .I, .V, .W], .V]⟩
def T5 {R : Type} (k : Nat) (K : X → St → Option R) : h5.Fn (Option R) := fun v0 _ _ _ _ _ _ _ _ _ _ _ _ _ _ _ _ _ _ _ v20 _ _ _ _ _ _ _ v28 => l5 k v20 (fun p0 => K (.exit 0) (stOf [2, 3] [.one (.l (.any)), .one (.l (.own 0))] [some (.row 0 0 (.ints .i64 p0))])) k v0 v28
def tab {R : Type} (k : Nat) : LTab R := fun id K vs hs => bif id == 5 then h5.tell vs hs (T5 k K) else none
theorem fit5 {R : Type} (k : Nat) : Fit (R := R) (G k) live (tab k) (bl Try.f16 0) := h5.fit (key := 5) (by kernel_rfl) (T5 k) (fun _ _ _ => rfl) fun K r v0 v1 v2 v3 v4 v5 v6 v7 v8 v9 v10 v11 v12 v13 v14 v15 v16 v17 v18 v19 v20 v21 v22 v23 v24 v25 v26 v27 v28 h => fit_mk h (fun a => h5.mk' a.1 v1 v2 v3 v4 v5 v6 v7 v8 v9 v10 v11 v12 v13 v14 v15 v16 v17 v18 v19 v20 v21 v22 v23 v24 v25 v26 v27 a.2) (fun v0 _ _ _ _ _ _ _ _ _ _ _ _ _ _ _ _ _ _ _ _ _ _ _ _ _ _ _ v28 => some (v0, v28)) (by kernel_rfl) (fun _ => by kernel_rfl) fun Lp a => by kernel_rfl
theorem con (k : Nat) : Con Try.prog S (f k) := con_fn (nt := 40) (live := live) (Λ := tab k) tok (all_cons (ok_con (spec_IsHand.con k)) all_nil) mixed Try.func16 (by kernel_rfl) (all_cons (fit5 k) all_nil) fun x => by kernel_rfl
end spec_NothingLost

namespace laws_toTable
def S : Sp := ⟨17, ⟨[33], [40], [.bor], .own⟩, [.agg .lent kd33], [.agg .own kd33]⟩
theorem con (k : Nat) : Con Try.prog S (f k) := con_fn (nt := 32) (live := []) (Λ := noL) tok (all_cons (ok_con (laws_toIntS.con k)) (all_cons (ok_con (laws_toGame.con k)) (all_cons (ok_con (laws_toRules.con k)) (all_cons (ok_con (laws_toIntSS.con k)) all_nil)))) mixed Try.func17 (by kernel_rfl) all_nil fun x => by kernel_rfl
end laws_toTable

namespace impl_NothingLost
def S : Sp := ⟨18, ⟨[40], [4], [.bor], .own⟩, [.agg .lent kd33], [.B]⟩
theorem con (k : Nat) : Con Try.prog S (f k) := con_fn (nt := 21) (live := []) (Λ := noL) tok (all_cons (ok_con (impl_isWhole.con k)) (all_cons (ok_con (impl_copyRows.con k)) all_nil)) mixed Try.func18 (by kernel_rfl) all_nil fun x => by kernel_rfl
end impl_NothingLost

namespace laws_eqTable
def S : Sp := ⟨19, ⟨[40, 40], [4], [.bor, .bor], .own⟩, [.agg .lent kd33, .agg .lent kd33], [.B]⟩
theorem con (k : Nat) : Con Try.prog S (f k) := con_fn (nt := 46) (live := []) (Λ := noL) tok (all_cons (ok_con (laws_eqIntS.con k)) (all_cons (ok_con (laws_eqGame.con k)) (all_cons (ok_con (laws_eqRules.con k)) (all_cons (ok_con (laws_eqIntSS.con k)) all_nil)))) mixed Try.func19 (by kernel_rfl) all_nil fun x => by kernel_rfl
end laws_eqTable

namespace laws_FnExactNothingLost
def S : Sp := ⟨4, ⟨[33], [4], [.bor], .own⟩, [.agg .lent kd33], [.B]⟩
theorem con (k : Nat) : Con Try.prog S (f k) := con_fn (nt := 27) (live := []) (Λ := noL) tok (all_cons (ok_con (laws_szTable.con k)) (all_cons (ok_con (spec_NothingLost.con k)) (all_cons (ok_con (laws_toTable.con k)) (all_cons (ok_con (impl_NothingLost.con k)) (all_cons (ok_con (laws_eqTable.con k)) all_nil))))) mixed Try.func4 (by kernel_rfl) all_nil fun x => by kernel_rfl
end laws_FnExactNothingLost
end Go.Proofs.Ytfmmdbnkeadieaa
