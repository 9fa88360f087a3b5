/- That the Go functions come to the answers of the plain ones. Printed by a program. -/
import Derived.Test.YtmdfedjdnjaaiaaGreatT
import Derived.Test.YtmdfedjdnjaaiaaGreatMFnExactMatchRound
import Derived.Test.YtmdfedjdnjaaiaaGreatMFnExactGameAt
import Derived.Test.YtmdfedjdnjaaiaaGreatFFnExactFaultOf
set_option linter.unusedVariables false
set_option maxRecDepth 100000
set_option maxHeartbeats 20000000
namespace Go.Proofs.YtmdfedjdnjaaiaaGreat
open Go Go.Proofs.YtmdfedjdnjaaiaaGreat.V Go.Proofs.YtmdfedjdnjaaiaaGreat.M

namespace spec_NothingLost
def S : Sp := ⟨130, ⟨[74], [4], [.bor], .own⟩, [.agg .lent kd70], [.B]⟩
def live : List (Nat × List Nat) := [(5, [1, 3, 4]), (100005, [2, 3])]
def G {R : Type} (k : Nat) : Glob R := mkG tt [spec_IsHand.S.ent (spec_IsHand.f k)] 40
def h5 : Hd := ⟨[.l (.ptr 0 0), .l (.own 1), .I], [.box [.I, .I, .b, .b, .V, .V, .I, .I, .V, .b, .V, .I, .I, .b, .b, .V, .V, .I, .I, .W, .V, .V, .I, .I, .I, .V, .W], .V]⟩
def T5 {R : Type} (k : Nat) (K : X → St → Option R) : h5.Fn (Option R) := fun v0 _ _ _ _ _ _ _ _ _ _ _ _ _ _ _ _ _ _ _ v20 _ _ _ _ _ _ _ v28 => l5 k v20 (fun p0 => K (.exit 0) (stOf [2, 3] [.one (.l (.any)), .one (.l (.own 0))] [some (.row 0 0 (.ints .i64 p0))])) k v0 v28
def tab {R : Type} (k : Nat) : LTab R := fun id K vs hs => bif id == 5 then h5.tell vs hs (T5 k K) else none
theorem fit5 {R : Type} (k : Nat) : Fit (R := R) (G k) live (tab k) (bl Tryz.f130 0) := h5.fit (key := 5) (by kernel_rfl) (T5 k) (fun _ _ _ => rfl) fun K r v0 v1 v2 v3 v4 v5 v6 v7 v8 v9 v10 v11 v12 v13 v14 v15 v16 v17 v18 v19 v20 v21 v22 v23 v24 v25 v26 v27 v28 h => fit_mk h (fun a => h5.mk' a.1 v1 v2 v3 v4 v5 v6 v7 v8 v9 v10 v11 v12 v13 v14 v15 v16 v17 v18 v19 v20 v21 v22 v23 v24 v25 v26 v27 a.2) (fun v0 _ _ _ _ _ _ _ _ _ _ _ _ _ _ _ _ _ _ _ _ _ _ _ _ _ _ _ v28 => some (v0, v28)) rfl (fun _ => rfl) fun Lp a => by kernel_rfl
theorem con (k : Nat) : Con Tryz.prog S (f k) := con_fn (nt := 40) (live := live) (Λ := tab k) tok (all_cons (ok_con (spec_IsHand.con k)) all_nil) mixed Tryz.func130 (by kernel_rfl) (all_cons (fit5 k) all_nil) fun x => by kernel_rfl
end spec_NothingLost

namespace spec_IsRecorded
def S : Sp := ⟨131, ⟨[74], [4], [.bor], .own⟩, [.agg .lent kd70], [.B]⟩
theorem con (k : Nat) : Con Tryz.prog S (f k) := con_fn (nt := 10) (live := []) (Λ := noL) tok all_nil mixed Tryz.func131 (by kernel_rfl) all_nil fun x => by kernel_rfl
end spec_IsRecorded

namespace spec_IsZeroSum
def S : Sp := ⟨132, ⟨[74], [4], [.bor], .own⟩, [.agg .lent kd70], [.B]⟩
theorem con (k : Nat) : Con Tryz.prog S (f k) := con_fn (nt := 9) (live := []) (Λ := noL) tok (all_cons (ok_con (spec_IsSheet.con k)) all_nil) mixed Tryz.func132 (by kernel_rfl) all_nil fun x => by kernel_rfl
end spec_IsZeroSum

namespace spec_FaultOf
def S : Sp := ⟨49, ⟨[74], [9], [.bor], .own⟩, [.agg .lent kd70], [.l .own .str]⟩
theorem con (k : Nat) : Con Tryz.prog S (f k) := con_fn (nt := 19) (live := []) (Λ := noL) tok (all_cons (ok_con (spec_NothingLost.con k)) (all_cons (ok_con (spec_IsRecorded.con k)) (all_cons (ok_con (spec_IsZeroSum.con k)) (all_cons (ok_con (spec_IsTable.con k)) all_nil)))) mixed Tryz.func49 (by kernel_rfl) all_nil fun x => by kernel_rfl
end spec_FaultOf

namespace impl_NothingLost
def S : Sp := ⟨136, ⟨[74], [4], [.bor], .own⟩, [.agg .lent kd70], [.B]⟩
theorem con (k : Nat) : Con Tryz.prog S (f k) := con_fn (nt := 21) (live := []) (Λ := noL) tok (all_cons (ok_con (impl_isWhole.con k)) (all_cons (ok_con (impl_copyRows.con k)) all_nil)) mixed Tryz.func136 (by kernel_rfl) all_nil fun x => by kernel_rfl
end impl_NothingLost

namespace impl_IsRecorded
def S : Sp := ⟨137, ⟨[74], [4], [.bor], .own⟩, [.agg .lent kd70], [.B]⟩
theorem con (k : Nat) : Con Tryz.prog S (f k) := con_fn (nt := 10) (live := []) (Λ := noL) tok all_nil mixed Tryz.func137 (by kernel_rfl) all_nil fun x => by kernel_rfl
end impl_IsRecorded

namespace impl_IsZeroSum
def S : Sp := ⟨138, ⟨[74], [4], [.bor], .own⟩, [.agg .lent kd70], [.B]⟩
theorem con (k : Nat) : Con Tryz.prog S (f k) := con_fn (nt := 9) (live := []) (Λ := noL) tok (all_cons (ok_con (impl_IsSheet.con k)) all_nil) mixed Tryz.func138 (by kernel_rfl) all_nil fun x => by kernel_rfl
end impl_IsZeroSum

namespace impl_FaultOf
def S : Sp := ⟨51, ⟨[74], [9], [.bor], .own⟩, [.agg .lent kd70], [.l .own .str]⟩
theorem con (k : Nat) : Con Tryz.prog S (f k) := con_fn (nt := 19) (live := []) (Λ := noL) tok (all_cons (ok_con (impl_NothingLost.con k)) (all_cons (ok_con (impl_IsRecorded.con k)) (all_cons (ok_con (impl_IsZeroSum.con k)) (all_cons (ok_con (impl_IsTable.con k)) all_nil)))) mixed Tryz.func51 (by kernel_rfl) all_nil fun x => by kernel_rfl
end impl_FaultOf

namespace laws_FnExactFaultOf
def S : Sp := ⟨6, ⟨[70], [4], [.bor], .own⟩, [.agg .lent kd70], [.B]⟩
theorem con (k : Nat) : Con Tryz.prog S (f k) := con_fn (nt := 27) (live := []) (Λ := noL) tok (all_cons (ok_con (laws_szTable.con k)) (all_cons (ok_con (spec_FaultOf.con k)) (all_cons (ok_con (laws_toTable.con k)) (all_cons (ok_con (impl_FaultOf.con k)) (all_cons (ok_con (laws_eqTable.con k)) all_nil))))) mixed Tryz.func6 (by kernel_rfl) all_nil fun x => by kernel_rfl
end laws_FnExactFaultOf
end Go.Proofs.YtmdfedjdnjaaiaaGreat
