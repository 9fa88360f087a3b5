/- That the Go functions come to the answers of the plain ones. Printed by a program. -/
import Derived.Test.YtmdfedjdnjaaiaaGreatT
import Derived.Test.YtmdfedjdnjaaiaaGreatMFnExactCouldHave
import Derived.Test.YtmdfedjdnjaaiaaGreatMFnExactGameAt
import Derived.Test.YtmdfedjdnjaaiaaGreatMFnExactMatchRound
import Derived.Test.YtmdfedjdnjaaiaaGreatFFnExactBlunders
set_option linter.unusedVariables false
set_option maxRecDepth 100000
set_option maxHeartbeats 20000000
namespace Go.Proofs.YtmdfedjdnjaaiaaGreat
open Go Go.Proofs.YtmdfedjdnjaaiaaGreat.V Go.Proofs.YtmdfedjdnjaaiaaGreat.M

namespace spec_Blunders
def S : Sp := ⟨69, ⟨[74], [24], [.bor], .own⟩, [.agg .lent kd70], [.l .own (.ints .i64)]⟩
def live : List (Nat × List Nat) := [(3, [1, 3, 4]), (100003, [2, 3])]
def G {R : Type} (k : Nat) : Glob R := mkG tt [spec_CouldHave.S.ent (spec_CouldHave.f k), spec_IsTable.S.ent (spec_IsTable.f k)] 39
def h3 : Hd := ⟨[.l (.ptr 0 0), .l (.own 1), .I], [.box [.I, .I, .b, .b, .V, .V, .I, .I, .V, .b, .V, .I, .I, .b, .b, .V, .V, .I, .I, .W, .V, .V, .I, .I, .I, .V, .W], .V]⟩
def T3 {R : Type} (k : Nat) (K : X → St → Option R) : h3.Fn (Option R) := fun v0 v1 v2 v3 v4 v5 v6 v7 v8 v9 v10 v11 v12 v13 v14 v15 v16 v17 v18 v19 v20 v21 v22 v23 v24 v25 v26 v27 v28 => l3 k v1 v2 v3 v4 v5 v6 v7 v8 v9 v10 v11 v12 v13 v14 v15 v16 v17 v18 v19 v20 v21 v22 v23 v24 v25 v26 v27 (fun p0 => K (.exit 0) (stOf [2, 3] [.one (.l (.any)), .one (.l (.own 0))] [some (.row 0 0 (.ints .i64 p0))])) k v0 v28
def tab {R : Type} (k : Nat) : LTab R := fun id K vs hs => bif id == 3 then h3.tell vs hs (T3 k K) else none
theorem fit3 {R : Type} (k : Nat) : Fit (R := R) (G k) live (tab k) (bl Tryz.f69 0) := h3.fit (key := 3) (by kernel_rfl) (T3 k) (fun _ _ _ => rfl) fun K r v0 v1 v2 v3 v4 v5 v6 v7 v8 v9 v10 v11 v12 v13 v14 v15 v16 v17 v18 v19 v20 v21 v22 v23 v24 v25 v26 v27 v28 h => fit_mk h (fun a => h3.mk' a.1 v1 v2 v3 v4 v5 v6 v7 v8 v9 v10 v11 v12 v13 v14 v15 v16 v17 v18 v19 v20 v21 v22 v23 v24 v25 v26 v27 a.2) (fun v0 _ _ _ _ _ _ _ _ _ _ _ _ _ _ _ _ _ _ _ _ _ _ _ _ _ _ _ v28 => some (v0, v28)) rfl (fun _ => rfl) fun Lp a => by kernel_rfl
theorem con (k : Nat) : Con Tryz.prog S (f k) := con_fn (nt := 39) (live := live) (Λ := tab k) tok (all_cons (ok_con (spec_CouldHave.con k)) (all_cons (ok_con (spec_IsTable.con k)) all_nil)) mixed Tryz.func69 (by kernel_rfl) (all_cons (fit3 k) all_nil) fun x => by kernel_rfl
end spec_Blunders

namespace impl_Blunders
def S : Sp := ⟨70, ⟨[74], [24], [.bor], .own⟩, [.agg .lent kd70], [.l .own (.ints .i64)]⟩
def live : List (Nat × List Nat) := [(5, [1, 3, 16, 17, 18]), (100005, [2, 3])]
def G {R : Type} (k : Nat) : Glob R := mkG tt [impl_CouldHave.S.ent (impl_CouldHave.f k), impl_IsTable.S.ent (impl_IsTable.f k)] 38
def h5 : Hd := ⟨[.l (.ptr 0 0), .l (.own 1), .V, .I, .I], [.box [.I, .I, .b, .b, .V, .V, .I, .I, .V, .b, .V, .I, .I, .b, .b, .V, .V, .I, .I, .W, .V, .V, .I, .I, .I, .V, .W], .V]⟩
def T5 {R : Type} (k : Nat) (K : X → St → Option R) : h5.Fn (Option R) := fun v0 v1 v2 v3 v4 v5 v6 v7 v8 v9 v10 v11 v12 v13 v14 v15 v16 v17 v18 v19 v20 v21 v22 v23 v24 v25 v26 v27 v28 v29 v30 => l5 k v0 v1 v3 v4 v5 v6 v7 v8 v9 v10 v11 v12 v13 v14 v15 v16 v17 v18 v19 v20 v21 v22 v23 v24 v25 v26 v27 v28 v29 (fun p0 => K (.exit 0) (stOf [2, 3] [.one (.l (.any)), .one (.l (.own 0))] [some (.row 0 0 (.ints .i64 p0))])) k v2 v30
def tab {R : Type} (k : Nat) : LTab R := fun id K vs hs => bif id == 5 then h5.tell vs hs (T5 k K) else none
theorem fit5 {R : Type} (k : Nat) : Fit (R := R) (G k) live (tab k) (bl Tryz.f70 0) := h5.fit (key := 5) (by kernel_rfl) (T5 k) (fun _ _ _ => rfl) fun K r v0 v1 v2 v3 v4 v5 v6 v7 v8 v9 v10 v11 v12 v13 v14 v15 v16 v17 v18 v19 v20 v21 v22 v23 v24 v25 v26 v27 v28 v29 v30 h => fit_mk h (fun a => h5.mk' v0 v1 a.1 v3 v4 v5 v6 v7 v8 v9 v10 v11 v12 v13 v14 v15 v16 v17 v18 v19 v20 v21 v22 v23 v24 v25 v26 v27 v28 v29 a.2) (fun _ _ v2 _ _ _ _ _ _ _ _ _ _ _ _ _ _ _ _ _ _ _ _ _ _ _ _ _ _ _ v30 => some (v2, v30)) rfl (fun _ => rfl) fun Lp a => by kernel_rfl
theorem con (k : Nat) : Con Tryz.prog S (f k) := con_fn (nt := 38) (live := live) (Λ := tab k) tok (all_cons (ok_con (impl_CouldHave.con k)) (all_cons (ok_con (impl_IsTable.con k)) all_nil)) mixed Tryz.func70 (by kernel_rfl) (all_cons (fit5 k) all_nil) fun x => by kernel_rfl
end impl_Blunders

namespace laws_FnExactBlunders
def S : Sp := ⟨10, ⟨[70], [4], [.bor], .own⟩, [.agg .lent kd70], [.B]⟩
theorem con (k : Nat) : Con Tryz.prog S (f k) := con_fn (nt := 69) (live := []) (Λ := noL) tok (all_cons (ok_con (laws_eqIntS.con k)) (all_cons (ok_con (laws_markIntS.con k)) (all_cons (ok_con (laws_heldIntS.con k)) (all_cons (ok_con (laws_szTable.con k)) (all_cons (ok_con (laws_toTable.con k)) (all_cons (ok_con (laws_eqTable.con k)) (all_cons (ok_con (laws_markTable.con k)) (all_cons (ok_con (spec_Blunders.con k)) (all_cons (ok_con (impl_Blunders.con k)) all_nil))))))))) mixed Tryz.func10 (by kernel_rfl) all_nil fun x => by kernel_rfl
end laws_FnExactBlunders
end Go.Proofs.YtmdfedjdnjaaiaaGreat
