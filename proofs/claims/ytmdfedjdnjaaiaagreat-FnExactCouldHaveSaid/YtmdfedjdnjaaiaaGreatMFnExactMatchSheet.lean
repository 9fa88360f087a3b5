/- That the Go functions come to the answers of the plain ones. Printed by a program. -/
import Derived.Test.YtmdfedjdnjaaiaaGreatT
import Derived.Test.YtmdfedjdnjaaiaaGreatMFnExactMatchRound
import Derived.Test.YtmdfedjdnjaaiaaGreatFFnExactMatchSheet
set_option linter.unusedVariables false
set_option maxRecDepth 100000
set_option maxHeartbeats 20000000
namespace Go.Proofs.YtmdfedjdnjaaiaaGreat
open Go Go.Proofs.YtmdfedjdnjaaiaaGreat.V Go.Proofs.YtmdfedjdnjaaiaaGreat.M

namespace spec_MatchSheet
def S : Sp := ⟨64, ⟨[26, 3, 3, 24], [27], [.bor, .bor, .bor, .bor], .own⟩, [.agg .lent kd26, .I, .I, .V], [.l .own .rows]⟩
def live : List (Nat × List Nat) := [(3, [1, 2, 3, 4, 9, 10]), (100003, [8, 9])]
def G {R : Type} (k : Nat) : Glob R := mkG tt [spec_MatchRound.S.ent (spec_MatchRound.f k)] 36
def h3 : Hd := ⟨[.I, .I, .V, .l (.ptr 0 0), .l (.own 1), .I], [.box [.I, .I, .b, .b, .V, .V, .I, .I], .W]⟩
def T3 {R : Type} (k : Nat) (K : X → St → Option R) : h3.Fn (Option R) := fun v0 v1 v2 v3 v4 v5 v6 v7 v8 v9 v10 v11 v12 => l3 k v0 v1 v2 v4 v5 v6 v7 v8 v9 v10 v11 (fun p0 p1 => K .ret (stOf [8, 9] [.one (.l (.own 0)), .one (.l (.own 1))] [some (.row 0 0 (.rows true p0)), some (.row 0 0 (.rows true p1))])) (fun p0 => K (.exit 0) (stOf [8, 9] [.one (.l (.any)), .one (.l (.own 0))] [some (.row 0 0 (.rows true p0))])) k v3 v12
def tab {R : Type} (k : Nat) : LTab R := fun id K vs hs => bif id == 3 then h3.tell vs hs (T3 k K) else none
theorem fit3 {R : Type} (k : Nat) : Fit (R := R) (G k) live (tab k) (bl Tryz.f64 0) := h3.fit (key := 3) (by kernel_rfl) (T3 k) (fun _ _ _ => rfl) fun K r v0 v1 v2 v3 v4 v5 v6 v7 v8 v9 v10 v11 v12 h => fit_mk h (fun a => h3.mk' v0 v1 v2 a.1 v4 v5 v6 v7 v8 v9 v10 v11 a.2) (fun _ _ _ v3 _ _ _ _ _ _ _ _ v12 => some (v3, v12)) rfl (fun _ => rfl) fun Lp a => by kernel_rfl
theorem con (k : Nat) : Con Tryz.prog S (f k) := con_fn (nt := 36) (live := live) (Λ := tab k) tok (all_cons (ok_con (spec_MatchRound.con k)) all_nil) mixed Tryz.func64 (by kernel_rfl) (all_cons (fit3 k) all_nil) fun x => by kernel_rfl
end spec_MatchSheet

namespace impl_MatchSheet
def S : Sp := ⟨65, ⟨[26, 3, 3, 24], [27], [.bor, .bor, .bor, .bor], .own⟩, [.agg .lent kd26, .I, .I, .V], [.l .own .rows]⟩
def live : List (Nat × List Nat) := [(5, [1, 3, 4, 9, 16, 17]), (100005, [8, 9])]
def G {R : Type} (k : Nat) : Glob R := mkG tt [impl_MatchRound.S.ent (impl_MatchRound.f k), impl_InRange.S.ent (impl_InRange.f k)] 34
def h5 : Hd := ⟨[.I, .V, .l (.ptr 0 0), .l (.own 1), .I, .I], [.box [.I, .I, .b, .b, .V, .V, .I, .I], .W]⟩
def T5 {R : Type} (k : Nat) (K : X → St → Option R) : h5.Fn (Option R) := fun v0 v1 v2 v3 v4 v5 v6 v7 v8 v9 v10 v11 v12 => l5 k v0 v1 v2 v4 v5 v6 v7 v8 v9 v10 v11 (fun p0 => K .ret (stOf [8, 9] [.one (.l (.nil)), .one (.l (.own 0))] [some (.row 0 0 (.rows true p0))])) (fun p0 => K (.exit 0) (stOf [8, 9] [.one (.l (.any)), .one (.l (.own 0))] [some (.row 0 0 (.rows true p0))])) k v3 v12
def tab {R : Type} (k : Nat) : LTab R := fun id K vs hs => bif id == 5 then h5.tell vs hs (T5 k K) else none
theorem fit5 {R : Type} (k : Nat) : Fit (R := R) (G k) live (tab k) (bl Tryz.f65 0) := h5.fit (key := 5) (by kernel_rfl) (T5 k) (fun _ _ _ => rfl) fun K r v0 v1 v2 v3 v4 v5 v6 v7 v8 v9 v10 v11 v12 h => fit_mk h (fun a => h5.mk' v0 v1 v2 a.1 v4 v5 v6 v7 v8 v9 v10 v11 a.2) (fun _ _ _ v3 _ _ _ _ _ _ _ _ v12 => some (v3, v12)) rfl (fun _ => rfl) fun Lp a => by kernel_rfl
theorem con (k : Nat) : Con Tryz.prog S (f k) := con_fn (nt := 34) (live := live) (Λ := tab k) tok (all_cons (ok_con (impl_MatchRound.con k)) (all_cons (ok_con (impl_InRange.con k)) all_nil)) mixed Tryz.func65 (by kernel_rfl) (all_cons (fit5 k) all_nil) fun x => by kernel_rfl
end impl_MatchSheet

namespace laws_eqIntSS
def S : Sp := ⟨66, ⟨[27, 27], [4], [.bor, .bor], .own⟩, [.l .lent .rows, .l .lent .rows], [.B]⟩
def live : List (Nat × List Nat) := [(4, [0, 1, 5]), (100004, [4])]
def G {R : Type} (k : Nat) : Glob R := mkG tt [laws_eqIntS.S.ent (laws_eqIntS.f k)] 27
def h4 : Hd := ⟨[.W, .W, .I], []⟩
def T4 {R : Type} (k : Nat) (K : X → St → Option R) : h4.Fn (Option R) := fun v0 v1 v2 => l4 k v0 v1 (K .ret (stOf [4] [.one (.l (.b false))] [])) (K (.exit 0) (stOf [4] [.one (.l (.any))] [])) k v2
def tab {R : Type} (k : Nat) : LTab R := fun id K vs hs => bif id == 4 then h4.tell vs hs (T4 k K) else none
theorem fit4 {R : Type} (k : Nat) : Fit (R := R) (G k) live (tab k) (bl Tryz.f66 0) := h4.fit (key := 4) (by kernel_rfl) (T4 k) (fun _ _ _ => rfl) fun K r v0 v1 v2 h => fit_mk h (fun a => h4.mk' v0 v1 a) (fun _ _ v2 => some v2) rfl (fun _ => rfl) fun Lp a => by kernel_rfl
theorem con (k : Nat) : Con Tryz.prog S (f k) := con_fn (nt := 27) (live := live) (Λ := tab k) tok (all_cons (ok_con (laws_eqIntS.con k)) all_nil) mixed Tryz.func66 (by kernel_rfl) (all_cons (fit4 k) all_nil) fun x => by kernel_rfl
end laws_eqIntSS

namespace laws_markIntSS
def S : Sp := ⟨67, ⟨[27, 3], [3], [.io, .bor], .own⟩, [.l .own .rows, .I], [.O, .l .own .rows]⟩
def live : List (Nat × List Nat) := [(2, [0, 1, 5, 19]), (100002, [1, 4, 19])]
def G {R : Type} (k : Nat) : Glob R := mkG tt [laws_markIntS.S.ent (laws_markIntS.f k)] 19
def h2 : Hd := ⟨[.l (.own 0), .I, .I, .l (.own 0)], [.W]⟩
def T2 {R : Type} (k : Nat) (K : X → St → Option R) : h2.Fn (Option R) := fun v0 v1 v2 => l2 k (fun p0 p1 => K (.exit 0) (stOf [1, 4, 19] [.one (.l (.i .i64 p0)), .one (.l (.any)), .one (.l (.own 0))] [some (.row 0 0 (.rows true p1))])) k v0 v1 v2
def tab {R : Type} (k : Nat) : LTab R := fun id K vs hs => bif id == 2 then h2.tell vs hs (T2 k K) else none
theorem fit2 {R : Type} (k : Nat) : Fit (R := R) (G k) live (tab k) (bl Tryz.f67 0) := h2.fit (key := 2) (by kernel_rfl) (T2 k) (fun _ _ _ => rfl) fun K r v0 v1 v2 h => fit_mk h (fun a => h2.mk' a.1 a.2.1 (t2 a)) (fun v0 v1 v2 => some (v0, v1, v2)) rfl (fun _ => rfl) fun Lp a => by kernel_rfl
theorem con (k : Nat) : Con Tryz.prog S (f k) := con_fn (nt := 19) (live := live) (Λ := tab k) tok (all_cons (ok_con (laws_markIntS.con k)) all_nil) mixed Tryz.func67 (by kernel_rfl) (all_cons (fit2 k) all_nil) fun x => by kernel_rfl
end laws_markIntSS

namespace laws_heldIntSS
def S : Sp := ⟨68, ⟨[27, 3], [3], [.bor, .bor], .own⟩, [.l .lent .rows, .I], [.O]⟩
def live : List (Nat × List Nat) := [(2, [0, 1, 5]), (100002, [1, 4])]
def G {R : Type} (k : Nat) : Glob R := mkG tt [laws_heldIntS.S.ent (laws_heldIntS.f k)] 21
def h2 : Hd := ⟨[.W, .I, .I], []⟩
def T2 {R : Type} (k : Nat) (K : X → St → Option R) : h2.Fn (Option R) := fun v0 v1 v2 => l2 k v0 (fun p0 => K .ret (stOf [1, 4] [.one (.l (.i .i64 p0)), .one (.l (.i .i64 (-1)))] [])) (fun p0 => K (.exit 0) (stOf [1, 4] [.one (.l (.i .i64 p0)), .one (.l (.any))] [])) k v1 v2
def tab {R : Type} (k : Nat) : LTab R := fun id K vs hs => bif id == 2 then h2.tell vs hs (T2 k K) else none
theorem fit2 {R : Type} (k : Nat) : Fit (R := R) (G k) live (tab k) (bl Tryz.f68 0) := h2.fit (key := 2) (by kernel_rfl) (T2 k) (fun _ _ _ => rfl) fun K r v0 v1 v2 h => fit_mk h (fun a => h2.mk' v0 a.1 a.2) (fun _ v1 v2 => some (v1, v2)) rfl (fun _ => rfl) fun Lp a => by kernel_rfl
theorem con (k : Nat) : Con Tryz.prog S (f k) := con_fn (nt := 21) (live := live) (Λ := tab k) tok (all_cons (ok_con (laws_heldIntS.con k)) all_nil) mixed Tryz.func68 (by kernel_rfl) (all_cons (fit2 k) all_nil) fun x => by kernel_rfl
end laws_heldIntSS

namespace laws_FnExactMatchSheet
def S : Sp := ⟨9, ⟨[57, 3, 3, 24], [4], [.bor, .bor, .bor, .bor], .own⟩, [.agg .lent kd26, .I, .I, .V], [.B]⟩
theorem con (k : Nat) : Con Tryz.prog S (f k) := con_fn (nt := 100) (live := []) (Λ := noL) tok (all_cons (ok_con (laws_szRules.con k)) (all_cons (ok_con (laws_toRules.con k)) (all_cons (ok_con (laws_toIntS.con k)) (all_cons (ok_con (laws_eqIntS.con k)) (all_cons (ok_con (laws_eqRules.con k)) (all_cons (ok_con (laws_markRules.con k)) (all_cons (ok_con (laws_markIntS.con k)) (all_cons (ok_con (spec_MatchSheet.con k)) (all_cons (ok_con (impl_MatchSheet.con k)) (all_cons (ok_con (laws_eqIntSS.con k)) (all_cons (ok_con (laws_markIntSS.con k)) (all_cons (ok_con (laws_heldIntSS.con k)) all_nil)))))))))))) mixed Tryz.func9 (by kernel_rfl) all_nil fun x => by kernel_rfl
end laws_FnExactMatchSheet
end Go.Proofs.YtmdfedjdnjaaiaaGreat
