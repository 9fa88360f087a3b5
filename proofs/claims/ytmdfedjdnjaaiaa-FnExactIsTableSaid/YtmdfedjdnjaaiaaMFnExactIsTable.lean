/- That the Go functions come to the answers of the plain ones. Printed by a program. -/
import Derived.Test.YtmdfedjdnjaaiaaT
import Derived.Test.YtmdfedjdnjaaiaaMFnExactPlayOut
import Derived.Test.YtmdfedjdnjaaiaaFFnExactIsTable
set_option linter.unusedVariables false
set_option maxRecDepth 100000
set_option maxHeartbeats 20000000
namespace Go.Proofs.Ytmdfedjdnjaaiaa
open Go Go.Proofs.Ytmdfedjdnjaaiaa.V Go.Proofs.Ytmdfedjdnjaaiaa.M

namespace laws_szTable
def S : Sp := ⟨15, ⟨[41, 3], [3], [.bor, .bor], .own⟩, [.agg .lent kd41, .I], [.O]⟩
theorem con (k : Nat) : Con Try.prog S (f k) := con_fn (nt := 42) (live := []) (Λ := noL) tok (all_cons (ok_con (laws_szGame.con k)) (all_cons (ok_con (laws_szRules.con k)) (all_cons (ok_con (laws_szIntSS.con k)) (all_cons (ok_con (laws_szIntS.con k)) all_nil)))) mixed Try.func15 (by kernel_rfl) all_nil fun x => by kernel_rfl
end laws_szTable

namespace spec_IsRound
def S : Sp := ⟨68, ⟨[3, 22], [4], [.bor, .bor], .own⟩, [.I, .V], [.B]⟩
def live : List (Nat × List Nat) := [(3, [0, 1, 5, 6]), (100003, [0, 1, 4, 5])]
def G {R : Type} (k : Nat) : Glob R := mkG tt [spec_l1In.S.ent (spec_l1In.f k)] 37
def h3 : Hd := ⟨[.I, .V, .I, .I], []⟩
def T3 {R : Type} (k : Nat) (K : X → St → Option R) : h3.Fn (Option R) := fun v0 v1 v2 v3 => l3 k v1 (fun p0 => K .ret (stOf [0, 1, 4, 5] [.one (.l (.i .i64 v0)), .one (.l (.val false (.ints .i64 v1))), .one (.l (.b false)), .one (.l (.i .i64 p0))] [])) (fun p0 => K (.exit 0) (stOf [0, 1, 4, 5] [.one (.l (.i .i64 v0)), .one (.l (.val false (.ints .i64 v1))), .one (.l (.any)), .one (.l (.i .i64 p0))] [])) k v2 v3
def tab {R : Type} (k : Nat) : LTab R := fun id K vs hs => bif id == 3 then h3.tell vs hs (T3 k K) else none
theorem fit3 {R : Type} (k : Nat) : Fit (R := R) (G k) live (tab k) (bl Try.f68 0) := h3.fit (key := 3) (by kernel_rfl) (T3 k) (fun _ _ _ => rfl) fun K r v0 v1 v2 v3 h => fit_mk h (fun a => h3.mk' v0 v1 a.1 a.2) (fun _ _ v2 v3 => some (v2, v3)) rfl (fun _ => rfl) fun Lp a => by kernel_rfl
theorem con (k : Nat) : Con Try.prog S (f k) := con_fn (nt := 37) (live := live) (Λ := tab k) tok (all_cons (ok_con (spec_l1In.con k)) all_nil) mixed Try.func68 (by kernel_rfl) (all_cons (fit3 k) all_nil) fun x => by kernel_rfl
end spec_IsRound

namespace spec_IsSheet
def S : Sp := ⟨42, ⟨[3, 25], [4], [.bor, .bor], .own⟩, [.I, .l .lent .rows], [.B]⟩
def live : List (Nat × List Nat) := [(2, [0, 1, 5]), (100002, [0, 1, 4])]
def G {R : Type} (k : Nat) : Glob R := mkG tt [spec_l1In.S.ent (spec_l1In.f k), spec_IsRound.S.ent (spec_IsRound.f k)] 26
def h2 : Hd := ⟨[.I, .W, .I], []⟩
def T2 {R : Type} (k : Nat) (K : X → St → Option R) : h2.Fn (Option R) := fun v0 v1 v2 => l2 k v0 v1 (K .ret (stOf [0, 1, 4] [.one (.l (.i .i64 v0)), .one (.l (.val false (.rows false v1))), .one (.l (.b false))] [])) (K (.exit 0) (stOf [0, 1, 4] [.one (.l (.i .i64 v0)), .one (.l (.val false (.rows false v1))), .one (.l (.any))] [])) k v2
def tab {R : Type} (k : Nat) : LTab R := fun id K vs hs => bif id == 2 then h2.tell vs hs (T2 k K) else none
theorem fit2 {R : Type} (k : Nat) : Fit (R := R) (G k) live (tab k) (bl Try.f42 0) := h2.fit (key := 2) (by kernel_rfl) (T2 k) (fun _ _ _ => rfl) fun K r v0 v1 v2 h => fit_mk h (fun a => h2.mk' v0 v1 a) (fun _ _ v2 => some v2) rfl (fun _ => rfl) fun Lp a => by kernel_rfl
theorem con (k : Nat) : Con Try.prog S (f k) := con_fn (nt := 26) (live := live) (Λ := tab k) tok (all_cons (ok_con (spec_l1In.con k)) (all_cons (ok_con (spec_IsRound.con k)) all_nil)) mixed Try.func42 (by kernel_rfl) (all_cons (fit2 k) all_nil) fun x => by kernel_rfl
end spec_IsSheet

namespace spec_EqualInts
def S : Sp := ⟨69, ⟨[22, 22], [4], [.bor, .bor], .own⟩, [.V, .V], [.B]⟩
def live : List (Nat × List Nat) := [(4, [0, 1, 5]), (100004, [4])]
def G {R : Type} (k : Nat) : Glob R := mkG tt [] 26
def h4 : Hd := ⟨[.V, .V, .I], []⟩
def T4 {R : Type} (k : Nat) (K : X → St → Option R) : h4.Fn (Option R) := fun v0 v1 v2 => l4 k v0 v1 (K .ret (stOf [4] [.one (.l (.b false))] [])) (K (.exit 0) (stOf [4] [.one (.l (.any))] [])) k v2
def tab {R : Type} (k : Nat) : LTab R := fun id K vs hs => bif id == 4 then h4.tell vs hs (T4 k K) else none
theorem fit4 {R : Type} (k : Nat) : Fit (R := R) (G k) live (tab k) (bl Try.f69 0) := h4.fit (key := 4) (by kernel_rfl) (T4 k) (fun _ _ _ => rfl) fun K r v0 v1 v2 h => fit_mk h (fun a => h4.mk' v0 v1 a) (fun _ _ v2 => some v2) rfl (fun _ => rfl) fun Lp a => by kernel_rfl
theorem con (k : Nat) : Con Try.prog S (f k) := con_fn (nt := 26) (live := live) (Λ := tab k) tok all_nil mixed Try.func69 (by kernel_rfl) (all_cons (fit4 k) all_nil) fun x => by kernel_rfl
end spec_EqualInts

namespace spec_EqualRules
def S : Sp := ⟨70, ⟨[29, 29], [4], [.bor, .bor], .own⟩, [.agg .lent kd24, .agg .lent kd24], [.B]⟩
theorem con (k : Nat) : Con Try.prog S (f k) := con_fn (nt := 59) (live := []) (Λ := noL) tok (all_cons (ok_con (spec_EqualInts.con k)) all_nil) mixed Try.func70 (by kernel_rfl) all_nil fun x => by kernel_rfl
end spec_EqualRules

namespace spec_EqualGames
def S : Sp := ⟨43, ⟨[31, 31], [4], [.bor, .bor], .own⟩, [.agg .lent kd27, .agg .lent kd27], [.B]⟩
def live : List (Nat × List Nat) := [(4, [2, 3, 5]), (100004, [2, 3, 4])]
def G {R : Type} (k : Nat) : Glob R := mkG tt [spec_EqualInts.S.ent (spec_EqualInts.f k), spec_EqualRules.S.ent (spec_EqualRules.f k)] 72
def h4 : Hd := ⟨[.l (.ptr 0 0), .l (.ptr 1 0), .I], [.box [.I, .I, .b, .b, .V, .V, .I, .I, .W, .V, .V, .I, .I, .I], .box [.I, .I, .b, .b, .V, .V, .I, .I, .W, .V, .V, .I, .I, .I]]⟩
def T4 {R : Type} (k : Nat) (K : X → St → Option R) : h4.Fn (Option R) := fun v0 v1 v2 v3 v4 v5 v6 v7 v8 v9 v10 v11 v12 v13 v14 v15 v16 v17 v18 v19 v20 v21 v22 v23 v24 v25 v26 v27 v28 => l4 k v9 v23 (K .ret (stOf [2, 3, 4] [.one (.l (.bptr 0 0)), .one (.l (.bptr 1 0)), .one (.l (.b false))] [some (.box 0 [.i .i64 v1, .i .i64 v2, .b v3, .b v4, .val false (.ints .i64 v5), .val false (.ints .i64 v6), .i .i64 v7, .i .i64 v8, .val false (.rows false v9), .val false (.ints .i64 v10), .val false (.ints .i64 v11), .i .i64 v12, .i .i64 v13, .i .i64 v14]), some (.box 0 [.i .i64 v15, .i .i64 v16, .b v17, .b v18, .val false (.ints .i64 v19), .val false (.ints .i64 v20), .i .i64 v21, .i .i64 v22, .val false (.rows false v23), .val false (.ints .i64 v24), .val false (.ints .i64 v25), .i .i64 v26, .i .i64 v27, .i .i64 v28])])) (K (.exit 0) (stOf [2, 3, 4] [.one (.l (.bptr 0 0)), .one (.l (.bptr 1 0)), .one (.l (.any))] [some (.box 0 [.i .i64 v1, .i .i64 v2, .b v3, .b v4, .val false (.ints .i64 v5), .val false (.ints .i64 v6), .i .i64 v7, .i .i64 v8, .val false (.rows false v9), .val false (.ints .i64 v10), .val false (.ints .i64 v11), .i .i64 v12, .i .i64 v13, .i .i64 v14]), some (.box 0 [.i .i64 v15, .i .i64 v16, .b v17, .b v18, .val false (.ints .i64 v19), .val false (.ints .i64 v20), .i .i64 v21, .i .i64 v22, .val false (.rows false v23), .val false (.ints .i64 v24), .val false (.ints .i64 v25), .i .i64 v26, .i .i64 v27, .i .i64 v28])])) k v0
def tab {R : Type} (k : Nat) : LTab R := fun id K vs hs => bif id == 4 then h4.tell vs hs (T4 k K) else none
theorem fit4 {R : Type} (k : Nat) : Fit (R := R) (G k) live (tab k) (bl Try.f43 0) := h4.fit (key := 4) (by kernel_rfl) (T4 k) (fun _ _ _ => rfl) fun K r v0 v1 v2 v3 v4 v5 v6 v7 v8 v9 v10 v11 v12 v13 v14 v15 v16 v17 v18 v19 v20 v21 v22 v23 v24 v25 v26 v27 v28 h => fit_mk h (fun a => h4.mk' a v1 v2 v3 v4 v5 v6 v7 v8 v9 v10 v11 v12 v13 v14 v15 v16 v17 v18 v19 v20 v21 v22 v23 v24 v25 v26 v27 v28) (fun v0 _ _ _ _ _ _ _ _ _ _ _ _ _ _ _ _ _ _ _ _ _ _ _ _ _ _ _ _ => some v0) rfl (fun _ => rfl) fun Lp a => by kernel_rfl
theorem con (k : Nat) : Con Try.prog S (f k) := con_fn (nt := 72) (live := live) (Λ := tab k) tok (all_cons (ok_con (spec_EqualInts.con k)) (all_cons (ok_con (spec_EqualRules.con k)) all_nil)) mixed Try.func43 (by kernel_rfl) (all_cons (fit4 k) all_nil) fun x => by kernel_rfl
end spec_EqualGames

namespace spec_Dealt
def S : Sp := ⟨71, ⟨[22, 3, 3], [25, 22, 4], [.bor, .bor, .bor], .own⟩, [.V, .I, .I], [.l .own .rows, .l .own (.ints .i64), .B]⟩
def live : List (Nat × List Nat) := [(9, [0, 1, 2, 9, 10, 11, 12]), (100009, [0, 1, 2, 6, 7, 8, 9, 10, 11]), (5, [0, 1, 2, 9, 10]), (100005, [0, 1, 2, 6, 7, 8, 9])]
def G {R : Type} (k : Nat) : Glob R := mkG tt [spec_l1In.S.ent (spec_l1In.f k), spec_IsHand.S.ent (spec_IsHand.f k)] 73
def h9 : Hd := ⟨[.V, .I, .I, .l (.own 0), .I, .l (.own 1), .I], [.W, .V]⟩
def T9 {R : Type} (k : Nat) (K : X → St → Option R) : h9.Fn (Option R) := fun v0 v1 v2 v3 v4 v5 v6 => l9 k v0 v1 v2 v3 (fun p0 => K (.exit 2) (stOf [0, 1, 2, 6, 7, 8, 9, 10, 11] [.one (.l (.val false (.ints .i64 v0))), .one (.l (.i .i64 v1)), .one (.l (.i .i64 v2)), .one (.l (.any)), .one (.l (.any)), .one (.l (.any)), .one (.l (.own 0)), .one (.l (.i .i64 v3)), .one (.l (.own 1))] [some (.row 0 0 (.rows true v5)), some (.row 0 0 (.ints .i64 p0))])) k v4 v6
def h5 : Hd := ⟨[.V, .I, .I, .l (.own 0), .I], [.W]⟩
def T5 {R : Type} (k : Nat) (K : X → St → Option R) : h5.Fn (Option R) := fun v0 v1 v2 v3 v4 => l5 k v0 v1 v2 (fun p0 => K (.exit 0) (stOf [0, 1, 2, 6, 7, 8, 9] [.one (.l (.val false (.ints .i64 v0))), .one (.l (.i .i64 v1)), .one (.l (.i .i64 v2)), .one (.l (.any)), .one (.l (.any)), .one (.l (.any)), .one (.l (.own 0))] [some (.row 0 0 (.rows true p0))])) k v3 v4
def tab {R : Type} (k : Nat) : LTab R := fun id K vs hs => bif id == 9 then h9.tell vs hs (T9 k K) else bif id == 5 then h5.tell vs hs (T5 k K) else none
theorem fit5 {R : Type} (k : Nat) : Fit (R := R) (G k) live (tab k) (bl Try.f71 0) := h5.fit (key := 5) (by kernel_rfl) (T5 k) (fun _ _ _ => rfl) fun K r v0 v1 v2 v3 v4 h => fit_mk h (fun a => h5.mk' v0 v1 v2 a.1 a.2) (fun _ _ _ v3 v4 => some (v3, v4)) rfl (fun _ => rfl) fun Lp a => by kernel_rfl
theorem fit9 {R : Type} (k : Nat) : Fit (R := R) (G k) live (tab k) (bl Try.f71 1) := h9.fit (key := 9) (by kernel_rfl) (T9 k) (fun _ _ _ => rfl) fun K r v0 v1 v2 v3 v4 v5 v6 h => fit_mk h (fun a => h9.mk' v0 v1 v2 v3 a.1 v5 a.2) (fun _ _ _ _ v4 _ v6 => some (v4, v6)) rfl (fun _ => rfl) fun Lp a => by kernel_rfl
theorem con (k : Nat) : Con Try.prog S (f k) := con_fn (nt := 73) (live := live) (Λ := tab k) tok (all_cons (ok_con (spec_l1In.con k)) (all_cons (ok_con (spec_IsHand.con k)) all_nil)) mixed Try.func71 (by kernel_rfl) (all_cons (fit5 k) (all_cons (fit9 k) all_nil)) fun x => by kernel_rfl
end spec_Dealt

namespace spec_NewGame
def S : Sp := ⟨44, ⟨[29, 22], [31, 4], [.bor, .bor], .own⟩, [.agg .lent kd24, .V], [.agg .own kd27, .B]⟩
theorem con (k : Nat) : Con Try.prog S (f k) := con_fn (nt := 45) (live := []) (Λ := noL) tok (all_cons (ok_con (spec_IsRules.con k)) (all_cons (ok_con (spec_l22Copy.con k)) (all_cons (ok_con (spec_IsHand.con k)) (all_cons (ok_con (spec_Dealt.con k)) all_nil)))) mixed Try.func44 (by kernel_rfl) all_nil fun x => by kernel_rfl
end spec_NewGame

namespace spec_ReplayMove
def S : Sp := ⟨72, ⟨[31, 3], [31, 4], [.bor, .bor], .own⟩, [.agg .lent kd27, .I], [.agg .own kd27, .B]⟩
theorem con (k : Nat) : Con Try.prog S (f k) := con_fn (nt := 17) (live := []) (Λ := noL) tok (all_cons (ok_con (spec_TakeCards.con k)) (all_cons (ok_con (spec_PlayOn.con k)) all_nil)) mixed Try.func72 (by kernel_rfl) all_nil fun x => by kernel_rfl
end spec_ReplayMove

namespace spec_Replayed
def S : Sp := ⟨45, ⟨[31, 22], [31, 3], [.bor, .bor], .own⟩, [.agg .lent kd27, .V], [.agg .own kd27, .O]⟩
def live : List (Nat × List Nat) := [(3, [1, 4, 6, 7]), (100003, [1, 4, 5, 6])]
def G {R : Type} (k : Nat) : Glob R := mkG tt [spec_l24Copy.S.ent (spec_l24Copy.f k), spec_ReplayMove.S.ent (spec_ReplayMove.f k)] 35
def h3 : Hd := ⟨[.V, .l (.ptr 0 0), .l (.ptr 1 0), .I], [.box [.I, .I, .bc false, .bc false, .nil, .nil, .I, .I, .nil, .nil, .nil, .I, .I, .I], .box [.I, .I, .b, .b, .own 2, .own 3, .I, .I, .own 4, .own 5, .own 6, .I, .I, .I], .V, .V, .W, .V, .V]⟩
def T3 {R : Type} (k : Nat) (K : X → St → Option R) : h3.Fn (Option R) := fun v0 v1 v2 v3 v6 v7 v8 v9 v10 v11 v12 v13 v14 v15 v16 v17 v18 v19 v20 v21 v22 v23 v24 => l3 k v0 (fun p0 p1 p2 p3 p4 p5 p6 p7 p8 p9 p10 p11 p12 p13 p14 => K .ret (stOf [1, 4, 5, 6] [.one (.l (.val false (.ints .i64 v0))), .one (.l (.bptr 0 0)), .one (.l (.i .i64 p0)), .one (.l (.bptr 6 0))] [some (.box 0 [.i .i64 p1, .i .i64 p2, .b p3, .b p4, .own 1, .own 2, .i .i64 p5, .i .i64 p6, .own 3, .own 4, .own 5, .i .i64 p7, .i .i64 p8, .i .i64 p9]), some (.row 0 0 (.ints .i64 p10)), some (.row 0 0 (.ints .i64 p11)), some (.row 0 0 (.rows true p12)), some (.row 0 0 (.ints .i64 p13)), some (.row 0 0 (.ints .i64 p14)), some (.box 0 [.i .i64 p1, .i .i64 p2, .b p3, .b p4, .own 1, .own 2, .i .i64 p5, .i .i64 p6, .own 3, .own 4, .own 5, .i .i64 p7, .i .i64 p8, .i .i64 p9])])) (fun p0 p1 p2 p3 p4 p5 p6 p7 p8 p9 p10 p11 p12 p13 => K (.exit 0) (stOf [1, 4, 5, 6] [.one (.l (.val false (.ints .i64 v0))), .one (.l (.bptr 0 0)), .one (.l (.any)), .one (.l (.bptr 1 0))] [some (.box 0 [.i .i64 v2, .i .i64 v3, .b false, .b false, .nil, .nil, .i .i64 v6, .i .i64 v7, .nil, .nil, .nil, .i .i64 v8, .i .i64 v9, .i .i64 v10]), some (.box 0 [.i .i64 p0, .i .i64 p1, .b p2, .b p3, .own 2, .own 3, .i .i64 p4, .i .i64 p5, .own 4, .own 5, .own 6, .i .i64 p6, .i .i64 p7, .i .i64 p8]), some (.row 0 0 (.ints .i64 p9)), some (.row 0 0 (.ints .i64 p10)), some (.row 0 0 (.rows true p11)), some (.row 0 0 (.ints .i64 p12)), some (.row 0 0 (.ints .i64 p13))])) k v1 v11 v12 v13 v14 v15 v16 v17 v18 v19 v20 v21 v22 v23 v24
def tab {R : Type} (k : Nat) : LTab R := fun id K vs hs => bif id == 3 then h3.tell vs hs (T3 k K) else none
theorem fit3 {R : Type} (k : Nat) : Fit (R := R) (G k) live (tab k) (bl Try.f45 0) := h3.fit (key := 3) (by kernel_rfl) (T3 k) (fun _ _ _ => rfl) fun K r v0 v1 v2 v3 v6 v7 v8 v9 v10 v11 v12 v13 v14 v15 v16 v17 v18 v19 v20 v21 v22 v23 v24 h => fit_mk h (fun a => h3.mk' v0 a.1 v2 v3 v6 v7 v8 v9 v10 a.2.1 (t2 a).1 (t3 a).1 (t4 a).1 (t5 a).1 (t6 a).1 (t7 a).1 (t8 a).1 (t9 a).1 (t9 a.2).1 (t9 (t2 a)).1 (t9 (t3 a)).1 (t9 (t4 a)).1 (t9 (t5 a))) (fun _ v1 _ _ _ _ _ _ _ v11 v12 v13 v14 v15 v16 v17 v18 v19 v20 v21 v22 v23 v24 => some (v1, v11, v12, v13, v14, v15, v16, v17, v18, v19, v20, v21, v22, v23, v24)) rfl (fun _ => rfl) fun Lp a => by kernel_rfl
theorem con (k : Nat) : Con Try.prog S (f k) := con_fn (nt := 35) (live := live) (Λ := tab k) tok (all_cons (ok_con (spec_l24Copy.con k)) (all_cons (ok_con (spec_ReplayMove.con k)) all_nil)) mixed Try.func45 (by kernel_rfl) (all_cons (fit3 k) all_nil) fun x => by kernel_rfl
end spec_Replayed

namespace spec_IsTable
def S : Sp := ⟨16, ⟨[45], [4], [.bor], .own⟩, [.agg .lent kd41], [.B]⟩
theorem con (k : Nat) : Con Try.prog S (f k) := con_fn (nt := 86) (live := []) (Λ := noL) tok (all_cons (ok_con (spec_IsRules.con k)) (all_cons (ok_con (spec_IsSheet.con k)) (all_cons (ok_con (spec_EqualGames.con k)) (all_cons (ok_con (spec_NewGame.con k)) (all_cons (ok_con (spec_Replayed.con k)) all_nil))))) mixed Try.func16 (by kernel_rfl) all_nil fun x => by kernel_rfl
end spec_IsTable

namespace laws_toTable
def S : Sp := ⟨17, ⟨[41], [45], [.bor], .own⟩, [.agg .lent kd41], [.agg .own kd41]⟩
theorem con (k : Nat) : Con Try.prog S (f k) := con_fn (nt := 32) (live := []) (Λ := noL) tok (all_cons (ok_con (laws_toGame.con k)) (all_cons (ok_con (laws_toIntS.con k)) (all_cons (ok_con (laws_toRules.con k)) (all_cons (ok_con (laws_toIntSS.con k)) all_nil)))) mixed Try.func17 (by kernel_rfl) all_nil fun x => by kernel_rfl
end laws_toTable

namespace impl_allIn
def S : Sp := ⟨97, ⟨[22, 3, 3], [4], [.bor, .bor, .bor], .own⟩, [.V, .I, .I], [.B]⟩
def live : List (Nat × List Nat) := [(2, [1, 2, 9, 10, 11]), (100002, [6])]
def G {R : Type} (k : Nat) : Glob R := mkG tt [impl_InRange.S.ent (impl_InRange.f k)] 21
def h2 : Hd := ⟨[.I, .I, .V, .I, .I], []⟩
def T2 {R : Type} (k : Nat) (K : X → St → Option R) : h2.Fn (Option R) := fun v0 v1 v2 v3 v4 => l2 k v0 v1 v2 v3 (K .ret (stOf [6] [.one (.l (.b false))] [])) (K (.exit 0) (stOf [6] [.one (.l (.any))] [])) k v4
def tab {R : Type} (k : Nat) : LTab R := fun id K vs hs => bif id == 2 then h2.tell vs hs (T2 k K) else none
theorem fit2 {R : Type} (k : Nat) : Fit (R := R) (G k) live (tab k) (bl Try.f97 0) := h2.fit (key := 2) (by kernel_rfl) (T2 k) (fun _ _ _ => rfl) fun K r v0 v1 v2 v3 v4 h => fit_mk h (fun a => h2.mk' v0 v1 v2 v3 a) (fun _ _ _ _ v4 => some v4) rfl (fun _ => rfl) fun Lp a => by kernel_rfl
theorem con (k : Nat) : Con Try.prog S (f k) := con_fn (nt := 21) (live := live) (Λ := tab k) tok (all_cons (ok_con (impl_InRange.con k)) all_nil) mixed Try.func97 (by kernel_rfl) (all_cons (fit2 k) all_nil) fun x => by kernel_rfl
end impl_allIn

namespace impl_sum
def S : Sp := ⟨98, ⟨[22], [3], [.bor], .own⟩, [.V], [.O]⟩
def live : List (Nat × List Nat) := [(3, [3, 6, 7, 8]), (100003, [2, 3])]
def G {R : Type} (k : Nat) : Glob R := mkG tt [] 17
def h3 : Hd := ⟨[.I, .V, .I, .I], []⟩
def T3 {R : Type} (k : Nat) (K : X → St → Option R) : h3.Fn (Option R) := fun v0 v1 v2 v3 => l3 k v1 v2 (fun p0 => K (.exit 0) (stOf [2, 3] [.one (.l (.any)), .one (.l (.i .i64 p0))] [])) k v0 v3
def tab {R : Type} (k : Nat) : LTab R := fun id K vs hs => bif id == 3 then h3.tell vs hs (T3 k K) else none
theorem fit3 {R : Type} (k : Nat) : Fit (R := R) (G k) live (tab k) (bl Try.f98 0) := h3.fit (key := 3) (by kernel_rfl) (T3 k) (fun _ _ _ => rfl) fun K r v0 v1 v2 v3 h => fit_mk h (fun a => h3.mk' a.1 v1 v2 a.2) (fun v0 _ _ v3 => some (v0, v3)) rfl (fun _ => rfl) fun Lp a => by kernel_rfl
theorem con (k : Nat) : Con Try.prog S (f k) := con_fn (nt := 17) (live := live) (Λ := tab k) tok all_nil mixed Try.func98 (by kernel_rfl) (all_cons (fit3 k) all_nil) fun x => by kernel_rfl
end impl_sum

namespace impl_IsRound
def S : Sp := ⟨74, ⟨[3, 22], [4], [.bor, .bor], .own⟩, [.I, .V], [.B]⟩
theorem con (k : Nat) : Con Try.prog S (f k) := con_fn (nt := 22) (live := []) (Λ := noL) tok (all_cons (ok_con (impl_InRange.con k)) (all_cons (ok_con (impl_allIn.con k)) (all_cons (ok_con (impl_sum.con k)) all_nil))) mixed Try.func74 (by kernel_rfl) all_nil fun x => by kernel_rfl
end impl_IsRound

namespace impl_IsSheet
def S : Sp := ⟨47, ⟨[3, 25], [4], [.bor, .bor], .own⟩, [.I, .l .lent .rows], [.B]⟩
def live : List (Nat × List Nat) := [(2, [0, 1, 7, 8, 9]), (100002, [0, 1, 4])]
def G {R : Type} (k : Nat) : Glob R := mkG tt [impl_InRange.S.ent (impl_InRange.f k), impl_IsRound.S.ent (impl_IsRound.f k)] 25
def h2 : Hd := ⟨[.I, .W, .W, .I, .I], []⟩
def T2 {R : Type} (k : Nat) (K : X → St → Option R) : h2.Fn (Option R) := fun v0 v1 v2 v3 v4 => l2 k v0 v2 v3 (K .ret (stOf [0, 1, 4] [.one (.l (.i .i64 v0)), .one (.l (.val false (.rows false v1))), .one (.l (.b false))] [])) (K (.exit 0) (stOf [0, 1, 4] [.one (.l (.i .i64 v0)), .one (.l (.val false (.rows false v1))), .one (.l (.any))] [])) k v4
def tab {R : Type} (k : Nat) : LTab R := fun id K vs hs => bif id == 2 then h2.tell vs hs (T2 k K) else none
theorem fit2 {R : Type} (k : Nat) : Fit (R := R) (G k) live (tab k) (bl Try.f47 0) := h2.fit (key := 2) (by kernel_rfl) (T2 k) (fun _ _ _ => rfl) fun K r v0 v1 v2 v3 v4 h => fit_mk h (fun a => h2.mk' v0 v1 v2 v3 a) (fun _ _ _ _ v4 => some v4) rfl (fun _ => rfl) fun Lp a => by kernel_rfl
theorem con (k : Nat) : Con Try.prog S (f k) := con_fn (nt := 25) (live := live) (Λ := tab k) tok (all_cons (ok_con (impl_InRange.con k)) (all_cons (ok_con (impl_IsRound.con k)) all_nil)) mixed Try.func47 (by kernel_rfl) (all_cons (fit2 k) all_nil) fun x => by kernel_rfl
end impl_IsSheet

namespace impl_EqualInts
def S : Sp := ⟨77, ⟨[22, 22], [4], [.bor, .bor], .own⟩, [.V, .V], [.B]⟩
def live : List (Nat × List Nat) := [(4, [0, 1, 12, 13]), (100004, [4])]
def G {R : Type} (k : Nat) : Glob R := mkG tt [] 26
def h4 : Hd := ⟨[.V, .V, .I, .I], []⟩
def T4 {R : Type} (k : Nat) (K : X → St → Option R) : h4.Fn (Option R) := fun v0 v1 v2 v3 => l4 k v0 v1 v2 (K .ret (stOf [4] [.one (.l (.b false))] [])) (K (.exit 0) (stOf [4] [.one (.l (.any))] [])) k v3
def tab {R : Type} (k : Nat) : LTab R := fun id K vs hs => bif id == 4 then h4.tell vs hs (T4 k K) else none
theorem fit4 {R : Type} (k : Nat) : Fit (R := R) (G k) live (tab k) (bl Try.f77 0) := h4.fit (key := 4) (by kernel_rfl) (T4 k) (fun _ _ _ => rfl) fun K r v0 v1 v2 v3 h => fit_mk h (fun a => h4.mk' v0 v1 v2 a) (fun _ _ _ v3 => some v3) rfl (fun _ => rfl) fun Lp a => by kernel_rfl
theorem con (k : Nat) : Con Try.prog S (f k) := con_fn (nt := 26) (live := live) (Λ := tab k) tok all_nil mixed Try.func77 (by kernel_rfl) (all_cons (fit4 k) all_nil) fun x => by kernel_rfl
end impl_EqualInts

namespace impl_EqualRules
def S : Sp := ⟨75, ⟨[29, 29], [4], [.bor, .bor], .own⟩, [.agg .lent kd24, .agg .lent kd24], [.B]⟩
theorem con (k : Nat) : Con Try.prog S (f k) := con_fn (nt := 59) (live := []) (Λ := noL) tok (all_cons (ok_con (impl_EqualInts.con k)) all_nil) mixed Try.func75 (by kernel_rfl) all_nil fun x => by kernel_rfl
end impl_EqualRules

namespace impl_sameRows
def S : Sp := ⟨76, ⟨[25, 25], [4], [.bor, .bor], .own⟩, [.l .lent .rows, .l .lent .rows], [.B]⟩
def live : List (Nat × List Nat) := [(4, [0, 1, 12, 13]), (100004, [4])]
def G {R : Type} (k : Nat) : Glob R := mkG tt [impl_EqualInts.S.ent (impl_EqualInts.f k)] 27
def h4 : Hd := ⟨[.W, .W, .I, .I], []⟩
def T4 {R : Type} (k : Nat) (K : X → St → Option R) : h4.Fn (Option R) := fun v0 v1 v2 v3 => l4 k v0 v1 v2 (K .ret (stOf [4] [.one (.l (.b false))] [])) (K (.exit 0) (stOf [4] [.one (.l (.any))] [])) k v3
def tab {R : Type} (k : Nat) : LTab R := fun id K vs hs => bif id == 4 then h4.tell vs hs (T4 k K) else none
theorem fit4 {R : Type} (k : Nat) : Fit (R := R) (G k) live (tab k) (bl Try.f76 0) := h4.fit (key := 4) (by kernel_rfl) (T4 k) (fun _ _ _ => rfl) fun K r v0 v1 v2 v3 h => fit_mk h (fun a => h4.mk' v0 v1 v2 a) (fun _ _ _ v3 => some v3) rfl (fun _ => rfl) fun Lp a => by kernel_rfl
theorem con (k : Nat) : Con Try.prog S (f k) := con_fn (nt := 27) (live := live) (Λ := tab k) tok (all_cons (ok_con (impl_EqualInts.con k)) all_nil) mixed Try.func76 (by kernel_rfl) (all_cons (fit4 k) all_nil) fun x => by kernel_rfl
end impl_sameRows

namespace impl_EqualGames
def S : Sp := ⟨48, ⟨[31, 31], [4], [.bor, .bor], .own⟩, [.agg .lent kd27, .agg .lent kd27], [.B]⟩
theorem con (k : Nat) : Con Try.prog S (f k) := con_fn (nt := 52) (live := []) (Λ := noL) tok (all_cons (ok_con (impl_EqualRules.con k)) (all_cons (ok_con (impl_sameRows.con k)) (all_cons (ok_con (impl_EqualInts.con k)) all_nil))) mixed Try.func48 (by kernel_rfl) all_nil fun x => by kernel_rfl
end impl_EqualGames

namespace impl_Dealt
def S : Sp := ⟨79, ⟨[22, 3, 3], [25, 22, 4], [.bor, .bor, .bor], .own⟩, [.V, .I, .I], [.l .own .rows, .l .own (.ints .i64), .B]⟩
def live : List (Nat × List Nat) := [(5, [0, 1, 2, 9, 41, 42, 43]), (100005, [0, 1, 2, 6, 7, 8, 9])]
def G {R : Type} (k : Nat) : Glob R := mkG tt [impl_copyOf.S.ent (impl_copyOf.f k), impl_InRange.S.ent (impl_InRange.f k), impl_IsHand.S.ent (impl_IsHand.f k)] 70
def h5 : Hd := ⟨[.V, .I, .I, .l (.own 0), .V, .I, .I], [.W]⟩
def T5 {R : Type} (k : Nat) (K : X → St → Option R) : h5.Fn (Option R) := fun v0 v1 v2 v3 v4 v5 v6 => l5 k v1 v3 v4 (fun p0 => K (.exit 0) (stOf [0, 1, 2, 6, 7, 8, 9] [.one (.l (.val false (.ints .i64 v0))), .one (.l (.i .i64 v1)), .one (.l (.i .i64 v2)), .one (.l (.any)), .one (.l (.any)), .one (.l (.any)), .one (.l (.own 0))] [some (.row 0 0 (.rows true p0))])) k v5 v6
def tab {R : Type} (k : Nat) : LTab R := fun id K vs hs => bif id == 5 then h5.tell vs hs (T5 k K) else none
theorem fit5 {R : Type} (k : Nat) : Fit (R := R) (G k) live (tab k) (bl Try.f79 0) := h5.fit (key := 5) (by kernel_rfl) (T5 k) (fun _ _ _ => rfl) fun K r v0 v1 v2 v3 v4 v5 v6 h => fit_mk h (fun a => h5.mk' v0 v1 v2 v3 v4 a.1 a.2) (fun _ _ _ _ _ v5 v6 => some (v5, v6)) rfl (fun _ => rfl) fun Lp a => by kernel_rfl
theorem con (k : Nat) : Con Try.prog S (f k) := con_fn (nt := 70) (live := live) (Λ := tab k) tok (all_cons (ok_con (impl_copyOf.con k)) (all_cons (ok_con (impl_InRange.con k)) (all_cons (ok_con (impl_IsHand.con k)) all_nil))) mixed Try.func79 (by kernel_rfl) (all_cons (fit5 k) all_nil) fun x => by kernel_rfl
end impl_Dealt

namespace impl_NewGame
def S : Sp := ⟨49, ⟨[29, 22], [31, 4], [.bor, .bor], .own⟩, [.agg .lent kd24, .V], [.agg .own kd27, .B]⟩
theorem con (k : Nat) : Con Try.prog S (f k) := con_fn (nt := 44) (live := []) (Λ := noL) tok (all_cons (ok_con (impl_IsRules.con k)) (all_cons (ok_con (impl_Rules_copied.con k)) (all_cons (ok_con (impl_copyOf.con k)) (all_cons (ok_con (impl_IsHand.con k)) (all_cons (ok_con (impl_Dealt.con k)) all_nil))))) mixed Try.func49 (by kernel_rfl) all_nil fun x => by kernel_rfl
end impl_NewGame

namespace impl_Replayed
def S : Sp := ⟨50, ⟨[31, 22], [31, 3], [.bor, .bor], .own⟩, [.agg .lent kd27, .V], [.agg .own kd27, .O]⟩
def live : List (Nat × List Nat) := [(3, [1, 4, 6, 13, 14, 15]), (100003, [1, 4, 5, 6])]
def G {R : Type} (k : Nat) : Glob R := mkG tt [impl_Game_copied.S.ent (impl_Game_copied.f k), impl_ReplayMove.S.ent (impl_ReplayMove.f k)] 35
def h3 : Hd := ⟨[.V, .l (.ptr 0 0), .l (.ptr 1 0), .V, .I, .I], [.box [.I, .I, .bc false, .bc false, .nil, .nil, .I, .I, .nil, .nil, .nil, .I, .I, .I], .box [.I, .I, .b, .b, .own 2, .own 3, .I, .I, .own 4, .own 5, .own 6, .I, .I, .I], .V, .V, .W, .V, .V]⟩
def T3 {R : Type} (k : Nat) (K : X → St → Option R) : h3.Fn (Option R) := fun v0 v1 v2 v3 v4 v5 v8 v9 v10 v11 v12 v13 v14 v15 v16 v17 v18 v19 v20 v21 v22 v23 v24 v25 v26 => l3 k v1 v2 (fun p0 p1 p2 p3 p4 p5 p6 p7 p8 p9 p10 p11 p12 p13 p14 => K .ret (stOf [1, 4, 5, 6] [.one (.l (.val false (.ints .i64 v0))), .one (.l (.bptr 0 0)), .one (.l (.i .i64 p0)), .one (.l (.bptr 6 0))] [some (.box 0 [.i .i64 p1, .i .i64 p2, .b p3, .b p4, .own 1, .own 2, .i .i64 p5, .i .i64 p6, .own 3, .own 4, .own 5, .i .i64 p7, .i .i64 p8, .i .i64 p9]), some (.row 0 0 (.ints .i64 p10)), some (.row 0 0 (.ints .i64 p11)), some (.row 0 0 (.rows true p12)), some (.row 0 0 (.ints .i64 p13)), some (.row 0 0 (.ints .i64 p14)), some (.box 0 [.i .i64 p1, .i .i64 p2, .b p3, .b p4, .own 1, .own 2, .i .i64 p5, .i .i64 p6, .own 3, .own 4, .own 5, .i .i64 p7, .i .i64 p8, .i .i64 p9])])) (fun p0 p1 p2 p3 p4 p5 p6 p7 p8 p9 p10 p11 p12 p13 => K (.exit 0) (stOf [1, 4, 5, 6] [.one (.l (.val false (.ints .i64 v0))), .one (.l (.bptr 0 0)), .one (.l (.any)), .one (.l (.bptr 1 0))] [some (.box 0 [.i .i64 v4, .i .i64 v5, .b false, .b false, .nil, .nil, .i .i64 v8, .i .i64 v9, .nil, .nil, .nil, .i .i64 v10, .i .i64 v11, .i .i64 v12]), some (.box 0 [.i .i64 p0, .i .i64 p1, .b p2, .b p3, .own 2, .own 3, .i .i64 p4, .i .i64 p5, .own 4, .own 5, .own 6, .i .i64 p6, .i .i64 p7, .i .i64 p8]), some (.row 0 0 (.ints .i64 p9)), some (.row 0 0 (.ints .i64 p10)), some (.row 0 0 (.rows true p11)), some (.row 0 0 (.ints .i64 p12)), some (.row 0 0 (.ints .i64 p13))])) k v3 v13 v14 v15 v16 v17 v18 v19 v20 v21 v22 v23 v24 v25 v26
def tab {R : Type} (k : Nat) : LTab R := fun id K vs hs => bif id == 3 then h3.tell vs hs (T3 k K) else none
theorem fit3 {R : Type} (k : Nat) : Fit (R := R) (G k) live (tab k) (bl Try.f50 0) := h3.fit (key := 3) (by kernel_rfl) (T3 k) (fun _ _ _ => rfl) fun K r v0 v1 v2 v3 v4 v5 v8 v9 v10 v11 v12 v13 v14 v15 v16 v17 v18 v19 v20 v21 v22 v23 v24 v25 v26 h => fit_mk h (fun a => h3.mk' v0 v1 v2 a.1 v4 v5 v8 v9 v10 v11 v12 a.2.1 (t2 a).1 (t3 a).1 (t4 a).1 (t5 a).1 (t6 a).1 (t7 a).1 (t8 a).1 (t9 a).1 (t9 a.2).1 (t9 (t2 a)).1 (t9 (t3 a)).1 (t9 (t4 a)).1 (t9 (t5 a))) (fun _ _ _ v3 _ _ _ _ _ _ _ v13 v14 v15 v16 v17 v18 v19 v20 v21 v22 v23 v24 v25 v26 => some (v3, v13, v14, v15, v16, v17, v18, v19, v20, v21, v22, v23, v24, v25, v26)) rfl (fun _ => rfl) fun Lp a => by kernel_rfl
theorem con (k : Nat) : Con Try.prog S (f k) := con_fn (nt := 35) (live := live) (Λ := tab k) tok (all_cons (ok_con (impl_Game_copied.con k)) (all_cons (ok_con (impl_ReplayMove.con k)) all_nil)) mixed Try.func50 (by kernel_rfl) (all_cons (fit3 k) all_nil) fun x => by kernel_rfl
end impl_Replayed

namespace impl_IsTable
def S : Sp := ⟨18, ⟨[45], [4], [.bor], .own⟩, [.agg .lent kd41], [.B]⟩
theorem con (k : Nat) : Con Try.prog S (f k) := con_fn (nt := 85) (live := []) (Λ := noL) tok (all_cons (ok_con (impl_IsRules.con k)) (all_cons (ok_con (impl_IsSheet.con k)) (all_cons (ok_con (impl_EqualGames.con k)) (all_cons (ok_con (impl_NewGame.con k)) (all_cons (ok_con (impl_Replayed.con k)) all_nil))))) mixed Try.func18 (by kernel_rfl) all_nil fun x => by kernel_rfl
end impl_IsTable

namespace laws_eqTable
def S : Sp := ⟨19, ⟨[45, 45], [4], [.bor, .bor], .own⟩, [.agg .lent kd41, .agg .lent kd41], [.B]⟩
theorem con (k : Nat) : Con Try.prog S (f k) := con_fn (nt := 46) (live := []) (Λ := noL) tok (all_cons (ok_con (laws_eqGame.con k)) (all_cons (ok_con (laws_eqIntS.con k)) (all_cons (ok_con (laws_eqRules.con k)) (all_cons (ok_con (laws_eqIntSS.con k)) all_nil)))) mixed Try.func19 (by kernel_rfl) all_nil fun x => by kernel_rfl
end laws_eqTable

namespace laws_FnExactIsTable
def S : Sp := ⟨4, ⟨[41], [4], [.bor], .own⟩, [.agg .lent kd41], [.B]⟩
theorem con (k : Nat) : Con Try.prog S (f k) := con_fn (nt := 27) (live := []) (Λ := noL) tok (all_cons (ok_con (laws_szTable.con k)) (all_cons (ok_con (spec_IsTable.con k)) (all_cons (ok_con (laws_toTable.con k)) (all_cons (ok_con (impl_IsTable.con k)) (all_cons (ok_con (laws_eqTable.con k)) all_nil))))) mixed Try.func4 (by kernel_rfl) all_nil fun x => by kernel_rfl
end laws_FnExactIsTable
end Go.Proofs.Ytmdfedjdnjaaiaa
