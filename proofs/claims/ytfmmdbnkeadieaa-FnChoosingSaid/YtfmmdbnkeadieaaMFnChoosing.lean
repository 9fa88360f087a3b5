/- That the Go functions come to the answers of the plain ones. Printed by a program. -/
import Derived.Test.YtfmmdbnkeadieaaT
import Derived.Test.YtfmmdbnkeadieaaMFnTallies
import Derived.Test.YtfmmdbnkeadieaaFFnChoosing
set_option linter.unusedVariables false
set_option maxRecDepth 100000
set_option maxHeartbeats 20000000
namespace Go.Proofs.Ytfmmdbnkeadieaa
open Go Go.Proofs.Ytfmmdbnkeadieaa.V Go.Proofs.Ytfmmdbnkeadieaa.M

namespace spec_l8Any
def S : Sp := ⟨201, ⟨[107], [22], [.io], .frz⟩, [.ptr kd129], [.l .frz (.ints .i64), .ptr kd129]⟩
theorem con (k : Nat) : Con Try.prog S (f k) := con_fn (nt := 24) (live := []) (Λ := noL) tok (all_cons (ok_con (spec_l1Below.con k)) (all_cons (ok_con (spec_l1Int.con k)) (all_cons (ok_con (spec_l8Draw.con k)) all_nil))) mixed Try.func201 (by kernel_rfl) all_nil fun x => by kernel_rfl
end spec_l8Any

namespace spec_l22Any
def S : Sp := ⟨185, ⟨[107], [36], [.io], .lent⟩, [.ptr kd129], [.agg .lent kd36, .ptr kd129]⟩
theorem con (k : Nat) : Con Try.prog S (f k) := con_fn (nt := 41) (live := []) (Λ := noL) tok (all_cons (ok_con (spec_l1Below.con k)) (all_cons (ok_con (spec_l22Draw.con k)) (all_cons (ok_con (spec_l1Int.con k)) (all_cons (ok_con (spec_l8Any.con k)) all_nil)))) mixed Try.func185 (by kernel_rfl) all_nil fun x => by kernel_rfl
end spec_l22Any

namespace spec_l24Draw
def S : Sp := ⟨152, ⟨[107], [38], [.io], .lent⟩, [.ptr kd129], [.agg .lent kd38, .ptr kd129]⟩
def live : List (Nat × List Nat) := [(3, [0, 2, 3, 4, 79]), (100003, [0, 2, 3, 79])]
def G {R : Type} (k : Nat) : Glob R := mkG tt [spec_l1Below.S.ent (spec_l1Below.f k), spec_TakeCards.S.ent (spec_TakeCards.f k), spec_PlayOn.S.ent (spec_PlayOn.f k), spec_l24Start.S.ent (spec_l24Start.f k), spec_l1Once.S.ent (spec_l1Once.f k), spec_l4Card.S.ent (spec_l4Card.f k), spec_Playable.S.ent (spec_Playable.f k), spec_l1Int.S.ent (spec_l1Int.f k), spec_l22Any.S.ent (spec_l22Any.f k)] 79
def h3 : Hd := ⟨[.l (.ptr 0 0), .l (.ptr 1 0), .l (.ptr 2 0), .I, .l (.ptr 0 0)], [.box [.val true false (.ints .u8), .I, .I], .box [.I, .I, .bc false, .bc false, .nil, .nil, .I, .I, .nil, .nil, .nil, .I, .I, .I], .box [.I, .I, .b, .b, .own 3, .own 4, .I, .I, .own 5, .own 6, .own 7, .I, .I, .I], .V, .V, .W, .V, .V]⟩
def T3 {R : Type} (k : Nat) (K : X → St → Option R) : h3.Fn (Option R) := fun v0 v1 v2 v3 v4 v5 v8 v9 v10 v11 v12 v13 v14 v15 v16 v17 v18 v19 v20 v21 v22 v23 v24 v25 v26 => l3 k (fun p0 p1 p2 p3 p4 p5 p6 p7 p8 p9 p10 p11 p12 p13 p14 p15 p16 => K (.exit 0) (stOf [0, 2, 3, 79] [.one (.l (.bptr 0 0)), .one (.l (.bptr 1 0)), .one (.l (.bptr 2 0)), .one (.l (.bptr 0 0))] [some (.box 0 [.val true (.ints .u8 p0), .i .i64 p1, .i .i64 p2]), some (.box 0 [.i .i64 v4, .i .i64 v5, .b false, .b false, .nil, .nil, .i .i64 v8, .i .i64 v9, .nil, .nil, .nil, .i .i64 v10, .i .i64 v11, .i .i64 v12]), some (.box 0 [.i .i64 p3, .i .i64 p4, .b p5, .b p6, .own 3, .own 4, .i .i64 p7, .i .i64 p8, .own 5, .own 6, .own 7, .i .i64 p9, .i .i64 p10, .i .i64 p11]), some (.row 0 0 (.ints .i64 p12)), some (.row 0 0 (.ints .i64 p13)), some (.row 0 0 (.rows true p14)), some (.row 0 0 (.ints .i64 p15)), some (.row 0 0 (.ints .i64 p16))])) k v0 v1 v2 v3 v13 v14 v15 v16 v17 v18 v19 v20 v21 v22 v23 v24 v25 v26
def tab {R : Type} (k : Nat) : LTab R := fun id K vs hs => bif id == 3 then h3.tell vs hs (T3 k K) else none
theorem fit3 {R : Type} (k : Nat) : Fit (R := R) (G k) live (tab k) (bl Try.f152 0) := h3.fit (key := 3) (by kernel_rfl) (T3 k) (fun _ _ _ => rfl) fun K r v0 v1 v2 v3 v4 v5 v8 v9 v10 v11 v12 v13 v14 v15 v16 v17 v18 v19 v20 v21 v22 v23 v24 v25 v26 h => fit_mk h (fun a => h3.mk' a.1 a.2.1 (t2 a).1 (t3 a).1 v4 v5 v8 v9 v10 v11 v12 (t4 a).1 (t5 a).1 (t6 a).1 (t7 a).1 (t8 a).1 (t9 a).1 (t9 a.2).1 (t9 (t2 a)).1 (t9 (t3 a)).1 (t9 (t4 a)).1 (t9 (t5 a)).1 (t9 (t6 a)).1 (t9 (t7 a)).1 (t9 (t8 a))) (fun v0 v1 v2 v3 _ _ _ _ _ _ _ v13 v14 v15 v16 v17 v18 v19 v20 v21 v22 v23 v24 v25 v26 => some (v0, v1, v2, v3, v13, v14, v15, v16, v17, v18, v19, v20, v21, v22, v23, v24, v25, v26)) (by kernel_rfl) (fun _ => by kernel_rfl) fun Lp a => by kernel_rfl
theorem con (k : Nat) : Con Try.prog S (f k) := con_fn (nt := 79) (live := live) (Λ := tab k) tok (all_cons (ok_con (spec_l1Below.con k)) (all_cons (ok_con (spec_TakeCards.con k)) (all_cons (ok_con (spec_PlayOn.con k)) (all_cons (ok_con (spec_l24Start.con k)) (all_cons (ok_con (spec_l1Once.con k)) (all_cons (ok_con (spec_l4Card.con k)) (all_cons (ok_con (spec_Playable.con k)) (all_cons (ok_con (spec_l1Int.con k)) (all_cons (ok_con (spec_l22Any.con k)) all_nil))))))))) mixed Try.func152 (by kernel_rfl) (all_cons (fit3 k) all_nil) fun x => by kernel_rfl
end spec_l24Draw

namespace spec_DrawChoiceOf
def S : Sp := ⟨93, ⟨[57], [38, 3], [.frz], .lent⟩, [.l .frz (.ints .u8)], [.agg .lent kd38, .I]⟩
theorem con (k : Nat) : Con Try.prog S (f k) := con_fn (nt := 14) (live := []) (Λ := noL) tok (all_cons (ok_con (spec_l1New.con k)) (all_cons (ok_con (spec_l1Below.con k)) (all_cons (ok_con (spec_l24Draw.con k)) all_nil))) mixed Try.func93 (by kernel_rfl) all_nil fun x => by kernel_rfl
end spec_DrawChoiceOf

namespace spec_DrawAutoMove
def S : Sp := ⟨38, ⟨[57], [38, 3], [.frz], .lent⟩, [.l .frz (.ints .u8)], [.agg .lent kd38, .I]⟩
theorem con (k : Nat) : Con Try.prog S (f k) := con_fn (nt := 8) (live := []) (Λ := noL) tok (all_cons (ok_con (spec_DrawChoiceOf.con k)) all_nil) mixed Try.func38 (by kernel_rfl) all_nil fun x => by kernel_rfl
end spec_DrawAutoMove

namespace impl_SuitCounts
def S : Sp := ⟨46, ⟨[22], [22], [.bor], .own⟩, [.V], [.l .own (.ints .i64)]⟩
def live : List (Nat × List Nat) := [(3, [3, 7, 8, 9]), (100003, [2, 3])]
def G {R : Type} (k : Nat) : Glob R := mkG tt [impl_IsCard.S.ent (impl_IsCard.f k), impl_SuitOf.S.ent (impl_SuitOf.f k)] 24
def h3 : Hd := ⟨[.l (.own 0), .V, .I, .I], [.V]⟩
def T3 {R : Type} (k : Nat) (K : X → St → Option R) : h3.Fn (Option R) := fun v0 v1 v2 v3 => l3 k v0 v1 (fun p0 => K (.exit 0) (stOf [2, 3] [.one (.l (.any)), .one (.l (.own 0))] [some (.row 0 0 (.ints .i64 p0))])) k v2 v3
def tab {R : Type} (k : Nat) : LTab R := fun id K vs hs => bif id == 3 then h3.tell vs hs (T3 k K) else none
theorem fit3 {R : Type} (k : Nat) : Fit (R := R) (G k) live (tab k) (bl Try.f46 0) := h3.fit (key := 3) (by kernel_rfl) (T3 k) (fun _ _ _ => rfl) fun K r v0 v1 v2 v3 h => fit_mk h (fun a => h3.mk' v0 v1 a.1 a.2) (fun _ _ v2 v3 => some (v2, v3)) (by kernel_rfl) (fun _ => by kernel_rfl) fun Lp a => by kernel_rfl
theorem con (k : Nat) : Con Try.prog S (f k) := con_fn (nt := 24) (live := live) (Λ := tab k) tok (all_cons (ok_con (impl_IsCard.con k)) (all_cons (ok_con (impl_SuitOf.con k)) all_nil)) mixed Try.func46 (by kernel_rfl) (all_cons (fit3 k) all_nil) fun x => by kernel_rfl
end impl_SuitCounts

namespace impl_ChoiceOf
def S : Sp := ⟨39, ⟨[38, 3], [3], [.bor, .bor], .own⟩, [.agg .lent kd38, .I], [.O]⟩
def live : List (Nat × List Nat) := [(12, [6, 7, 41, 42, 43]), (100012, [4, 7])]
def G {R : Type} (k : Nat) : Glob R := mkG tt [impl_Playable.S.ent (impl_Playable.f k), impl_SuitCounts.S.ent (impl_SuitCounts.f k), impl_SuitOf.S.ent (impl_SuitOf.f k)] 61
def h12 : Hd := ⟨[.l (.own 0), .I, .l (.own 1), .I, .I], [.V, .V]⟩
def T12 {R : Type} (k : Nat) (K : X → St → Option R) : h12.Fn (Option R) := fun v0 v1 v2 v3 v4 => l12 k v1 v3 v4 (fun p0 => K (.exit 1) (stOf [4, 7] [.one (.l (.any)), .one (.l (.i .i64 p0))] [])) k v0 v2
def tab {R : Type} (k : Nat) : LTab R := fun id K vs hs => bif id == 12 then h12.tell vs hs (T12 k K) else none
theorem fit12 {R : Type} (k : Nat) : Fit (R := R) (G k) live (tab k) (bl Try.f39 0) := h12.fit (key := 12) (by kernel_rfl) (T12 k) (fun _ _ _ => rfl) fun K r v0 v1 v2 v3 v4 h => fit_mk h (fun a => h12.mk' a.1 v1 a.2 v3 v4) (fun v0 _ v2 _ _ => some (v0, v2)) (by kernel_rfl) (fun _ => by kernel_rfl) fun Lp a => by kernel_rfl
theorem con (k : Nat) : Con Try.prog S (f k) := con_fn (nt := 61) (live := live) (Λ := tab k) tok (all_cons (ok_con (impl_Playable.con k)) (all_cons (ok_con (impl_SuitCounts.con k)) (all_cons (ok_con (impl_SuitOf.con k)) all_nil))) mixed Try.func39 (by kernel_rfl) (all_cons (fit12 k) all_nil) fun x => by kernel_rfl
end impl_ChoiceOf

namespace impl_AutoMove
def S : Sp := ⟨40, ⟨[38, 3], [38, 4], [.bor, .bor], .own⟩, [.agg .lent kd38, .I], [.agg .own kd38, .B]⟩
theorem con (k : Nat) : Con Try.prog S (f k) := con_fn (nt := 13) (live := []) (Λ := noL) tok (all_cons (ok_con (impl_ChoiceOf.con k)) (all_cons (ok_con (impl_ReplayMove.con k)) all_nil)) mixed Try.func40 (by kernel_rfl) all_nil fun x => by kernel_rfl
end impl_AutoMove

namespace laws_contains
def S : Sp := ⟨41, ⟨[22, 3], [4], [.bor, .bor], .own⟩, [.V, .I], [.B]⟩
def live : List (Nat × List Nat) := [(2, [0, 1, 5]), (100002, [4])]
def G {R : Type} (k : Nat) : Glob R := mkG tt [] 18
def h2 : Hd := ⟨[.V, .I, .I], []⟩
def T2 {R : Type} (k : Nat) (K : X → St → Option R) : h2.Fn (Option R) := fun v0 v1 v2 => l2 k v0 v1 (K .ret (stOf [4] [.one (.l (.b true))] [])) (K (.exit 0) (stOf [4] [.one (.l (.any))] [])) k v2
def tab {R : Type} (k : Nat) : LTab R := fun id K vs hs => bif id == 2 then h2.tell vs hs (T2 k K) else none
theorem fit2 {R : Type} (k : Nat) : Fit (R := R) (G k) live (tab k) (bl Try.f41 0) := h2.fit (key := 2) (by kernel_rfl) (T2 k) (fun _ _ _ => rfl) fun K r v0 v1 v2 h => fit_mk h (fun a => h2.mk' v0 v1 a) (fun _ _ v2 => some v2) (by kernel_rfl) (fun _ => by kernel_rfl) fun Lp a => by kernel_rfl
theorem con (k : Nat) : Con Try.prog S (f k) := con_fn (nt := 18) (live := live) (Λ := tab k) tok all_nil mixed Try.func41 (by kernel_rfl) (all_cons (fit2 k) all_nil) fun x => by kernel_rfl
end laws_contains

namespace spec_l5Some
def S : Sp := ⟨186, ⟨[107, 3], [22], [.io, .bor], .own⟩, [.ptr kd129, .I], [.l .own (.ints .i64), .ptr kd129]⟩
def live : List (Nat × List Nat) := [(6, [0, 1, 5, 6, 7, 27]), (100006, [0, 1, 4, 5, 6, 7, 27]), (3, [0, 1, 5, 6, 27]), (100003, [4, 5, 27])]
def G {R : Type} (k : Nat) : Glob R := mkG tt [spec_l1Below.S.ent (spec_l1Below.f k), spec_HasCard.S.ent (spec_HasCard.f k)] 27
def h6 : Hd := ⟨[.l (.ptr 0 0), .I, .l (.own 1), .I, .I, .l (.ptr 0 0)], [.box [.val true false (.ints .u8), .I, .I], .V]⟩
def T6 {R : Type} (k : Nat) (K : X → St → Option R) : h6.Fn (Option R) := fun v0 v1 v2 v3 v4 v5 v6 => l6 k v6 (fun p0 => K (.exit 2) (stOf [0, 1, 4, 5, 6, 7, 27] [.one (.l (.bptr 0 0)), .one (.l (.i .i64 v0)), .one (.l (.any)), .one (.l (.own 1)), .one (.l (.i .i64 v1)), .one (.l (.i .i64 p0)), .one (.l (.bptr 0 0))] [some (.box 0 [.val true (.ints .u8 v3), .i .i64 v4, .i .i64 v5]), some (.row 0 0 (.ints .i64 v6))])) k v2
def h3 : Hd := ⟨[.l (.ptr 0 0), .I, .l (.own 1), .I, .l (.ptr 0 0)], [.box [.val true false (.ints .u8), .I, .I], .V]⟩
def T3 {R : Type} (k : Nat) (K : X → St → Option R) : h3.Fn (Option R) := fun v0 v1 v2 v3 v4 v5 => l3 k v0 (fun p0 p1 p2 p3 => K (.exit 0) (stOf [4, 5, 27] [.one (.l (.any)), .one (.l (.own 0)), .one (.l (.bptr 1 0))] [some (.row 0 0 (.ints .i64 p0)), some (.box 0 [.val true (.ints .u8 p1), .i .i64 p2, .i .i64 p3])])) k v1 v2 v3 v4 v5
def tab {R : Type} (k : Nat) : LTab R := fun id K vs hs => bif id == 6 then h6.tell vs hs (T6 k K) else bif id == 3 then h3.tell vs hs (T3 k K) else none
theorem fit3 {R : Type} (k : Nat) : Fit (R := R) (G k) live (tab k) (bl Try.f186 0) := h3.fit (key := 3) (by kernel_rfl) (T3 k) (fun _ _ _ => rfl) fun K r v0 v1 v2 v3 v4 v5 h => fit_mk h (fun a => h3.mk' v0 a.1 a.2.1 (t2 a).1 (t3 a).1 (t4 a)) (fun _ v1 v2 v3 v4 v5 => some (v1, v2, v3, v4, v5)) (by kernel_rfl) (fun _ => by kernel_rfl) fun Lp a => by kernel_rfl
theorem fit6 {R : Type} (k : Nat) : Fit (R := R) (G k) live (tab k) (bl Try.f186 1) := h6.fit (key := 6) (by kernel_rfl) (T6 k) (fun _ _ _ => rfl) fun K r v0 v1 v2 v3 v4 v5 v6 h => fit_mk h (fun a => h6.mk' v0 v1 a v3 v4 v5 v6) (fun _ _ v2 _ _ _ _ => some v2) (by kernel_rfl) (fun _ => by kernel_rfl) fun Lp a => by kernel_rfl
theorem con (k : Nat) : Con Try.prog S (f k) := con_fn (nt := 27) (live := live) (Λ := tab k) tok (all_cons (ok_con (spec_l1Below.con k)) (all_cons (ok_con (spec_HasCard.con k)) all_nil)) mixed Try.func186 (by kernel_rfl) (all_cons (fit3 k) (all_cons (fit6 k) all_nil)) fun x => by kernel_rfl
end spec_l5Some

namespace spec_l5Any
def S : Sp := ⟨155, ⟨[107], [22], [.io], .own⟩, [.ptr kd129], [.l .own (.ints .i64), .ptr kd129]⟩
theorem con (k : Nat) : Con Try.prog S (f k) := con_fn (nt := 27) (live := []) (Λ := noL) tok (all_cons (ok_con (spec_l1Below.con k)) (all_cons (ok_con (spec_l1Once.con k)) (all_cons (ok_con (spec_l1Int.con k)) (all_cons (ok_con (spec_l5Some.con k)) all_nil)))) mixed Try.func155 (by kernel_rfl) all_nil fun x => by kernel_rfl
end spec_l5Any

namespace spec_DrawIsHand
def S : Sp := ⟨100, ⟨[57], [22], [.frz], .own⟩, [.l .frz (.ints .u8)], [.l .own (.ints .i64)]⟩
theorem con (k : Nat) : Con Try.prog S (f k) := con_fn (nt := 8) (live := []) (Λ := noL) tok (all_cons (ok_con (spec_l1New.con k)) (all_cons (ok_con (spec_l5Any.con k)) all_nil)) mixed Try.func100 (by kernel_rfl) all_nil fun x => by kernel_rfl
end spec_DrawIsHand

namespace spec_DrawSuitCounts
def S : Sp := ⟨45, ⟨[57], [22], [.frz], .own⟩, [.l .frz (.ints .u8)], [.l .own (.ints .i64)]⟩
theorem con (k : Nat) : Con Try.prog S (f k) := con_fn (nt := 5) (live := []) (Λ := noL) tok (all_cons (ok_con (spec_DrawIsHand.con k)) all_nil) mixed Try.func45 (by kernel_rfl) all_nil fun x => by kernel_rfl
end spec_DrawSuitCounts

namespace spec_DrawMostOf
def S : Sp := ⟨47, ⟨[57], [22], [.frz], .own⟩, [.l .frz (.ints .u8)], [.l .own (.ints .i64)]⟩
def live : List (Nat × List Nat) := [(4, [3, 4, 5]), (100004, [2, 4])]
def G {R : Type} (k : Nat) : Glob R := mkG tt [spec_l1New.S.ent (spec_l1New.f k), spec_l1Below.S.ent (spec_l1Below.f k)] 22
def h4 : Hd := ⟨[.l (.ptr 0 0), .l (.own 1), .I], [.box [.val true false (.ints .u8), .I, .I], .V]⟩
def T4 {R : Type} (k : Nat) (K : X → St → Option R) : h4.Fn (Option R) := fun v0 v1 v2 v3 v4 => l4 k (fun p0 => K (.exit 0) (stOf [2, 4] [.one (.l (.any)), .one (.l (.own 0))] [some (.row 0 0 (.ints .i64 p0))])) k v0 v1 v2 v3 v4
def tab {R : Type} (k : Nat) : LTab R := fun id K vs hs => bif id == 4 then h4.tell vs hs (T4 k K) else none
theorem fit4 {R : Type} (k : Nat) : Fit (R := R) (G k) live (tab k) (bl Try.f47 0) := h4.fit (key := 4) (by kernel_rfl) (T4 k) (fun _ _ _ => rfl) fun K r v0 v1 v2 v3 v4 h => fit_mk h (fun a => h4.mk' a.1 a.2.1 (t2 a).1 (t3 a).1 (t4 a)) (fun v0 v1 v2 v3 v4 => some (v0, v1, v2, v3, v4)) (by kernel_rfl) (fun _ => by kernel_rfl) fun Lp a => by kernel_rfl
theorem con (k : Nat) : Con Try.prog S (f k) := con_fn (nt := 22) (live := live) (Λ := tab k) tok (all_cons (ok_con (spec_l1New.con k)) (all_cons (ok_con (spec_l1Below.con k)) all_nil)) mixed Try.func47 (by kernel_rfl) (all_cons (fit4 k) all_nil) fun x => by kernel_rfl
end spec_DrawMostOf

namespace impl_MostOf
def S : Sp := ⟨48, ⟨[22], [3], [.bor], .own⟩, [.V], [.O]⟩
def live : List (Nat × List Nat) := [(3, [0, 3, 6, 7, 8]), (100003, [2, 3])]
def G {R : Type} (k : Nat) : Glob R := mkG tt [] 26
def h3 : Hd := ⟨[.V, .I, .V, .I, .I], []⟩
def T3 {R : Type} (k : Nat) (K : X → St → Option R) : h3.Fn (Option R) := fun v0 v1 v2 v3 v4 => l3 k v0 v2 v3 (fun p0 => K (.exit 0) (stOf [2, 3] [.one (.l (.any)), .one (.l (.i .i64 p0))] [])) k v1 v4
def tab {R : Type} (k : Nat) : LTab R := fun id K vs hs => bif id == 3 then h3.tell vs hs (T3 k K) else none
theorem fit3 {R : Type} (k : Nat) : Fit (R := R) (G k) live (tab k) (bl Try.f48 0) := h3.fit (key := 3) (by kernel_rfl) (T3 k) (fun _ _ _ => rfl) fun K r v0 v1 v2 v3 v4 h => fit_mk h (fun a => h3.mk' v0 a.1 v2 v3 a.2) (fun _ v1 _ _ v4 => some (v1, v4)) (by kernel_rfl) (fun _ => by kernel_rfl) fun Lp a => by kernel_rfl
theorem con (k : Nat) : Con Try.prog S (f k) := con_fn (nt := 26) (live := live) (Λ := tab k) tok all_nil mixed Try.func48 (by kernel_rfl) (all_cons (fit3 k) all_nil) fun x => by kernel_rfl
end impl_MostOf

namespace spec_DrawIsGame
def S : Sp := ⟨103, ⟨[57], [38], [.frz], .lent⟩, [.l .frz (.ints .u8)], [.agg .lent kd38]⟩
theorem con (k : Nat) : Con Try.prog S (f k) := con_fn (nt := 8) (live := []) (Λ := noL) tok (all_cons (ok_con (spec_l1New.con k)) (all_cons (ok_con (spec_l24Draw.con k)) all_nil)) mixed Try.func103 (by kernel_rfl) all_nil fun x => by kernel_rfl
end spec_DrawIsGame

namespace spec_DrawBestFor
def S : Sp := ⟨49, ⟨[57], [38], [.frz], .lent⟩, [.l .frz (.ints .u8)], [.agg .lent kd38]⟩
theorem con (k : Nat) : Con Try.prog S (f k) := con_fn (nt := 5) (live := []) (Λ := noL) tok (all_cons (ok_con (spec_DrawIsGame.con k)) all_nil) mixed Try.func49 (by kernel_rfl) all_nil fun x => by kernel_rfl
end spec_DrawBestFor

namespace impl_BestFor
def S : Sp := ⟨50, ⟨[38], [3], [.bor], .own⟩, [.agg .lent kd38], [.O]⟩
def live : List (Nat × List Nat) := [(5, [1, 3, 4, 16]), (100005, [2, 3])]
def G {R : Type} (k : Nat) : Glob R := mkG tt [impl_AutoMove.S.ent (impl_AutoMove.f k), impl_Playable.S.ent (impl_Playable.f k), impl_IsGame.S.ent (impl_IsGame.f k), impl_IsEnded.S.ent (impl_IsEnded.f k)] 35
def h5 : Hd := ⟨[.l (.ptr 0 0), .I, .I, .I], [.box [.I, .I, .b, .b, .V, .V, .I, .I, .W, .V, .V, .I, .I, .I]]⟩
def T5 {R : Type} (k : Nat) (K : X → St → Option R) : h5.Fn (Option R) := fun v0 v1 v2 v3 v4 v5 v6 v7 v8 v9 v10 v11 v12 v13 v14 v15 v16 => l5 k v3 v4 v5 v6 v7 v8 v9 v10 v11 v12 v13 v14 v15 v16 (fun p0 => K (.exit 0) (stOf [2, 3] [.one (.l (.any)), .one (.l (.i .i64 p0))] [])) k v0 v1 v2
def tab {R : Type} (k : Nat) : LTab R := fun id K vs hs => bif id == 5 then h5.tell vs hs (T5 k K) else none
theorem fit5 {R : Type} (k : Nat) : Fit (R := R) (G k) live (tab k) (bl Try.f50 0) := h5.fit (key := 5) (by kernel_rfl) (T5 k) (fun _ _ _ => rfl) fun K r v0 v1 v2 v3 v4 v5 v6 v7 v8 v9 v10 v11 v12 v13 v14 v15 v16 h => fit_mk h (fun a => h5.mk' a.1 a.2.1 (t2 a) v3 v4 v5 v6 v7 v8 v9 v10 v11 v12 v13 v14 v15 v16) (fun v0 v1 v2 _ _ _ _ _ _ _ _ _ _ _ _ _ _ => some (v0, v1, v2)) (by kernel_rfl) (fun _ => by kernel_rfl) fun Lp a => by kernel_rfl
theorem con (k : Nat) : Con Try.prog S (f k) := con_fn (nt := 35) (live := live) (Λ := tab k) tok (all_cons (ok_con (impl_AutoMove.con k)) (all_cons (ok_con (impl_Playable.con k)) (all_cons (ok_con (impl_IsGame.con k)) (all_cons (ok_con (impl_IsEnded.con k)) all_nil)))) mixed Try.func50 (by kernel_rfl) (all_cons (fit5 k) all_nil) fun x => by kernel_rfl
end impl_BestFor

namespace laws_FnChoosing
def S : Sp := ⟨8, ⟨[57], [4], [.frz], .own⟩, [.l .frz (.ints .u8)], [.B]⟩
def live : List (Nat × List Nat) := [(13, [0, 8, 9, 10, 11, 12]), (100013, [0, 2, 8, 9])]
def G {R : Type} (k : Nat) : Glob R := mkG tt [laws_big.S.ent (laws_big.f k), laws_sum.S.ent (laws_sum.f k), spec_DrawAutoMove.S.ent (spec_DrawAutoMove.f k), impl_ChoiceOf.S.ent (impl_ChoiceOf.f k), impl_AutoMove.S.ent (impl_AutoMove.f k), laws_contains.S.ent (laws_contains.f k), impl_Playable.S.ent (impl_Playable.f k), impl_IsGame.S.ent (impl_IsGame.f k), impl_IsEnded.S.ent (impl_IsEnded.f k), spec_DrawSuitCounts.S.ent (spec_DrawSuitCounts.f k), impl_SuitCounts.S.ent (impl_SuitCounts.f k), spec_DrawMostOf.S.ent (spec_DrawMostOf.f k), impl_MostOf.S.ent (impl_MostOf.f k), spec_DrawBestFor.S.ent (spec_DrawBestFor.f k), impl_BestFor.S.ent (impl_BestFor.f k), impl_IsHand.S.ent (impl_IsHand.f k)] 115
def h13 : Hd := ⟨[.l (.val true false (.ints .u8)), .l (.own 0), .l (.own 1), .l (.own 2), .I, .I], [.V, .V, .V]⟩
def T13 {R : Type} (k : Nat) (K : X → St → Option R) : h13.Fn (Option R) := fun v0 v1 v2 v3 v4 v5 => l13 k v1 v5 (K .ret (stOf [0, 2, 8, 9] [.one (.l (.val true (.ints .u8 v0))), .one (.l (.b false)), .one (.l (.own 0)), .one (.l (.own 1))] [some (.row 0 0 (.ints .i64 v3)), some (.row 0 0 (.ints .i64 v4))])) (K (.exit 0) (stOf [0, 2, 8, 9] [.one (.l (.val true (.ints .u8 v0))), .one (.l (.any)), .one (.l (.own 0)), .one (.l (.own 1))] [some (.row 0 0 (.ints .i64 v3)), some (.row 0 0 (.ints .i64 v4))])) k v2
def tab {R : Type} (k : Nat) : LTab R := fun id K vs hs => bif id == 13 then h13.tell vs hs (T13 k K) else none
theorem fit13 {R : Type} (k : Nat) : Fit (R := R) (G k) live (tab k) (bl Try.f8 0) := h13.fit (key := 13) (by kernel_rfl) (T13 k) (fun _ _ _ => rfl) fun K r v0 v1 v2 v3 v4 v5 h => fit_mk h (fun a => h13.mk' v0 v1 a v3 v4 v5) (fun _ _ v2 _ _ _ => some v2) (by kernel_rfl) (fun _ => by kernel_rfl) fun Lp a => by kernel_rfl
theorem con (k : Nat) : Con Try.prog S (f k) := con_fn (nt := 115) (live := live) (Λ := tab k) tok (all_cons (ok_con (laws_big.con k)) (all_cons (ok_con (laws_sum.con k)) (all_cons (ok_con (spec_DrawAutoMove.con k)) (all_cons (ok_con (impl_ChoiceOf.con k)) (all_cons (ok_con (impl_AutoMove.con k)) (all_cons (ok_con (laws_contains.con k)) (all_cons (ok_con (impl_Playable.con k)) (all_cons (ok_con (impl_IsGame.con k)) (all_cons (ok_con (impl_IsEnded.con k)) (all_cons (ok_con (spec_DrawSuitCounts.con k)) (all_cons (ok_con (impl_SuitCounts.con k)) (all_cons (ok_con (spec_DrawMostOf.con k)) (all_cons (ok_con (impl_MostOf.con k)) (all_cons (ok_con (spec_DrawBestFor.con k)) (all_cons (ok_con (impl_BestFor.con k)) (all_cons (ok_con (impl_IsHand.con k)) all_nil)))))))))))))))) mixed Try.func8 (by kernel_rfl) (all_cons (fit13 k) all_nil) fun x => by kernel_rfl
end laws_FnChoosing
end Go.Proofs.Ytfmmdbnkeadieaa
