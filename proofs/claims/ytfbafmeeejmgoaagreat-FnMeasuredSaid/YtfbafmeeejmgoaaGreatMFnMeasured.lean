/- That the Go functions come to the answers of the plain ones. Printed by a program. -/
import Derived.Test.YtfbafmeeejmgoaaGreatT
import Derived.Test.YtfbafmeeejmgoaaGreatFFnMeasured
set_option linter.unusedVariables false
set_option maxRecDepth 100000
set_option maxHeartbeats 20000000
namespace Go.Proofs.YtfbafmeeejmgoaaGreat
open Go Go.Proofs.YtfbafmeeejmgoaaGreat.V Go.Proofs.YtfbafmeeejmgoaaGreat.M

namespace laws_big
def S : Sp := ⟨5, ⟨[22], [4], [.frz], .own⟩, [.l .frz (.ints .u8)], [.B]⟩
theorem con (k : Nat) : Con Tryz.prog S (f k) := con_fn (nt := 6) (live := []) (Λ := noL) tok all_nil mixed Tryz.func5 (by kernel_rfl) all_nil fun x => by kernel_rfl
end laws_big

namespace spec_l1New
def S : Sp := ⟨61, ⟨[22], [78], [.frz], .own⟩, [.l .frz (.ints .u8)], [.ptr kd108]⟩
def live : List (Nat × List Nat) := [(3, [0, 3, 4]), (100003, [0, 2, 3])]
def G {R : Type} (k : Nat) : Glob R := mkG tt [] 32
def h3 : Hd := ⟨[.l (.val true false (.ints .u8)), .I, .I], []⟩
def T3 {R : Type} (k : Nat) (K : X → St → Option R) : h3.Fn (Option R) := fun v0 v1 v2 => l3 k v0 (fun p0 => K (.exit 0) (stOf [0, 2, 3] [.one (.l (.val true (.ints .u8 v0))), .one (.l (.any)), .one (.l (.i .i64 p0))] [])) k v1 v2
def tab {R : Type} (k : Nat) : LTab R := fun id K vs hs => bif id == 3 then h3.tell vs hs (T3 k K) else none
theorem fit3 {R : Type} (k : Nat) : Fit (R := R) (G k) live (tab k) (bl Tryz.f61 0) := h3.fit (key := 3) (by kernel_rfl) (T3 k) (fun _ _ _ => rfl) fun K r v0 v1 v2 h => fit_mk h (fun a => h3.mk' v0 a.1 a.2) (fun _ v1 v2 => some (v1, v2)) (by kernel_rfl) (fun _ => by kernel_rfl) fun Lp a => by kernel_rfl
theorem con (k : Nat) : Con Tryz.prog S (f k) := con_fn (nt := 32) (live := live) (Λ := tab k) tok all_nil mixed Tryz.func61 (by kernel_rfl) (all_cons (fit3 k) all_nil) fun x => by kernel_rfl
end spec_l1New

namespace spec_l1Byte
def S : Sp := ⟨111, ⟨[78], [3], [.io], .own⟩, [.ptr kd108], [.O, .ptr kd108]⟩
theorem con (k : Nat) : Con Tryz.prog S (f k) := con_fn (nt := 58) (live := []) (Λ := noL) tok all_nil mixed Tryz.func111 (by kernel_rfl) all_nil fun x => by kernel_rfl
end spec_l1Byte

namespace spec_l1Below
def S : Sp := ⟨67, ⟨[78, 3], [3], [.io, .bor], .own⟩, [.ptr kd108, .I], [.O, .ptr kd108]⟩
theorem con (k : Nat) : Con Tryz.prog S (f k) := con_fn (nt := 31) (live := []) (Λ := noL) tok (all_cons (ok_con (spec_l1Byte.con k)) all_nil) mixed Tryz.func67 (by kernel_rfl) all_nil fun x => by kernel_rfl
end spec_l1Below

namespace spec_l1Int
def S : Sp := ⟨68, ⟨[78, 32], [3], [.io, .bor], .own⟩, [.ptr kd108, .V], [.O, .ptr kd108]⟩
theorem con (k : Nat) : Con Tryz.prog S (f k) := con_fn (nt := 12) (live := []) (Λ := noL) tok (all_cons (ok_con (spec_l1Below.con k)) all_nil) mixed Tryz.func68 (by kernel_rfl) all_nil fun x => by kernel_rfl
end spec_l1Int

namespace spec_l1In
def S : Sp := ⟨143, ⟨[3, 3, 3], [4], [.bor, .bor, .bor], .own⟩, [.I, .I, .I], [.B]⟩
theorem con (k : Nat) : Con Tryz.prog S (f k) := con_fn (nt := 15) (live := []) (Λ := noL) tok all_nil mixed Tryz.func143 (by kernel_rfl) all_nil fun x => by kernel_rfl
end spec_l1In

namespace spec_FromTricks
def S : Sp := ⟨148, ⟨[32], [32], [.bor], .own⟩, [.V], [.l .own (.ints .i64)]⟩
def live : List (Nat × List Nat) := [(3, [0, 3, 4]), (100003, [0, 2, 3]), (10, [0, 3, 5, 6]), (100010, [2, 5])]
def G {R : Type} (k : Nat) : Glob R := mkG tt [spec_l1In.S.ent (spec_l1In.f k)] 51
def h3 : Hd := ⟨[.V, .I, .I], []⟩
def T3 {R : Type} (k : Nat) (K : X → St → Option R) : h3.Fn (Option R) := fun v0 v1 v2 => l3 k v0 (fun p0 p1 => K .ret (stOf [0, 2, 3] [.one (.l (.val false (.ints .i64 v0))), .one (.l (.own 0)), .one (.l (.i .i64 p0))] [some (.row 0 0 (.ints .i64 p1))])) (fun p0 => K (.exit 0) (stOf [0, 2, 3] [.one (.l (.val false (.ints .i64 v0))), .one (.l (.any)), .one (.l (.i .i64 p0))] [])) k v1 v2
def h10 : Hd := ⟨[.V, .I, .l (.own 0), .I], [.V]⟩
def T10 {R : Type} (k : Nat) (K : X → St → Option R) : h10.Fn (Option R) := fun v0 v1 v2 v3 => l10 k v0 v1 (fun p0 => K (.exit 2) (stOf [2, 5] [.one (.l (.any)), .one (.l (.own 0))] [some (.row 0 0 (.ints .i64 p0))])) k v2 v3
def tab {R : Type} (k : Nat) : LTab R := fun id K vs hs => bif id == 3 then h3.tell vs hs (T3 k K) else bif id == 10 then h10.tell vs hs (T10 k K) else none
theorem fit3 {R : Type} (k : Nat) : Fit (R := R) (G k) live (tab k) (bl Tryz.f148 0) := h3.fit (key := 3) (by kernel_rfl) (T3 k) (fun _ _ _ => rfl) fun K r v0 v1 v2 h => fit_mk h (fun a => h3.mk' v0 a.1 a.2) (fun _ v1 v2 => some (v1, v2)) (by kernel_rfl) (fun _ => by kernel_rfl) fun Lp a => by kernel_rfl
theorem fit10 {R : Type} (k : Nat) : Fit (R := R) (G k) live (tab k) (bl Tryz.f148 1) := h10.fit (key := 10) (by kernel_rfl) (T10 k) (fun _ _ _ => rfl) fun K r v0 v1 v2 v3 h => fit_mk h (fun a => h10.mk' v0 v1 a.1 a.2) (fun _ _ v2 v3 => some (v2, v3)) (by kernel_rfl) (fun _ => by kernel_rfl) fun Lp a => by kernel_rfl
theorem con (k : Nat) : Con Tryz.prog S (f k) := con_fn (nt := 51) (live := live) (Λ := tab k) tok (all_cons (ok_con (spec_l1In.con k)) all_nil) mixed Tryz.func148 (by kernel_rfl) (all_cons (fit3 k) (all_cons (fit10 k) all_nil)) fun x => by kernel_rfl
end spec_FromTricks

namespace spec_l15Round
def S : Sp := ⟨115, ⟨[78, 3], [32], [.io, .bor], .own⟩, [.ptr kd108, .I], [.l .own (.ints .i64), .ptr kd108]⟩
def live : List (Nat × List Nat) := [(3, [0, 1, 5, 6, 20]), (100003, [4, 5, 20])]
def G {R : Type} (k : Nat) : Glob R := mkG tt [spec_l1Below.S.ent (spec_l1Below.f k), spec_FromTricks.S.ent (spec_FromTricks.f k)] 20
def h3 : Hd := ⟨[.l (.ptr 0 0), .I, .l (.own 1), .I, .l (.ptr 0 0)], [.box [.val true false (.ints .u8), .I, .I], .V]⟩
def T3 {R : Type} (k : Nat) (K : X → St → Option R) : h3.Fn (Option R) := fun v0 v1 v2 v3 v4 v5 => l3 k v0 (fun p0 p1 p2 p3 => K (.exit 0) (stOf [4, 5, 20] [.one (.l (.any)), .one (.l (.own 0)), .one (.l (.bptr 1 0))] [some (.row 0 0 (.ints .i64 p0)), some (.box 0 [.val true (.ints .u8 p1), .i .i64 p2, .i .i64 p3])])) k v1 v2 v3 v4 v5
def tab {R : Type} (k : Nat) : LTab R := fun id K vs hs => bif id == 3 then h3.tell vs hs (T3 k K) else none
theorem fit3 {R : Type} (k : Nat) : Fit (R := R) (G k) live (tab k) (bl Tryz.f115 0) := h3.fit (key := 3) (by kernel_rfl) (T3 k) (fun _ _ _ => rfl) fun K r v0 v1 v2 v3 v4 v5 h => fit_mk h (fun a => h3.mk' v0 a.1 a.2.1 (t2 a).1 (t3 a).1 (t4 a)) (fun _ v1 v2 v3 v4 v5 => some (v1, v2, v3, v4, v5)) (by kernel_rfl) (fun _ => by kernel_rfl) fun Lp a => by kernel_rfl
theorem con (k : Nat) : Con Tryz.prog S (f k) := con_fn (nt := 20) (live := live) (Λ := tab k) tok (all_cons (ok_con (spec_l1Below.con k)) (all_cons (ok_con (spec_FromTricks.con k)) all_nil)) mixed Tryz.func115 (by kernel_rfl) (all_cons (fit3 k) all_nil) fun x => by kernel_rfl
end spec_l15Round

namespace spec_l15Any
def S : Sp := ⟨73, ⟨[78], [3, 24], [.io], .own⟩, [.ptr kd108], [.O, .l .own .rows, .ptr kd108]⟩
def live : List (Nat × List Nat) := [(4, [0, 4, 5, 6, 44]), (100004, [0, 2, 3, 4, 5, 44])]
def G {R : Type} (k : Nat) : Glob R := mkG tt [spec_l1Below.S.ent (spec_l1Below.f k), spec_l1Int.S.ent (spec_l1Int.f k), spec_l15Round.S.ent (spec_l15Round.f k)] 44
def h4 : Hd := ⟨[.l (.ptr 0 0), .I, .l (.own 1), .I, .l (.ptr 0 0)], [.box [.val true false (.ints .u8), .I, .I], .W]⟩
def T4 {R : Type} (k : Nat) (K : X → St → Option R) : h4.Fn (Option R) := fun v0 v1 v2 v3 v4 v5 => l4 k v0 (fun p0 p1 p2 p3 => K (.exit 0) (stOf [0, 2, 3, 4, 5, 44] [.one (.l (.bptr 0 0)), .one (.l (.any)), .one (.l (.any)), .one (.l (.i .i64 v0)), .one (.l (.own 1)), .one (.l (.bptr 0 0))] [some (.box 0 [.val true (.ints .u8 p0), .i .i64 p1, .i .i64 p2]), some (.row 0 0 (.rows true p3))])) k v1 v2 v3 v4 v5
def tab {R : Type} (k : Nat) : LTab R := fun id K vs hs => bif id == 4 then h4.tell vs hs (T4 k K) else none
theorem fit4 {R : Type} (k : Nat) : Fit (R := R) (G k) live (tab k) (bl Tryz.f73 0) := h4.fit (key := 4) (by kernel_rfl) (T4 k) (fun _ _ _ => rfl) fun K r v0 v1 v2 v3 v4 v5 h => fit_mk h (fun a => h4.mk' v0 a.1 a.2.1 (t2 a).1 (t3 a).1 (t4 a)) (fun _ v1 v2 v3 v4 v5 => some (v1, v2, v3, v4, v5)) (by kernel_rfl) (fun _ => by kernel_rfl) fun Lp a => by kernel_rfl
theorem con (k : Nat) : Con Tryz.prog S (f k) := con_fn (nt := 44) (live := live) (Λ := tab k) tok (all_cons (ok_con (spec_l1Below.con k)) (all_cons (ok_con (spec_l1Int.con k)) (all_cons (ok_con (spec_l15Round.con k)) all_nil))) mixed Tryz.func73 (by kernel_rfl) (all_cons (fit4 k) all_nil) fun x => by kernel_rfl
end spec_l15Any

namespace spec_DrawIsSheet
def S : Sp := ⟨30, ⟨[22], [3, 24], [.frz], .own⟩, [.l .frz (.ints .u8)], [.O, .l .own .rows]⟩
theorem con (k : Nat) : Con Tryz.prog S (f k) := con_fn (nt := 11) (live := []) (Λ := noL) tok (all_cons (ok_con (spec_l1New.con k)) (all_cons (ok_con (spec_l15Any.con k)) all_nil)) mixed Tryz.func30 (by kernel_rfl) all_nil fun x => by kernel_rfl
end spec_DrawIsSheet

namespace spec_DrawAverageMoves
def S : Sp := ⟨6, ⟨[22], [24], [.frz], .own⟩, [.l .frz (.ints .u8)], [.l .own .rows]⟩
theorem con (k : Nat) : Con Tryz.prog S (f k) := con_fn (nt := 11) (live := []) (Λ := noL) tok (all_cons (ok_con (spec_DrawIsSheet.con k)) all_nil) mixed Tryz.func6 (by kernel_rfl) all_nil fun x => by kernel_rfl
end spec_DrawAverageMoves

namespace impl_TotalCards
def S : Sp := ⟨31, ⟨[24], [3], [.bor], .own⟩, [.l .lent .rows], [.O]⟩
def live : List (Nat × List Nat) := [(3, [3, 6, 7, 8]), (100003, [2, 3])]
def G {R : Type} (k : Nat) : Glob R := mkG tt [] 18
def h3 : Hd := ⟨[.I, .W, .I, .I], []⟩
def T3 {R : Type} (k : Nat) (K : X → St → Option R) : h3.Fn (Option R) := fun v0 v1 v2 v3 => l3 k v1 v2 (fun p0 => K (.exit 0) (stOf [2, 3] [.one (.l (.any)), .one (.l (.i .i64 p0))] [])) k v0 v3
def tab {R : Type} (k : Nat) : LTab R := fun id K vs hs => bif id == 3 then h3.tell vs hs (T3 k K) else none
theorem fit3 {R : Type} (k : Nat) : Fit (R := R) (G k) live (tab k) (bl Tryz.f31 0) := h3.fit (key := 3) (by kernel_rfl) (T3 k) (fun _ _ _ => rfl) fun K r v0 v1 v2 v3 h => fit_mk h (fun a => h3.mk' a.1 v1 v2 a.2) (fun v0 _ _ v3 => some (v0, v3)) (by kernel_rfl) (fun _ => by kernel_rfl) fun Lp a => by kernel_rfl
theorem con (k : Nat) : Con Tryz.prog S (f k) := con_fn (nt := 18) (live := live) (Λ := tab k) tok all_nil mixed Tryz.func31 (by kernel_rfl) (all_cons (fit3 k) all_nil) fun x => by kernel_rfl
end impl_TotalCards

namespace impl_AverageMoves
def S : Sp := ⟨7, ⟨[24], [3], [.bor], .own⟩, [.l .lent .rows], [.O]⟩
theorem con (k : Nat) : Con Tryz.prog S (f k) := con_fn (nt := 11) (live := []) (Λ := noL) tok (all_cons (ok_con (impl_TotalCards.con k)) all_nil) mixed Tryz.func7 (by kernel_rfl) all_nil fun x => by kernel_rfl
end impl_AverageMoves

namespace spec_DrawTotalOf
def S : Sp := ⟨32, ⟨[22], [3, 24, 3], [.frz], .own⟩, [.l .frz (.ints .u8)], [.O, .l .own .rows, .O]⟩
theorem con (k : Nat) : Con Tryz.prog S (f k) := con_fn (nt := 20) (live := []) (Λ := noL) tok (all_cons (ok_con (spec_l1New.con k)) (all_cons (ok_con (spec_l1Below.con k)) (all_cons (ok_con (spec_l15Any.con k)) all_nil))) mixed Tryz.func32 (by kernel_rfl) all_nil fun x => by kernel_rfl
end spec_DrawTotalOf

namespace spec_DrawWinsOf
def S : Sp := ⟨8, ⟨[22], [3, 24, 3], [.frz], .own⟩, [.l .frz (.ints .u8)], [.O, .l .own .rows, .O]⟩
theorem con (k : Nat) : Con Tryz.prog S (f k) := con_fn (nt := 10) (live := []) (Λ := noL) tok (all_cons (ok_con (spec_DrawTotalOf.con k)) all_nil) mixed Tryz.func8 (by kernel_rfl) all_nil fun x => by kernel_rfl
end spec_DrawWinsOf

namespace impl_InRange
def S : Sp := ⟨34, ⟨[3, 3, 3], [4], [.bor, .bor, .bor], .own⟩, [.I, .I, .I], [.B]⟩
theorem con (k : Nat) : Con Tryz.prog S (f k) := con_fn (nt := 15) (live := []) (Λ := noL) tok all_nil mixed Tryz.func34 (by kernel_rfl) all_nil fun x => by kernel_rfl
end impl_InRange

namespace impl_allIn
def S : Sp := ⟨116, ⟨[32, 3, 3], [4], [.bor, .bor, .bor], .own⟩, [.V, .I, .I], [.B]⟩
def live : List (Nat × List Nat) := [(2, [1, 2, 9, 10, 11]), (100002, [6])]
def G {R : Type} (k : Nat) : Glob R := mkG tt [impl_InRange.S.ent (impl_InRange.f k)] 21
def h2 : Hd := ⟨[.I, .I, .V, .I, .I], []⟩
def T2 {R : Type} (k : Nat) (K : X → St → Option R) : h2.Fn (Option R) := fun v0 v1 v2 v3 v4 => l2 k v0 v1 v2 v3 (K .ret (stOf [6] [.one (.l (.b false))] [])) (K (.exit 0) (stOf [6] [.one (.l (.any))] [])) k v4
def tab {R : Type} (k : Nat) : LTab R := fun id K vs hs => bif id == 2 then h2.tell vs hs (T2 k K) else none
theorem fit2 {R : Type} (k : Nat) : Fit (R := R) (G k) live (tab k) (bl Tryz.f116 0) := h2.fit (key := 2) (by kernel_rfl) (T2 k) (fun _ _ _ => rfl) fun K r v0 v1 v2 v3 v4 h => fit_mk h (fun a => h2.mk' v0 v1 v2 v3 a) (fun _ _ _ _ v4 => some v4) (by kernel_rfl) (fun _ => by kernel_rfl) fun Lp a => by kernel_rfl
theorem con (k : Nat) : Con Tryz.prog S (f k) := con_fn (nt := 21) (live := live) (Λ := tab k) tok (all_cons (ok_con (impl_InRange.con k)) all_nil) mixed Tryz.func116 (by kernel_rfl) (all_cons (fit2 k) all_nil) fun x => by kernel_rfl
end impl_allIn

namespace impl_sum
def S : Sp := ⟨117, ⟨[32], [3], [.bor], .own⟩, [.V], [.O]⟩
def live : List (Nat × List Nat) := [(3, [3, 6, 7, 8]), (100003, [2, 3])]
def G {R : Type} (k : Nat) : Glob R := mkG tt [] 17
def h3 : Hd := ⟨[.I, .V, .I, .I], []⟩
def T3 {R : Type} (k : Nat) (K : X → St → Option R) : h3.Fn (Option R) := fun v0 v1 v2 v3 => l3 k v1 v2 (fun p0 => K (.exit 0) (stOf [2, 3] [.one (.l (.any)), .one (.l (.i .i64 p0))] [])) k v0 v3
def tab {R : Type} (k : Nat) : LTab R := fun id K vs hs => bif id == 3 then h3.tell vs hs (T3 k K) else none
theorem fit3 {R : Type} (k : Nat) : Fit (R := R) (G k) live (tab k) (bl Tryz.f117 0) := h3.fit (key := 3) (by kernel_rfl) (T3 k) (fun _ _ _ => rfl) fun K r v0 v1 v2 v3 h => fit_mk h (fun a => h3.mk' a.1 v1 v2 a.2) (fun v0 _ _ v3 => some (v0, v3)) (by kernel_rfl) (fun _ => by kernel_rfl) fun Lp a => by kernel_rfl
theorem con (k : Nat) : Con Tryz.prog S (f k) := con_fn (nt := 17) (live := live) (Λ := tab k) tok all_nil mixed Tryz.func117 (by kernel_rfl) (all_cons (fit3 k) all_nil) fun x => by kernel_rfl
end impl_sum

namespace impl_IsRound
def S : Sp := ⟨74, ⟨[3, 32], [4], [.bor, .bor], .own⟩, [.I, .V], [.B]⟩
theorem con (k : Nat) : Con Tryz.prog S (f k) := con_fn (nt := 22) (live := []) (Λ := noL) tok (all_cons (ok_con (impl_InRange.con k)) (all_cons (ok_con (impl_allIn.con k)) (all_cons (ok_con (impl_sum.con k)) all_nil))) mixed Tryz.func74 (by kernel_rfl) all_nil fun x => by kernel_rfl
end impl_IsRound

namespace impl_IsSheet
def S : Sp := ⟨33, ⟨[3, 24], [4], [.bor, .bor], .own⟩, [.I, .l .lent .rows], [.B]⟩
def live : List (Nat × List Nat) := [(2, [0, 1, 7, 8, 9]), (100002, [0, 1, 4])]
def G {R : Type} (k : Nat) : Glob R := mkG tt [impl_InRange.S.ent (impl_InRange.f k), impl_IsRound.S.ent (impl_IsRound.f k)] 25
def h2 : Hd := ⟨[.I, .W, .W, .I, .I], []⟩
def T2 {R : Type} (k : Nat) (K : X → St → Option R) : h2.Fn (Option R) := fun v0 v1 v2 v3 v4 => l2 k v0 v2 v3 (K .ret (stOf [0, 1, 4] [.one (.l (.i .i64 v0)), .one (.l (.val false (.rows false v1))), .one (.l (.b false))] [])) (K (.exit 0) (stOf [0, 1, 4] [.one (.l (.i .i64 v0)), .one (.l (.val false (.rows false v1))), .one (.l (.any))] [])) k v4
def tab {R : Type} (k : Nat) : LTab R := fun id K vs hs => bif id == 2 then h2.tell vs hs (T2 k K) else none
theorem fit2 {R : Type} (k : Nat) : Fit (R := R) (G k) live (tab k) (bl Tryz.f33 0) := h2.fit (key := 2) (by kernel_rfl) (T2 k) (fun _ _ _ => rfl) fun K r v0 v1 v2 v3 v4 h => fit_mk h (fun a => h2.mk' v0 v1 v2 v3 a) (fun _ _ _ _ v4 => some v4) (by kernel_rfl) (fun _ => by kernel_rfl) fun Lp a => by kernel_rfl
theorem con (k : Nat) : Con Tryz.prog S (f k) := con_fn (nt := 25) (live := live) (Λ := tab k) tok (all_cons (ok_con (impl_InRange.con k)) (all_cons (ok_con (impl_IsRound.con k)) all_nil)) mixed Tryz.func33 (by kernel_rfl) (all_cons (fit2 k) all_nil) fun x => by kernel_rfl
end impl_IsSheet

namespace impl_WinsOf
def S : Sp := ⟨9, ⟨[3, 24, 3], [3], [.bor, .bor, .bor], .own⟩, [.I, .l .lent .rows, .I], [.O]⟩
def live : List (Nat × List Nat) := [(5, [2, 7, 21, 22, 23]), (100005, [6, 7])]
def G {R : Type} (k : Nat) : Glob R := mkG tt [impl_IsSheet.S.ent (impl_IsSheet.f k), impl_InRange.S.ent (impl_InRange.f k)] 36
def h5 : Hd := ⟨[.I, .I, .W, .I, .I], []⟩
def T5 {R : Type} (k : Nat) (K : X → St → Option R) : h5.Fn (Option R) := fun v0 v1 v2 v3 v4 => l5 k v0 v2 v3 (fun p0 => K (.exit 0) (stOf [6, 7] [.one (.l (.any)), .one (.l (.i .i64 p0))] [])) k v1 v4
def tab {R : Type} (k : Nat) : LTab R := fun id K vs hs => bif id == 5 then h5.tell vs hs (T5 k K) else none
theorem fit5 {R : Type} (k : Nat) : Fit (R := R) (G k) live (tab k) (bl Tryz.f9 0) := h5.fit (key := 5) (by kernel_rfl) (T5 k) (fun _ _ _ => rfl) fun K r v0 v1 v2 v3 v4 h => fit_mk h (fun a => h5.mk' v0 a.1 v2 v3 a.2) (fun _ v1 _ _ v4 => some (v1, v4)) (by kernel_rfl) (fun _ => by kernel_rfl) fun Lp a => by kernel_rfl
theorem con (k : Nat) : Con Tryz.prog S (f k) := con_fn (nt := 36) (live := live) (Λ := tab k) tok (all_cons (ok_con (impl_IsSheet.con k)) (all_cons (ok_con (impl_InRange.con k)) all_nil)) mixed Tryz.func9 (by kernel_rfl) (all_cons (fit5 k) all_nil) fun x => by kernel_rfl
end impl_WinsOf

namespace impl_IsBase
def S : Sp := ⟨75, ⟨[32], [4], [.bor], .own⟩, [.V], [.B]⟩
theorem con (k : Nat) : Con Tryz.prog S (f k) := con_fn (nt := 10) (live := []) (Λ := noL) tok (all_cons (ok_con (impl_allIn.con k)) all_nil) mixed Tryz.func75 (by kernel_rfl) all_nil fun x => by kernel_rfl
end impl_IsBase

namespace impl_IsCard
def S : Sp := ⟨90, ⟨[3], [4], [.bor], .own⟩, [.I], [.B]⟩
theorem con (k : Nat) : Con Tryz.prog S (f k) := con_fn (nt := 5) (live := []) (Λ := noL) tok (all_cons (ok_con (impl_InRange.con k)) all_nil) mixed Tryz.func90 (by kernel_rfl) all_nil fun x => by kernel_rfl
end impl_IsCard

namespace impl_RankOf
def S : Sp := ⟨91, ⟨[3], [3], [.bor], .own⟩, [.I], [.O]⟩
theorem con (k : Nat) : Con Tryz.prog S (f k) := con_fn (nt := 8) (live := []) (Λ := noL) tok (all_cons (ok_con (impl_IsCard.con k)) all_nil) mixed Tryz.func91 (by kernel_rfl) all_nil fun x => by kernel_rfl
end impl_RankOf

namespace impl_StepOf
def S : Sp := ⟨77, ⟨[3], [3], [.bor], .own⟩, [.I], [.O]⟩
theorem con (k : Nat) : Con Tryz.prog S (f k) := con_fn (nt := 13) (live := []) (Λ := noL) tok (all_cons (ok_con (impl_RankOf.con k)) all_nil) mixed Tryz.func77 (by kernel_rfl) all_nil fun x => by kernel_rfl
end impl_StepOf

namespace impl_SuitOf
def S : Sp := ⟨78, ⟨[3], [3], [.bor], .own⟩, [.I], [.O]⟩
theorem con (k : Nat) : Con Tryz.prog S (f k) := con_fn (nt := 8) (live := []) (Λ := noL) tok (all_cons (ok_con (impl_IsCard.con k)) all_nil) mixed Tryz.func78 (by kernel_rfl) all_nil fun x => by kernel_rfl
end impl_SuitOf

namespace impl_BaseCards
def S : Sp := ⟨36, ⟨[32], [32], [.bor], .own⟩, [.V], [.l .own (.ints .i64)]⟩
def live : List (Nat × List Nat) := [(5, [0, 3, 9]), (100005, [2, 3])]
def G {R : Type} (k : Nat) : Glob R := mkG tt [impl_IsBase.S.ent (impl_IsBase.f k), impl_StepOf.S.ent (impl_StepOf.f k), impl_SuitOf.S.ent (impl_SuitOf.f k)] 26
def h5 : Hd := ⟨[.V, .l (.own 0), .I], [.V]⟩
def T5 {R : Type} (k : Nat) (K : X → St → Option R) : h5.Fn (Option R) := fun v0 v1 v2 => l5 k v0 (fun p0 => K (.exit 0) (stOf [2, 3] [.one (.l (.any)), .one (.l (.own 0))] [some (.row 0 0 (.ints .i64 p0))])) k v1 v2
def tab {R : Type} (k : Nat) : LTab R := fun id K vs hs => bif id == 5 then h5.tell vs hs (T5 k K) else none
theorem fit5 {R : Type} (k : Nat) : Fit (R := R) (G k) live (tab k) (bl Tryz.f36 0) := h5.fit (key := 5) (by kernel_rfl) (T5 k) (fun _ _ _ => rfl) fun K r v0 v1 v2 h => fit_mk h (fun a => h5.mk' v0 a.1 a.2) (fun _ v1 v2 => some (v1, v2)) (by kernel_rfl) (fun _ => by kernel_rfl) fun Lp a => by kernel_rfl
theorem con (k : Nat) : Con Tryz.prog S (f k) := con_fn (nt := 26) (live := live) (Λ := tab k) tok (all_cons (ok_con (impl_IsBase.con k)) (all_cons (ok_con (impl_StepOf.con k)) (all_cons (ok_con (impl_SuitOf.con k)) all_nil))) mixed Tryz.func36 (by kernel_rfl) (all_cons (fit5 k) all_nil) fun x => by kernel_rfl
end impl_BaseCards

namespace impl_IsHand
def S : Sp := ⟨44, ⟨[32], [4], [.bor], .own⟩, [.V], [.B]⟩
def live : List (Nat × List Nat) := [(3, [3, 7, 8, 9]), (100003, [2])]
def G {R : Type} (k : Nat) : Glob R := mkG tt [impl_IsCard.S.ent (impl_IsCard.f k)] 24
def h3 : Hd := ⟨[.l (.arr 0 52), .V, .I, .I], [.row false .bools]⟩
def T3 {R : Type} (k : Nat) (K : X → St → Option R) : h3.Fn (Option R) := fun v0 v1 v2 v3 => l3 k v0 v1 (K .ret (stOf [2] [.one (.l (.b false))] [])) (K (.exit 0) (stOf [2] [.one (.l (.any))] [])) k v2 v3
def tab {R : Type} (k : Nat) : LTab R := fun id K vs hs => bif id == 3 then h3.tell vs hs (T3 k K) else none
theorem fit3 {R : Type} (k : Nat) : Fit (R := R) (G k) live (tab k) (bl Tryz.f44 0) := h3.fit (key := 3) (by kernel_rfl) (T3 k) (fun _ _ _ => rfl) fun K r v0 v1 v2 v3 h => fit_mk h (fun a => h3.mk' v0 v1 a.1 a.2) (fun _ _ v2 v3 => some (v2, v3)) (by kernel_rfl) (fun _ => by kernel_rfl) fun Lp a => by kernel_rfl
theorem con (k : Nat) : Con Tryz.prog S (f k) := con_fn (nt := 24) (live := live) (Λ := tab k) tok (all_cons (ok_con (impl_IsCard.con k)) all_nil) mixed Tryz.func44 (by kernel_rfl) (all_cons (fit3 k) all_nil) fun x => by kernel_rfl
end impl_IsHand

namespace impl_IsRed
def S : Sp := ⟨149, ⟨[3], [4], [.bor], .own⟩, [.I], [.B]⟩
theorem con (k : Nat) : Con Tryz.prog S (f k) := con_fn (nt := 11) (live := []) (Λ := noL) tok (all_cons (ok_con (impl_SuitOf.con k)) all_nil) mixed Tryz.func149 (by kernel_rfl) all_nil fun x => by kernel_rfl
end impl_IsRed

namespace impl_goesOn
def S : Sp := ⟨118, ⟨[3, 3], [4], [.bor, .bor], .own⟩, [.I, .I], [.B]⟩
theorem con (k : Nat) : Con Tryz.prog S (f k) := con_fn (nt := 18) (live := []) (Λ := noL) tok (all_cons (ok_con (impl_RankOf.con k)) (all_cons (ok_con (impl_IsRed.con k)) all_nil)) mixed Tryz.func118 (by kernel_rfl) all_nil fun x => by kernel_rfl
end impl_goesOn

namespace impl_IsPile
def S : Sp := ⟨76, ⟨[65], [4], [.bor], .own⟩, [.agg .lent kd65], [.B]⟩
def live : List (Nat × List Nat) := [(4, [1, 3]), (100004, [2])]
def G {R : Type} (k : Nat) : Glob R := mkG tt [impl_InRange.S.ent (impl_InRange.f k), impl_IsHand.S.ent (impl_IsHand.f k), impl_goesOn.S.ent (impl_goesOn.f k)] 40
def h4 : Hd := ⟨[.l (.ptr 0 0), .I], [.box [.V, .I]]⟩
def T4 {R : Type} (k : Nat) (K : X → St → Option R) : h4.Fn (Option R) := fun v0 v1 _ => l4 k v1 (K .ret (stOf [2] [.one (.l (.b false))] [])) (K (.exit 0) (stOf [2] [.one (.l (.any))] [])) k v0
def tab {R : Type} (k : Nat) : LTab R := fun id K vs hs => bif id == 4 then h4.tell vs hs (T4 k K) else none
theorem fit4 {R : Type} (k : Nat) : Fit (R := R) (G k) live (tab k) (bl Tryz.f76 0) := h4.fit (key := 4) (by kernel_rfl) (T4 k) (fun _ _ _ => rfl) fun K r v0 v1 v2 h => fit_mk h (fun a => h4.mk' a v1 v2) (fun v0 _ _ => some v0) (by kernel_rfl) (fun _ => by kernel_rfl) fun Lp a => by kernel_rfl
theorem con (k : Nat) : Con Tryz.prog S (f k) := con_fn (nt := 40) (live := live) (Λ := tab k) tok (all_cons (ok_con (impl_InRange.con k)) (all_cons (ok_con (impl_IsHand.con k)) (all_cons (ok_con (impl_goesOn.con k)) all_nil))) mixed Tryz.func76 (by kernel_rfl) (all_cons (fit4 k) all_nil) fun x => by kernel_rfl
end impl_IsPile

namespace impl_OpenCards
def S : Sp := ⟨37, ⟨[65], [3], [.bor], .own⟩, [.agg .lent kd65], [.O]⟩
theorem con (k : Nat) : Con Tryz.prog S (f k) := con_fn (nt := 12) (live := []) (Λ := noL) tok (all_cons (ok_con (impl_IsPile.con k)) all_nil) mixed Tryz.func37 (by kernel_rfl) all_nil fun x => by kernel_rfl
end impl_OpenCards

namespace impl_AllApart
def S : Sp := ⟨114, ⟨[24], [4], [.bor], .own⟩, [.l .lent .rows], [.B]⟩
def live : List (Nat × List Nat) := [(3, [3, 7, 8, 9]), (100003, [2, 3])]
def G {R : Type} (k : Nat) : Glob R := mkG tt [impl_IsHand.S.ent (impl_IsHand.f k)] 19
def h3 : Hd := ⟨[.l (.own 0), .W, .I, .I], [.V]⟩
def T3 {R : Type} (k : Nat) (K : X → St → Option R) : h3.Fn (Option R) := fun v0 v1 v2 v3 => l3 k v0 v1 (fun p0 => K (.exit 0) (stOf [2, 3] [.one (.l (.any)), .one (.l (.own 0))] [some (.row 0 0 (.ints .i64 p0))])) k v2 v3
def tab {R : Type} (k : Nat) : LTab R := fun id K vs hs => bif id == 3 then h3.tell vs hs (T3 k K) else none
theorem fit3 {R : Type} (k : Nat) : Fit (R := R) (G k) live (tab k) (bl Tryz.f114 0) := h3.fit (key := 3) (by kernel_rfl) (T3 k) (fun _ _ _ => rfl) fun K r v0 v1 v2 v3 h => fit_mk h (fun a => h3.mk' v0 v1 a.1 a.2) (fun _ _ v2 v3 => some (v2, v3)) (by kernel_rfl) (fun _ => by kernel_rfl) fun Lp a => by kernel_rfl
theorem con (k : Nat) : Con Tryz.prog S (f k) := con_fn (nt := 19) (live := live) (Λ := tab k) tok (all_cons (ok_con (impl_IsHand.con k)) all_nil) mixed Tryz.func114 (by kernel_rfl) (all_cons (fit3 k) all_nil) fun x => by kernel_rfl
end impl_AllApart

namespace impl_isWhole
def S : Sp := ⟨71, ⟨[24], [4], [.bor], .own⟩, [.l .lent .rows], [.B]⟩
theorem con (k : Nat) : Con Tryz.prog S (f k) := con_fn (nt := 10) (live := []) (Λ := noL) tok (all_cons (ok_con (impl_TotalCards.con k)) (all_cons (ok_con (impl_AllApart.con k)) all_nil)) mixed Tryz.func71 (by kernel_rfl) all_nil fun x => by kernel_rfl
end impl_isWhole

namespace impl_IsPatience
def S : Sp := ⟨35, ⟨[34], [4], [.bor], .own⟩, [.agg .lent kd34], [.B]⟩
def live : List (Nat × List Nat) := [(5, [3, 26, 27, 28]), (100005, [2, 3])]
def G {R : Type} (k : Nat) : Glob R := mkG tt [impl_InRange.S.ent (impl_InRange.f k), impl_BaseCards.S.ent (impl_BaseCards.f k), impl_OpenCards.S.ent (impl_OpenCards.f k), impl_isWhole.S.ent (impl_isWhole.f k), impl_IsBase.S.ent (impl_IsBase.f k), impl_IsPile.S.ent (impl_IsPile.f k)] 54
def h5 : Hd := ⟨[.l (.own 0), .l (.val false false (.recs [true, false])), .I, .I], [.row false .rows]⟩
def T5 {R : Type} (k : Nat) (K : X → St → Option R) : h5.Fn (Option R) := fun v0 v1 v2 v3 => l5 k v0 v1 (fun p0 => K .ret (stOf [2, 3] [.one (.l (.b false)), .one (.l (.own 0))] [some (.row 0 0 (.rows false p0))])) (fun p0 => K (.exit 0) (stOf [2, 3] [.one (.l (.any)), .one (.l (.own 0))] [some (.row 0 0 (.rows false p0))])) k v2 v3
def tab {R : Type} (k : Nat) : LTab R := fun id K vs hs => bif id == 5 then h5.tell vs hs (T5 k K) else none
theorem fit5 {R : Type} (k : Nat) : Fit (R := R) (G k) live (tab k) (bl Tryz.f35 0) := h5.fit (key := 5) (by kernel_rfl) (T5 k) (fun _ _ _ => rfl) fun K r v0 v1 v2 v3 h => fit_mk h (fun a => h5.mk' v0 v1 a.1 a.2) (fun _ _ v2 v3 => some (v2, v3)) (by kernel_rfl) (fun _ => by kernel_rfl) fun Lp a => by kernel_rfl
theorem con (k : Nat) : Con Tryz.prog S (f k) := con_fn (nt := 54) (live := live) (Λ := tab k) tok (all_cons (ok_con (impl_InRange.con k)) (all_cons (ok_con (impl_BaseCards.con k)) (all_cons (ok_con (impl_OpenCards.con k)) (all_cons (ok_con (impl_isWhole.con k)) (all_cons (ok_con (impl_IsBase.con k)) (all_cons (ok_con (impl_IsPile.con k)) all_nil)))))) mixed Tryz.func35 (by kernel_rfl) (all_cons (fit5 k) all_nil) fun x => by kernel_rfl
end impl_IsPatience

namespace impl_OpenShare
def S : Sp := ⟨10, ⟨[34], [3], [.bor], .own⟩, [.agg .lent kd34], [.O]⟩
def live : List (Nat × List Nat) := [(5, [3, 18, 19, 20]), (100005, [2, 3])]
def G {R : Type} (k : Nat) : Glob R := mkG tt [impl_IsPatience.S.ent (impl_IsPatience.f k), impl_BaseCards.S.ent (impl_BaseCards.f k), impl_OpenCards.S.ent (impl_OpenCards.f k)] 32
def h5 : Hd := ⟨[.I, .l (.val false false (.recs [true, false])), .I, .I], []⟩
def T5 {R : Type} (k : Nat) (K : X → St → Option R) : h5.Fn (Option R) := fun v0 v1 v2 v3 => l5 k v1 v2 (fun p0 => K (.exit 0) (stOf [2, 3] [.one (.l (.any)), .one (.l (.i .i64 p0))] [])) k v0 v3
def tab {R : Type} (k : Nat) : LTab R := fun id K vs hs => bif id == 5 then h5.tell vs hs (T5 k K) else none
theorem fit5 {R : Type} (k : Nat) : Fit (R := R) (G k) live (tab k) (bl Tryz.f10 0) := h5.fit (key := 5) (by kernel_rfl) (T5 k) (fun _ _ _ => rfl) fun K r v0 v1 v2 v3 h => fit_mk h (fun a => h5.mk' a.1 v1 v2 a.2) (fun v0 _ _ v3 => some (v0, v3)) (by kernel_rfl) (fun _ => by kernel_rfl) fun Lp a => by kernel_rfl
theorem con (k : Nat) : Con Tryz.prog S (f k) := con_fn (nt := 32) (live := live) (Λ := tab k) tok (all_cons (ok_con (impl_IsPatience.con k)) (all_cons (ok_con (impl_BaseCards.con k)) (all_cons (ok_con (impl_OpenCards.con k)) all_nil))) mixed Tryz.func10 (by kernel_rfl) (all_cons (fit5 k) all_nil) fun x => by kernel_rfl
end impl_OpenShare

namespace spec_l4Card
def S : Sp := ⟨66, ⟨[78], [3], [.io], .own⟩, [.ptr kd108], [.O, .ptr kd108]⟩
theorem con (k : Nat) : Con Tryz.prog S (f k) := con_fn (nt := 12) (live := []) (Λ := noL) tok (all_cons (ok_con (spec_l1Below.con k)) (all_cons (ok_con (spec_l1Int.con k)) all_nil)) mixed Tryz.func66 (by kernel_rfl) all_nil fun x => by kernel_rfl
end spec_l4Card

namespace spec_l1Once
def S : Sp := ⟨65, ⟨[78, 3], [4], [.io, .bor], .own⟩, [.ptr kd108, .I], [.B, .ptr kd108]⟩
theorem con (k : Nat) : Con Tryz.prog S (f k) := con_fn (nt := 9) (live := []) (Λ := noL) tok (all_cons (ok_con (spec_l1Below.con k)) all_nil) mixed Tryz.func65 (by kernel_rfl) all_nil fun x => by kernel_rfl
end spec_l1Once

namespace spec_Mod
def S : Sp := ⟨140, ⟨[3, 3], [3], [.bor, .bor], .own⟩, [.I, .I], [.O]⟩
theorem con (k : Nat) : Con Tryz.prog S (f k) := con_fn (nt := 15) (live := []) (Λ := noL) tok (all_cons (ok_con (spec_l1In.con k)) all_nil) mixed Tryz.func140 (by kernel_rfl) all_nil fun x => by kernel_rfl
end spec_Mod

namespace spec_Hash
def S : Sp := ⟨141, ⟨[32], [3], [.bor], .own⟩, [.V], [.O]⟩
def live : List (Nat × List Nat) := [(3, [0, 3, 4]), (100003, [2, 3])]
def G {R : Type} (k : Nat) : Glob R := mkG tt [spec_Mod.S.ent (spec_Mod.f k)] 22
def h3 : Hd := ⟨[.V, .I, .I], []⟩
def T3 {R : Type} (k : Nat) (K : X → St → Option R) : h3.Fn (Option R) := fun v0 v1 v2 => l3 k v0 (fun p0 => K (.exit 0) (stOf [2, 3] [.one (.l (.any)), .one (.l (.i .i64 p0))] [])) k v1 v2
def tab {R : Type} (k : Nat) : LTab R := fun id K vs hs => bif id == 3 then h3.tell vs hs (T3 k K) else none
theorem fit3 {R : Type} (k : Nat) : Fit (R := R) (G k) live (tab k) (bl Tryz.f141 0) := h3.fit (key := 3) (by kernel_rfl) (T3 k) (fun _ _ _ => rfl) fun K r v0 v1 v2 h => fit_mk h (fun a => h3.mk' v0 a.1 a.2) (fun _ v1 v2 => some (v1, v2)) (by kernel_rfl) (fun _ => by kernel_rfl) fun Lp a => by kernel_rfl
theorem con (k : Nat) : Con Tryz.prog S (f k) := con_fn (nt := 22) (live := live) (Λ := tab k) tok (all_cons (ok_con (spec_Mod.con k)) all_nil) mixed Tryz.func141 (by kernel_rfl) (all_cons (fit3 k) all_nil) fun x => by kernel_rfl
end spec_Hash

namespace spec_Shuffled
def S : Sp := ⟨105, ⟨[32, 3], [32], [.bor, .bor], .own⟩, [.V, .I], [.l .own (.ints .i64)]⟩
def live : List (Nat × List Nat) := [(3, [1, 5, 6]), (100003, [4, 5])]
def G {R : Type} (k : Nat) : Glob R := mkG tt [spec_Mod.S.ent (spec_Mod.f k), spec_Hash.S.ent (spec_Hash.f k)] 42
def h3 : Hd := ⟨[.I, .l (.own 0), .I], [.V]⟩
def T3 {R : Type} (k : Nat) (K : X → St → Option R) : h3.Fn (Option R) := fun v0 v1 v2 => l3 k v0 (fun p0 => K (.exit 0) (stOf [4, 5] [.one (.l (.any)), .one (.l (.own 0))] [some (.row 0 0 (.ints .i64 p0))])) k v1 v2
def tab {R : Type} (k : Nat) : LTab R := fun id K vs hs => bif id == 3 then h3.tell vs hs (T3 k K) else none
theorem fit3 {R : Type} (k : Nat) : Fit (R := R) (G k) live (tab k) (bl Tryz.f105 0) := h3.fit (key := 3) (by kernel_rfl) (T3 k) (fun _ _ _ => rfl) fun K r v0 v1 v2 h => fit_mk h (fun a => h3.mk' v0 a.1 a.2) (fun _ v1 v2 => some (v1, v2)) (by kernel_rfl) (fun _ => by kernel_rfl) fun Lp a => by kernel_rfl
theorem con (k : Nat) : Con Tryz.prog S (f k) := con_fn (nt := 42) (live := live) (Λ := tab k) tok (all_cons (ok_con (spec_Mod.con k)) (all_cons (ok_con (spec_Hash.con k)) all_nil)) mixed Tryz.func105 (by kernel_rfl) (all_cons (fit3 k) all_nil) fun x => by kernel_rfl
end spec_Shuffled

namespace spec_HasCard
def S : Sp := ⟨86, ⟨[32, 3], [4], [.bor, .bor], .own⟩, [.V, .I], [.B]⟩
def live : List (Nat × List Nat) := [(2, [0, 1, 5]), (100002, [4])]
def G {R : Type} (k : Nat) : Glob R := mkG tt [] 18
def h2 : Hd := ⟨[.V, .I, .I], []⟩
def T2 {R : Type} (k : Nat) (K : X → St → Option R) : h2.Fn (Option R) := fun v0 v1 v2 => l2 k v0 v1 (K .ret (stOf [4] [.one (.l (.b true))] [])) (K (.exit 0) (stOf [4] [.one (.l (.any))] [])) k v2
def tab {R : Type} (k : Nat) : LTab R := fun id K vs hs => bif id == 2 then h2.tell vs hs (T2 k K) else none
theorem fit2 {R : Type} (k : Nat) : Fit (R := R) (G k) live (tab k) (bl Tryz.f86 0) := h2.fit (key := 2) (by kernel_rfl) (T2 k) (fun _ _ _ => rfl) fun K r v0 v1 v2 h => fit_mk h (fun a => h2.mk' v0 v1 a) (fun _ _ v2 => some v2) (by kernel_rfl) (fun _ => by kernel_rfl) fun Lp a => by kernel_rfl
theorem con (k : Nat) : Con Tryz.prog S (f k) := con_fn (nt := 18) (live := live) (Λ := tab k) tok all_nil mixed Tryz.func86 (by kernel_rfl) (all_cons (fit2 k) all_nil) fun x => by kernel_rfl
end spec_HasCard

namespace spec_Missing
def S : Sp := ⟨142, ⟨[32], [32], [.bor], .own⟩, [.V], [.l .own (.ints .i64)]⟩
def live : List (Nat × List Nat) := [(3, [0, 3, 4]), (100003, [2, 3])]
def G {R : Type} (k : Nat) : Glob R := mkG tt [spec_HasCard.S.ent (spec_HasCard.f k)] 19
def h3 : Hd := ⟨[.V, .l (.own 0), .I], [.V]⟩
def T3 {R : Type} (k : Nat) (K : X → St → Option R) : h3.Fn (Option R) := fun v0 v1 v2 => l3 k v0 (fun p0 => K (.exit 0) (stOf [2, 3] [.one (.l (.any)), .one (.l (.own 0))] [some (.row 0 0 (.ints .i64 p0))])) k v1 v2
def tab {R : Type} (k : Nat) : LTab R := fun id K vs hs => bif id == 3 then h3.tell vs hs (T3 k K) else none
theorem fit3 {R : Type} (k : Nat) : Fit (R := R) (G k) live (tab k) (bl Tryz.f142 0) := h3.fit (key := 3) (by kernel_rfl) (T3 k) (fun _ _ _ => rfl) fun K r v0 v1 v2 h => fit_mk h (fun a => h3.mk' v0 a.1 a.2) (fun _ v1 v2 => some (v1, v2)) (by kernel_rfl) (fun _ => by kernel_rfl) fun Lp a => by kernel_rfl
theorem con (k : Nat) : Con Tryz.prog S (f k) := con_fn (nt := 19) (live := live) (Λ := tab k) tok (all_cons (ok_con (spec_HasCard.con k)) all_nil) mixed Tryz.func142 (by kernel_rfl) (all_cons (fit3 k) all_nil) fun x => by kernel_rfl
end spec_Missing

namespace spec_FullDeck
def S : Sp := ⟨106, ⟨[], [32], [], .own⟩, [], [.l .own (.ints .i64)]⟩
theorem con (k : Nat) : Con Tryz.prog S (f k) := con_fn (nt := 2) (live := []) (Λ := noL) tok (all_cons (ok_con (spec_Missing.con k)) all_nil) mixed Tryz.func106 (by kernel_rfl) all_nil fun x => by kernel_rfl
end spec_FullDeck

namespace spec_IsCard
def S : Sp := ⟨112, ⟨[3], [4], [.bor], .own⟩, [.I], [.B]⟩
theorem con (k : Nat) : Con Tryz.prog S (f k) := con_fn (nt := 5) (live := []) (Λ := noL) tok (all_cons (ok_con (spec_l1In.con k)) all_nil) mixed Tryz.func112 (by kernel_rfl) all_nil fun x => by kernel_rfl
end spec_IsCard

namespace spec_IsHand
def S : Sp := ⟨126, ⟨[32], [4], [.bor], .own⟩, [.V], [.B]⟩
def live : List (Nat × List Nat) := [(2, [0, 3]), (100002, [2])]
def G {R : Type} (k : Nat) : Glob R := mkG tt [spec_HasCard.S.ent (spec_HasCard.f k), spec_IsCard.S.ent (spec_IsCard.f k)] 26
def h2 : Hd := ⟨[.V, .I], []⟩
def T2 {R : Type} (k : Nat) (K : X → St → Option R) : h2.Fn (Option R) := fun v0 v1 => l2 k v0 (K .ret (stOf [2] [.one (.l (.b false))] [])) (K (.exit 0) (stOf [2] [.one (.l (.any))] [])) k v1
def tab {R : Type} (k : Nat) : LTab R := fun id K vs hs => bif id == 2 then h2.tell vs hs (T2 k K) else none
theorem fit2 {R : Type} (k : Nat) : Fit (R := R) (G k) live (tab k) (bl Tryz.f126 0) := h2.fit (key := 2) (by kernel_rfl) (T2 k) (fun _ _ _ => rfl) fun K r v0 v1 h => fit_mk h (fun a => h2.mk' v0 a) (fun _ v1 => some v1) (by kernel_rfl) (fun _ => by kernel_rfl) fun Lp a => by kernel_rfl
theorem con (k : Nat) : Con Tryz.prog S (f k) := con_fn (nt := 26) (live := live) (Λ := tab k) tok (all_cons (ok_con (spec_HasCard.con k)) (all_cons (ok_con (spec_IsCard.con k)) all_nil)) mixed Tryz.func126 (by kernel_rfl) (all_cons (fit2 k) all_nil) fun x => by kernel_rfl
end spec_IsHand

namespace spec_NewPatience
def S : Sp := ⟨150, ⟨[32, 3], [34, 4], [.bor, .bor], .own⟩, [.V, .I], [.agg .own kd34, .B]⟩
def live : List (Nat × List Nat) := [(6, [0, 1, 4, 6, 7, 8]), (100006, [0, 4, 5, 6, 7]), (200006, [1139722758])]
def G {R : Type} (k : Nat) : Glob R := mkG tt [spec_IsHand.S.ent (spec_IsHand.f k), spec_l1In.S.ent (spec_l1In.f k)] 56
def h6 : Hd := ⟨[.V, .I, .l (.ptr 0 0), .l (.ptr 1 0), .I, .I], [.box [.nil, .nil, .nil, .nil], .box [.own 2, .own 3, .nil, .nil], .row true (.recs [true, false]), .V]⟩
def T6 {R : Type} (k : Nat) (K : X → St → Option R) : h6.Fn (Option R) := fun v0 v1 v2 v3 v4 v5 => l6 k v0 v1 (fun p0 p1 => K (.exit 0) (stOf [0, 4, 5, 6, 7] [.one (.l (.val false (.ints .i64 v0))), .one (.l (.bptr 0 0)), .one (.l (.any)), .one (.l (.bptr 1 0)), .one (.l (.i .i64 p0))] [some (.box 0 [.nil, .nil, .nil, .nil]), some (.box 0 [.own 2, .own 3, .nil, .nil]), some (.row 0 0 (.recs [true, false] true p1)), some (.row 0 0 (.ints .i64 v5))])) k v2 v3 v4
def tab {R : Type} (k : Nat) : LTab R := fun id K vs hs => bif id == 6 then h6.tell vs hs (T6 k K) else none
theorem fit6 {R : Type} (k : Nat) : Fit (R := R) (G k) live (tab k) (bl Tryz.f150 0) := h6.fit (key := 6) (by kernel_rfl) (T6 k) (fun _ _ _ => rfl) fun K r v0 v1 v2 v3 v4 v5 h => fit_mk h (fun a => h6.mk' v0 v1 a.1 a.2.1 (t2 a) v5) (fun _ _ v2 v3 v4 _ => some (v2, v3, v4)) (by kernel_rfl) (fun _ => by kernel_rfl) fun Lp a => by kernel_rfl
theorem con (k : Nat) : Con Tryz.prog S (f k) := con_fn (nt := 56) (live := live) (Λ := tab k) tok (all_cons (ok_con (spec_IsHand.con k)) (all_cons (ok_con (spec_l1In.con k)) all_nil)) mixed Tryz.func150 (by kernel_rfl) (all_cons (fit6 k) all_nil) fun x => by kernel_rfl
end spec_NewPatience

namespace spec_l18Start
def S : Sp := ⟨119, ⟨[78], [34], [.io], .own⟩, [.ptr kd108], [.agg .own kd34, .ptr kd108]⟩
theorem con (k : Nat) : Con Tryz.prog S (f k) := con_fn (nt := 22) (live := []) (Λ := noL) tok (all_cons (ok_con (spec_l1Once.con k)) (all_cons (ok_con (spec_l1Below.con k)) (all_cons (ok_con (spec_Shuffled.con k)) (all_cons (ok_con (spec_FullDeck.con k)) (all_cons (ok_con (spec_NewPatience.con k)) all_nil))))) mixed Tryz.func119 (by kernel_rfl) all_nil fun x => by kernel_rfl
end spec_l18Start

namespace spec_l16Copy
def S : Sp := ⟨172, ⟨[65], [65], [.bor], .own⟩, [.agg .lent kd65], [.agg .own kd65]⟩
theorem con (k : Nat) : Con Tryz.prog S (f k) := con_fn (nt := 10) (live := []) (Λ := noL) tok all_nil mixed Tryz.func172 (by kernel_rfl) all_nil fun x => by kernel_rfl
end spec_l16Copy

namespace spec_l18Copy
def S : Sp := ⟨164, ⟨[34], [34], [.bor], .own⟩, [.agg .lent kd34], [.agg .own kd34]⟩
def live : List (Nat × List Nat) := [(3, [1, 2, 3, 4]), (100003, [2, 3]), (200003, [1139722755])]
def G {R : Type} (k : Nat) : Glob R := mkG tt [spec_l16Copy.S.ent (spec_l16Copy.f k)] 37
def h3 : Hd := ⟨[.l (.ptr 0 0), .l (.ptr 1 0), .l (.ptr 2 0), .I], [.box [.val false false (.recs [true, false]), .V, .V, .V], .box [.nil, .nil, .nil, .nil], .box [.own 3, .own 4, .own 5, .own 6], .row true (.recs [true, false]), .V, .V, .V]⟩
def T3 {R : Type} (k : Nat) (K : X → St → Option R) : h3.Fn (Option R) := fun v0 v1 _ _ _ v5 v6 v7 v8 => l3 k v1 (fun p0 => K (.exit 0) (stOf [2, 3] [.one (.l (.bptr 0 0)), .one (.l (.bptr 1 0))] [some (.box 0 [.nil, .nil, .nil, .nil]), some (.box 0 [.own 2, .own 3, .own 4, .own 5]), some (.row 0 0 (.recs [true, false] true p0)), some (.row 0 0 (.ints .i64 v6)), some (.row 0 0 (.ints .i64 v7)), some (.row 0 0 (.ints .i64 v8))])) k v0 v5
def tab {R : Type} (k : Nat) : LTab R := fun id K vs hs => bif id == 3 then h3.tell vs hs (T3 k K) else none
theorem fit3 {R : Type} (k : Nat) : Fit (R := R) (G k) live (tab k) (bl Tryz.f164 0) := h3.fit (key := 3) (by kernel_rfl) (T3 k) (fun _ _ _ => rfl) fun K r v0 v1 v2 v3 v4 v5 v6 v7 v8 h => fit_mk h (fun a => h3.mk' a.1 v1 v2 v3 v4 a.2 v6 v7 v8) (fun v0 _ _ _ _ v5 _ _ _ => some (v0, v5)) (by kernel_rfl) (fun _ => by kernel_rfl) fun Lp a => by kernel_rfl
theorem con (k : Nat) : Con Tryz.prog S (f k) := con_fn (nt := 37) (live := live) (Λ := tab k) tok (all_cons (ok_con (spec_l16Copy.con k)) all_nil) mixed Tryz.func164 (by kernel_rfl) (all_cons (fit3 k) all_nil) fun x => by kernel_rfl
end spec_l18Copy

namespace spec_IsBase
def S : Sp := ⟨173, ⟨[32], [4], [.bor], .own⟩, [.V], [.B]⟩
def live : List (Nat × List Nat) := [(2, [0, 3]), (100002, [0, 2])]
def G {R : Type} (k : Nat) : Glob R := mkG tt [spec_l1In.S.ent (spec_l1In.f k)] 19
def h2 : Hd := ⟨[.V, .I], []⟩
def T2 {R : Type} (k : Nat) (K : X → St → Option R) : h2.Fn (Option R) := fun v0 v1 => l2 k v0 (K .ret (stOf [0, 2] [.one (.l (.val false (.ints .i64 v0))), .one (.l (.b false))] [])) (K (.exit 0) (stOf [0, 2] [.one (.l (.val false (.ints .i64 v0))), .one (.l (.any))] [])) k v1
def tab {R : Type} (k : Nat) : LTab R := fun id K vs hs => bif id == 2 then h2.tell vs hs (T2 k K) else none
theorem fit2 {R : Type} (k : Nat) : Fit (R := R) (G k) live (tab k) (bl Tryz.f173 0) := h2.fit (key := 2) (by kernel_rfl) (T2 k) (fun _ _ _ => rfl) fun K r v0 v1 h => fit_mk h (fun a => h2.mk' v0 a) (fun _ v1 => some v1) (by kernel_rfl) (fun _ => by kernel_rfl) fun Lp a => by kernel_rfl
theorem con (k : Nat) : Con Tryz.prog S (f k) := con_fn (nt := 19) (live := live) (Λ := tab k) tok (all_cons (ok_con (spec_l1In.con k)) all_nil) mixed Tryz.func173 (by kernel_rfl) (all_cons (fit2 k) all_nil) fun x => by kernel_rfl
end spec_IsBase

namespace spec_SuitOf
def S : Sp := ⟨89, ⟨[3], [3], [.bor], .own⟩, [.I], [.O]⟩
theorem con (k : Nat) : Con Tryz.prog S (f k) := con_fn (nt := 8) (live := []) (Λ := noL) tok (all_cons (ok_con (spec_IsCard.con k)) all_nil) mixed Tryz.func89 (by kernel_rfl) all_nil fun x => by kernel_rfl
end spec_SuitOf

namespace spec_RankOf
def S : Sp := ⟨147, ⟨[3], [3], [.bor], .own⟩, [.I], [.O]⟩
theorem con (k : Nat) : Con Tryz.prog S (f k) := con_fn (nt := 8) (live := []) (Λ := noL) tok (all_cons (ok_con (spec_IsCard.con k)) all_nil) mixed Tryz.func147 (by kernel_rfl) all_nil fun x => by kernel_rfl
end spec_RankOf

namespace spec_StepOf
def S : Sp := ⟨181, ⟨[3], [3], [.bor], .own⟩, [.I], [.O]⟩
theorem con (k : Nat) : Con Tryz.prog S (f k) := con_fn (nt := 11) (live := []) (Λ := noL) tok (all_cons (ok_con (spec_IsCard.con k)) (all_cons (ok_con (spec_RankOf.con k)) all_nil)) mixed Tryz.func181 (by kernel_rfl) all_nil fun x => by kernel_rfl
end spec_StepOf

namespace spec_BaseCards
def S : Sp := ⟨174, ⟨[32], [32], [.bor], .own⟩, [.V], [.l .own (.ints .i64)]⟩
def live : List (Nat × List Nat) := [(3, [0, 3, 4]), (100003, [2, 3])]
def G {R : Type} (k : Nat) : Glob R := mkG tt [spec_SuitOf.S.ent (spec_SuitOf.f k), spec_IsBase.S.ent (spec_IsBase.f k), spec_StepOf.S.ent (spec_StepOf.f k)] 27
def h3 : Hd := ⟨[.V, .l (.own 0), .I], [.V]⟩
def T3 {R : Type} (k : Nat) (K : X → St → Option R) : h3.Fn (Option R) := fun v0 v1 v2 => l3 k v0 (fun p0 => K (.exit 0) (stOf [2, 3] [.one (.l (.any)), .one (.l (.own 0))] [some (.row 0 0 (.ints .i64 p0))])) k v1 v2
def tab {R : Type} (k : Nat) : LTab R := fun id K vs hs => bif id == 3 then h3.tell vs hs (T3 k K) else none
theorem fit3 {R : Type} (k : Nat) : Fit (R := R) (G k) live (tab k) (bl Tryz.f174 0) := h3.fit (key := 3) (by kernel_rfl) (T3 k) (fun _ _ _ => rfl) fun K r v0 v1 v2 h => fit_mk h (fun a => h3.mk' v0 a.1 a.2) (fun _ v1 v2 => some (v1, v2)) (by kernel_rfl) (fun _ => by kernel_rfl) fun Lp a => by kernel_rfl
theorem con (k : Nat) : Con Tryz.prog S (f k) := con_fn (nt := 27) (live := live) (Λ := tab k) tok (all_cons (ok_con (spec_SuitOf.con k)) (all_cons (ok_con (spec_IsBase.con k)) (all_cons (ok_con (spec_StepOf.con k)) all_nil))) mixed Tryz.func174 (by kernel_rfl) (all_cons (fit3 k) all_nil) fun x => by kernel_rfl
end spec_BaseCards

namespace spec_IsRed
def S : Sp := ⟨184, ⟨[3], [4], [.bor], .own⟩, [.I], [.B]⟩
theorem con (k : Nat) : Con Tryz.prog S (f k) := con_fn (nt := 6) (live := []) (Λ := noL) tok (all_cons (ok_con (spec_SuitOf.con k)) (all_cons (ok_con (spec_l1In.con k)) all_nil)) mixed Tryz.func184 (by kernel_rfl) all_nil fun x => by kernel_rfl
end spec_IsRed

namespace spec_l16Step
def S : Sp := ⟨182, ⟨[3, 3], [4], [.bor, .bor], .own⟩, [.I, .I], [.B]⟩
theorem con (k : Nat) : Con Tryz.prog S (f k) := con_fn (nt := 18) (live := []) (Λ := noL) tok (all_cons (ok_con (spec_RankOf.con k)) (all_cons (ok_con (spec_IsRed.con k)) all_nil)) mixed Tryz.func182 (by kernel_rfl) all_nil fun x => by kernel_rfl
end spec_l16Step

namespace spec_IsPile
def S : Sp := ⟨175, ⟨[65], [4], [.bor], .own⟩, [.agg .lent kd65], [.B]⟩
def live : List (Nat × List Nat) := [(4, [1, 3]), (100004, [2])]
def G {R : Type} (k : Nat) : Glob R := mkG tt [spec_IsHand.S.ent (spec_IsHand.f k), spec_l1In.S.ent (spec_l1In.f k), spec_l16Step.S.ent (spec_l16Step.f k)] 40
def h4 : Hd := ⟨[.l (.ptr 0 0), .I], [.box [.V, .I]]⟩
def T4 {R : Type} (k : Nat) (K : X → St → Option R) : h4.Fn (Option R) := fun v0 v1 _ => l4 k v1 (K .ret (stOf [2] [.one (.l (.b false))] [])) (K (.exit 0) (stOf [2] [.one (.l (.any))] [])) k v0
def tab {R : Type} (k : Nat) : LTab R := fun id K vs hs => bif id == 4 then h4.tell vs hs (T4 k K) else none
theorem fit4 {R : Type} (k : Nat) : Fit (R := R) (G k) live (tab k) (bl Tryz.f175 0) := h4.fit (key := 4) (by kernel_rfl) (T4 k) (fun _ _ _ => rfl) fun K r v0 v1 v2 h => fit_mk h (fun a => h4.mk' a v1 v2) (fun v0 _ _ => some v0) (by kernel_rfl) (fun _ => by kernel_rfl) fun Lp a => by kernel_rfl
theorem con (k : Nat) : Con Tryz.prog S (f k) := con_fn (nt := 40) (live := live) (Λ := tab k) tok (all_cons (ok_con (spec_IsHand.con k)) (all_cons (ok_con (spec_l1In.con k)) (all_cons (ok_con (spec_l16Step.con k)) all_nil))) mixed Tryz.func175 (by kernel_rfl) (all_cons (fit4 k) all_nil) fun x => by kernel_rfl
end spec_IsPile

namespace spec_IsPatience
def S : Sp := ⟨165, ⟨[34], [4], [.bor], .own⟩, [.agg .lent kd34], [.B]⟩
def live : List (Nat × List Nat) := [(5, [1, 3, 4]), (100005, [2, 3])]
def G {R : Type} (k : Nat) : Glob R := mkG tt [spec_IsHand.S.ent (spec_IsHand.f k), spec_l1In.S.ent (spec_l1In.f k), spec_IsBase.S.ent (spec_IsBase.f k), spec_BaseCards.S.ent (spec_BaseCards.f k), spec_IsPile.S.ent (spec_IsPile.f k)] 66
def h5 : Hd := ⟨[.l (.ptr 0 0), .l (.own 1), .I], [.box [.val false false (.recs [true, false]), .V, .V, .V], .V]⟩
def T5 {R : Type} (k : Nat) (K : X → St → Option R) : h5.Fn (Option R) := fun v0 v1 _ _ _ v5 => l5 k v1 (fun p0 => K .ret (stOf [2, 3] [.one (.l (.b false)), .one (.l (.own 0))] [some (.row 0 0 (.ints .i64 p0))])) (fun p0 => K (.exit 0) (stOf [2, 3] [.one (.l (.any)), .one (.l (.own 0))] [some (.row 0 0 (.ints .i64 p0))])) k v0 v5
def tab {R : Type} (k : Nat) : LTab R := fun id K vs hs => bif id == 5 then h5.tell vs hs (T5 k K) else none
theorem fit5 {R : Type} (k : Nat) : Fit (R := R) (G k) live (tab k) (bl Tryz.f165 0) := h5.fit (key := 5) (by kernel_rfl) (T5 k) (fun _ _ _ => rfl) fun K r v0 v1 v2 v3 v4 v5 h => fit_mk h (fun a => h5.mk' a.1 v1 v2 v3 v4 a.2) (fun v0 _ _ _ _ v5 => some (v0, v5)) (by kernel_rfl) (fun _ => by kernel_rfl) fun Lp a => by kernel_rfl
theorem con (k : Nat) : Con Tryz.prog S (f k) := con_fn (nt := 66) (live := live) (Λ := tab k) tok (all_cons (ok_con (spec_IsHand.con k)) (all_cons (ok_con (spec_l1In.con k)) (all_cons (ok_con (spec_IsBase.con k)) (all_cons (ok_con (spec_BaseCards.con k)) (all_cons (ok_con (spec_IsPile.con k)) all_nil))))) mixed Tryz.func165 (by kernel_rfl) (all_cons (fit5 k) all_nil) fun x => by kernel_rfl
end spec_IsPatience

namespace spec_OpenCards
def S : Sp := ⟨176, ⟨[65], [3], [.bor], .own⟩, [.agg .lent kd65], [.O]⟩
theorem con (k : Nat) : Con Tryz.prog S (f k) := con_fn (nt := 12) (live := []) (Λ := noL) tok (all_cons (ok_con (spec_IsPile.con k)) all_nil) mixed Tryz.func176 (by kernel_rfl) all_nil fun x => by kernel_rfl
end spec_OpenCards

namespace spec_Lifted
def S : Sp := ⟨166, ⟨[65, 3], [65, 32, 4], [.bor, .bor], .own⟩, [.agg .lent kd65, .I], [.agg .own kd65, .l .own (.ints .i64), .B]⟩
theorem con (k : Nat) : Con Tryz.prog S (f k) := con_fn (nt := 48) (live := []) (Λ := noL) tok (all_cons (ok_con (spec_l1In.con k)) (all_cons (ok_con (spec_l16Copy.con k)) (all_cons (ok_con (spec_OpenCards.con k)) all_nil))) mixed Tryz.func166 (by kernel_rfl) all_nil fun x => by kernel_rfl
end spec_Lifted

namespace spec_TopOf
def S : Sp := ⟨183, ⟨[65], [3], [.bor], .own⟩, [.agg .lent kd65], [.O]⟩
theorem con (k : Nat) : Con Tryz.prog S (f k) := con_fn (nt := 15) (live := []) (Λ := noL) tok all_nil mixed Tryz.func183 (by kernel_rfl) all_nil fun x => by kernel_rfl
end spec_TopOf

namespace spec_MayStack
def S : Sp := ⟨177, ⟨[65, 3], [4], [.bor, .bor], .own⟩, [.agg .lent kd65, .I], [.B]⟩
theorem con (k : Nat) : Con Tryz.prog S (f k) := con_fn (nt := 38) (live := []) (Λ := noL) tok (all_cons (ok_con (spec_HasCard.con k)) (all_cons (ok_con (spec_IsCard.con k)) (all_cons (ok_con (spec_RankOf.con k)) (all_cons (ok_con (spec_IsPile.con k)) (all_cons (ok_con (spec_l16Step.con k)) (all_cons (ok_con (spec_TopOf.con k)) all_nil)))))) mixed Tryz.func177 (by kernel_rfl) all_nil fun x => by kernel_rfl
end spec_MayStack

namespace spec_Stacked
def S : Sp := ⟨167, ⟨[65, 32], [65, 4], [.bor, .bor], .own⟩, [.agg .lent kd65, .V], [.agg .own kd65, .B]⟩
def live : List (Nat × List Nat) := [(3, [1, 2, 4, 6, 7]), (100003, [4, 5, 6])]
def G {R : Type} (k : Nat) : Glob R := mkG tt [spec_l16Copy.S.ent (spec_l16Copy.f k), spec_MayStack.S.ent (spec_MayStack.f k)] 35
def h3 : Hd := ⟨[.V, .l (.ptr 0 0), .l (.ptr 1 0), .l (.ptr 2 0), .I], [.box [.V, .I], .box [.nil, .I], .box [.own 3, .I], .V]⟩
def T3 {R : Type} (k : Nat) (K : X → St → Option R) : h3.Fn (Option R) := fun v0 v1 v2 v3 v4 v5 v6 => l3 k v0 v2 v3 v5 (fun p0 p1 p2 => K .ret (stOf [4, 5, 6] [.one (.l (.bptr 0 0)), .one (.l (.b false)), .one (.l (.bptr 2 0))] [some (.box 0 [.own 1, .i .i64 p0]), some (.row 0 0 (.ints .i64 p1)), some (.box 0 [.own 3, .i .i64 v5]), some (.row 0 0 (.ints .i64 p2))])) (fun p0 => K (.exit 0) (stOf [4, 5, 6] [.one (.l (.bptr 0 0)), .one (.l (.any)), .one (.l (.bptr 1 0))] [some (.box 0 [.nil, .i .i64 v4]), some (.box 0 [.own 2, .i .i64 v5]), some (.row 0 0 (.ints .i64 p0))])) k v1 v6
def tab {R : Type} (k : Nat) : LTab R := fun id K vs hs => bif id == 3 then h3.tell vs hs (T3 k K) else none
theorem fit3 {R : Type} (k : Nat) : Fit (R := R) (G k) live (tab k) (bl Tryz.f167 0) := h3.fit (key := 3) (by kernel_rfl) (T3 k) (fun _ _ _ => rfl) fun K r v0 v1 v2 v3 v4 v5 v6 h => fit_mk h (fun a => h3.mk' v0 a.1 v2 v3 v4 v5 a.2) (fun _ v1 _ _ _ _ v6 => some (v1, v6)) (by kernel_rfl) (fun _ => by kernel_rfl) fun Lp a => by kernel_rfl
theorem con (k : Nat) : Con Tryz.prog S (f k) := con_fn (nt := 35) (live := live) (Λ := tab k) tok (all_cons (ok_con (spec_l16Copy.con k)) (all_cons (ok_con (spec_MayStack.con k)) all_nil)) mixed Tryz.func167 (by kernel_rfl) (all_cons (fit3 k) all_nil) fun x => by kernel_rfl
end spec_Stacked

namespace spec_MovePile
def S : Sp := ⟨151, ⟨[34, 3, 3, 3], [34, 4], [.bor, .bor, .bor, .bor], .own⟩, [.agg .lent kd34, .I, .I, .I], [.agg .own kd34, .B]⟩
theorem con (k : Nat) : Con Tryz.prog S (f k) := con_fn (nt := 84) (live := []) (Λ := noL) tok (all_cons (ok_con (spec_l1In.con k)) (all_cons (ok_con (spec_l18Copy.con k)) (all_cons (ok_con (spec_IsPatience.con k)) (all_cons (ok_con (spec_Lifted.con k)) (all_cons (ok_con (spec_Stacked.con k)) all_nil))))) mixed Tryz.func151 (by kernel_rfl) all_nil fun x => by kernel_rfl
end spec_MovePile

namespace spec_MayBuild
def S : Sp := ⟨178, ⟨[32, 3], [4], [.bor, .bor], .own⟩, [.V, .I], [.B]⟩
theorem con (k : Nat) : Con Tryz.prog S (f k) := con_fn (nt := 22) (live := []) (Λ := noL) tok (all_cons (ok_con (spec_SuitOf.con k)) (all_cons (ok_con (spec_IsCard.con k)) (all_cons (ok_con (spec_IsBase.con k)) (all_cons (ok_con (spec_StepOf.con k)) all_nil)))) mixed Tryz.func178 (by kernel_rfl) all_nil fun x => by kernel_rfl
end spec_MayBuild

namespace spec_Built
def S : Sp := ⟨168, ⟨[32, 3], [32, 4], [.bor, .bor], .own⟩, [.V, .I], [.l .own (.ints .i64), .B]⟩
theorem con (k : Nat) : Con Tryz.prog S (f k) := con_fn (nt := 26) (live := []) (Λ := noL) tok (all_cons (ok_con (spec_SuitOf.con k)) (all_cons (ok_con (spec_MayBuild.con k)) all_nil)) mixed Tryz.func168 (by kernel_rfl) all_nil fun x => by kernel_rfl
end spec_Built

namespace spec_MoveUp
def S : Sp := ⟨152, ⟨[34, 3], [34, 4], [.bor, .bor], .own⟩, [.agg .lent kd34, .I], [.agg .own kd34, .B]⟩
theorem con (k : Nat) : Con Tryz.prog S (f k) := con_fn (nt := 60) (live := []) (Λ := noL) tok (all_cons (ok_con (spec_l1In.con k)) (all_cons (ok_con (spec_l18Copy.con k)) (all_cons (ok_con (spec_IsPatience.con k)) (all_cons (ok_con (spec_Lifted.con k)) (all_cons (ok_con (spec_Built.con k)) all_nil))))) mixed Tryz.func152 (by kernel_rfl) all_nil fun x => by kernel_rfl
end spec_MoveUp

namespace spec_MoveWaste
def S : Sp := ⟨153, ⟨[34, 3], [34, 4], [.bor, .bor], .own⟩, [.agg .lent kd34, .I], [.agg .own kd34, .B]⟩
theorem con (k : Nat) : Con Tryz.prog S (f k) := con_fn (nt := 88) (live := []) (Λ := noL) tok (all_cons (ok_con (spec_l1In.con k)) (all_cons (ok_con (spec_l18Copy.con k)) (all_cons (ok_con (spec_IsPatience.con k)) (all_cons (ok_con (spec_Stacked.con k)) (all_cons (ok_con (spec_Built.con k)) all_nil))))) mixed Tryz.func153 (by kernel_rfl) all_nil fun x => by kernel_rfl
end spec_MoveWaste

namespace spec_Turn
def S : Sp := ⟨154, ⟨[34], [34, 4], [.bor], .own⟩, [.agg .lent kd34], [.agg .own kd34, .B]⟩
theorem con (k : Nat) : Con Tryz.prog S (f k) := con_fn (nt := 47) (live := []) (Λ := noL) tok (all_cons (ok_con (spec_l18Copy.con k)) (all_cons (ok_con (spec_IsPatience.con k)) all_nil)) mixed Tryz.func154 (by kernel_rfl) all_nil fun x => by kernel_rfl
end spec_Turn

namespace spec_l18Step
def S : Sp := ⟨120, ⟨[78, 34], [34], [.io, .bor], .own⟩, [.ptr kd108, .agg .lent kd34], [.agg .own kd34, .ptr kd108]⟩
theorem con (k : Nat) : Con Tryz.prog S (f k) := con_fn (nt := 47) (live := []) (Λ := noL) tok (all_cons (ok_con (spec_l1Below.con k)) (all_cons (ok_con (spec_MovePile.con k)) (all_cons (ok_con (spec_MoveUp.con k)) (all_cons (ok_con (spec_MoveWaste.con k)) (all_cons (ok_con (spec_Turn.con k)) all_nil))))) mixed Tryz.func120 (by kernel_rfl) all_nil fun x => by kernel_rfl
end spec_l18Step

namespace spec_l17Any
def S : Sp := ⟨121, ⟨[78], [32], [.io], .frz⟩, [.ptr kd108], [.l .frz (.ints .i64), .ptr kd108]⟩
def live : List (Nat × List Nat) := [(3, [0, 3, 4, 32]), (100003, [0, 2, 3, 32])]
def G {R : Type} (k : Nat) : Glob R := mkG tt [spec_l1Below.S.ent (spec_l1Below.f k), spec_l1Int.S.ent (spec_l1Int.f k)] 32
def h3 : Hd := ⟨[.l (.ptr 0 0), .l (.own 1), .I, .l (.ptr 0 0)], [.box [.val true false (.ints .u8), .I, .I], .V]⟩
def T3 {R : Type} (k : Nat) (K : X → St → Option R) : h3.Fn (Option R) := fun v0 v1 v2 v3 v4 => l3 k (fun p0 p1 p2 p3 => K (.exit 0) (stOf [0, 2, 3, 32] [.one (.l (.bptr 0 0)), .one (.l (.any)), .one (.l (.own 1)), .one (.l (.bptr 0 0))] [some (.box 0 [.val true (.ints .u8 p0), .i .i64 p1, .i .i64 p2]), some (.row 0 0 (.ints .i64 p3))])) k v0 v1 v2 v3 v4
def tab {R : Type} (k : Nat) : LTab R := fun id K vs hs => bif id == 3 then h3.tell vs hs (T3 k K) else none
theorem fit3 {R : Type} (k : Nat) : Fit (R := R) (G k) live (tab k) (bl Tryz.f121 0) := h3.fit (key := 3) (by kernel_rfl) (T3 k) (fun _ _ _ => rfl) fun K r v0 v1 v2 v3 v4 h => fit_mk h (fun a => h3.mk' a.1 a.2.1 (t2 a).1 (t3 a).1 (t4 a)) (fun v0 v1 v2 v3 v4 => some (v0, v1, v2, v3, v4)) (by kernel_rfl) (fun _ => by kernel_rfl) fun Lp a => by kernel_rfl
theorem con (k : Nat) : Con Tryz.prog S (f k) := con_fn (nt := 32) (live := live) (Λ := tab k) tok (all_cons (ok_con (spec_l1Below.con k)) (all_cons (ok_con (spec_l1Int.con k)) all_nil)) mixed Tryz.func121 (by kernel_rfl) (all_cons (fit3 k) all_nil) fun x => by kernel_rfl
end spec_l17Any

namespace spec_l18Draw
def S : Sp := ⟨79, ⟨[78], [34], [.io], .lent⟩, [.ptr kd108], [.agg .lent kd34, .ptr kd108]⟩
def live : List (Nat × List Nat) := [(3, [0, 2, 3, 4, 51]), (100003, [0, 2, 3, 51])]
def G {R : Type} (k : Nat) : Glob R := mkG tt [spec_l4Card.S.ent (spec_l4Card.f k), spec_l1Below.S.ent (spec_l1Below.f k), spec_l18Start.S.ent (spec_l18Start.f k), spec_l18Step.S.ent (spec_l18Step.f k), spec_l17Any.S.ent (spec_l17Any.f k)] 51
def h3 : Hd := ⟨[.l (.ptr 0 0), .l (.ptr 1 0), .l (.ptr 2 0), .I, .l (.ptr 0 0)], [.box [.val true false (.ints .u8), .I, .I], .box [.nil, .nil, .nil, .nil], .box [.own 3, .own 4, .own 5, .own 6], .row true (.recs [true, false]), .V, .V, .V]⟩
def T3 {R : Type} (k : Nat) (K : X → St → Option R) : h3.Fn (Option R) := fun v0 v1 v2 v3 v4 v5 v6 v7 => l3 k (fun p0 p1 p2 p3 p4 p5 p6 => K (.exit 0) (stOf [0, 2, 3, 51] [.one (.l (.bptr 0 0)), .one (.l (.bptr 1 0)), .one (.l (.bptr 2 0)), .one (.l (.bptr 0 0))] [some (.box 0 [.val true (.ints .u8 p0), .i .i64 p1, .i .i64 p2]), some (.box 0 [.nil, .nil, .nil, .nil]), some (.box 0 [.own 3, .own 4, .own 5, .own 6]), some (.row 0 0 (.recs [true, false] true p3)), some (.row 0 0 (.ints .i64 p4)), some (.row 0 0 (.ints .i64 p5)), some (.row 0 0 (.ints .i64 p6))])) k v0 v1 v2 v3 v4 v5 v6 v7
def tab {R : Type} (k : Nat) : LTab R := fun id K vs hs => bif id == 3 then h3.tell vs hs (T3 k K) else none
theorem fit3 {R : Type} (k : Nat) : Fit (R := R) (G k) live (tab k) (bl Tryz.f79 0) := h3.fit (key := 3) (by kernel_rfl) (T3 k) (fun _ _ _ => rfl) fun K r v0 v1 v2 v3 v4 v5 v6 v7 h => fit_mk h (fun a => h3.mk' a.1 a.2.1 (t2 a).1 (t3 a).1 (t4 a).1 (t5 a).1 (t6 a).1 (t7 a)) (fun v0 v1 v2 v3 v4 v5 v6 v7 => some (v0, v1, v2, v3, v4, v5, v6, v7)) (by kernel_rfl) (fun _ => by kernel_rfl) fun Lp a => by kernel_rfl
theorem con (k : Nat) : Con Tryz.prog S (f k) := con_fn (nt := 51) (live := live) (Λ := tab k) tok (all_cons (ok_con (spec_l4Card.con k)) (all_cons (ok_con (spec_l1Below.con k)) (all_cons (ok_con (spec_l18Start.con k)) (all_cons (ok_con (spec_l18Step.con k)) (all_cons (ok_con (spec_l17Any.con k)) all_nil))))) mixed Tryz.func79 (by kernel_rfl) (all_cons (fit3 k) all_nil) fun x => by kernel_rfl
end spec_l18Draw

namespace spec_DrawIsPatience
def S : Sp := ⟨38, ⟨[22], [34], [.frz], .lent⟩, [.l .frz (.ints .u8)], [.agg .lent kd34]⟩
theorem con (k : Nat) : Con Tryz.prog S (f k) := con_fn (nt := 8) (live := []) (Λ := noL) tok (all_cons (ok_con (spec_l1New.con k)) (all_cons (ok_con (spec_l18Draw.con k)) all_nil)) mixed Tryz.func38 (by kernel_rfl) all_nil fun x => by kernel_rfl
end spec_DrawIsPatience

namespace spec_DrawOpenShare
def S : Sp := ⟨11, ⟨[22], [34], [.frz], .lent⟩, [.l .frz (.ints .u8)], [.agg .lent kd34]⟩
theorem con (k : Nat) : Con Tryz.prog S (f k) := con_fn (nt := 5) (live := []) (Λ := noL) tok (all_cons (ok_con (spec_DrawIsPatience.con k)) all_nil) mixed Tryz.func11 (by kernel_rfl) all_nil fun x => by kernel_rfl
end spec_DrawOpenShare

namespace impl_isTest
def S : Sp := ⟨155, ⟨[3], [4], [.bor], .own⟩, [.I], [.B]⟩
theorem con (k : Nat) : Con Tryz.prog S (f k) := con_fn (nt := 17) (live := []) (Λ := noL) tok (all_cons (ok_con (impl_InRange.con k)) all_nil) mixed Tryz.func155 (by kernel_rfl) all_nil fun x => by kernel_rfl
end impl_isTest

namespace impl_IsPattern
def S : Sp := ⟨122, ⟨[32], [4], [.bor], .own⟩, [.V], [.B]⟩
def live : List (Nat × List Nat) := [(3, [0, 3, 6, 7, 8]), (100003, [0, 2, 3])]
def G {R : Type} (k : Nat) : Glob R := mkG tt [impl_InRange.S.ent (impl_InRange.f k), impl_isTest.S.ent (impl_isTest.f k)] 45
def h3 : Hd := ⟨[.V, .I, .V, .I, .I], []⟩
def T3 {R : Type} (k : Nat) (K : X → St → Option R) : h3.Fn (Option R) := fun v0 v1 v2 v3 v4 => l3 k v2 v3 (fun p0 => K .ret (stOf [0, 2, 3] [.one (.l (.val false (.ints .i64 v0))), .one (.l (.b false)), .one (.l (.i .i64 p0))] [])) (fun p0 => K (.exit 0) (stOf [0, 2, 3] [.one (.l (.val false (.ints .i64 v0))), .one (.l (.any)), .one (.l (.i .i64 p0))] [])) k v1 v4
def tab {R : Type} (k : Nat) : LTab R := fun id K vs hs => bif id == 3 then h3.tell vs hs (T3 k K) else none
theorem fit3 {R : Type} (k : Nat) : Fit (R := R) (G k) live (tab k) (bl Tryz.f122 0) := h3.fit (key := 3) (by kernel_rfl) (T3 k) (fun _ _ _ => rfl) fun K r v0 v1 v2 v3 v4 h => fit_mk h (fun a => h3.mk' v0 a.1 v2 v3 a.2) (fun _ v1 _ _ v4 => some (v1, v4)) (by kernel_rfl) (fun _ => by kernel_rfl) fun Lp a => by kernel_rfl
theorem con (k : Nat) : Con Tryz.prog S (f k) := con_fn (nt := 45) (live := live) (Λ := tab k) tok (all_cons (ok_con (impl_InRange.con k)) (all_cons (ok_con (impl_isTest.con k)) all_nil)) mixed Tryz.func122 (by kernel_rfl) (all_cons (fit3 k) all_nil) fun x => by kernel_rfl
end impl_IsPattern

namespace impl_isMaybe
def S : Sp := ⟨80, ⟨[32], [4], [.bor], .own⟩, [.V], [.B]⟩
theorem con (k : Nat) : Con Tryz.prog S (f k) := con_fn (nt := 10) (live := []) (Λ := noL) tok (all_cons (ok_con (impl_IsPattern.con k)) all_nil) mixed Tryz.func80 (by kernel_rfl) all_nil fun x => by kernel_rfl
end impl_isMaybe

namespace impl_IsRules
def S : Sp := ⟨39, ⟨[38], [4], [.bor], .own⟩, [.agg .lent kd38], [.B]⟩
theorem con (k : Nat) : Con Tryz.prog S (f k) := con_fn (nt := 39) (live := []) (Λ := noL) tok (all_cons (ok_con (impl_InRange.con k)) (all_cons (ok_con (impl_isMaybe.con k)) all_nil)) mixed Tryz.func39 (by kernel_rfl) all_nil fun x => by kernel_rfl
end impl_IsRules

namespace impl_asks
def S : Sp := ⟨123, ⟨[3, 3], [4], [.bor, .bor], .own⟩, [.I, .I], [.B]⟩
theorem con (k : Nat) : Con Tryz.prog S (f k) := con_fn (nt := 31) (live := []) (Λ := noL) tok (all_cons (ok_con (impl_SuitOf.con k)) (all_cons (ok_con (impl_RankOf.con k)) (all_cons (ok_con (impl_IsRed.con k)) all_nil))) mixed Tryz.func123 (by kernel_rfl) all_nil fun x => by kernel_rfl
end impl_asks

namespace impl_Matches
def S : Sp := ⟨81, ⟨[32, 3], [4], [.bor, .bor], .own⟩, [.V, .I], [.B]⟩
def live : List (Nat × List Nat) := [(5, [1, 5, 18, 19, 20]), (100005, [4, 5])]
def G {R : Type} (k : Nat) : Glob R := mkG tt [impl_IsCard.S.ent (impl_IsCard.f k), impl_IsPattern.S.ent (impl_IsPattern.f k), impl_asks.S.ent (impl_asks.f k)] 89
def h5 : Hd := ⟨[.I, .l (.own 0), .V, .I, .I], [.row false .bools]⟩
def T5 {R : Type} (k : Nat) (K : X → St → Option R) : h5.Fn (Option R) := fun v0 v1 v2 v3 v4 => l5 k v0 v1 v2 (fun p0 => K (.exit 0) (stOf [4, 5] [.one (.l (.any)), .one (.l (.own 0))] [some (.row 0 0 (.bools p0))])) k v3 v4
def tab {R : Type} (k : Nat) : LTab R := fun id K vs hs => bif id == 5 then h5.tell vs hs (T5 k K) else none
theorem fit5 {R : Type} (k : Nat) : Fit (R := R) (G k) live (tab k) (bl Tryz.f81 0) := h5.fit (key := 5) (by kernel_rfl) (T5 k) (fun _ _ _ => rfl) fun K r v0 v1 v2 v3 v4 h => fit_mk h (fun a => h5.mk' v0 v1 v2 a.1 a.2) (fun _ _ _ v3 v4 => some (v3, v4)) (by kernel_rfl) (fun _ => by kernel_rfl) fun Lp a => by kernel_rfl
theorem con (k : Nat) : Con Tryz.prog S (f k) := con_fn (nt := 89) (live := live) (Λ := tab k) tok (all_cons (ok_con (impl_IsCard.con k)) (all_cons (ok_con (impl_IsPattern.con k)) (all_cons (ok_con (impl_asks.con k)) all_nil))) mixed Tryz.func81 (by kernel_rfl) (all_cons (fit5 k) all_nil) fun x => by kernel_rfl
end impl_Matches

namespace impl_MatchSet
def S : Sp := ⟨40, ⟨[32], [32], [.bor], .own⟩, [.V], [.l .own (.ints .i64)]⟩
def live : List (Nat × List Nat) := [(3, [0, 3, 6]), (100003, [2, 3])]
def G {R : Type} (k : Nat) : Glob R := mkG tt [impl_Matches.S.ent (impl_Matches.f k)] 18
def h3 : Hd := ⟨[.V, .l (.own 0), .I], [.V]⟩
def T3 {R : Type} (k : Nat) (K : X → St → Option R) : h3.Fn (Option R) := fun v0 v1 v2 => l3 k v0 (fun p0 => K (.exit 0) (stOf [2, 3] [.one (.l (.any)), .one (.l (.own 0))] [some (.row 0 0 (.ints .i64 p0))])) k v1 v2
def tab {R : Type} (k : Nat) : LTab R := fun id K vs hs => bif id == 3 then h3.tell vs hs (T3 k K) else none
theorem fit3 {R : Type} (k : Nat) : Fit (R := R) (G k) live (tab k) (bl Tryz.f40 0) := h3.fit (key := 3) (by kernel_rfl) (T3 k) (fun _ _ _ => rfl) fun K r v0 v1 v2 h => fit_mk h (fun a => h3.mk' v0 a.1 a.2) (fun _ v1 v2 => some (v1, v2)) (by kernel_rfl) (fun _ => by kernel_rfl) fun Lp a => by kernel_rfl
theorem con (k : Nat) : Con Tryz.prog S (f k) := con_fn (nt := 18) (live := live) (Λ := tab k) tok (all_cons (ok_con (impl_Matches.con k)) all_nil) mixed Tryz.func40 (by kernel_rfl) (all_cons (fit3 k) all_nil) fun x => by kernel_rfl
end impl_MatchSet

namespace impl_WildShare
def S : Sp := ⟨12, ⟨[38], [3], [.bor], .own⟩, [.agg .lent kd38], [.O]⟩
theorem con (k : Nat) : Con Tryz.prog S (f k) := con_fn (nt := 12) (live := []) (Λ := noL) tok (all_cons (ok_con (impl_IsRules.con k)) (all_cons (ok_con (impl_MatchSet.con k)) all_nil)) mixed Tryz.func12 (by kernel_rfl) all_nil fun x => by kernel_rfl
end impl_WildShare

namespace spec_l8Leaves
def S : Sp := ⟨162, ⟨[78], [3], [.io], .own⟩, [.ptr kd108], [.O, .ptr kd108]⟩
theorem con (k : Nat) : Con Tryz.prog S (f k) := con_fn (nt := 15) (live := []) (Λ := noL) tok (all_cons (ok_con (spec_l1Below.con k)) (all_cons (ok_con (spec_l1Int.con k)) all_nil)) mixed Tryz.func162 (by kernel_rfl) all_nil fun x => by kernel_rfl
end spec_l8Leaves

namespace spec_l8Draw
def S : Sp := ⟨136, ⟨[78, 3], [32], [.io, .bor], .own⟩, [.ptr kd108, .I], [.l .own (.ints .i64), .ptr kd108]⟩
theorem step (k : Nat) (self : LI → Int → Int → Int → Option (LI × LI × Int × Int)) (hself : Con Tryz.prog S self) : Con Tryz.prog S (b k self) := con_fn (nt := 38) (live := []) (Λ := noL) tok (all_cons (ok_con (spec_l1Once.con k)) (all_cons (ok_con (spec_l1Below.con k)) (all_cons (ok_con hself) (all_cons (ok_con (spec_l8Leaves.con k)) all_nil)))) mixed Tryz.func136 (by kernel_rfl) all_nil fun x => by kernel_rfl
theorem con (k : Nat) : Con Tryz.prog S (f k) := con_rec (S := S) (b := b k) (g := g k) ⟨Tryz.f136, Tryz.func136, by kernel_rfl, by kernel_rfl⟩ (fun _ => rfl) (fun _ => rfl) (step k) k
end spec_l8Draw

namespace spec_l22Draw
def S : Sp := ⟨103, ⟨[78], [38], [.io], .own⟩, [.ptr kd108], [.agg .own kd38, .ptr kd108]⟩
theorem con (k : Nat) : Con Tryz.prog S (f k) := con_fn (nt := 30) (live := []) (Λ := noL) tok (all_cons (ok_con (spec_l1Once.con k)) (all_cons (ok_con (spec_l1Below.con k)) (all_cons (ok_con (spec_l8Draw.con k)) all_nil))) mixed Tryz.func103 (by kernel_rfl) all_nil fun x => by kernel_rfl
end spec_l22Draw

namespace spec_l8Any
def S : Sp := ⟨124, ⟨[78], [32], [.io], .frz⟩, [.ptr kd108], [.l .frz (.ints .i64), .ptr kd108]⟩
theorem con (k : Nat) : Con Tryz.prog S (f k) := con_fn (nt := 24) (live := []) (Λ := noL) tok (all_cons (ok_con (spec_l1Below.con k)) (all_cons (ok_con (spec_l1Int.con k)) (all_cons (ok_con (spec_l8Draw.con k)) all_nil))) mixed Tryz.func124 (by kernel_rfl) all_nil fun x => by kernel_rfl
end spec_l8Any

namespace spec_l22Any
def S : Sp := ⟨82, ⟨[78], [38], [.io], .lent⟩, [.ptr kd108], [.agg .lent kd38, .ptr kd108]⟩
theorem con (k : Nat) : Con Tryz.prog S (f k) := con_fn (nt := 41) (live := []) (Λ := noL) tok (all_cons (ok_con (spec_l1Below.con k)) (all_cons (ok_con (spec_l1Int.con k)) (all_cons (ok_con (spec_l22Draw.con k)) (all_cons (ok_con (spec_l8Any.con k)) all_nil)))) mixed Tryz.func82 (by kernel_rfl) all_nil fun x => by kernel_rfl
end spec_l22Any

namespace spec_DrawIsRules
def S : Sp := ⟨41, ⟨[22], [38], [.frz], .lent⟩, [.l .frz (.ints .u8)], [.agg .lent kd38]⟩
theorem con (k : Nat) : Con Tryz.prog S (f k) := con_fn (nt := 8) (live := []) (Λ := noL) tok (all_cons (ok_con (spec_l1New.con k)) (all_cons (ok_con (spec_l22Any.con k)) all_nil)) mixed Tryz.func41 (by kernel_rfl) all_nil fun x => by kernel_rfl
end spec_DrawIsRules

namespace spec_DrawWildShare
def S : Sp := ⟨13, ⟨[22], [38], [.frz], .lent⟩, [.l .frz (.ints .u8)], [.agg .lent kd38]⟩
theorem con (k : Nat) : Con Tryz.prog S (f k) := con_fn (nt := 5) (live := []) (Λ := noL) tok (all_cons (ok_con (spec_DrawIsRules.con k)) all_nil) mixed Tryz.func13 (by kernel_rfl) all_nil fun x => by kernel_rfl
end spec_DrawWildShare

namespace spec_l5Some
def S : Sp := ⟨125, ⟨[78, 3], [32], [.io, .bor], .own⟩, [.ptr kd108, .I], [.l .own (.ints .i64), .ptr kd108]⟩
def live : List (Nat × List Nat) := [(6, [0, 1, 5, 6, 7, 27]), (100006, [0, 1, 4, 5, 6, 7, 27]), (3, [0, 1, 5, 6, 27]), (100003, [4, 5, 27])]
def G {R : Type} (k : Nat) : Glob R := mkG tt [spec_l1Below.S.ent (spec_l1Below.f k), spec_HasCard.S.ent (spec_HasCard.f k)] 27
def h6 : Hd := ⟨[.l (.ptr 0 0), .I, .l (.own 1), .I, .I, .l (.ptr 0 0)], [.box [.val true false (.ints .u8), .I, .I], .V]⟩
def T6 {R : Type} (k : Nat) (K : X → St → Option R) : h6.Fn (Option R) := fun v0 v1 v2 v3 v4 v5 v6 => l6 k v6 (fun p0 => K (.exit 2) (stOf [0, 1, 4, 5, 6, 7, 27] [.one (.l (.bptr 0 0)), .one (.l (.i .i64 v0)), .one (.l (.any)), .one (.l (.own 1)), .one (.l (.i .i64 v1)), .one (.l (.i .i64 p0)), .one (.l (.bptr 0 0))] [some (.box 0 [.val true (.ints .u8 v3), .i .i64 v4, .i .i64 v5]), some (.row 0 0 (.ints .i64 v6))])) k v2
def h3 : Hd := ⟨[.l (.ptr 0 0), .I, .l (.own 1), .I, .l (.ptr 0 0)], [.box [.val true false (.ints .u8), .I, .I], .V]⟩
def T3 {R : Type} (k : Nat) (K : X → St → Option R) : h3.Fn (Option R) := fun v0 v1 v2 v3 v4 v5 => l3 k v0 (fun p0 p1 p2 p3 => K (.exit 0) (stOf [4, 5, 27] [.one (.l (.any)), .one (.l (.own 0)), .one (.l (.bptr 1 0))] [some (.row 0 0 (.ints .i64 p0)), some (.box 0 [.val true (.ints .u8 p1), .i .i64 p2, .i .i64 p3])])) k v1 v2 v3 v4 v5
def tab {R : Type} (k : Nat) : LTab R := fun id K vs hs => bif id == 6 then h6.tell vs hs (T6 k K) else bif id == 3 then h3.tell vs hs (T3 k K) else none
theorem fit3 {R : Type} (k : Nat) : Fit (R := R) (G k) live (tab k) (bl Tryz.f125 0) := h3.fit (key := 3) (by kernel_rfl) (T3 k) (fun _ _ _ => rfl) fun K r v0 v1 v2 v3 v4 v5 h => fit_mk h (fun a => h3.mk' v0 a.1 a.2.1 (t2 a).1 (t3 a).1 (t4 a)) (fun _ v1 v2 v3 v4 v5 => some (v1, v2, v3, v4, v5)) (by kernel_rfl) (fun _ => by kernel_rfl) fun Lp a => by kernel_rfl
theorem fit6 {R : Type} (k : Nat) : Fit (R := R) (G k) live (tab k) (bl Tryz.f125 1) := h6.fit (key := 6) (by kernel_rfl) (T6 k) (fun _ _ _ => rfl) fun K r v0 v1 v2 v3 v4 v5 v6 h => fit_mk h (fun a => h6.mk' v0 v1 a v3 v4 v5 v6) (fun _ _ v2 _ _ _ _ => some v2) (by kernel_rfl) (fun _ => by kernel_rfl) fun Lp a => by kernel_rfl
theorem con (k : Nat) : Con Tryz.prog S (f k) := con_fn (nt := 27) (live := live) (Λ := tab k) tok (all_cons (ok_con (spec_l1Below.con k)) (all_cons (ok_con (spec_HasCard.con k)) all_nil)) mixed Tryz.func125 (by kernel_rfl) (all_cons (fit3 k) (all_cons (fit6 k) all_nil)) fun x => by kernel_rfl
end spec_l5Some

namespace spec_l5Any
def S : Sp := ⟨83, ⟨[78], [32], [.io], .own⟩, [.ptr kd108], [.l .own (.ints .i64), .ptr kd108]⟩
theorem con (k : Nat) : Con Tryz.prog S (f k) := con_fn (nt := 27) (live := []) (Λ := noL) tok (all_cons (ok_con (spec_l1Once.con k)) (all_cons (ok_con (spec_l1Below.con k)) (all_cons (ok_con (spec_l1Int.con k)) (all_cons (ok_con (spec_l5Some.con k)) all_nil)))) mixed Tryz.func83 (by kernel_rfl) all_nil fun x => by kernel_rfl
end spec_l5Any

namespace spec_l10Draw
def S : Sp := ⟨84, ⟨[78], [32], [.io], .own⟩, [.ptr kd108], [.l .own (.ints .i64), .ptr kd108]⟩
def live : List (Nat × List Nat) := [(7, [0, 3, 4, 5, 6, 43]), (100007, [0, 2, 3, 4, 43]), (3, [0, 3, 4, 43]), (100003, [2, 3, 43])]
def G {R : Type} (k : Nat) : Glob R := mkG tt [spec_l1Below.S.ent (spec_l1Below.f k), spec_l1Int.S.ent (spec_l1Int.f k), spec_HasCard.S.ent (spec_HasCard.f k)] 43
def h7 : Hd := ⟨[.l (.ptr 0 0), .l (.own 1), .I, .I, .I, .l (.ptr 0 0)], [.box [.val true false (.ints .u8), .I, .I], .V]⟩
def T7 {R : Type} (k : Nat) (K : X → St → Option R) : h7.Fn (Option R) := fun v0 v1 v2 v3 v4 v5 v6 => l7 k (fun p0 p1 p2 p3 => K (.exit 2) (stOf [0, 2, 3, 4, 43] [.one (.l (.bptr 0 0)), .one (.l (.any)), .one (.l (.own 1)), .one (.l (.i .i64 v0)), .one (.l (.bptr 0 0))] [some (.box 0 [.val true (.ints .u8 p0), .i .i64 p1, .i .i64 p2]), some (.row 0 0 (.ints .i64 p3))])) k v1 v2 v3 v4 v5 v6
def h3 : Hd := ⟨[.l (.ptr 0 0), .l (.own 1), .I, .l (.ptr 0 0)], [.box [.val true false (.ints .u8), .I, .I], .V]⟩
def T3 {R : Type} (k : Nat) (K : X → St → Option R) : h3.Fn (Option R) := fun v0 v1 v2 v3 v4 => l3 k (fun p0 p1 p2 p3 => K (.exit 0) (stOf [2, 3, 43] [.one (.l (.any)), .one (.l (.own 0)), .one (.l (.bptr 1 0))] [some (.row 0 0 (.ints .i64 p0)), some (.box 0 [.val true (.ints .u8 p1), .i .i64 p2, .i .i64 p3])])) k v0 v1 v2 v3 v4
def tab {R : Type} (k : Nat) : LTab R := fun id K vs hs => bif id == 7 then h7.tell vs hs (T7 k K) else bif id == 3 then h3.tell vs hs (T3 k K) else none
theorem fit3 {R : Type} (k : Nat) : Fit (R := R) (G k) live (tab k) (bl Tryz.f84 0) := h3.fit (key := 3) (by kernel_rfl) (T3 k) (fun _ _ _ => rfl) fun K r v0 v1 v2 v3 v4 h => fit_mk h (fun a => h3.mk' a.1 a.2.1 (t2 a).1 (t3 a).1 (t4 a)) (fun v0 v1 v2 v3 v4 => some (v0, v1, v2, v3, v4)) (by kernel_rfl) (fun _ => by kernel_rfl) fun Lp a => by kernel_rfl
theorem fit7 {R : Type} (k : Nat) : Fit (R := R) (G k) live (tab k) (bl Tryz.f84 1) := h7.fit (key := 7) (by kernel_rfl) (T7 k) (fun _ _ _ => rfl) fun K r v0 v1 v2 v3 v4 v5 v6 h => fit_mk h (fun a => h7.mk' v0 a.1 a.2.1 (t2 a).1 (t3 a).1 (t4 a).1 (t5 a)) (fun _ v1 v2 v3 v4 v5 v6 => some (v1, v2, v3, v4, v5, v6)) (by kernel_rfl) (fun _ => by kernel_rfl) fun Lp a => by kernel_rfl
theorem con (k : Nat) : Con Tryz.prog S (f k) := con_fn (nt := 43) (live := live) (Λ := tab k) tok (all_cons (ok_con (spec_l1Below.con k)) (all_cons (ok_con (spec_l1Int.con k)) (all_cons (ok_con (spec_HasCard.con k)) all_nil))) mixed Tryz.func84 (by kernel_rfl) (all_cons (fit3 k) (all_cons (fit7 k) all_nil)) fun x => by kernel_rfl
end spec_l10Draw

namespace spec_DrawMeldsIn
def S : Sp := ⟨42, ⟨[22], [32], [.frz], .own⟩, [.l .frz (.ints .u8)], [.l .own (.ints .i64)]⟩
theorem con (k : Nat) : Con Tryz.prog S (f k) := con_fn (nt := 12) (live := []) (Λ := noL) tok (all_cons (ok_con (spec_l1New.con k)) (all_cons (ok_con (spec_l1Once.con k)) (all_cons (ok_con (spec_l5Any.con k)) (all_cons (ok_con (spec_l10Draw.con k)) all_nil)))) mixed Tryz.func42 (by kernel_rfl) all_nil fun x => by kernel_rfl
end spec_DrawMeldsIn

namespace spec_DrawMeldCount
def S : Sp := ⟨14, ⟨[22], [32], [.frz], .own⟩, [.l .frz (.ints .u8)], [.l .own (.ints .i64)]⟩
theorem con (k : Nat) : Con Tryz.prog S (f k) := con_fn (nt := 5) (live := []) (Λ := noL) tok (all_cons (ok_con (spec_DrawMeldsIn.con k)) all_nil) mixed Tryz.func14 (by kernel_rfl) all_nil fun x => by kernel_rfl
end spec_DrawMeldCount

namespace impl_Sorted
def S : Sp := ⟨45, ⟨[32], [32], [.bor], .own⟩, [.V], [.l .own (.ints .i64)]⟩
def live : List (Nat × List Nat) := [(6, [3, 5, 6, 8, 9, 10]), (100006, [2, 3, 5, 6, 8, 9, 10]), (3, [3, 8, 9, 10]), (100003, [2, 3])]
def G {R : Type} (k : Nat) : Glob R := mkG tt [] 46
def h6 : Hd := ⟨[.l (.own 0), .I, .I, .V, .I, .I], [.V]⟩
def T6 {R : Type} (k : Nat) (K : X → St → Option R) : h6.Fn (Option R) := fun v0 v1 v2 v3 v4 v5 => l6 k v0 v5 (fun p0 => K (.exit 2) (stOf [2, 3, 5, 6, 8, 9, 10] [.one (.l (.any)), .one (.l (.own 0)), .one (.l (.i .i64 v0)), .one (.l (.i .i64 p0)), .one (.l (.val false (.ints .i64 v2))), .one (.l (.i .i64 v3)), .one (.l (.i .i64 v4))] [some (.row 0 0 (.ints .i64 v5))])) k v1
def h3 : Hd := ⟨[.l (.own 0), .V, .I, .I], [.V]⟩
def T3 {R : Type} (k : Nat) (K : X → St → Option R) : h3.Fn (Option R) := fun v0 v1 v2 v3 => l3 k v0 v1 (fun p0 => K (.exit 0) (stOf [2, 3] [.one (.l (.any)), .one (.l (.own 0))] [some (.row 0 0 (.ints .i64 p0))])) k v2 v3
def tab {R : Type} (k : Nat) : LTab R := fun id K vs hs => bif id == 6 then h6.tell vs hs (T6 k K) else bif id == 3 then h3.tell vs hs (T3 k K) else none
theorem fit3 {R : Type} (k : Nat) : Fit (R := R) (G k) live (tab k) (bl Tryz.f45 0) := h3.fit (key := 3) (by kernel_rfl) (T3 k) (fun _ _ _ => rfl) fun K r v0 v1 v2 v3 h => fit_mk h (fun a => h3.mk' v0 v1 a.1 a.2) (fun _ _ v2 v3 => some (v2, v3)) (by kernel_rfl) (fun _ => by kernel_rfl) fun Lp a => by kernel_rfl
theorem fit6 {R : Type} (k : Nat) : Fit (R := R) (G k) live (tab k) (bl Tryz.f45 1) := h6.fit (key := 6) (by kernel_rfl) (T6 k) (fun _ _ _ => rfl) fun K r v0 v1 v2 v3 v4 v5 h => fit_mk h (fun a => h6.mk' v0 a v2 v3 v4 v5) (fun _ v1 _ _ _ _ => some v1) (by kernel_rfl) (fun _ => by kernel_rfl) fun Lp a => by kernel_rfl
theorem con (k : Nat) : Con Tryz.prog S (f k) := con_fn (nt := 46) (live := live) (Λ := tab k) tok all_nil mixed Tryz.func45 (by kernel_rfl) (all_cons (fit3 k) (all_cons (fit6 k) all_nil)) fun x => by kernel_rfl
end impl_Sorted

namespace impl_IsSetMeld
def S : Sp := ⟨46, ⟨[32], [4], [.bor], .own⟩, [.V], [.B]⟩
def live : List (Nat × List Nat) := [(4, [0, 14, 15, 16]), (100004, [2])]
def G {R : Type} (k : Nat) : Glob R := mkG tt [impl_InRange.S.ent (impl_InRange.f k), impl_IsHand.S.ent (impl_IsHand.f k), impl_RankOf.S.ent (impl_RankOf.f k)] 28
def h4 : Hd := ⟨[.V, .V, .I, .I], []⟩
def T4 {R : Type} (k : Nat) (K : X → St → Option R) : h4.Fn (Option R) := fun v0 v1 v2 v3 => l4 k v0 v1 v2 (K .ret (stOf [2] [.one (.l (.b false))] [])) (K (.exit 0) (stOf [2] [.one (.l (.any))] [])) k v3
def tab {R : Type} (k : Nat) : LTab R := fun id K vs hs => bif id == 4 then h4.tell vs hs (T4 k K) else none
theorem fit4 {R : Type} (k : Nat) : Fit (R := R) (G k) live (tab k) (bl Tryz.f46 0) := h4.fit (key := 4) (by kernel_rfl) (T4 k) (fun _ _ _ => rfl) fun K r v0 v1 v2 v3 h => fit_mk h (fun a => h4.mk' v0 v1 v2 a) (fun _ _ _ v3 => some v3) (by kernel_rfl) (fun _ => by kernel_rfl) fun Lp a => by kernel_rfl
theorem con (k : Nat) : Con Tryz.prog S (f k) := con_fn (nt := 28) (live := live) (Λ := tab k) tok (all_cons (ok_con (impl_InRange.con k)) (all_cons (ok_con (impl_IsHand.con k)) (all_cons (ok_con (impl_RankOf.con k)) all_nil))) mixed Tryz.func46 (by kernel_rfl) (all_cons (fit4 k) all_nil) fun x => by kernel_rfl
end impl_IsSetMeld

namespace impl_IsRunMeld
def S : Sp := ⟨47, ⟨[32], [4], [.bor], .own⟩, [.V], [.B]⟩
def live : List (Nat × List Nat) := [(5, [3, 16, 17, 18]), (100005, [2])]
def G {R : Type} (k : Nat) : Glob R := mkG tt [impl_IsHand.S.ent (impl_IsHand.f k), impl_Sorted.S.ent (impl_Sorted.f k), impl_SuitOf.S.ent (impl_SuitOf.f k)] 40
def h5 : Hd := ⟨[.l (.own 0), .l (.own 0), .I, .I], [.V]⟩
def T5 {R : Type} (k : Nat) (K : X → St → Option R) : h5.Fn (Option R) := fun v0 v1 v2 => l5 k v0 v2 (K .ret (stOf [2] [.one (.l (.b false))] [])) (K (.exit 0) (stOf [2] [.one (.l (.any))] [])) k v1
def tab {R : Type} (k : Nat) : LTab R := fun id K vs hs => bif id == 5 then h5.tell vs hs (T5 k K) else none
theorem fit5 {R : Type} (k : Nat) : Fit (R := R) (G k) live (tab k) (bl Tryz.f47 0) := h5.fit (key := 5) (by kernel_rfl) (T5 k) (fun _ _ _ => rfl) fun K r v0 v1 v2 h => fit_mk h (fun a => h5.mk' v0 a v2) (fun _ v1 _ => some v1) (by kernel_rfl) (fun _ => by kernel_rfl) fun Lp a => by kernel_rfl
theorem con (k : Nat) : Con Tryz.prog S (f k) := con_fn (nt := 40) (live := live) (Λ := tab k) tok (all_cons (ok_con (impl_IsHand.con k)) (all_cons (ok_con (impl_Sorted.con k)) (all_cons (ok_con (impl_SuitOf.con k)) all_nil))) mixed Tryz.func47 (by kernel_rfl) (all_cons (fit5 k) all_nil) fun x => by kernel_rfl
end impl_IsRunMeld

namespace impl_isBefore
def S : Sp := ⟨48, ⟨[32, 32], [4], [.bor, .bor], .own⟩, [.V, .V], [.B]⟩
def live : List (Nat × List Nat) := [(2, [0, 1, 7, 8]), (100002, [0, 1, 4])]
def G {R : Type} (k : Nat) : Glob R := mkG tt [] 39
def h2 : Hd := ⟨[.V, .V, .I, .I], []⟩
def T2 {R : Type} (k : Nat) (K : X → St → Option R) : h2.Fn (Option R) := fun v0 v1 v2 v3 => l2 k v0 v1 v2 (fun p0 => K .ret (stOf [0, 1, 4] [.one (.l (.val false (.ints .i64 v0))), .one (.l (.val false (.ints .i64 v1))), .one (.l (.b p0))] [])) (K (.exit 0) (stOf [0, 1, 4] [.one (.l (.val false (.ints .i64 v0))), .one (.l (.val false (.ints .i64 v1))), .one (.l (.any))] [])) k v3
def tab {R : Type} (k : Nat) : LTab R := fun id K vs hs => bif id == 2 then h2.tell vs hs (T2 k K) else none
theorem fit2 {R : Type} (k : Nat) : Fit (R := R) (G k) live (tab k) (bl Tryz.f48 0) := h2.fit (key := 2) (by kernel_rfl) (T2 k) (fun _ _ _ => rfl) fun K r v0 v1 v2 v3 h => fit_mk h (fun a => h2.mk' v0 v1 v2 a) (fun _ _ _ v3 => some v3) (by kernel_rfl) (fun _ => by kernel_rfl) fun Lp a => by kernel_rfl
theorem con (k : Nat) : Con Tryz.prog S (f k) := con_fn (nt := 39) (live := live) (Λ := tab k) tok all_nil mixed Tryz.func48 (by kernel_rfl) (all_cons (fit2 k) all_nil) fun x => by kernel_rfl
end impl_isBefore

namespace impl_MeldsIn
def S : Sp := ⟨18, ⟨[32], [24], [.bor], .own⟩, [.V], [.l .own .rows]⟩
def live : List (Nat × List Nat) := [(9, [3, 4, 5, 6, 23, 24, 28, 29, 30]), (100009, [2, 3, 4, 6, 23, 24]), (16, [3, 4, 6, 9, 23, 24]), (100016, [2, 3, 4, 6, 9, 23, 24]), (5, [3, 4, 23, 24]), (100005, [2, 4])]
def G {R : Type} (k : Nat) : Glob R := mkG tt [impl_IsHand.S.ent (impl_IsHand.f k), impl_Sorted.S.ent (impl_Sorted.f k), impl_IsSetMeld.S.ent (impl_IsSetMeld.f k), impl_IsRunMeld.S.ent (impl_IsRunMeld.f k), impl_isBefore.S.ent (impl_isBefore.f k)] 85
def h9 : Hd := ⟨[.l (.own 0), .l (.own 1), .I, .l (.own 2), .I, .I, .l (.own 0), .I, .I], [.V, .W, .V]⟩
def T9 {R : Type} (k : Nat) (K : X → St → Option R) : h9.Fn (Option R) := fun v0 v1 v2 v3 v4 v5 v6 v7 => l9 k v0 v3 v5 (fun p0 => K (.exit 2) (stOf [2, 3, 4, 6, 23, 24] [.one (.l (.any)), .one (.l (.own 0)), .one (.l (.own 1)), .one (.l (.own 2)), .one (.l (.i .i64 v1)), .one (.l (.i .i64 v2))] [some (.row 0 0 (.ints .i64 v5)), some (.row 0 0 (.rows true v6)), some (.row 0 0 (.ints .i64 p0))])) k v4 v7
def h16 : Hd := ⟨[.l (.own 0), .l (.own 1), .l (.own 2), .I, .I, .I], [.V, .W, .V]⟩
def T16 {R : Type} (k : Nat) (K : X → St → Option R) : h16.Fn (Option R) := fun v0 v1 v2 v3 v4 v5 => l16 k v4 v5 (fun p0 => K (.exit 4) (stOf [2, 3, 4, 6, 9, 23, 24] [.one (.l (.any)), .one (.l (.own 0)), .one (.l (.own 1)), .one (.l (.own 2)), .one (.l (.i .i64 p0)), .one (.l (.i .i64 v1)), .one (.l (.i .i64 v2))] [some (.row 0 0 (.ints .i64 v3)), some (.row 0 0 (.rows true v4)), some (.row 0 0 (.ints .i64 v5))])) k v0
def h5 : Hd := ⟨[.l (.own 0), .l (.own 1), .I, .I], [.V, .W]⟩
def T5 {R : Type} (k : Nat) (K : X → St → Option R) : h5.Fn (Option R) := fun v0 v1 v2 v3 => l5 k v0 v2 (fun p0 => K (.exit 0) (stOf [2, 4] [.one (.l (.any)), .one (.l (.own 0))] [some (.row 0 0 (.rows true p0))])) k v1 v3
def tab {R : Type} (k : Nat) : LTab R := fun id K vs hs => bif id == 9 then h9.tell vs hs (T9 k K) else bif id == 16 then h16.tell vs hs (T16 k K) else bif id == 5 then h5.tell vs hs (T5 k K) else none
theorem fit5 {R : Type} (k : Nat) : Fit (R := R) (G k) live (tab k) (bl Tryz.f18 0) := h5.fit (key := 5) (by kernel_rfl) (T5 k) (fun _ _ _ => rfl) fun K r v0 v1 v2 v3 h => fit_mk h (fun a => h5.mk' v0 a.1 v2 a.2) (fun _ v1 _ v3 => some (v1, v3)) (by kernel_rfl) (fun _ => by kernel_rfl) fun Lp a => by kernel_rfl
theorem fit9 {R : Type} (k : Nat) : Fit (R := R) (G k) live (tab k) (bl Tryz.f18 1) := h9.fit (key := 9) (by kernel_rfl) (T9 k) (fun _ _ _ => rfl) fun K r v0 v1 v2 v3 v4 v5 v6 v7 h => fit_mk h (fun a => h9.mk' v0 v1 v2 v3 a.1 v5 v6 a.2) (fun _ _ _ _ v4 _ _ v7 => some (v4, v7)) (by kernel_rfl) (fun _ => by kernel_rfl) fun Lp a => by kernel_rfl
theorem fit16 {R : Type} (k : Nat) : Fit (R := R) (G k) live (tab k) (bl Tryz.f18 2) := h16.fit (key := 16) (by kernel_rfl) (T16 k) (fun _ _ _ => rfl) fun K r v0 v1 v2 v3 v4 v5 h => fit_mk h (fun a => h16.mk' a v1 v2 v3 v4 v5) (fun v0 _ _ _ _ _ => some v0) (by kernel_rfl) (fun _ => by kernel_rfl) fun Lp a => by kernel_rfl
theorem con (k : Nat) : Con Tryz.prog S (f k) := con_fn (nt := 85) (live := live) (Λ := tab k) tok (all_cons (ok_con (impl_IsHand.con k)) (all_cons (ok_con (impl_Sorted.con k)) (all_cons (ok_con (impl_IsSetMeld.con k)) (all_cons (ok_con (impl_IsRunMeld.con k)) (all_cons (ok_con (impl_isBefore.con k)) all_nil))))) mixed Tryz.func18 (by kernel_rfl) (all_cons (fit5 k) (all_cons (fit9 k) (all_cons (fit16 k) all_nil))) fun x => by kernel_rfl
end impl_MeldsIn

namespace impl_MeldCount
def S : Sp := ⟨15, ⟨[32], [3], [.bor], .own⟩, [.V], [.O]⟩
theorem con (k : Nat) : Con Tryz.prog S (f k) := con_fn (nt := 6) (live := []) (Λ := noL) tok (all_cons (ok_con (impl_MeldsIn.con k)) all_nil) mixed Tryz.func15 (by kernel_rfl) all_nil fun x => by kernel_rfl
end impl_MeldCount

namespace spec_l10Ok
def S : Sp := ⟨85, ⟨[32], [4], [.bor], .own⟩, [.V], [.B]⟩
theorem con (k : Nat) : Con Tryz.prog S (f k) := con_fn (nt := 10) (live := []) (Λ := noL) tok (all_cons (ok_con (spec_IsHand.con k)) all_nil) mixed Tryz.func85 (by kernel_rfl) all_nil fun x => by kernel_rfl
end spec_l10Ok

namespace spec_l10Before
def S : Sp := ⟨127, ⟨[32, 32], [4], [.bor, .bor], .own⟩, [.V, .V], [.B]⟩
def live : List (Nat × List Nat) := [(2, [0, 1, 5]), (100002, [0, 1, 4])]
def G {R : Type} (k : Nat) : Glob R := mkG tt [] 41
def h2 : Hd := ⟨[.V, .V, .I], []⟩
def T2 {R : Type} (k : Nat) (K : X → St → Option R) : h2.Fn (Option R) := fun v0 v1 v2 => l2 k v0 v1 (fun p0 => K .ret (stOf [0, 1, 4] [.one (.l (.val false (.ints .i64 v0))), .one (.l (.val false (.ints .i64 v1))), .one (.l (.b p0))] [])) (K (.exit 0) (stOf [0, 1, 4] [.one (.l (.val false (.ints .i64 v0))), .one (.l (.val false (.ints .i64 v1))), .one (.l (.any))] [])) k v2
def tab {R : Type} (k : Nat) : LTab R := fun id K vs hs => bif id == 2 then h2.tell vs hs (T2 k K) else none
theorem fit2 {R : Type} (k : Nat) : Fit (R := R) (G k) live (tab k) (bl Tryz.f127 0) := h2.fit (key := 2) (by kernel_rfl) (T2 k) (fun _ _ _ => rfl) fun K r v0 v1 v2 h => fit_mk h (fun a => h2.mk' v0 v1 a) (fun _ _ v2 => some v2) (by kernel_rfl) (fun _ => by kernel_rfl) fun Lp a => by kernel_rfl
theorem con (k : Nat) : Con Tryz.prog S (f k) := con_fn (nt := 41) (live := live) (Λ := tab k) tok all_nil mixed Tryz.func127 (by kernel_rfl) (all_cons (fit2 k) all_nil) fun x => by kernel_rfl
end spec_l10Before

namespace spec_l10Put
def S : Sp := ⟨87, ⟨[24, 32], [24], [.bor, .bor], .lent⟩, [.l .lent .rows, .V], [.l .lent .rows]⟩
def live : List (Nat × List Nat) := [(2, [0, 1, 5]), (100002, [0, 1, 4, 5])]
def G {R : Type} (k : Nat) : Glob R := mkG tt [spec_l10Before.S.ent (spec_l10Before.f k)] 33
def h2 : Hd := ⟨[.W, .V, .I], []⟩
def T2 {R : Type} (k : Nat) (K : X → St → Option R) : h2.Fn (Option R) := fun v0 v1 v2 => l2 k v0 v1 (fun p0 => K (.exit 0) (stOf [0, 1, 4, 5] [.one (.l (.val false (.rows false v0))), .one (.l (.val false (.ints .i64 v1))), .one (.l (.any)), .one (.l (.i .i64 p0))] [])) k v2
def tab {R : Type} (k : Nat) : LTab R := fun id K vs hs => bif id == 2 then h2.tell vs hs (T2 k K) else none
theorem fit2 {R : Type} (k : Nat) : Fit (R := R) (G k) live (tab k) (bl Tryz.f87 0) := h2.fit (key := 2) (by kernel_rfl) (T2 k) (fun _ _ _ => rfl) fun K r v0 v1 v2 h => fit_mk h (fun a => h2.mk' v0 v1 a) (fun _ _ v2 => some v2) (by kernel_rfl) (fun _ => by kernel_rfl) fun Lp a => by kernel_rfl
theorem con (k : Nat) : Con Tryz.prog S (f k) := con_fn (nt := 33) (live := live) (Λ := tab k) tok (all_cons (ok_con (spec_l10Before.con k)) all_nil) mixed Tryz.func87 (by kernel_rfl) (all_cons (fit2 k) all_nil) fun x => by kernel_rfl
end spec_l10Put

namespace spec_Without
def S : Sp := ⟨88, ⟨[32, 3], [32], [.bor, .bor], .own⟩, [.V, .I], [.l .own (.ints .i64)]⟩
def live : List (Nat × List Nat) := [(3, [0, 1, 5, 6]), (100003, [4, 5])]
def G {R : Type} (k : Nat) : Glob R := mkG tt [] 28
def h3 : Hd := ⟨[.V, .I, .l (.own 0), .I], [.V]⟩
def T3 {R : Type} (k : Nat) (K : X → St → Option R) : h3.Fn (Option R) := fun v0 v1 v2 v3 => l3 k v0 v1 (fun p0 => K (.exit 0) (stOf [4, 5] [.one (.l (.any)), .one (.l (.own 0))] [some (.row 0 0 (.ints .i64 p0))])) k v2 v3
def tab {R : Type} (k : Nat) : LTab R := fun id K vs hs => bif id == 3 then h3.tell vs hs (T3 k K) else none
theorem fit3 {R : Type} (k : Nat) : Fit (R := R) (G k) live (tab k) (bl Tryz.f88 0) := h3.fit (key := 3) (by kernel_rfl) (T3 k) (fun _ _ _ => rfl) fun K r v0 v1 v2 v3 h => fit_mk h (fun a => h3.mk' v0 v1 a.1 a.2) (fun _ _ v2 v3 => some (v2, v3)) (by kernel_rfl) (fun _ => by kernel_rfl) fun Lp a => by kernel_rfl
theorem con (k : Nat) : Con Tryz.prog S (f k) := con_fn (nt := 28) (live := live) (Λ := tab k) tok all_nil mixed Tryz.func88 (by kernel_rfl) (all_cons (fit3 k) all_nil) fun x => by kernel_rfl
end spec_Without

namespace spec_MeldsIn
def S : Sp := ⟨43, ⟨[32], [24], [.bor], .lent⟩, [.V], [.l .lent .rows]⟩
def live : List (Nat × List Nat) := [(9, [0, 3, 4, 5, 6]), (100009, [0, 2, 3, 4, 5]), (300009, [5]), (16, [0, 3, 4, 5, 7]), (100016, [0, 2, 3, 4]), (200016, [3]), (5, [0, 3, 4]), (100005, [0, 2, 3]), (200005, [3]), (24, [0, 3, 8, 9, 10]), (100024, [0, 2, 3, 8]), (200024, [3]), (20, [0, 3, 8]), (100020, [2, 3]), (200020, [3])]
def G {R : Type} (k : Nat) : Glob R := mkG tt [spec_l10Ok.S.ent (spec_l10Ok.f k), spec_HasCard.S.ent (spec_HasCard.f k), spec_l10Put.S.ent (spec_l10Put.f k), spec_Without.S.ent (spec_Without.f k), spec_SuitOf.S.ent (spec_SuitOf.f k)] 94
def h9 : Hd := ⟨[.V, .W, .I, .l (.own 0), .I], [.V]⟩
def T9 {R : Type} (k : Nat) (K : X → St → Option R) : h9.Fn (Option R) := fun v0 v1 v2 v3 v4 => l9 k v0 v2 (fun p0 => K (.exit 2) (stOf [0, 2, 3, 4, 5] [.one (.l (.val false (.ints .i64 v0))), .one (.l (.any)), .one (.l (.val false (.rows false v1))), .one (.l (.i .i64 v2)), .one (.l (.val false (.ints .i64 p0)))] [])) k v3 v4
def h16 : Hd := ⟨[.V, .W, .I, .V, .I], []⟩
def T16 {R : Type} (k : Nat) (K : X → St → Option R) : h16.Fn (Option R) := fun v0 v1 v2 v3 v4 => l16 k v3 (fun p0 => K (.exit 4) (stOf [0, 2, 3, 4] [.one (.l (.val false (.ints .i64 v0))), .one (.l (.any)), .one (.l (.val false (.rows false p0))), .one (.l (.i .i64 v2))] [])) k v1 v4
def h5 : Hd := ⟨[.V, .W, .I], []⟩
def T5 {R : Type} (k : Nat) (K : X → St → Option R) : h5.Fn (Option R) := fun v0 v1 v2 => l5 k v0 (fun p0 => K (.exit 0) (stOf [0, 2, 3] [.one (.l (.val false (.ints .i64 v0))), .one (.l (.any)), .one (.l (.val false (.rows false p0)))] [])) k v1 v2
def h24 : Hd := ⟨[.V, .W, .I, .l (.own 0), .I], [.V]⟩
def T24 {R : Type} (k : Nat) (K : X → St → Option R) : h24.Fn (Option R) := fun v0 v1 v2 v3 v4 => l24 k v0 v2 (fun p0 => K (.exit 8) (stOf [0, 2, 3, 8] [.one (.l (.val false (.ints .i64 v0))), .one (.l (.any)), .one (.l (.val false (.rows false p0))), .one (.l (.i .i64 v2))] [])) k v1 v3 v4
def h20 : Hd := ⟨[.V, .W, .I], []⟩
def T20 {R : Type} (k : Nat) (K : X → St → Option R) : h20.Fn (Option R) := fun v0 v1 v2 => l20 k v0 (fun p0 => K (.exit 6) (stOf [2, 3] [.one (.l (.any)), .one (.l (.val false (.rows false p0)))] [])) k v1 v2
def tab {R : Type} (k : Nat) : LTab R := fun id K vs hs => bif id == 9 then h9.tell vs hs (T9 k K) else bif id == 16 then h16.tell vs hs (T16 k K) else bif id == 5 then h5.tell vs hs (T5 k K) else bif id == 24 then h24.tell vs hs (T24 k K) else bif id == 20 then h20.tell vs hs (T20 k K) else none
theorem fit5 {R : Type} (k : Nat) : Fit (R := R) (G k) live (tab k) (bl Tryz.f43 0) := h5.fit (key := 5) (by kernel_rfl) (T5 k) (fun _ _ _ => rfl) fun K r v0 v1 v2 h => fit_mk h (fun a => h5.mk' v0 a.1 a.2) (fun _ v1 v2 => some (v1, v2)) (by kernel_rfl) (fun _ => by kernel_rfl) fun Lp a => by kernel_rfl
theorem fit9 {R : Type} (k : Nat) : Fit (R := R) (G k) live (tab k) (bl Tryz.f43 1) := h9.fit (key := 9) (by kernel_rfl) (T9 k) (fun _ _ _ => rfl) fun K r v0 v1 v2 v3 v4 h => fit_mk h (fun a => h9.mk' v0 v1 v2 a.1 a.2) (fun _ _ _ v3 v4 => some (v3, v4)) (by kernel_rfl) (fun _ => by kernel_rfl) fun Lp a => by kernel_rfl
theorem fit16 {R : Type} (k : Nat) : Fit (R := R) (G k) live (tab k) (bl Tryz.f43 2) := h16.fit (key := 16) (by kernel_rfl) (T16 k) (fun _ _ _ => rfl) fun K r v0 v1 v2 v3 v4 h => fit_mk h (fun a => h16.mk' v0 a.1 v2 v3 a.2) (fun _ v1 _ _ v4 => some (v1, v4)) (by kernel_rfl) (fun _ => by kernel_rfl) fun Lp a => by kernel_rfl
theorem fit20 {R : Type} (k : Nat) : Fit (R := R) (G k) live (tab k) (bl Tryz.f43 3) := h20.fit (key := 20) (by kernel_rfl) (T20 k) (fun _ _ _ => rfl) fun K r v0 v1 v2 h => fit_mk h (fun a => h20.mk' v0 a.1 a.2) (fun _ v1 v2 => some (v1, v2)) (by kernel_rfl) (fun _ => by kernel_rfl) fun Lp a => by kernel_rfl
theorem fit24 {R : Type} (k : Nat) : Fit (R := R) (G k) live (tab k) (bl Tryz.f43 4) := h24.fit (key := 24) (by kernel_rfl) (T24 k) (fun _ _ _ => rfl) fun K r v0 v1 v2 v3 v4 h => fit_mk h (fun a => h24.mk' v0 a.1 v2 a.2.1 (t2 a)) (fun _ v1 _ v3 v4 => some (v1, v3, v4)) (by kernel_rfl) (fun _ => by kernel_rfl) fun Lp a => by kernel_rfl
theorem con (k : Nat) : Con Tryz.prog S (f k) := con_fn (nt := 94) (live := live) (Λ := tab k) tok (all_cons (ok_con (spec_l10Ok.con k)) (all_cons (ok_con (spec_HasCard.con k)) (all_cons (ok_con (spec_l10Put.con k)) (all_cons (ok_con (spec_Without.con k)) (all_cons (ok_con (spec_SuitOf.con k)) all_nil))))) mixed Tryz.func43 (by kernel_rfl) (all_cons (fit5 k) (all_cons (fit9 k) (all_cons (fit16 k) (all_cons (fit20 k) (all_cons (fit24 k) all_nil))))) fun x => by kernel_rfl
end spec_MeldsIn

namespace spec_MeldCount
def S : Sp := ⟨16, ⟨[32], [3], [.bor], .own⟩, [.V], [.O]⟩
theorem con (k : Nat) : Con Tryz.prog S (f k) := con_fn (nt := 6) (live := []) (Λ := noL) tok (all_cons (ok_con (spec_MeldsIn.con k)) all_nil) mixed Tryz.func16 (by kernel_rfl) all_nil fun x => by kernel_rfl
end spec_MeldCount

namespace spec_AverageMoves
def S : Sp := ⟨17, ⟨[24], [3], [.bor], .own⟩, [.l .lent .rows], [.O]⟩
def live : List (Nat × List Nat) := [(3, [0, 3, 4]), (100003, [0, 2, 3])]
def G {R : Type} (k : Nat) : Glob R := mkG tt [] 25
def h3 : Hd := ⟨[.W, .I, .I], []⟩
def T3 {R : Type} (k : Nat) (K : X → St → Option R) : h3.Fn (Option R) := fun v0 v1 v2 => l3 k v0 (fun p0 => K (.exit 0) (stOf [0, 2, 3] [.one (.l (.val false (.rows false v0))), .one (.l (.any)), .one (.l (.i .i64 p0))] [])) k v1 v2
def tab {R : Type} (k : Nat) : LTab R := fun id K vs hs => bif id == 3 then h3.tell vs hs (T3 k K) else none
theorem fit3 {R : Type} (k : Nat) : Fit (R := R) (G k) live (tab k) (bl Tryz.f17 0) := h3.fit (key := 3) (by kernel_rfl) (T3 k) (fun _ _ _ => rfl) fun K r v0 v1 v2 h => fit_mk h (fun a => h3.mk' v0 a.1 a.2) (fun _ v1 v2 => some (v1, v2)) (by kernel_rfl) (fun _ => by kernel_rfl) fun Lp a => by kernel_rfl
theorem con (k : Nat) : Con Tryz.prog S (f k) := con_fn (nt := 25) (live := live) (Λ := tab k) tok all_nil mixed Tryz.func17 (by kernel_rfl) (all_cons (fit3 k) all_nil) fun x => by kernel_rfl
end spec_AverageMoves

namespace laws_FnMeasured
def S : Sp := ⟨3, ⟨[22], [4], [.frz], .own⟩, [.l .frz (.ints .u8)], [.B]⟩
theorem con (k : Nat) : Con Tryz.prog S (f k) := con_fn (nt := 83) (live := []) (Λ := noL) tok (all_cons (ok_con (laws_big.con k)) (all_cons (ok_con (spec_DrawAverageMoves.con k)) (all_cons (ok_con (impl_AverageMoves.con k)) (all_cons (ok_con (spec_DrawWinsOf.con k)) (all_cons (ok_con (impl_WinsOf.con k)) (all_cons (ok_con (impl_OpenShare.con k)) (all_cons (ok_con (spec_DrawOpenShare.con k)) (all_cons (ok_con (impl_WildShare.con k)) (all_cons (ok_con (spec_DrawWildShare.con k)) (all_cons (ok_con (spec_DrawMeldCount.con k)) (all_cons (ok_con (impl_MeldCount.con k)) (all_cons (ok_con (spec_MeldCount.con k)) (all_cons (ok_con (spec_AverageMoves.con k)) (all_cons (ok_con (impl_MeldsIn.con k)) all_nil)))))))))))))) mixed Tryz.func3 (by kernel_rfl) all_nil fun x => by kernel_rfl
end laws_FnMeasured
end Go.Proofs.YtfbafmeeejmgoaaGreat
