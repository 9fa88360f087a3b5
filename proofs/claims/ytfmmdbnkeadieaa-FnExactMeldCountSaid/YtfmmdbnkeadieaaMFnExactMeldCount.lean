/- That the Go functions come to the answers of the plain ones. Printed by a program. -/
import Derived.Test.YtfmmdbnkeadieaaT
import Derived.Test.YtfmmdbnkeadieaaMFnExactRecordOut
import Derived.Test.YtfmmdbnkeadieaaFFnExactMeldCount
set_option linter.unusedVariables false
set_option maxRecDepth 100000
set_option maxHeartbeats 20000000
namespace Go.Proofs.Ytfmmdbnkeadieaa
open Go Go.Proofs.Ytfmmdbnkeadieaa.V Go.Proofs.Ytfmmdbnkeadieaa.M

namespace spec_l10Ok
def S : Sp := ⟨114, ⟨[22], [4], [.bor], .own⟩, [.V], [.B]⟩
theorem con (k : Nat) : Con Try.prog S (f k) := con_fn (nt := 10) (live := []) (Λ := noL) tok (all_cons (ok_con (spec_IsHand.con k)) all_nil) mixed Try.func114 (by kernel_rfl) all_nil fun x => by kernel_rfl
end spec_l10Ok

namespace spec_l10Before
def S : Sp := ⟨164, ⟨[22, 22], [4], [.bor, .bor], .own⟩, [.V, .V], [.B]⟩
def live : List (Nat × List Nat) := [(2, [0, 1, 5]), (100002, [0, 1, 4])]
def G {R : Type} (k : Nat) : Glob R := mkG tt [] 41
def h2 : Hd := ⟨[.V, .V, .I], []⟩
def T2 {R : Type} (k : Nat) (K : X → St → Option R) : h2.Fn (Option R) := fun v0 v1 v2 => l2 k v0 v1 (fun p0 => K .ret (stOf [0, 1, 4] [.one (.l (.val false (.ints .i64 v0))), .one (.l (.val false (.ints .i64 v1))), .one (.l (.b p0))] [])) (K (.exit 0) (stOf [0, 1, 4] [.one (.l (.val false (.ints .i64 v0))), .one (.l (.val false (.ints .i64 v1))), .one (.l (.any))] [])) k v2
def tab {R : Type} (k : Nat) : LTab R := fun id K vs hs => bif id == 2 then h2.tell vs hs (T2 k K) else none
theorem fit2 {R : Type} (k : Nat) : Fit (R := R) (G k) live (tab k) (bl Try.f164 0) := h2.fit (key := 2) (by kernel_rfl) (T2 k) (fun _ _ _ => rfl) fun K r v0 v1 v2 h => fit_mk h (fun a => h2.mk' v0 v1 a) (fun _ _ v2 => some v2) (by kernel_rfl) (fun _ => by kernel_rfl) fun Lp a => by kernel_rfl
theorem con (k : Nat) : Con Try.prog S (f k) := con_fn (nt := 41) (live := live) (Λ := tab k) tok all_nil mixed Try.func164 (by kernel_rfl) (all_cons (fit2 k) all_nil) fun x => by kernel_rfl
end spec_l10Before

namespace spec_l10Put
def S : Sp := ⟨116, ⟨[29, 22], [29], [.bor, .bor], .lent⟩, [.l .lent .rows, .V], [.l .lent .rows]⟩
def live : List (Nat × List Nat) := [(2, [0, 1, 5]), (100002, [0, 1, 4, 5])]
def G {R : Type} (k : Nat) : Glob R := mkG tt [spec_l10Before.S.ent (spec_l10Before.f k)] 33
def h2 : Hd := ⟨[.W, .V, .I], []⟩
def T2 {R : Type} (k : Nat) (K : X → St → Option R) : h2.Fn (Option R) := fun v0 v1 v2 => l2 k v0 v1 (fun p0 => K (.exit 0) (stOf [0, 1, 4, 5] [.one (.l (.val false (.rows false v0))), .one (.l (.val false (.ints .i64 v1))), .one (.l (.any)), .one (.l (.i .i64 p0))] [])) k v2
def tab {R : Type} (k : Nat) : LTab R := fun id K vs hs => bif id == 2 then h2.tell vs hs (T2 k K) else none
theorem fit2 {R : Type} (k : Nat) : Fit (R := R) (G k) live (tab k) (bl Try.f116 0) := h2.fit (key := 2) (by kernel_rfl) (T2 k) (fun _ _ _ => rfl) fun K r v0 v1 v2 h => fit_mk h (fun a => h2.mk' v0 v1 a) (fun _ _ v2 => some v2) (by kernel_rfl) (fun _ => by kernel_rfl) fun Lp a => by kernel_rfl
theorem con (k : Nat) : Con Try.prog S (f k) := con_fn (nt := 33) (live := live) (Λ := tab k) tok (all_cons (ok_con (spec_l10Before.con k)) all_nil) mixed Try.func116 (by kernel_rfl) (all_cons (fit2 k) all_nil) fun x => by kernel_rfl
end spec_l10Put

namespace spec_MeldsIn
def S : Sp := ⟨62, ⟨[22], [29], [.bor], .lent⟩, [.V], [.l .lent .rows]⟩
def live : List (Nat × List Nat) := [(9, [0, 3, 4, 5, 6]), (100009, [0, 2, 3, 4, 5]), (300009, [5]), (16, [0, 3, 4, 5, 7]), (100016, [0, 2, 3, 4]), (200016, [3]), (5, [0, 3, 4]), (100005, [0, 2, 3]), (200005, [3]), (24, [0, 3, 8, 9, 10]), (100024, [0, 2, 3, 8]), (200024, [3]), (20, [0, 3, 8]), (100020, [2, 3]), (200020, [3])]
def G {R : Type} (k : Nat) : Glob R := mkG tt [spec_l10Ok.S.ent (spec_l10Ok.f k), spec_HasCard.S.ent (spec_HasCard.f k), spec_l10Put.S.ent (spec_l10Put.f k), spec_Without.S.ent (spec_Without.f k), spec_SuitOf.S.ent (spec_SuitOf.f k)] 94
def h9 : Hd := ⟨[.V, .W, .I, .l (.own 0), .I], [.V]⟩
def T9 {R : Type} (k : Nat) (K : X → St → Option R) : h9.Fn (Option R) := fun v0 v1 v2 v3 v4 => l9 k v0 v2 (fun p0 => K (.exit 2) (stOf [0, 2, 3, 4, 5] [.one (.l (.val false (.ints .i64 v0))), .one (.l (.any)), .one (.l (.val false (.rows false v1))), .one (.l (.i .i64 v2)), .one (.l (.val false (.ints .i64 p0)))] [])) k v3 v4
def h16 : Hd := ⟨[.V, .W, .I, .V, .I], []⟩
def T16 {R : Type} (k : Nat) (K : X → St → Option R) : h16.Fn (Option R) := fun v0 v1 v2 v3 v4 => l16 k v3 (fun p0 => K (.exit 4) (stOf [0, 2, 3, 4] [.one (.l (.val false (.ints .i64 v0))), .one (.l (.any)), .one (.l (.val false (.rows false p0))), .one (.l (.i .i64 v2))] [])) k v1 v4
def h5 : Hd := ⟨[.V, .W, .I], []⟩
def T5 {R : Type} (k : Nat) (K : X → St → Option R) : h5.Fn (Option R) := fun v0 v1 v2 => l5 k v0 (fun p0 => K (.exit 0) (stOf [0, 2, 3] [.one (.l (.val false (.ints .i64 v0))), .one (.l (.any)), .one (.l (.val false (.rows false p0)))] [])) k v1 v2
def h24 : Hd := ⟨[.V, .W, .I, .l (.own 0), .I], [.V]⟩
def T24 {R : Type} (k : Nat) (K : X → St → Option R) : h24.Fn (Option R) := fun v0 v1 v2 v3 v4 => l24 k v0 v2 (fun p0 => K (.exit 8) (stOf [0, 2, 3, 8] [.one (.l (.val false (.ints .i64 v0))), .one (.l (.any)), .one (.l (.val false (.rows false p0))), .one (.l (.i .i64 v2))] [])) k v1 v3 v4
def h20 : Hd := ⟨[.V, .W, .I], []⟩
def T20 {R : Type} (k : Nat) (K : X → St → Option R) : h20.Fn (Option R) := fun v0 v1 v2 => l20 k v0 (fun p0 => K (.exit 6) (stOf [2, 3] [.one (.l (.any)), .one (.l (.val false (.rows false p0)))] [])) k v1 v2
def tab {R : Type} (k : Nat) : LTab R := fun id K vs hs => bif id == 9 then h9.tell vs hs (T9 k K) else bif id == 16 then h16.tell vs hs (T16 k K) else bif id == 5 then h5.tell vs hs (T5 k K) else bif id == 24 then h24.tell vs hs (T24 k K) else bif id == 20 then h20.tell vs hs (T20 k K) else none
theorem fit5 {R : Type} (k : Nat) : Fit (R := R) (G k) live (tab k) (bl Try.f62 0) := h5.fit (key := 5) (by kernel_rfl) (T5 k) (fun _ _ _ => rfl) fun K r v0 v1 v2 h => fit_mk h (fun a => h5.mk' v0 a.1 a.2) (fun _ v1 v2 => some (v1, v2)) (by kernel_rfl) (fun _ => by kernel_rfl) fun Lp a => by kernel_rfl
theorem fit9 {R : Type} (k : Nat) : Fit (R := R) (G k) live (tab k) (bl Try.f62 1) := h9.fit (key := 9) (by kernel_rfl) (T9 k) (fun _ _ _ => rfl) fun K r v0 v1 v2 v3 v4 h => fit_mk h (fun a => h9.mk' v0 v1 v2 a.1 a.2) (fun _ _ _ v3 v4 => some (v3, v4)) (by kernel_rfl) (fun _ => by kernel_rfl) fun Lp a => by kernel_rfl
theorem fit16 {R : Type} (k : Nat) : Fit (R := R) (G k) live (tab k) (bl Try.f62 2) := h16.fit (key := 16) (by kernel_rfl) (T16 k) (fun _ _ _ => rfl) fun K r v0 v1 v2 v3 v4 h => fit_mk h (fun a => h16.mk' v0 a.1 v2 v3 a.2) (fun _ v1 _ _ v4 => some (v1, v4)) (by kernel_rfl) (fun _ => by kernel_rfl) fun Lp a => by kernel_rfl
theorem fit20 {R : Type} (k : Nat) : Fit (R := R) (G k) live (tab k) (bl Try.f62 3) := h20.fit (key := 20) (by kernel_rfl) (T20 k) (fun _ _ _ => rfl) fun K r v0 v1 v2 h => fit_mk h (fun a => h20.mk' v0 a.1 a.2) (fun _ v1 v2 => some (v1, v2)) (by kernel_rfl) (fun _ => by kernel_rfl) fun Lp a => by kernel_rfl
theorem fit24 {R : Type} (k : Nat) : Fit (R := R) (G k) live (tab k) (bl Try.f62 4) := h24.fit (key := 24) (by kernel_rfl) (T24 k) (fun _ _ _ => rfl) fun K r v0 v1 v2 v3 v4 h => fit_mk h (fun a => h24.mk' v0 a.1 v2 a.2.1 (t2 a)) (fun _ v1 _ v3 v4 => some (v1, v3, v4)) (by kernel_rfl) (fun _ => by kernel_rfl) fun Lp a => by kernel_rfl
theorem con (k : Nat) : Con Try.prog S (f k) := con_fn (nt := 94) (live := live) (Λ := tab k) tok (all_cons (ok_con (spec_l10Ok.con k)) (all_cons (ok_con (spec_HasCard.con k)) (all_cons (ok_con (spec_l10Put.con k)) (all_cons (ok_con (spec_Without.con k)) (all_cons (ok_con (spec_SuitOf.con k)) all_nil))))) mixed Try.func62 (by kernel_rfl) (all_cons (fit5 k) (all_cons (fit9 k) (all_cons (fit16 k) (all_cons (fit20 k) (all_cons (fit24 k) all_nil))))) fun x => by kernel_rfl
end spec_MeldsIn

namespace spec_MeldCount
def S : Sp := ⟨11, ⟨[22], [3], [.bor], .own⟩, [.V], [.O]⟩
theorem con (k : Nat) : Con Try.prog S (f k) := con_fn (nt := 6) (live := []) (Λ := noL) tok (all_cons (ok_con (spec_MeldsIn.con k)) all_nil) mixed Try.func11 (by kernel_rfl) all_nil fun x => by kernel_rfl
end spec_MeldCount

namespace impl_IsSetMeld
def S : Sp := ⟨119, ⟨[22], [4], [.bor], .own⟩, [.V], [.B]⟩
def live : List (Nat × List Nat) := [(4, [0, 14, 15, 16]), (100004, [2])]
def G {R : Type} (k : Nat) : Glob R := mkG tt [impl_IsHand.S.ent (impl_IsHand.f k), impl_InRange.S.ent (impl_InRange.f k), impl_RankOf.S.ent (impl_RankOf.f k)] 28
def h4 : Hd := ⟨[.V, .V, .I, .I], []⟩
def T4 {R : Type} (k : Nat) (K : X → St → Option R) : h4.Fn (Option R) := fun v0 v1 v2 v3 => l4 k v0 v1 v2 (K .ret (stOf [2] [.one (.l (.b false))] [])) (K (.exit 0) (stOf [2] [.one (.l (.any))] [])) k v3
def tab {R : Type} (k : Nat) : LTab R := fun id K vs hs => bif id == 4 then h4.tell vs hs (T4 k K) else none
theorem fit4 {R : Type} (k : Nat) : Fit (R := R) (G k) live (tab k) (bl Try.f119 0) := h4.fit (key := 4) (by kernel_rfl) (T4 k) (fun _ _ _ => rfl) fun K r v0 v1 v2 v3 h => fit_mk h (fun a => h4.mk' v0 v1 v2 a) (fun _ _ _ v3 => some v3) (by kernel_rfl) (fun _ => by kernel_rfl) fun Lp a => by kernel_rfl
theorem con (k : Nat) : Con Try.prog S (f k) := con_fn (nt := 28) (live := live) (Λ := tab k) tok (all_cons (ok_con (impl_IsHand.con k)) (all_cons (ok_con (impl_InRange.con k)) (all_cons (ok_con (impl_RankOf.con k)) all_nil))) mixed Try.func119 (by kernel_rfl) (all_cons (fit4 k) all_nil) fun x => by kernel_rfl
end impl_IsSetMeld

namespace impl_IsRunMeld
def S : Sp := ⟨120, ⟨[22], [4], [.bor], .own⟩, [.V], [.B]⟩
def live : List (Nat × List Nat) := [(5, [3, 16, 17, 18]), (100005, [2])]
def G {R : Type} (k : Nat) : Glob R := mkG tt [impl_IsHand.S.ent (impl_IsHand.f k), impl_SuitOf.S.ent (impl_SuitOf.f k), impl_Sorted.S.ent (impl_Sorted.f k)] 40
def h5 : Hd := ⟨[.l (.own 0), .l (.own 0), .I, .I], [.V]⟩
def T5 {R : Type} (k : Nat) (K : X → St → Option R) : h5.Fn (Option R) := fun v0 v1 v2 => l5 k v0 v2 (K .ret (stOf [2] [.one (.l (.b false))] [])) (K (.exit 0) (stOf [2] [.one (.l (.any))] [])) k v1
def tab {R : Type} (k : Nat) : LTab R := fun id K vs hs => bif id == 5 then h5.tell vs hs (T5 k K) else none
theorem fit5 {R : Type} (k : Nat) : Fit (R := R) (G k) live (tab k) (bl Try.f120 0) := h5.fit (key := 5) (by kernel_rfl) (T5 k) (fun _ _ _ => rfl) fun K r v0 v1 v2 h => fit_mk h (fun a => h5.mk' v0 a v2) (fun _ v1 _ => some v1) (by kernel_rfl) (fun _ => by kernel_rfl) fun Lp a => by kernel_rfl
theorem con (k : Nat) : Con Try.prog S (f k) := con_fn (nt := 40) (live := live) (Λ := tab k) tok (all_cons (ok_con (impl_IsHand.con k)) (all_cons (ok_con (impl_SuitOf.con k)) (all_cons (ok_con (impl_Sorted.con k)) all_nil))) mixed Try.func120 (by kernel_rfl) (all_cons (fit5 k) all_nil) fun x => by kernel_rfl
end impl_IsRunMeld

namespace impl_isBefore
def S : Sp := ⟨121, ⟨[22, 22], [4], [.bor, .bor], .own⟩, [.V, .V], [.B]⟩
def live : List (Nat × List Nat) := [(2, [0, 1, 7, 8]), (100002, [0, 1, 4])]
def G {R : Type} (k : Nat) : Glob R := mkG tt [] 39
def h2 : Hd := ⟨[.V, .V, .I, .I], []⟩
def T2 {R : Type} (k : Nat) (K : X → St → Option R) : h2.Fn (Option R) := fun v0 v1 v2 v3 => l2 k v0 v1 v2 (fun p0 => K .ret (stOf [0, 1, 4] [.one (.l (.val false (.ints .i64 v0))), .one (.l (.val false (.ints .i64 v1))), .one (.l (.b p0))] [])) (K (.exit 0) (stOf [0, 1, 4] [.one (.l (.val false (.ints .i64 v0))), .one (.l (.val false (.ints .i64 v1))), .one (.l (.any))] [])) k v3
def tab {R : Type} (k : Nat) : LTab R := fun id K vs hs => bif id == 2 then h2.tell vs hs (T2 k K) else none
theorem fit2 {R : Type} (k : Nat) : Fit (R := R) (G k) live (tab k) (bl Try.f121 0) := h2.fit (key := 2) (by kernel_rfl) (T2 k) (fun _ _ _ => rfl) fun K r v0 v1 v2 v3 h => fit_mk h (fun a => h2.mk' v0 v1 v2 a) (fun _ _ _ v3 => some v3) (by kernel_rfl) (fun _ => by kernel_rfl) fun Lp a => by kernel_rfl
theorem con (k : Nat) : Con Try.prog S (f k) := con_fn (nt := 39) (live := live) (Λ := tab k) tok all_nil mixed Try.func121 (by kernel_rfl) (all_cons (fit2 k) all_nil) fun x => by kernel_rfl
end impl_isBefore

namespace impl_MeldsIn
def S : Sp := ⟨63, ⟨[22], [29], [.bor], .own⟩, [.V], [.l .own .rows]⟩
def live : List (Nat × List Nat) := [(9, [3, 4, 5, 6, 23, 24, 28, 29, 30]), (100009, [2, 3, 4, 6, 23, 24]), (16, [3, 4, 6, 9, 23, 24]), (100016, [2, 3, 4, 6, 9, 23, 24]), (5, [3, 4, 23, 24]), (100005, [2, 4])]
def G {R : Type} (k : Nat) : Glob R := mkG tt [impl_IsHand.S.ent (impl_IsHand.f k), impl_Sorted.S.ent (impl_Sorted.f k), impl_IsSetMeld.S.ent (impl_IsSetMeld.f k), impl_IsRunMeld.S.ent (impl_IsRunMeld.f k), impl_isBefore.S.ent (impl_isBefore.f k)] 85
def h9 : Hd := ⟨[.l (.own 0), .l (.own 1), .I, .l (.own 2), .I, .I, .l (.own 0), .I, .I], [.V, .W, .V]⟩
def T9 {R : Type} (k : Nat) (K : X → St → Option R) : h9.Fn (Option R) := fun v0 v1 v2 v3 v4 v5 v6 v7 => l9 k v0 v3 v5 (fun p0 => K (.exit 2) (stOf [2, 3, 4, 6, 23, 24] [.one (.l (.any)), .one (.l (.own 0)), .one (.l (.own 1)), .one (.l (.own 2)), .one (.l (.i .i64 v1)), .one (.l (.i .i64 v2))] [some (.row 0 0 (.ints .i64 v5)), some (.row 0 0 (.rows true v6)), some (.row 0 0 (.ints .i64 p0))])) k v4 v7
def h16 : Hd := ⟨[.l (.own 0), .l (.own 1), .l (.own 2), .I, .I, .I], [.V, .W, .V]⟩
def T16 {R : Type} (k : Nat) (K : X → St → Option R) : h16.Fn (Option R) := fun v0 v1 v2 v3 v4 v5 => l16 k v4 v5 (fun p0 => K (.exit 4) (stOf [2, 3, 4, 6, 9, 23, 24] [.one (.l (.any)), .one (.l (.own 0)), .one (.l (.own 1)), .one (.l (.own 2)), .one (.l (.i .i64 p0)), .one (.l (.i .i64 v1)), .one (.l (.i .i64 v2))] [some (.row 0 0 (.ints .i64 v3)), some (.row 0 0 (.rows true v4)), some (.row 0 0 (.ints .i64 v5))])) k v0
def h5 : Hd := ⟨[.l (.own 0), .l (.own 1), .I, .I], [.V, .W]⟩
def T5 {R : Type} (k : Nat) (K : X → St → Option R) : h5.Fn (Option R) := fun v0 v1 v2 v3 => l5 k v0 v2 (fun p0 => K (.exit 0) (stOf [2, 4] [.one (.l (.any)), .one (.l (.own 0))] [some (.row 0 0 (.rows true p0))])) k v1 v3
def tab {R : Type} (k : Nat) : LTab R := fun id K vs hs => bif id == 9 then h9.tell vs hs (T9 k K) else bif id == 16 then h16.tell vs hs (T16 k K) else bif id == 5 then h5.tell vs hs (T5 k K) else none
theorem fit5 {R : Type} (k : Nat) : Fit (R := R) (G k) live (tab k) (bl Try.f63 0) := h5.fit (key := 5) (by kernel_rfl) (T5 k) (fun _ _ _ => rfl) fun K r v0 v1 v2 v3 h => fit_mk h (fun a => h5.mk' v0 a.1 v2 a.2) (fun _ v1 _ v3 => some (v1, v3)) (by kernel_rfl) (fun _ => by kernel_rfl) fun Lp a => by kernel_rfl
theorem fit9 {R : Type} (k : Nat) : Fit (R := R) (G k) live (tab k) (bl Try.f63 1) := h9.fit (key := 9) (by kernel_rfl) (T9 k) (fun _ _ _ => rfl) fun K r v0 v1 v2 v3 v4 v5 v6 v7 h => fit_mk h (fun a => h9.mk' v0 v1 v2 v3 a.1 v5 v6 a.2) (fun _ _ _ _ v4 _ _ v7 => some (v4, v7)) (by kernel_rfl) (fun _ => by kernel_rfl) fun Lp a => by kernel_rfl
theorem fit16 {R : Type} (k : Nat) : Fit (R := R) (G k) live (tab k) (bl Try.f63 2) := h16.fit (key := 16) (by kernel_rfl) (T16 k) (fun _ _ _ => rfl) fun K r v0 v1 v2 v3 v4 v5 h => fit_mk h (fun a => h16.mk' a v1 v2 v3 v4 v5) (fun v0 _ _ _ _ _ => some v0) (by kernel_rfl) (fun _ => by kernel_rfl) fun Lp a => by kernel_rfl
theorem con (k : Nat) : Con Try.prog S (f k) := con_fn (nt := 85) (live := live) (Λ := tab k) tok (all_cons (ok_con (impl_IsHand.con k)) (all_cons (ok_con (impl_Sorted.con k)) (all_cons (ok_con (impl_IsSetMeld.con k)) (all_cons (ok_con (impl_IsRunMeld.con k)) (all_cons (ok_con (impl_isBefore.con k)) all_nil))))) mixed Try.func63 (by kernel_rfl) (all_cons (fit5 k) (all_cons (fit9 k) (all_cons (fit16 k) all_nil))) fun x => by kernel_rfl
end impl_MeldsIn

namespace impl_MeldCount
def S : Sp := ⟨13, ⟨[22], [3], [.bor], .own⟩, [.V], [.O]⟩
theorem con (k : Nat) : Con Try.prog S (f k) := con_fn (nt := 6) (live := []) (Λ := noL) tok (all_cons (ok_con (impl_MeldsIn.con k)) all_nil) mixed Try.func13 (by kernel_rfl) all_nil fun x => by kernel_rfl
end impl_MeldCount

namespace laws_FnExactMeldCount
def S : Sp := ⟨3, ⟨[22], [4], [.bor], .own⟩, [.V], [.B]⟩
theorem con (k : Nat) : Con Try.prog S (f k) := con_fn (nt := 24) (live := []) (Λ := noL) tok (all_cons (ok_con (spec_MeldCount.con k)) (all_cons (ok_con (laws_toIntS.con k)) (all_cons (ok_con (impl_MeldCount.con k)) (all_cons (ok_con (laws_eqIntS.con k)) all_nil)))) mixed Try.func3 (by kernel_rfl) all_nil fun x => by kernel_rfl
end laws_FnExactMeldCount
end Go.Proofs.Ytfmmdbnkeadieaa
