/- That the Go functions come to the answers of the plain ones. Printed by a program. -/
import Derived.Test.YtfbafmeeejmgoaaDoorT
import Derived.Test.YtfbafmeeejmgoaaDoorFFnViews
import Derived.Test.YtfbafmeeejmgoaaDoorShelf
set_option linter.unusedVariables false
set_option maxRecDepth 100000
set_option maxHeartbeats 20000000
namespace Go.Proofs.YtfbafmeeejmgoaaDoor
open Go Go.Proofs.YtfbafmeeejmgoaaDoor.V Go.Proofs.YtfbafmeeejmgoaaDoor.M

namespace impl_InRange
def S : Sp := ⟨38, ⟨[3, 3, 3], [4], [.bor, .bor, .bor], .own⟩, [.I, .I, .I], [.B]⟩
theorem con (k : Nat) : Con Tryd.prog S (f k) := con_fn (nt := 15) (live := []) (Λ := noL) tok all_nil mixed Tryd.func38 (by kernel_rfl) all_nil fun x => by kernel_rfl
end impl_InRange

namespace impl_IsCard
def S : Sp := ⟨69, ⟨[3], [4], [.bor], .own⟩, [.I], [.B]⟩
theorem con (k : Nat) : Con Tryd.prog S (f k) := con_fn (nt := 5) (live := []) (Λ := noL) tok (all_cons (ok_con (impl_InRange.con k)) all_nil) mixed Tryd.func69 (by kernel_rfl) all_nil fun x => by kernel_rfl
end impl_IsCard

namespace impl_RankOf
def S : Sp := ⟨57, ⟨[3], [3], [.bor], .own⟩, [.I], [.O]⟩
theorem con (k : Nat) : Con Tryd.prog S (f k) := con_fn (nt := 8) (live := []) (Λ := noL) tok (all_cons (ok_con (impl_IsCard.con k)) all_nil) mixed Tryd.func57 (by kernel_rfl) all_nil fun x => by kernel_rfl
end impl_RankOf

namespace impl_ranked
def S : Sp := ⟨31, ⟨[22], [22, 22], [.bor], .own⟩, [.V], [.l .own (.ints .i64), .l .own (.ints .i64)]⟩
def live : List (Nat × List Nat) := [(3, [4, 12, 13, 14]), (100003, [2, 3, 4]), (12, [4, 7, 8, 9, 10]), (100012, [2, 3, 4, 7, 8, 9]), (9, [4, 7, 8, 9]), (100009, [2, 3, 7, 8])]
def G {R : Type} (k : Nat) : Glob R := mkG tt [impl_RankOf.S.ent (impl_RankOf.f k)] 50
def h3 : Hd := ⟨[.l (.arr 0 13), .V, .I, .I], [.V]⟩
def T3 {R : Type} (k : Nat) (K : X → St → Option R) : h3.Fn (Option R) := fun v0 v1 v2 v3 => l3 k v0 v1 (fun p0 => K (.exit 0) (stOf [2, 3, 4] [.one (.l (.any)), .one (.l (.any)), .one (.l (.arr 0 13))] [some (.row 0 0 (.ints .i64 p0))])) k v2 v3
def h12 : Hd := ⟨[.l (.arr 0 13), .l (.own 1), .l (.own 2), .I, .I], [.V, .V, .V]⟩
def T12 {R : Type} (k : Nat) (K : X → St → Option R) : h12.Fn (Option R) := fun v0 v1 v2 v3 v4 => l12 k v0 v2 (fun p0 p1 => K (.exit 4) (stOf [2, 3, 4, 7, 8, 9] [.one (.l (.any)), .one (.l (.any)), .one (.l (.arr 0 13)), .one (.l (.own 1)), .one (.l (.own 2)), .one (.l (.i .i64 v0))] [some (.row 0 0 (.ints .i64 v2)), some (.row 0 0 (.ints .i64 p0)), some (.row 0 0 (.ints .i64 p1))])) k v1 v3 v4
def h9 : Hd := ⟨[.l (.arr 0 13), .l (.own 1), .l (.own 2), .I], [.V, .V, .V]⟩
def T9 {R : Type} (k : Nat) (K : X → St → Option R) : h9.Fn (Option R) := fun v0 v1 v2 v3 => l9 k v1 (fun p0 p1 => K (.exit 2) (stOf [2, 3, 7, 8] [.one (.l (.any)), .one (.l (.any)), .one (.l (.own 0)), .one (.l (.own 1))] [some (.row 0 0 (.ints .i64 p0)), some (.row 0 0 (.ints .i64 p1))])) k v0 v2 v3
def tab {R : Type} (k : Nat) : LTab R := fun id K vs hs => bif id == 3 then h3.tell vs hs (T3 k K) else bif id == 12 then h12.tell vs hs (T12 k K) else bif id == 9 then h9.tell vs hs (T9 k K) else none
theorem fit3 {R : Type} (k : Nat) : Fit (R := R) (G k) live (tab k) (bl Tryd.f31 0) := h3.fit (key := 3) (by kernel_rfl) (T3 k) (fun _ _ _ => rfl) fun K r v0 v1 v2 v3 h => fit_mk h (fun a => h3.mk' v0 v1 a.1 a.2) (fun _ _ v2 v3 => some (v2, v3)) (by kernel_rfl) (fun _ => by kernel_rfl) fun Lp a => by kernel_rfl
theorem fit9 {R : Type} (k : Nat) : Fit (R := R) (G k) live (tab k) (bl Tryd.f31 1) := h9.fit (key := 9) (by kernel_rfl) (T9 k) (fun _ _ _ => rfl) fun K r v0 v1 v2 v3 h => fit_mk h (fun a => h9.mk' a.1 v1 a.2.1 (t2 a)) (fun v0 _ v2 v3 => some (v0, v2, v3)) (by kernel_rfl) (fun _ => by kernel_rfl) fun Lp a => by kernel_rfl
theorem fit12 {R : Type} (k : Nat) : Fit (R := R) (G k) live (tab k) (bl Tryd.f31 2) := h12.fit (key := 12) (by kernel_rfl) (T12 k) (fun _ _ _ => rfl) fun K r v0 v1 v2 v3 v4 h => fit_mk h (fun a => h12.mk' v0 a.1 v2 a.2.1 (t2 a)) (fun _ v1 _ v3 v4 => some (v1, v3, v4)) (by kernel_rfl) (fun _ => by kernel_rfl) fun Lp a => by kernel_rfl
theorem con (k : Nat) : Con Tryd.prog S (f k) := con_fn (nt := 50) (live := live) (Λ := tab k) tok (all_cons (ok_con (impl_RankOf.con k)) all_nil) mixed Tryd.func31 (by kernel_rfl) (all_cons (fit3 k) (all_cons (fit9 k) (all_cons (fit12 k) all_nil))) fun x => by kernel_rfl
end impl_ranked

namespace impl_EqualInts
def S : Sp := ⟨58, ⟨[22, 22], [4], [.bor, .bor], .own⟩, [.V, .V], [.B]⟩
def live : List (Nat × List Nat) := [(4, [0, 1, 12, 13]), (100004, [4])]
def G {R : Type} (k : Nat) : Glob R := mkG tt [] 26
def h4 : Hd := ⟨[.V, .V, .I, .I], []⟩
def T4 {R : Type} (k : Nat) (K : X → St → Option R) : h4.Fn (Option R) := fun v0 v1 v2 v3 => l4 k v0 v1 v2 (K .ret (stOf [4] [.one (.l (.b false))] [])) (K (.exit 0) (stOf [4] [.one (.l (.any))] [])) k v3
def tab {R : Type} (k : Nat) : LTab R := fun id K vs hs => bif id == 4 then h4.tell vs hs (T4 k K) else none
theorem fit4 {R : Type} (k : Nat) : Fit (R := R) (G k) live (tab k) (bl Tryd.f58 0) := h4.fit (key := 4) (by kernel_rfl) (T4 k) (fun _ _ _ => rfl) fun K r v0 v1 v2 v3 h => fit_mk h (fun a => h4.mk' v0 v1 v2 a) (fun _ _ _ v3 => some v3) (by kernel_rfl) (fun _ => by kernel_rfl) fun Lp a => by kernel_rfl
theorem con (k : Nat) : Con Tryd.prog S (f k) := con_fn (nt := 26) (live := live) (Λ := tab k) tok all_nil mixed Tryd.func58 (by kernel_rfl) (all_cons (fit4 k) all_nil) fun x => by kernel_rfl
end impl_EqualInts

namespace impl_straight
def S : Sp := ⟨32, ⟨[22], [3], [.bor], .own⟩, [.V], [.O]⟩
theorem con (k : Nat) : Con Tryd.prog S (f k) := con_fn (nt := 23) (live := []) (Λ := noL) tok (all_cons (ok_con (impl_EqualInts.con k)) all_nil) mixed Tryd.func32 (by kernel_rfl) all_nil fun x => by kernel_rfl
end impl_straight

namespace impl_IsHand
def S : Sp := ⟨55, ⟨[22], [4], [.bor], .own⟩, [.V], [.B]⟩
def live : List (Nat × List Nat) := [(3, [3, 7, 8, 9]), (100003, [2])]
def G {R : Type} (k : Nat) : Glob R := mkG tt [impl_IsCard.S.ent (impl_IsCard.f k)] 24
def h3 : Hd := ⟨[.l (.arr 0 52), .V, .I, .I], [.row false .bools]⟩
def T3 {R : Type} (k : Nat) (K : X → St → Option R) : h3.Fn (Option R) := fun v0 v1 v2 v3 => l3 k v0 v1 (K .ret (stOf [2] [.one (.l (.b false))] [])) (K (.exit 0) (stOf [2] [.one (.l (.any))] [])) k v2 v3
def tab {R : Type} (k : Nat) : LTab R := fun id K vs hs => bif id == 3 then h3.tell vs hs (T3 k K) else none
theorem fit3 {R : Type} (k : Nat) : Fit (R := R) (G k) live (tab k) (bl Tryd.f55 0) := h3.fit (key := 3) (by kernel_rfl) (T3 k) (fun _ _ _ => rfl) fun K r v0 v1 v2 v3 h => fit_mk h (fun a => h3.mk' v0 v1 a.1 a.2) (fun _ _ v2 v3 => some (v2, v3)) (by kernel_rfl) (fun _ => by kernel_rfl) fun Lp a => by kernel_rfl
theorem con (k : Nat) : Con Tryd.prog S (f k) := con_fn (nt := 24) (live := live) (Λ := tab k) tok (all_cons (ok_con (impl_IsCard.con k)) all_nil) mixed Tryd.func55 (by kernel_rfl) (all_cons (fit3 k) all_nil) fun x => by kernel_rfl
end impl_IsHand

namespace impl_SuitOf
def S : Sp := ⟨56, ⟨[3], [3], [.bor], .own⟩, [.I], [.O]⟩
theorem con (k : Nat) : Con Tryd.prog S (f k) := con_fn (nt := 8) (live := []) (Λ := noL) tok (all_cons (ok_con (impl_IsCard.con k)) all_nil) mixed Tryd.func56 (by kernel_rfl) all_nil fun x => by kernel_rfl
end impl_SuitOf

namespace impl_KindOf
def S : Sp := ⟨30, ⟨[22], [3], [.bor], .own⟩, [.V], [.O]⟩
def live : List (Nat × List Nat) := [(6, [0, 3, 4, 5, 22, 23, 24]), (100006, [2, 3, 4, 5])]
def G {R : Type} (k : Nat) : Glob R := mkG tt [impl_ranked.S.ent (impl_ranked.f k), impl_straight.S.ent (impl_straight.f k), impl_IsHand.S.ent (impl_IsHand.f k), impl_SuitOf.S.ent (impl_SuitOf.f k)] 88
def h6 : Hd := ⟨[.V, .l (.own 0), .l (.own 1), .l (.b), .V, .I, .I], [.V, .V]⟩
def T6 {R : Type} (k : Nat) (K : X → St → Option R) : h6.Fn (Option R) := fun v0 v1 v2 v3 v4 v5 v6 => l6 k v0 v2 v3 (fun p0 => K (.exit 0) (stOf [2, 3, 4, 5] [.one (.l (.any)), .one (.l (.own 0)), .one (.l (.own 1)), .one (.l (.b p0))] [some (.row 0 0 (.ints .i64 v5)), some (.row 0 0 (.ints .i64 v6))])) k v1 v4
def tab {R : Type} (k : Nat) : LTab R := fun id K vs hs => bif id == 6 then h6.tell vs hs (T6 k K) else none
theorem fit6 {R : Type} (k : Nat) : Fit (R := R) (G k) live (tab k) (bl Tryd.f30 0) := h6.fit (key := 6) (by kernel_rfl) (T6 k) (fun _ _ _ => rfl) fun K r v0 v1 v2 v3 v4 v5 v6 h => fit_mk h (fun a => h6.mk' v0 a.1 v2 v3 a.2 v5 v6) (fun _ v1 _ _ v4 _ _ => some (v1, v4)) (by kernel_rfl) (fun _ => by kernel_rfl) fun Lp a => by kernel_rfl
theorem con (k : Nat) : Con Tryd.prog S (f k) := con_fn (nt := 88) (live := live) (Λ := tab k) tok (all_cons (ok_con (impl_ranked.con k)) (all_cons (ok_con (impl_straight.con k)) (all_cons (ok_con (impl_IsHand.con k)) (all_cons (ok_con (impl_SuitOf.con k)) all_nil)))) mixed Tryd.func30 (by kernel_rfl) (all_cons (fit6 k) all_nil) fun x => by kernel_rfl
end impl_KindOf

namespace impl_KeyOf
def S : Sp := ⟨15, ⟨[22], [22], [.bor], .own⟩, [.V], [.l .own (.ints .i64)]⟩
theorem con (k : Nat) : Con Tryd.prog S (f k) := con_fn (nt := 27) (live := []) (Λ := noL) tok (all_cons (ok_con (impl_KindOf.con k)) (all_cons (ok_con (impl_ranked.con k)) (all_cons (ok_con (impl_straight.con k)) all_nil))) mixed Tryd.func15 (by kernel_rfl) all_nil fun x => by kernel_rfl
end impl_KeyOf

namespace impl_KindName
def S : Sp := ⟨22, ⟨[3], [9], [.bor], .own⟩, [.I], [.l .own .str]⟩
theorem con (k : Nat) : Con Tryd.prog S (f k) := con_fn (nt := 10) (live := []) (Λ := noL) tok (all_cons (ok_con (impl_InRange.con k)) all_nil) mixed Tryd.func22 (by kernel_rfl) all_nil fun x => by kernel_rfl
end impl_KindName

namespace strings_Join
def S : Sp := ⟨27, ⟨[43, 9], [9], [.bor, .bor], .own⟩, [.l .lent .strs, .l .lent .str], [.l .own .str]⟩
theorem con (k : Nat) : Con Tryd.prog S (f k) := ⟨⟨Tryd.f27, Tryd.func27, by kernel_rfl, by kernel_rfl⟩, fun ⟨a, g, _⟩ r h => by
 obtain ⟨h1, h2⟩ := bif_some h
 obtain ⟨g1, g2⟩ := and_bool h1
 cases h2
 exact join_contract (fun bk o c xs sep w a b c' d e => Tryd.strings_Join bk o c xs sep w a b c' d e) (fun a c sep w => Tryd.strings_Join_none a c sep w) (Nat.le_of_ble_eq_true g1) (Nat.le_of_ble_eq_true g2)⟩
end strings_Join

namespace strconv_Itoa
def S : Sp := ⟨63, ⟨[3], [9], [.bor], .own⟩, [.I], [.l .own .str]⟩
theorem con (k : Nat) : Con Tryd.prog S (f k) := ⟨⟨Tryd.f63, Tryd.func63, by kernel_rfl, by kernel_rfl⟩, fun ⟨a, _⟩ r h => by
 obtain ⟨h1, h2⟩ := bif_some h
 obtain ⟨g1, g2⟩ := and_bool h1
 cases h2
 exact itoa_contract (by kernel_rfl) (fun n a b w t => Tryd.strconv_Itoa n a b w t) (of_decide_eq_true g1) (of_decide_eq_true g2)⟩
end strconv_Itoa

namespace impl_FormatInt
def S : Sp := ⟨39, ⟨[3], [9], [.bor], .own⟩, [.I], [.l .own .str]⟩
theorem con (k : Nat) : Con Tryd.prog S (f k) := con_fn (nt := 5) (live := []) (Λ := noL) tok (all_cons (ok_con (strconv_Itoa.con k)) all_nil) mixed Tryd.func39 (by kernel_rfl) all_nil fun x => by kernel_rfl
end impl_FormatInt

namespace impl_numbersText
def S : Sp := ⟨23, ⟨[22, 9], [9], [.bor, .bor], .own⟩, [.V, .l .lent .str], [.l .own .str]⟩
def live : List (Nat × List Nat) := [(3, [1, 5, 9, 10, 11]), (100003, [1, 4, 5])]
def G {R : Type} (k : Nat) : Glob R := mkG tt [strings_Join.S.ent (strings_Join.f k), impl_FormatInt.S.ent (impl_FormatInt.f k)] 24
def h3 : Hd := ⟨[.l (.s), .l (.own 0), .V, .I, .I], [.row false .strs]⟩
def T3 {R : Type} (k : Nat) (K : X → St → Option R) : h3.Fn (Option R) := fun v0 v1 v2 v3 v4 => l3 k v1 v2 (fun p0 => K (.exit 0) (stOf [1, 4, 5] [.one (.l (.s v0)), .one (.l (.any)), .one (.l (.own 0))] [some (.row 0 0 (.strs p0))])) k v3 v4
def tab {R : Type} (k : Nat) : LTab R := fun id K vs hs => bif id == 3 then h3.tell vs hs (T3 k K) else none
theorem fit3 {R : Type} (k : Nat) : Fit (R := R) (G k) live (tab k) (bl Tryd.f23 0) := h3.fit (key := 3) (by kernel_rfl) (T3 k) (fun _ _ _ => rfl) fun K r v0 v1 v2 v3 v4 h => fit_mk h (fun a => h3.mk' v0 v1 v2 a.1 a.2) (fun _ _ _ v3 v4 => some (v3, v4)) (by kernel_rfl) (fun _ => by kernel_rfl) fun Lp a => by kernel_rfl
theorem con (k : Nat) : Con Tryd.prog S (f k) := con_fn (nt := 24) (live := live) (Λ := tab k) tok (all_cons (ok_con (strings_Join.con k)) (all_cons (ok_con (impl_FormatInt.con k)) all_nil)) mixed Tryd.func23 (by kernel_rfl) (all_cons (fit3 k) all_nil) fun x => by kernel_rfl
end impl_numbersText

namespace impl_FormatKey
def S : Sp := ⟨7, ⟨[22], [9], [.bor], .own⟩, [.V], [.l .own .str]⟩
theorem con (k : Nat) : Con Tryd.prog S (f k) := con_fn (nt := 18) (live := []) (Λ := noL) tok (all_cons (ok_con (impl_KeyOf.con k)) (all_cons (ok_con (impl_KindName.con k)) (all_cons (ok_con (impl_numbersText.con k)) all_nil))) mixed Tryd.func7 (by kernel_rfl) all_nil fun x => by kernel_rfl
end impl_FormatKey

namespace laws_big
def S : Sp := ⟨9, ⟨[27], [4], [.frz], .own⟩, [.l .frz (.ints .u8)], [.B]⟩
theorem con (k : Nat) : Con Tryd.prog S (f k) := con_fn (nt := 6) (live := []) (Λ := noL) tok all_nil mixed Tryd.func9 (by kernel_rfl) all_nil fun x => by kernel_rfl
end laws_big

namespace spec_HasCard
def S : Sp := ⟨41, ⟨[22, 3], [4], [.bor, .bor], .own⟩, [.V, .I], [.B]⟩
def live : List (Nat × List Nat) := [(2, [0, 1, 5]), (100002, [4])]
def G {R : Type} (k : Nat) : Glob R := mkG tt [] 18
def h2 : Hd := ⟨[.V, .I, .I], []⟩
def T2 {R : Type} (k : Nat) (K : X → St → Option R) : h2.Fn (Option R) := fun v0 v1 v2 => l2 k v0 v1 (K .ret (stOf [4] [.one (.l (.b true))] [])) (K (.exit 0) (stOf [4] [.one (.l (.any))] [])) k v2
def tab {R : Type} (k : Nat) : LTab R := fun id K vs hs => bif id == 2 then h2.tell vs hs (T2 k K) else none
theorem fit2 {R : Type} (k : Nat) : Fit (R := R) (G k) live (tab k) (bl Tryd.f41 0) := h2.fit (key := 2) (by kernel_rfl) (T2 k) (fun _ _ _ => rfl) fun K r v0 v1 v2 h => fit_mk h (fun a => h2.mk' v0 v1 a) (fun _ _ v2 => some v2) (by kernel_rfl) (fun _ => by kernel_rfl) fun Lp a => by kernel_rfl
theorem con (k : Nat) : Con Tryd.prog S (f k) := con_fn (nt := 18) (live := live) (Λ := tab k) tok all_nil mixed Tryd.func41 (by kernel_rfl) (all_cons (fit2 k) all_nil) fun x => by kernel_rfl
end spec_HasCard

namespace spec_l1In
def S : Sp := ⟨36, ⟨[3, 3, 3], [4], [.bor, .bor, .bor], .own⟩, [.I, .I, .I], [.B]⟩
theorem con (k : Nat) : Con Tryd.prog S (f k) := con_fn (nt := 15) (live := []) (Λ := noL) tok all_nil mixed Tryd.func36 (by kernel_rfl) all_nil fun x => by kernel_rfl
end spec_l1In

namespace spec_IsCard
def S : Sp := ⟨65, ⟨[3], [4], [.bor], .own⟩, [.I], [.B]⟩
theorem con (k : Nat) : Con Tryd.prog S (f k) := con_fn (nt := 5) (live := []) (Λ := noL) tok (all_cons (ok_con (spec_l1In.con k)) all_nil) mixed Tryd.func65 (by kernel_rfl) all_nil fun x => by kernel_rfl
end spec_IsCard

namespace spec_IsHand
def S : Sp := ⟨59, ⟨[22], [4], [.bor], .own⟩, [.V], [.B]⟩
def live : List (Nat × List Nat) := [(2, [0, 3]), (100002, [2])]
def G {R : Type} (k : Nat) : Glob R := mkG tt [spec_HasCard.S.ent (spec_HasCard.f k), spec_IsCard.S.ent (spec_IsCard.f k)] 26
def h2 : Hd := ⟨[.V, .I], []⟩
def T2 {R : Type} (k : Nat) (K : X → St → Option R) : h2.Fn (Option R) := fun v0 v1 => l2 k v0 (K .ret (stOf [2] [.one (.l (.b false))] [])) (K (.exit 0) (stOf [2] [.one (.l (.any))] [])) k v1
def tab {R : Type} (k : Nat) : LTab R := fun id K vs hs => bif id == 2 then h2.tell vs hs (T2 k K) else none
theorem fit2 {R : Type} (k : Nat) : Fit (R := R) (G k) live (tab k) (bl Tryd.f59 0) := h2.fit (key := 2) (by kernel_rfl) (T2 k) (fun _ _ _ => rfl) fun K r v0 v1 h => fit_mk h (fun a => h2.mk' v0 a) (fun _ v1 => some v1) (by kernel_rfl) (fun _ => by kernel_rfl) fun Lp a => by kernel_rfl
theorem con (k : Nat) : Con Tryd.prog S (f k) := con_fn (nt := 26) (live := live) (Λ := tab k) tok (all_cons (ok_con (spec_HasCard.con k)) (all_cons (ok_con (spec_IsCard.con k)) all_nil)) mixed Tryd.func59 (by kernel_rfl) (all_cons (fit2 k) all_nil) fun x => by kernel_rfl
end spec_IsHand

namespace spec_l10Ok
def S : Sp := ⟨40, ⟨[22], [4], [.bor], .own⟩, [.V], [.B]⟩
theorem con (k : Nat) : Con Tryd.prog S (f k) := con_fn (nt := 10) (live := []) (Λ := noL) tok (all_cons (ok_con (spec_IsHand.con k)) all_nil) mixed Tryd.func40 (by kernel_rfl) all_nil fun x => by kernel_rfl
end spec_l10Ok

namespace spec_l10Before
def S : Sp := ⟨64, ⟨[22, 22], [4], [.bor, .bor], .own⟩, [.V, .V], [.B]⟩
def live : List (Nat × List Nat) := [(2, [0, 1, 5]), (100002, [0, 1, 4])]
def G {R : Type} (k : Nat) : Glob R := mkG tt [] 41
def h2 : Hd := ⟨[.V, .V, .I], []⟩
def T2 {R : Type} (k : Nat) (K : X → St → Option R) : h2.Fn (Option R) := fun v0 v1 v2 => l2 k v0 v1 (fun p0 => K .ret (stOf [0, 1, 4] [.one (.l (.val false (.ints .i64 v0))), .one (.l (.val false (.ints .i64 v1))), .one (.l (.b p0))] [])) (K (.exit 0) (stOf [0, 1, 4] [.one (.l (.val false (.ints .i64 v0))), .one (.l (.val false (.ints .i64 v1))), .one (.l (.any))] [])) k v2
def tab {R : Type} (k : Nat) : LTab R := fun id K vs hs => bif id == 2 then h2.tell vs hs (T2 k K) else none
theorem fit2 {R : Type} (k : Nat) : Fit (R := R) (G k) live (tab k) (bl Tryd.f64 0) := h2.fit (key := 2) (by kernel_rfl) (T2 k) (fun _ _ _ => rfl) fun K r v0 v1 v2 h => fit_mk h (fun a => h2.mk' v0 v1 a) (fun _ _ v2 => some v2) (by kernel_rfl) (fun _ => by kernel_rfl) fun Lp a => by kernel_rfl
theorem con (k : Nat) : Con Tryd.prog S (f k) := con_fn (nt := 41) (live := live) (Λ := tab k) tok all_nil mixed Tryd.func64 (by kernel_rfl) (all_cons (fit2 k) all_nil) fun x => by kernel_rfl
end spec_l10Before

namespace spec_l10Put
def S : Sp := ⟨42, ⟨[29, 22], [29], [.bor, .bor], .lent⟩, [.l .lent .rows, .V], [.l .lent .rows]⟩
def live : List (Nat × List Nat) := [(2, [0, 1, 5]), (100002, [0, 1, 4, 5])]
def G {R : Type} (k : Nat) : Glob R := mkG tt [spec_l10Before.S.ent (spec_l10Before.f k)] 33
def h2 : Hd := ⟨[.W, .V, .I], []⟩
def T2 {R : Type} (k : Nat) (K : X → St → Option R) : h2.Fn (Option R) := fun v0 v1 v2 => l2 k v0 v1 (fun p0 => K (.exit 0) (stOf [0, 1, 4, 5] [.one (.l (.val false (.rows false v0))), .one (.l (.val false (.ints .i64 v1))), .one (.l (.any)), .one (.l (.i .i64 p0))] [])) k v2
def tab {R : Type} (k : Nat) : LTab R := fun id K vs hs => bif id == 2 then h2.tell vs hs (T2 k K) else none
theorem fit2 {R : Type} (k : Nat) : Fit (R := R) (G k) live (tab k) (bl Tryd.f42 0) := h2.fit (key := 2) (by kernel_rfl) (T2 k) (fun _ _ _ => rfl) fun K r v0 v1 v2 h => fit_mk h (fun a => h2.mk' v0 v1 a) (fun _ _ v2 => some v2) (by kernel_rfl) (fun _ => by kernel_rfl) fun Lp a => by kernel_rfl
theorem con (k : Nat) : Con Tryd.prog S (f k) := con_fn (nt := 33) (live := live) (Λ := tab k) tok (all_cons (ok_con (spec_l10Before.con k)) all_nil) mixed Tryd.func42 (by kernel_rfl) (all_cons (fit2 k) all_nil) fun x => by kernel_rfl
end spec_l10Put

namespace spec_Without
def S : Sp := ⟨43, ⟨[22, 3], [22], [.bor, .bor], .own⟩, [.V, .I], [.l .own (.ints .i64)]⟩
def live : List (Nat × List Nat) := [(3, [0, 1, 5, 6]), (100003, [4, 5])]
def G {R : Type} (k : Nat) : Glob R := mkG tt [] 28
def h3 : Hd := ⟨[.V, .I, .l (.own 0), .I], [.V]⟩
def T3 {R : Type} (k : Nat) (K : X → St → Option R) : h3.Fn (Option R) := fun v0 v1 v2 v3 => l3 k v0 v1 (fun p0 => K (.exit 0) (stOf [4, 5] [.one (.l (.any)), .one (.l (.own 0))] [some (.row 0 0 (.ints .i64 p0))])) k v2 v3
def tab {R : Type} (k : Nat) : LTab R := fun id K vs hs => bif id == 3 then h3.tell vs hs (T3 k K) else none
theorem fit3 {R : Type} (k : Nat) : Fit (R := R) (G k) live (tab k) (bl Tryd.f43 0) := h3.fit (key := 3) (by kernel_rfl) (T3 k) (fun _ _ _ => rfl) fun K r v0 v1 v2 v3 h => fit_mk h (fun a => h3.mk' v0 v1 a.1 a.2) (fun _ _ v2 v3 => some (v2, v3)) (by kernel_rfl) (fun _ => by kernel_rfl) fun Lp a => by kernel_rfl
theorem con (k : Nat) : Con Tryd.prog S (f k) := con_fn (nt := 28) (live := live) (Λ := tab k) tok all_nil mixed Tryd.func43 (by kernel_rfl) (all_cons (fit3 k) all_nil) fun x => by kernel_rfl
end spec_Without

namespace spec_SuitOf
def S : Sp := ⟨44, ⟨[3], [3], [.bor], .own⟩, [.I], [.O]⟩
theorem con (k : Nat) : Con Tryd.prog S (f k) := con_fn (nt := 8) (live := []) (Λ := noL) tok (all_cons (ok_con (spec_IsCard.con k)) all_nil) mixed Tryd.func44 (by kernel_rfl) all_nil fun x => by kernel_rfl
end spec_SuitOf

namespace spec_MeldsIn
def S : Sp := ⟨24, ⟨[22], [29], [.bor], .lent⟩, [.V], [.l .lent .rows]⟩
def live : List (Nat × List Nat) := [(9, [0, 3, 4, 5, 6]), (100009, [0, 2, 3, 4, 5]), (300009, [5]), (16, [0, 3, 4, 5, 7]), (100016, [0, 2, 3, 4]), (200016, [3]), (5, [0, 3, 4]), (100005, [0, 2, 3]), (200005, [3]), (24, [0, 3, 8, 9, 10]), (100024, [0, 2, 3, 8]), (200024, [3]), (20, [0, 3, 8]), (100020, [2, 3]), (200020, [3])]
def G {R : Type} (k : Nat) : Glob R := mkG tt [spec_l10Ok.S.ent (spec_l10Ok.f k), spec_HasCard.S.ent (spec_HasCard.f k), spec_l10Put.S.ent (spec_l10Put.f k), spec_Without.S.ent (spec_Without.f k), spec_SuitOf.S.ent (spec_SuitOf.f k)] 94
def h9 : Hd := ⟨[.V, .W, .I, .l (.own 0), .I], [.V]⟩
def T9 {R : Type} (k : Nat) (K : X → St → Option R) : h9.Fn (Option R) := fun v0 v1 v2 v3 v4 => l9 k v0 v2 (fun p0 => K (.exit 2) (stOf [0, 2, 3, 4, 5] [.one (.l (.val false (.ints .i64 v0))), .one (.l (.any)), .one (.l (.val false (.rows false v1))), .one (.l (.i .i64 v2)), .one (.l (.val false (.ints .i64 p0)))] [])) k v3 v4
def h16 : Hd := ⟨[.V, .W, .I, .V, .I], []⟩
def T16 {R : Type} (k : Nat) (K : X → St → Option R) : h16.Fn (Option R) := fun v0 v1 v2 v3 v4 => l16 k v3 (fun p0 => K (.exit 4) (stOf [0, 2, 3, 4] [.one (.l (.val false (.ints .i64 v0))), .one (.l (.any)), .one (.l (.val false (.rows false p0))), .one (.l (.i .i64 v2))] [])) k v1 v4
def h5 : Hd := ⟨[.V, .W, .I], []⟩
def T5 {R : Type} (k : Nat) (K : X → St → Option R) : h5.Fn (Option R) := fun v0 v1 v2 => l5 k v0 (fun p0 => K (.exit 0) (stOf [0, 2, 3] [.one (.l (.val false (.ints .i64 v0))), .one (.l (.any)), .one (.l (.val false (.rows false p0)))] [])) k v1 v2
def h24 : Hd := ⟨[.V, .W, .I, .l (.own 0), .I], [.V]⟩
def T24 {R : Type} (k : Nat) (K : X → St → Option R) : h24.Fn (Option R) := fun v0 v1 v2 v3 v4 => l24 k v0 v2 (fun p0 => K (.exit 8) (stOf [0, 2, 3, 8] [.one (.l (.val false (.ints .i64 v0))), .one (.l (.any)), .one (.l (.val false (.rows false p0))), .one (.l (.i .i64 v2))] [])) k v1 v3 v4
def h20 : Hd := ⟨[.V, .W, .I], []⟩
def T20 {R : Type} (k : Nat) (K : X → St → Option R) : h20.Fn (Option R) := fun v0 v1 v2 => l20 k v0 (fun p0 => K (.exit 6) (stOf [2, 3] [.one (.l (.any)), .one (.l (.val false (.rows false p0)))] [])) k v1 v2
def tab {R : Type} (k : Nat) : LTab R := fun id K vs hs => bif id == 9 then h9.tell vs hs (T9 k K) else bif id == 16 then h16.tell vs hs (T16 k K) else bif id == 5 then h5.tell vs hs (T5 k K) else bif id == 24 then h24.tell vs hs (T24 k K) else bif id == 20 then h20.tell vs hs (T20 k K) else none
theorem fit5 {R : Type} (k : Nat) : Fit (R := R) (G k) live (tab k) (bl Tryd.f24 0) := h5.fit (key := 5) (by kernel_rfl) (T5 k) (fun _ _ _ => rfl) fun K r v0 v1 v2 h => fit_mk h (fun a => h5.mk' v0 a.1 a.2) (fun _ v1 v2 => some (v1, v2)) (by kernel_rfl) (fun _ => by kernel_rfl) fun Lp a => by kernel_rfl
theorem fit9 {R : Type} (k : Nat) : Fit (R := R) (G k) live (tab k) (bl Tryd.f24 1) := h9.fit (key := 9) (by kernel_rfl) (T9 k) (fun _ _ _ => rfl) fun K r v0 v1 v2 v3 v4 h => fit_mk h (fun a => h9.mk' v0 v1 v2 a.1 a.2) (fun _ _ _ v3 v4 => some (v3, v4)) (by kernel_rfl) (fun _ => by kernel_rfl) fun Lp a => by kernel_rfl
theorem fit16 {R : Type} (k : Nat) : Fit (R := R) (G k) live (tab k) (bl Tryd.f24 2) := h16.fit (key := 16) (by kernel_rfl) (T16 k) (fun _ _ _ => rfl) fun K r v0 v1 v2 v3 v4 h => fit_mk h (fun a => h16.mk' v0 a.1 v2 v3 a.2) (fun _ v1 _ _ v4 => some (v1, v4)) (by kernel_rfl) (fun _ => by kernel_rfl) fun Lp a => by kernel_rfl
theorem fit20 {R : Type} (k : Nat) : Fit (R := R) (G k) live (tab k) (bl Tryd.f24 3) := h20.fit (key := 20) (by kernel_rfl) (T20 k) (fun _ _ _ => rfl) fun K r v0 v1 v2 h => fit_mk h (fun a => h20.mk' v0 a.1 a.2) (fun _ v1 v2 => some (v1, v2)) (by kernel_rfl) (fun _ => by kernel_rfl) fun Lp a => by kernel_rfl
theorem fit24 {R : Type} (k : Nat) : Fit (R := R) (G k) live (tab k) (bl Tryd.f24 4) := h24.fit (key := 24) (by kernel_rfl) (T24 k) (fun _ _ _ => rfl) fun K r v0 v1 v2 v3 v4 h => fit_mk h (fun a => h24.mk' v0 a.1 v2 a.2.1 (t2 a)) (fun _ v1 _ v3 v4 => some (v1, v3, v4)) (by kernel_rfl) (fun _ => by kernel_rfl) fun Lp a => by kernel_rfl
theorem con (k : Nat) : Con Tryd.prog S (f k) := con_fn (nt := 94) (live := live) (Λ := tab k) tok (all_cons (ok_con (spec_l10Ok.con k)) (all_cons (ok_con (spec_HasCard.con k)) (all_cons (ok_con (spec_l10Put.con k)) (all_cons (ok_con (spec_Without.con k)) (all_cons (ok_con (spec_SuitOf.con k)) all_nil))))) mixed Tryd.func24 (by kernel_rfl) (all_cons (fit5 k) (all_cons (fit9 k) (all_cons (fit16 k) (all_cons (fit20 k) (all_cons (fit24 k) all_nil))))) fun x => by kernel_rfl
end spec_MeldsIn

namespace spec_l1New
def S : Sp := ⟨45, ⟨[27], [55], [.frz], .own⟩, [.l .frz (.ints .u8)], [.ptr kd74]⟩
def live : List (Nat × List Nat) := [(3, [0, 3, 4]), (100003, [0, 2, 3])]
def G {R : Type} (k : Nat) : Glob R := mkG tt [] 32
def h3 : Hd := ⟨[.l (.val true false (.ints .u8)), .I, .I], []⟩
def T3 {R : Type} (k : Nat) (K : X → St → Option R) : h3.Fn (Option R) := fun v0 v1 v2 => l3 k v0 (fun p0 => K (.exit 0) (stOf [0, 2, 3] [.one (.l (.val true (.ints .u8 v0))), .one (.l (.any)), .one (.l (.i .i64 p0))] [])) k v1 v2
def tab {R : Type} (k : Nat) : LTab R := fun id K vs hs => bif id == 3 then h3.tell vs hs (T3 k K) else none
theorem fit3 {R : Type} (k : Nat) : Fit (R := R) (G k) live (tab k) (bl Tryd.f45 0) := h3.fit (key := 3) (by kernel_rfl) (T3 k) (fun _ _ _ => rfl) fun K r v0 v1 v2 h => fit_mk h (fun a => h3.mk' v0 a.1 a.2) (fun _ v1 v2 => some (v1, v2)) (by kernel_rfl) (fun _ => by kernel_rfl) fun Lp a => by kernel_rfl
theorem con (k : Nat) : Con Tryd.prog S (f k) := con_fn (nt := 32) (live := live) (Λ := tab k) tok all_nil mixed Tryd.func45 (by kernel_rfl) (all_cons (fit3 k) all_nil) fun x => by kernel_rfl
end spec_l1New

namespace spec_l1Byte
def S : Sp := ⟨79, ⟨[55], [3], [.io], .own⟩, [.ptr kd74], [.O, .ptr kd74]⟩
theorem con (k : Nat) : Con Tryd.prog S (f k) := con_fn (nt := 58) (live := []) (Λ := noL) tok all_nil mixed Tryd.func79 (by kernel_rfl) all_nil fun x => by kernel_rfl
end spec_l1Byte

namespace spec_l1Below
def S : Sp := ⟨66, ⟨[55, 3], [3], [.io, .bor], .own⟩, [.ptr kd74, .I], [.O, .ptr kd74]⟩
theorem con (k : Nat) : Con Tryd.prog S (f k) := con_fn (nt := 31) (live := []) (Λ := noL) tok (all_cons (ok_con (spec_l1Byte.con k)) all_nil) mixed Tryd.func66 (by kernel_rfl) all_nil fun x => by kernel_rfl
end spec_l1Below

namespace spec_l1Once
def S : Sp := ⟨46, ⟨[55, 3], [4], [.io, .bor], .own⟩, [.ptr kd74, .I], [.B, .ptr kd74]⟩
theorem con (k : Nat) : Con Tryd.prog S (f k) := con_fn (nt := 9) (live := []) (Λ := noL) tok (all_cons (ok_con (spec_l1Below.con k)) all_nil) mixed Tryd.func46 (by kernel_rfl) all_nil fun x => by kernel_rfl
end spec_l1Once

namespace spec_l5Some
def S : Sp := ⟨67, ⟨[55, 3], [22], [.io, .bor], .own⟩, [.ptr kd74, .I], [.l .own (.ints .i64), .ptr kd74]⟩
def live : List (Nat × List Nat) := [(6, [0, 1, 5, 6, 7, 27]), (100006, [0, 1, 4, 5, 6, 7, 27]), (3, [0, 1, 5, 6, 27]), (100003, [4, 5, 27])]
def G {R : Type} (k : Nat) : Glob R := mkG tt [spec_HasCard.S.ent (spec_HasCard.f k), spec_l1Below.S.ent (spec_l1Below.f k)] 27
def h6 : Hd := ⟨[.l (.ptr 0 0), .I, .l (.own 1), .I, .I, .l (.ptr 0 0)], [.box [.val true false (.ints .u8), .I, .I], .V]⟩
def T6 {R : Type} (k : Nat) (K : X → St → Option R) : h6.Fn (Option R) := fun v0 v1 v2 v3 v4 v5 v6 => l6 k v6 (fun p0 => K (.exit 2) (stOf [0, 1, 4, 5, 6, 7, 27] [.one (.l (.bptr 0 0)), .one (.l (.i .i64 v0)), .one (.l (.any)), .one (.l (.own 1)), .one (.l (.i .i64 v1)), .one (.l (.i .i64 p0)), .one (.l (.bptr 0 0))] [some (.box 0 [.val true (.ints .u8 v3), .i .i64 v4, .i .i64 v5]), some (.row 0 0 (.ints .i64 v6))])) k v2
def h3 : Hd := ⟨[.l (.ptr 0 0), .I, .l (.own 1), .I, .l (.ptr 0 0)], [.box [.val true false (.ints .u8), .I, .I], .V]⟩
def T3 {R : Type} (k : Nat) (K : X → St → Option R) : h3.Fn (Option R) := fun v0 v1 v2 v3 v4 v5 => l3 k v0 (fun p0 p1 p2 p3 => K (.exit 0) (stOf [4, 5, 27] [.one (.l (.any)), .one (.l (.own 0)), .one (.l (.bptr 1 0))] [some (.row 0 0 (.ints .i64 p0)), some (.box 0 [.val true (.ints .u8 p1), .i .i64 p2, .i .i64 p3])])) k v1 v2 v3 v4 v5
def tab {R : Type} (k : Nat) : LTab R := fun id K vs hs => bif id == 6 then h6.tell vs hs (T6 k K) else bif id == 3 then h3.tell vs hs (T3 k K) else none
theorem fit3 {R : Type} (k : Nat) : Fit (R := R) (G k) live (tab k) (bl Tryd.f67 0) := h3.fit (key := 3) (by kernel_rfl) (T3 k) (fun _ _ _ => rfl) fun K r v0 v1 v2 v3 v4 v5 h => fit_mk h (fun a => h3.mk' v0 a.1 a.2.1 (t2 a).1 (t3 a).1 (t4 a)) (fun _ v1 v2 v3 v4 v5 => some (v1, v2, v3, v4, v5)) (by kernel_rfl) (fun _ => by kernel_rfl) fun Lp a => by kernel_rfl
theorem fit6 {R : Type} (k : Nat) : Fit (R := R) (G k) live (tab k) (bl Tryd.f67 1) := h6.fit (key := 6) (by kernel_rfl) (T6 k) (fun _ _ _ => rfl) fun K r v0 v1 v2 v3 v4 v5 v6 h => fit_mk h (fun a => h6.mk' v0 v1 a v3 v4 v5 v6) (fun _ _ v2 _ _ _ _ => some v2) (by kernel_rfl) (fun _ => by kernel_rfl) fun Lp a => by kernel_rfl
theorem con (k : Nat) : Con Tryd.prog S (f k) := con_fn (nt := 27) (live := live) (Λ := tab k) tok (all_cons (ok_con (spec_HasCard.con k)) (all_cons (ok_con (spec_l1Below.con k)) all_nil)) mixed Tryd.func67 (by kernel_rfl) (all_cons (fit3 k) (all_cons (fit6 k) all_nil)) fun x => by kernel_rfl
end spec_l5Some

namespace spec_l1Int
def S : Sp := ⟨68, ⟨[55, 22], [3], [.io, .bor], .own⟩, [.ptr kd74, .V], [.O, .ptr kd74]⟩
theorem con (k : Nat) : Con Tryd.prog S (f k) := con_fn (nt := 12) (live := []) (Λ := noL) tok (all_cons (ok_con (spec_l1Below.con k)) all_nil) mixed Tryd.func68 (by kernel_rfl) all_nil fun x => by kernel_rfl
end spec_l1Int

namespace spec_l5Any
def S : Sp := ⟨47, ⟨[55], [22], [.io], .own⟩, [.ptr kd74], [.l .own (.ints .i64), .ptr kd74]⟩
theorem con (k : Nat) : Con Tryd.prog S (f k) := con_fn (nt := 27) (live := []) (Λ := noL) tok (all_cons (ok_con (spec_l1Once.con k)) (all_cons (ok_con (spec_l1Below.con k)) (all_cons (ok_con (spec_l5Some.con k)) (all_cons (ok_con (spec_l1Int.con k)) all_nil)))) mixed Tryd.func47 (by kernel_rfl) all_nil fun x => by kernel_rfl
end spec_l5Any

namespace spec_l10Draw
def S : Sp := ⟨48, ⟨[55], [22], [.io], .own⟩, [.ptr kd74], [.l .own (.ints .i64), .ptr kd74]⟩
def live : List (Nat × List Nat) := [(7, [0, 3, 4, 5, 6, 43]), (100007, [0, 2, 3, 4, 43]), (3, [0, 3, 4, 43]), (100003, [2, 3, 43])]
def G {R : Type} (k : Nat) : Glob R := mkG tt [spec_HasCard.S.ent (spec_HasCard.f k), spec_l1Below.S.ent (spec_l1Below.f k), spec_l1Int.S.ent (spec_l1Int.f k)] 43
def h7 : Hd := ⟨[.l (.ptr 0 0), .l (.own 1), .I, .I, .I, .l (.ptr 0 0)], [.box [.val true false (.ints .u8), .I, .I], .V]⟩
def T7 {R : Type} (k : Nat) (K : X → St → Option R) : h7.Fn (Option R) := fun v0 v1 v2 v3 v4 v5 v6 => l7 k (fun p0 p1 p2 p3 => K (.exit 2) (stOf [0, 2, 3, 4, 43] [.one (.l (.bptr 0 0)), .one (.l (.any)), .one (.l (.own 1)), .one (.l (.i .i64 v0)), .one (.l (.bptr 0 0))] [some (.box 0 [.val true (.ints .u8 p0), .i .i64 p1, .i .i64 p2]), some (.row 0 0 (.ints .i64 p3))])) k v1 v2 v3 v4 v5 v6
def h3 : Hd := ⟨[.l (.ptr 0 0), .l (.own 1), .I, .l (.ptr 0 0)], [.box [.val true false (.ints .u8), .I, .I], .V]⟩
def T3 {R : Type} (k : Nat) (K : X → St → Option R) : h3.Fn (Option R) := fun v0 v1 v2 v3 v4 => l3 k (fun p0 p1 p2 p3 => K (.exit 0) (stOf [2, 3, 43] [.one (.l (.any)), .one (.l (.own 0)), .one (.l (.bptr 1 0))] [some (.row 0 0 (.ints .i64 p0)), some (.box 0 [.val true (.ints .u8 p1), .i .i64 p2, .i .i64 p3])])) k v0 v1 v2 v3 v4
def tab {R : Type} (k : Nat) : LTab R := fun id K vs hs => bif id == 7 then h7.tell vs hs (T7 k K) else bif id == 3 then h3.tell vs hs (T3 k K) else none
theorem fit3 {R : Type} (k : Nat) : Fit (R := R) (G k) live (tab k) (bl Tryd.f48 0) := h3.fit (key := 3) (by kernel_rfl) (T3 k) (fun _ _ _ => rfl) fun K r v0 v1 v2 v3 v4 h => fit_mk h (fun a => h3.mk' a.1 a.2.1 (t2 a).1 (t3 a).1 (t4 a)) (fun v0 v1 v2 v3 v4 => some (v0, v1, v2, v3, v4)) (by kernel_rfl) (fun _ => by kernel_rfl) fun Lp a => by kernel_rfl
theorem fit7 {R : Type} (k : Nat) : Fit (R := R) (G k) live (tab k) (bl Tryd.f48 1) := h7.fit (key := 7) (by kernel_rfl) (T7 k) (fun _ _ _ => rfl) fun K r v0 v1 v2 v3 v4 v5 v6 h => fit_mk h (fun a => h7.mk' v0 a.1 a.2.1 (t2 a).1 (t3 a).1 (t4 a).1 (t5 a)) (fun _ v1 v2 v3 v4 v5 v6 => some (v1, v2, v3, v4, v5, v6)) (by kernel_rfl) (fun _ => by kernel_rfl) fun Lp a => by kernel_rfl
theorem con (k : Nat) : Con Tryd.prog S (f k) := con_fn (nt := 43) (live := live) (Λ := tab k) tok (all_cons (ok_con (spec_HasCard.con k)) (all_cons (ok_con (spec_l1Below.con k)) (all_cons (ok_con (spec_l1Int.con k)) all_nil))) mixed Tryd.func48 (by kernel_rfl) (all_cons (fit3 k) (all_cons (fit7 k) all_nil)) fun x => by kernel_rfl
end spec_l10Draw

namespace spec_DrawMeldsIn
def S : Sp := ⟨25, ⟨[27], [22], [.frz], .own⟩, [.l .frz (.ints .u8)], [.l .own (.ints .i64)]⟩
theorem con (k : Nat) : Con Tryd.prog S (f k) := con_fn (nt := 12) (live := []) (Λ := noL) tok (all_cons (ok_con (spec_l1New.con k)) (all_cons (ok_con (spec_l1Once.con k)) (all_cons (ok_con (spec_l5Any.con k)) (all_cons (ok_con (spec_l10Draw.con k)) all_nil)))) mixed Tryd.func25 (by kernel_rfl) all_nil fun x => by kernel_rfl
end spec_DrawMeldsIn

namespace spec_DrawFormatMelds
def S : Sp := ⟨10, ⟨[27], [29], [.frz], .lent⟩, [.l .frz (.ints .u8)], [.l .lent .rows]⟩
theorem con (k : Nat) : Con Tryd.prog S (f k) := con_fn (nt := 6) (live := []) (Λ := noL) tok (all_cons (ok_con (spec_MeldsIn.con k)) (all_cons (ok_con (spec_DrawMeldsIn.con k)) all_nil)) mixed Tryd.func10 (by kernel_rfl) all_nil fun x => by kernel_rfl
end spec_DrawFormatMelds

namespace impl_CardText
def S : Sp := ⟨70, ⟨[3], [9], [.bor], .own⟩, [.I], [.l .own .str]⟩
theorem con (k : Nat) : Con Tryd.prog S (f k) := con_fn (nt := 19) (live := []) (Λ := noL) tok (all_cons (ok_con (impl_IsCard.con k)) all_nil) mixed Tryd.func70 (by kernel_rfl) all_nil fun x => by kernel_rfl
end impl_CardText

namespace impl_listText
def S : Sp := ⟨49, ⟨[22, 3, 9], [9], [.bor, .bor, .bor], .own⟩, [.V, .I, .l .lent .str], [.l .own .str]⟩
def live : List (Nat × List Nat) := [(5, [1, 2, 7, 13, 14, 15]), (100005, [6, 7])]
def G {R : Type} (k : Nat) : Glob R := mkG tt [impl_IsCard.S.ent (impl_IsCard.f k), impl_CardText.S.ent (impl_CardText.f k)] 37
def h5 : Hd := ⟨[.I, .l (.s), .l (.s), .V, .I, .I], []⟩
def T5 {R : Type} (k : Nat) (K : X → St → Option R) : h5.Fn (Option R) := fun v0 v1 v2 v3 v4 v5 => l5 k v0 v1 v3 v4 (fun p0 => K (.exit 0) (stOf [6, 7] [.one (.l (.any)), .one (.l (.s p0))] [])) k v2 v5
def tab {R : Type} (k : Nat) : LTab R := fun id K vs hs => bif id == 5 then h5.tell vs hs (T5 k K) else none
theorem fit5 {R : Type} (k : Nat) : Fit (R := R) (G k) live (tab k) (bl Tryd.f49 0) := h5.fit (key := 5) (by kernel_rfl) (T5 k) (fun _ _ _ => rfl) fun K r v0 v1 v2 v3 v4 v5 h => fit_mk h (fun a => h5.mk' v0 v1 a.1 v3 v4 a.2) (fun _ _ v2 _ _ v5 => some (v2, v5)) (by kernel_rfl) (fun _ => by kernel_rfl) fun Lp a => by kernel_rfl
theorem con (k : Nat) : Con Tryd.prog S (f k) := con_fn (nt := 37) (live := live) (Λ := tab k) tok (all_cons (ok_con (impl_IsCard.con k)) (all_cons (ok_con (impl_CardText.con k)) all_nil)) mixed Tryd.func49 (by kernel_rfl) (all_cons (fit5 k) all_nil) fun x => by kernel_rfl
end impl_listText

namespace impl_HandText
def S : Sp := ⟨26, ⟨[22], [9], [.bor], .own⟩, [.V], [.l .own .str]⟩
theorem con (k : Nat) : Con Tryd.prog S (f k) := con_fn (nt := 5) (live := []) (Λ := noL) tok (all_cons (ok_con (impl_listText.con k)) all_nil) mixed Tryd.func26 (by kernel_rfl) all_nil fun x => by kernel_rfl
end impl_HandText

namespace impl_FormatMelds
def S : Sp := ⟨11, ⟨[29], [9], [.bor], .own⟩, [.l .lent .rows], [.l .own .str]⟩
def live : List (Nat × List Nat) := [(5, [3, 10, 11, 12]), (100005, [2, 3])]
def G {R : Type} (k : Nat) : Glob R := mkG tt [impl_HandText.S.ent (impl_HandText.f k), strings_Join.S.ent (strings_Join.f k)] 24
def h5 : Hd := ⟨[.l (.own 0), .W, .I, .I], [.row false .strs]⟩
def T5 {R : Type} (k : Nat) (K : X → St → Option R) : h5.Fn (Option R) := fun v0 v1 v2 v3 => l5 k v0 v1 (fun p0 => K (.exit 0) (stOf [2, 3] [.one (.l (.any)), .one (.l (.own 0))] [some (.row 0 0 (.strs p0))])) k v2 v3
def tab {R : Type} (k : Nat) : LTab R := fun id K vs hs => bif id == 5 then h5.tell vs hs (T5 k K) else none
theorem fit5 {R : Type} (k : Nat) : Fit (R := R) (G k) live (tab k) (bl Tryd.f11 0) := h5.fit (key := 5) (by kernel_rfl) (T5 k) (fun _ _ _ => rfl) fun K r v0 v1 v2 v3 h => fit_mk h (fun a => h5.mk' v0 v1 a.1 a.2) (fun _ _ v2 v3 => some (v2, v3)) (by kernel_rfl) (fun _ => by kernel_rfl) fun Lp a => by kernel_rfl
theorem con (k : Nat) : Con Tryd.prog S (f k) := con_fn (nt := 24) (live := live) (Λ := tab k) tok (all_cons (ok_con (impl_HandText.con k)) (all_cons (ok_con (strings_Join.con k)) all_nil)) mixed Tryd.func11 (by kernel_rfl) (all_cons (fit5 k) all_nil) fun x => by kernel_rfl
end impl_FormatMelds

namespace spec_l14Five
def S : Sp := ⟨53, ⟨[55], [22], [.io], .own⟩, [.ptr kd74], [.l .own (.ints .i64), .ptr kd74]⟩
def live : List (Nat × List Nat) := [(6, [0, 3, 4, 5, 35]), (100006, [0, 2, 3, 4, 5, 35]), (4, [0, 3, 4, 5, 35]), (100004, [0, 2, 4, 35])]
def G {R : Type} (k : Nat) : Glob R := mkG tt [spec_HasCard.S.ent (spec_HasCard.f k), spec_l1Once.S.ent (spec_l1Once.f k), spec_l1Below.S.ent (spec_l1Below.f k), spec_l5Some.S.ent (spec_l5Some.f k), spec_l1Int.S.ent (spec_l1Int.f k)] 35
def h6 : Hd := ⟨[.l (.ptr 0 0), .I, .l (.own 1), .I, .l (.ptr 0 0)], [.box [.val true false (.ints .u8), .I, .I], .V]⟩
def T6 {R : Type} (k : Nat) (K : X → St → Option R) : h6.Fn (Option R) := fun v0 v1 v2 v3 v4 v5 => l6 k v5 (fun p0 => K (.exit 2) (stOf [0, 2, 3, 4, 5, 35] [.one (.l (.bptr 0 0)), .one (.l (.any)), .one (.l (.i .i64 p0)), .one (.l (.own 1)), .one (.l (.i .i64 v1)), .one (.l (.bptr 0 0))] [some (.box 0 [.val true (.ints .u8 v2), .i .i64 v3, .i .i64 v4]), some (.row 0 0 (.ints .i64 v5))])) k v0
def h4 : Hd := ⟨[.l (.ptr 0 0), .I, .l (.own 1), .I, .l (.ptr 0 0)], [.box [.val true false (.ints .u8), .I, .I], .V]⟩
def T4 {R : Type} (k : Nat) (K : X → St → Option R) : h4.Fn (Option R) := fun v0 v1 v2 v3 v4 v5 => l4 k v1 (fun p0 => K (.exit 0) (stOf [0, 2, 4, 35] [.one (.l (.bptr 0 0)), .one (.l (.any)), .one (.l (.own 1)), .one (.l (.bptr 0 0))] [some (.box 0 [.val true (.ints .u8 v2), .i .i64 v3, .i .i64 v4]), some (.row 0 0 (.ints .i64 p0))])) k v0 v5
def tab {R : Type} (k : Nat) : LTab R := fun id K vs hs => bif id == 6 then h6.tell vs hs (T6 k K) else bif id == 4 then h4.tell vs hs (T4 k K) else none
theorem fit4 {R : Type} (k : Nat) : Fit (R := R) (G k) live (tab k) (bl Tryd.f53 0) := h4.fit (key := 4) (by kernel_rfl) (T4 k) (fun _ _ _ => rfl) fun K r v0 v1 v2 v3 v4 v5 h => fit_mk h (fun a => h4.mk' a.1 v1 v2 v3 v4 a.2) (fun v0 _ _ _ _ v5 => some (v0, v5)) (by kernel_rfl) (fun _ => by kernel_rfl) fun Lp a => by kernel_rfl
theorem fit6 {R : Type} (k : Nat) : Fit (R := R) (G k) live (tab k) (bl Tryd.f53 1) := h6.fit (key := 6) (by kernel_rfl) (T6 k) (fun _ _ _ => rfl) fun K r v0 v1 v2 v3 v4 v5 h => fit_mk h (fun a => h6.mk' a v1 v2 v3 v4 v5) (fun v0 _ _ _ _ _ => some v0) (by kernel_rfl) (fun _ => by kernel_rfl) fun Lp a => by kernel_rfl
theorem con (k : Nat) : Con Tryd.prog S (f k) := con_fn (nt := 35) (live := live) (Λ := tab k) tok (all_cons (ok_con (spec_HasCard.con k)) (all_cons (ok_con (spec_l1Once.con k)) (all_cons (ok_con (spec_l1Below.con k)) (all_cons (ok_con (spec_l5Some.con k)) (all_cons (ok_con (spec_l1Int.con k)) all_nil))))) mixed Tryd.func53 (by kernel_rfl) (all_cons (fit4 k) (all_cons (fit6 k) all_nil)) fun x => by kernel_rfl
end spec_l14Five

namespace spec_DrawKindOf
def S : Sp := ⟨28, ⟨[27], [22], [.frz], .own⟩, [.l .frz (.ints .u8)], [.l .own (.ints .i64)]⟩
theorem con (k : Nat) : Con Tryd.prog S (f k) := con_fn (nt := 12) (live := []) (Λ := noL) tok (all_cons (ok_con (spec_l1New.con k)) (all_cons (ok_con (spec_l1Once.con k)) (all_cons (ok_con (spec_l5Any.con k)) (all_cons (ok_con (spec_l14Five.con k)) all_nil)))) mixed Tryd.func28 (by kernel_rfl) all_nil fun x => by kernel_rfl
end spec_DrawKindOf

namespace spec_DrawFormatKey
def S : Sp := ⟨12, ⟨[27], [22], [.frz], .own⟩, [.l .frz (.ints .u8)], [.l .own (.ints .i64)]⟩
theorem con (k : Nat) : Con Tryd.prog S (f k) := con_fn (nt := 5) (live := []) (Λ := noL) tok (all_cons (ok_con (spec_DrawKindOf.con k)) all_nil) mixed Tryd.func12 (by kernel_rfl) all_nil fun x => by kernel_rfl
end spec_DrawFormatKey

namespace impl_FormatTable
def S : Sp := ⟨13, ⟨[39], [9], [.bor], .own⟩, [.agg .lent kd39], [.l .own .str]⟩
theorem con (k : Nat) : Con Tryd.prog S (f k) := con_fn (nt := 19) (live := []) (Λ := noL) tok (all_cons (ok_con (impl_numbersText.con k)) all_nil) mixed Tryd.func13 (by kernel_rfl) all_nil fun x => by kernel_rfl
end impl_FormatTable

namespace spec_l8Leaf
def S : Sp := ⟨101, ⟨[3], [4], [.bor], .own⟩, [.I], [.B]⟩
theorem con (k : Nat) : Con Tryd.prog S (f k) := con_fn (nt := 17) (live := []) (Λ := noL) tok (all_cons (ok_con (spec_l1In.con k)) all_nil) mixed Tryd.func101 (by kernel_rfl) all_nil fun x => by kernel_rfl
end spec_l8Leaf

namespace spec_IsPattern
def S : Sp := ⟨95, ⟨[22], [4], [.bor], .own⟩, [.V], [.B]⟩
def live : List (Nat × List Nat) := [(3, [0, 3, 4]), (100003, [0, 2, 3])]
def G {R : Type} (k : Nat) : Glob R := mkG tt [spec_l8Leaf.S.ent (spec_l8Leaf.f k)] 55
def h3 : Hd := ⟨[.V, .I, .I], []⟩
def T3 {R : Type} (k : Nat) (K : X → St → Option R) : h3.Fn (Option R) := fun v0 v1 v2 => l3 k v0 (fun p0 => K .ret (stOf [0, 2, 3] [.one (.l (.val false (.ints .i64 v0))), .one (.l (.b false)), .one (.l (.i .i64 p0))] [])) (fun p0 => K (.exit 0) (stOf [0, 2, 3] [.one (.l (.val false (.ints .i64 v0))), .one (.l (.any)), .one (.l (.i .i64 p0))] [])) k v1 v2
def tab {R : Type} (k : Nat) : LTab R := fun id K vs hs => bif id == 3 then h3.tell vs hs (T3 k K) else none
theorem fit3 {R : Type} (k : Nat) : Fit (R := R) (G k) live (tab k) (bl Tryd.f95 0) := h3.fit (key := 3) (by kernel_rfl) (T3 k) (fun _ _ _ => rfl) fun K r v0 v1 v2 h => fit_mk h (fun a => h3.mk' v0 a.1 a.2) (fun _ v1 v2 => some (v1, v2)) (by kernel_rfl) (fun _ => by kernel_rfl) fun Lp a => by kernel_rfl
theorem con (k : Nat) : Con Tryd.prog S (f k) := con_fn (nt := 55) (live := live) (Λ := tab k) tok (all_cons (ok_con (spec_l8Leaf.con k)) all_nil) mixed Tryd.func95 (by kernel_rfl) (all_cons (fit3 k) all_nil) fun x => by kernel_rfl
end spec_IsPattern

namespace spec_l22Pattern
def S : Sp := ⟨89, ⟨[22], [4], [.bor], .own⟩, [.V], [.B]⟩
theorem con (k : Nat) : Con Tryd.prog S (f k) := con_fn (nt := 10) (live := []) (Λ := noL) tok (all_cons (ok_con (spec_IsPattern.con k)) all_nil) mixed Tryd.func89 (by kernel_rfl) all_nil fun x => by kernel_rfl
end spec_l22Pattern

namespace spec_IsRules
def S : Sp := ⟨82, ⟨[35], [4], [.bor], .own⟩, [.agg .lent kd35], [.B]⟩
theorem con (k : Nat) : Con Tryd.prog S (f k) := con_fn (nt := 39) (live := []) (Λ := noL) tok (all_cons (ok_con (spec_l1In.con k)) (all_cons (ok_con (spec_l22Pattern.con k)) all_nil)) mixed Tryd.func82 (by kernel_rfl) all_nil fun x => by kernel_rfl
end spec_IsRules

namespace spec_l22Copy
def S : Sp := ⟨83, ⟨[35], [35], [.bor], .own⟩, [.agg .lent kd35], [.agg .own kd35]⟩
theorem con (k : Nat) : Con Tryd.prog S (f k) := con_fn (nt := 14) (live := []) (Λ := noL) tok all_nil mixed Tryd.func83 (by kernel_rfl) all_nil fun x => by kernel_rfl
end spec_l22Copy

namespace spec_NewTable
def S : Sp := ⟨73, ⟨[35], [39, 4], [.bor], .own⟩, [.agg .lent kd35], [.agg .own kd39, .B]⟩
theorem con (k : Nat) : Con Tryd.prog S (f k) := con_fn (nt := 11) (live := []) (Λ := noL) tok (all_cons (ok_con (spec_IsRules.con k)) (all_cons (ok_con (spec_l22Copy.con k)) all_nil)) mixed Tryd.func73 (by kernel_rfl) all_nil fun x => by kernel_rfl
end spec_NewTable

namespace spec_l8Leaves
def S : Sp := ⟨90, ⟨[55], [3], [.io], .own⟩, [.ptr kd74], [.O, .ptr kd74]⟩
theorem con (k : Nat) : Con Tryd.prog S (f k) := con_fn (nt := 15) (live := []) (Λ := noL) tok (all_cons (ok_con (spec_l1Below.con k)) (all_cons (ok_con (spec_l1Int.con k)) all_nil)) mixed Tryd.func90 (by kernel_rfl) all_nil fun x => by kernel_rfl
end spec_l8Leaves

namespace spec_l8Draw
def S : Sp := ⟨84, ⟨[55, 3], [22], [.io, .bor], .own⟩, [.ptr kd74, .I], [.l .own (.ints .i64), .ptr kd74]⟩
theorem step (k : Nat) (self : LI → Int → Int → Int → Option (LI × LI × Int × Int)) (hself : Con Tryd.prog S self) : Con Tryd.prog S (b k self) := con_fn (nt := 38) (live := []) (Λ := noL) tok (all_cons (ok_con (spec_l1Once.con k)) (all_cons (ok_con (spec_l1Below.con k)) (all_cons (ok_con hself) (all_cons (ok_con (spec_l8Leaves.con k)) all_nil)))) mixed Tryd.func84 (by kernel_rfl) all_nil fun x => by kernel_rfl
theorem con (k : Nat) : Con Tryd.prog S (f k) := con_rec (S := S) (b := b k) (g := g k) ⟨Tryd.f84, Tryd.func84, by kernel_rfl, by kernel_rfl⟩ (fun _ => rfl) (fun _ => rfl) (step k) k
end spec_l8Draw

namespace spec_l22Draw
def S : Sp := ⟨74, ⟨[55], [35], [.io], .own⟩, [.ptr kd74], [.agg .own kd35, .ptr kd74]⟩
theorem con (k : Nat) : Con Tryd.prog S (f k) := con_fn (nt := 30) (live := []) (Λ := noL) tok (all_cons (ok_con (spec_l1Once.con k)) (all_cons (ok_con (spec_l1Below.con k)) (all_cons (ok_con (spec_l8Draw.con k)) all_nil))) mixed Tryd.func74 (by kernel_rfl) all_nil fun x => by kernel_rfl
end spec_l22Draw

namespace spec_l8Any
def S : Sp := ⟨85, ⟨[55], [22], [.io], .frz⟩, [.ptr kd74], [.l .frz (.ints .i64), .ptr kd74]⟩
theorem con (k : Nat) : Con Tryd.prog S (f k) := con_fn (nt := 24) (live := []) (Λ := noL) tok (all_cons (ok_con (spec_l1Below.con k)) (all_cons (ok_con (spec_l1Int.con k)) (all_cons (ok_con (spec_l8Draw.con k)) all_nil))) mixed Tryd.func85 (by kernel_rfl) all_nil fun x => by kernel_rfl
end spec_l8Any

namespace spec_l22Any
def S : Sp := ⟨75, ⟨[55], [35], [.io], .lent⟩, [.ptr kd74], [.agg .lent kd35, .ptr kd74]⟩
theorem con (k : Nat) : Con Tryd.prog S (f k) := con_fn (nt := 41) (live := []) (Λ := noL) tok (all_cons (ok_con (spec_l1Below.con k)) (all_cons (ok_con (spec_l1Int.con k)) (all_cons (ok_con (spec_l22Draw.con k)) (all_cons (ok_con (spec_l8Any.con k)) all_nil)))) mixed Tryd.func75 (by kernel_rfl) all_nil fun x => by kernel_rfl
end spec_l22Any

namespace spec_FromTricks
def S : Sp := ⟨86, ⟨[22], [22], [.bor], .own⟩, [.V], [.l .own (.ints .i64)]⟩
def live : List (Nat × List Nat) := [(3, [0, 3, 4]), (100003, [0, 2, 3]), (10, [0, 3, 5, 6]), (100010, [2, 5])]
def G {R : Type} (k : Nat) : Glob R := mkG tt [spec_l1In.S.ent (spec_l1In.f k)] 51
def h3 : Hd := ⟨[.V, .I, .I], []⟩
def T3 {R : Type} (k : Nat) (K : X → St → Option R) : h3.Fn (Option R) := fun v0 v1 v2 => l3 k v0 (fun p0 p1 => K .ret (stOf [0, 2, 3] [.one (.l (.val false (.ints .i64 v0))), .one (.l (.own 0)), .one (.l (.i .i64 p0))] [some (.row 0 0 (.ints .i64 p1))])) (fun p0 => K (.exit 0) (stOf [0, 2, 3] [.one (.l (.val false (.ints .i64 v0))), .one (.l (.any)), .one (.l (.i .i64 p0))] [])) k v1 v2
def h10 : Hd := ⟨[.V, .I, .l (.own 0), .I], [.V]⟩
def T10 {R : Type} (k : Nat) (K : X → St → Option R) : h10.Fn (Option R) := fun v0 v1 v2 v3 => l10 k v0 v1 (fun p0 => K (.exit 2) (stOf [2, 5] [.one (.l (.any)), .one (.l (.own 0))] [some (.row 0 0 (.ints .i64 p0))])) k v2 v3
def tab {R : Type} (k : Nat) : LTab R := fun id K vs hs => bif id == 3 then h3.tell vs hs (T3 k K) else bif id == 10 then h10.tell vs hs (T10 k K) else none
theorem fit3 {R : Type} (k : Nat) : Fit (R := R) (G k) live (tab k) (bl Tryd.f86 0) := h3.fit (key := 3) (by kernel_rfl) (T3 k) (fun _ _ _ => rfl) fun K r v0 v1 v2 h => fit_mk h (fun a => h3.mk' v0 a.1 a.2) (fun _ v1 v2 => some (v1, v2)) (by kernel_rfl) (fun _ => by kernel_rfl) fun Lp a => by kernel_rfl
theorem fit10 {R : Type} (k : Nat) : Fit (R := R) (G k) live (tab k) (bl Tryd.f86 1) := h10.fit (key := 10) (by kernel_rfl) (T10 k) (fun _ _ _ => rfl) fun K r v0 v1 v2 v3 h => fit_mk h (fun a => h10.mk' v0 v1 a.1 a.2) (fun _ _ v2 v3 => some (v2, v3)) (by kernel_rfl) (fun _ => by kernel_rfl) fun Lp a => by kernel_rfl
theorem con (k : Nat) : Con Tryd.prog S (f k) := con_fn (nt := 51) (live := live) (Λ := tab k) tok (all_cons (ok_con (spec_l1In.con k)) all_nil) mixed Tryd.func86 (by kernel_rfl) (all_cons (fit3 k) (all_cons (fit10 k) all_nil)) fun x => by kernel_rfl
end spec_FromTricks

namespace spec_l15Round
def S : Sp := ⟨76, ⟨[55, 3], [22], [.io, .bor], .own⟩, [.ptr kd74, .I], [.l .own (.ints .i64), .ptr kd74]⟩
def live : List (Nat × List Nat) := [(3, [0, 1, 5, 6, 20]), (100003, [4, 5, 20])]
def G {R : Type} (k : Nat) : Glob R := mkG tt [spec_l1Below.S.ent (spec_l1Below.f k), spec_FromTricks.S.ent (spec_FromTricks.f k)] 20
def h3 : Hd := ⟨[.l (.ptr 0 0), .I, .l (.own 1), .I, .l (.ptr 0 0)], [.box [.val true false (.ints .u8), .I, .I], .V]⟩
def T3 {R : Type} (k : Nat) (K : X → St → Option R) : h3.Fn (Option R) := fun v0 v1 v2 v3 v4 v5 => l3 k v0 (fun p0 p1 p2 p3 => K (.exit 0) (stOf [4, 5, 20] [.one (.l (.any)), .one (.l (.own 0)), .one (.l (.bptr 1 0))] [some (.row 0 0 (.ints .i64 p0)), some (.box 0 [.val true (.ints .u8 p1), .i .i64 p2, .i .i64 p3])])) k v1 v2 v3 v4 v5
def tab {R : Type} (k : Nat) : LTab R := fun id K vs hs => bif id == 3 then h3.tell vs hs (T3 k K) else none
theorem fit3 {R : Type} (k : Nat) : Fit (R := R) (G k) live (tab k) (bl Tryd.f76 0) := h3.fit (key := 3) (by kernel_rfl) (T3 k) (fun _ _ _ => rfl) fun K r v0 v1 v2 v3 v4 v5 h => fit_mk h (fun a => h3.mk' v0 a.1 a.2.1 (t2 a).1 (t3 a).1 (t4 a)) (fun _ v1 v2 v3 v4 v5 => some (v1, v2, v3, v4, v5)) (by kernel_rfl) (fun _ => by kernel_rfl) fun Lp a => by kernel_rfl
theorem con (k : Nat) : Con Tryd.prog S (f k) := con_fn (nt := 20) (live := live) (Λ := tab k) tok (all_cons (ok_con (spec_l1Below.con k)) (all_cons (ok_con (spec_FromTricks.con k)) all_nil)) mixed Tryd.func76 (by kernel_rfl) (all_cons (fit3 k) all_nil) fun x => by kernel_rfl
end spec_l15Round

namespace spec_Missing
def S : Sp := ⟨87, ⟨[22], [22], [.bor], .own⟩, [.V], [.l .own (.ints .i64)]⟩
def live : List (Nat × List Nat) := [(3, [0, 3, 4]), (100003, [2, 3])]
def G {R : Type} (k : Nat) : Glob R := mkG tt [spec_HasCard.S.ent (spec_HasCard.f k)] 19
def h3 : Hd := ⟨[.V, .l (.own 0), .I], [.V]⟩
def T3 {R : Type} (k : Nat) (K : X → St → Option R) : h3.Fn (Option R) := fun v0 v1 v2 => l3 k v0 (fun p0 => K (.exit 0) (stOf [2, 3] [.one (.l (.any)), .one (.l (.own 0))] [some (.row 0 0 (.ints .i64 p0))])) k v1 v2
def tab {R : Type} (k : Nat) : LTab R := fun id K vs hs => bif id == 3 then h3.tell vs hs (T3 k K) else none
theorem fit3 {R : Type} (k : Nat) : Fit (R := R) (G k) live (tab k) (bl Tryd.f87 0) := h3.fit (key := 3) (by kernel_rfl) (T3 k) (fun _ _ _ => rfl) fun K r v0 v1 v2 h => fit_mk h (fun a => h3.mk' v0 a.1 a.2) (fun _ v1 v2 => some (v1, v2)) (by kernel_rfl) (fun _ => by kernel_rfl) fun Lp a => by kernel_rfl
theorem con (k : Nat) : Con Tryd.prog S (f k) := con_fn (nt := 19) (live := live) (Λ := tab k) tok (all_cons (ok_con (spec_HasCard.con k)) all_nil) mixed Tryd.func87 (by kernel_rfl) (all_cons (fit3 k) all_nil) fun x => by kernel_rfl
end spec_Missing

namespace spec_FullDeck
def S : Sp := ⟨77, ⟨[], [22], [], .own⟩, [], [.l .own (.ints .i64)]⟩
theorem con (k : Nat) : Con Tryd.prog S (f k) := con_fn (nt := 2) (live := []) (Λ := noL) tok (all_cons (ok_con (spec_Missing.con k)) all_nil) mixed Tryd.func77 (by kernel_rfl) all_nil fun x => by kernel_rfl
end spec_FullDeck

namespace spec_l33Any
def S : Sp := ⟨54, ⟨[55], [39], [.io], .lent⟩, [.ptr kd74], [.agg .lent kd39, .ptr kd74]⟩
theorem con (k : Nat) : Con Tryd.prog S (f k) := con_fn (nt := 51) (live := []) (Λ := noL) tok (all_cons (ok_con (spec_l1Below.con k)) (all_cons (ok_con (spec_NewTable.con k)) (all_cons (ok_con (spec_l22Draw.con k)) (all_cons (ok_con (spec_l22Any.con k)) (all_cons (ok_con (spec_l15Round.con k)) (all_cons (ok_con (spec_FullDeck.con k)) all_nil)))))) mixed Tryd.func54 (by kernel_rfl) all_nil fun x => by kernel_rfl
end spec_l33Any

namespace spec_DrawIsTable
def S : Sp := ⟨29, ⟨[27], [39], [.frz], .lent⟩, [.l .frz (.ints .u8)], [.agg .lent kd39]⟩
theorem con (k : Nat) : Con Tryd.prog S (f k) := con_fn (nt := 8) (live := []) (Λ := noL) tok (all_cons (ok_con (spec_l1New.con k)) (all_cons (ok_con (spec_l33Any.con k)) all_nil)) mixed Tryd.func29 (by kernel_rfl) all_nil fun x => by kernel_rfl
end spec_DrawIsTable

namespace spec_DrawFormatTable
def S : Sp := ⟨14, ⟨[27], [39], [.frz], .lent⟩, [.l .frz (.ints .u8)], [.agg .lent kd39]⟩
theorem con (k : Nat) : Con Tryd.prog S (f k) := con_fn (nt := 5) (live := []) (Λ := noL) tok (all_cons (ok_con (spec_DrawIsTable.con k)) all_nil) mixed Tryd.func14 (by kernel_rfl) all_nil fun x => by kernel_rfl
end spec_DrawFormatTable

namespace impl_FormatNumbers
def S : Sp := ⟨16, ⟨[22], [9], [.bor], .own⟩, [.V], [.l .own .str]⟩
theorem con (k : Nat) : Con Tryd.prog S (f k) := con_fn (nt := 8) (live := []) (Λ := noL) tok (all_cons (ok_con (impl_numbersText.con k)) all_nil) mixed Tryd.func16 (by kernel_rfl) all_nil fun x => by kernel_rfl
end impl_FormatNumbers

namespace impl_FormatSheet
def S : Sp := ⟨17, ⟨[29], [9], [.bor], .own⟩, [.l .lent .rows], [.l .own .str]⟩
def live : List (Nat × List Nat) := [(5, [3, 10, 11, 12]), (100005, [2, 3])]
def G {R : Type} (k : Nat) : Glob R := mkG tt [impl_numbersText.S.ent (impl_numbersText.f k), strings_Join.S.ent (strings_Join.f k)] 24
def h5 : Hd := ⟨[.l (.own 0), .W, .I, .I], [.row false .strs]⟩
def T5 {R : Type} (k : Nat) (K : X → St → Option R) : h5.Fn (Option R) := fun v0 v1 v2 v3 => l5 k v0 v1 (fun p0 => K (.exit 0) (stOf [2, 3] [.one (.l (.any)), .one (.l (.own 0))] [some (.row 0 0 (.strs p0))])) k v2 v3
def tab {R : Type} (k : Nat) : LTab R := fun id K vs hs => bif id == 5 then h5.tell vs hs (T5 k K) else none
theorem fit5 {R : Type} (k : Nat) : Fit (R := R) (G k) live (tab k) (bl Tryd.f17 0) := h5.fit (key := 5) (by kernel_rfl) (T5 k) (fun _ _ _ => rfl) fun K r v0 v1 v2 v3 h => fit_mk h (fun a => h5.mk' v0 v1 a.1 a.2) (fun _ _ v2 v3 => some (v2, v3)) (by kernel_rfl) (fun _ => by kernel_rfl) fun Lp a => by kernel_rfl
theorem con (k : Nat) : Con Tryd.prog S (f k) := con_fn (nt := 24) (live := live) (Λ := tab k) tok (all_cons (ok_con (impl_numbersText.con k)) (all_cons (ok_con (strings_Join.con k)) all_nil)) mixed Tryd.func17 (by kernel_rfl) (all_cons (fit5 k) all_nil) fun x => by kernel_rfl
end impl_FormatSheet

namespace laws_FnViews
def S : Sp := ⟨4, ⟨[27], [4], [.frz], .own⟩, [.l .frz (.ints .u8)], [.B]⟩
def live : List (Nat × List Nat) := [(7, [0, 3, 4, 5, 6]), (100007, [0, 2, 3, 5]), (16, [3, 5, 7, 8, 9, 10, 11]), (100016, [2, 3, 5, 7, 8, 10])]
def G {R : Type} (k : Nat) : Glob R := mkG tt [impl_FormatKey.S.ent (impl_FormatKey.f k), laws_big.S.ent (laws_big.f k), spec_DrawFormatMelds.S.ent (spec_DrawFormatMelds.f k), impl_FormatMelds.S.ent (impl_FormatMelds.f k), spec_DrawFormatKey.S.ent (spec_DrawFormatKey.f k), impl_FormatTable.S.ent (impl_FormatTable.f k), spec_DrawFormatTable.S.ent (spec_DrawFormatTable.f k), impl_KeyOf.S.ent (impl_KeyOf.f k), impl_FormatNumbers.S.ent (impl_FormatNumbers.f k), impl_FormatSheet.S.ent (impl_FormatSheet.f k)] 80
def h7 : Hd := ⟨[.l (.val true false (.ints .u8)), .W, .l (.s), .I, .I], []⟩
def T7 {R : Type} (k : Nat) (K : X → St → Option R) : h7.Fn (Option R) := fun v0 v1 v2 v3 v4 => l7 k v2 (fun p0 => K (.exit 0) (stOf [0, 2, 3, 5] [.one (.l (.val true (.ints .u8 v0))), .one (.l (.any)), .one (.l (.val false (.rows false v1))), .one (.l (.i .i64 p0))] [])) k v3 v4
def h16 : Hd := ⟨[.W, .I, .l (.own 0), .l (.s), .l (.s), .I, .I], [.V]⟩
def T16 {R : Type} (k : Nat) (K : X → St → Option R) : h16.Fn (Option R) := fun v0 v1 v2 v3 v4 v5 v6 => l16 k v3 (fun p0 => K (.exit 2) (stOf [2, 3, 5, 7, 8, 10] [.one (.l (.any)), .one (.l (.val false (.rows false v0))), .one (.l (.i .i64 v1)), .one (.l (.own 0)), .one (.l (.s v2)), .one (.l (.i .i64 p0))] [some (.row 0 0 (.ints .i64 v6))])) k v4 v5
def tab {R : Type} (k : Nat) : LTab R := fun id K vs hs => bif id == 7 then h7.tell vs hs (T7 k K) else bif id == 16 then h16.tell vs hs (T16 k K) else none
theorem fit7 {R : Type} (k : Nat) : Fit (R := R) (G k) live (tab k) (bl Tryd.f4 0) := h7.fit (key := 7) (by kernel_rfl) (T7 k) (fun _ _ _ => rfl) fun K r v0 v1 v2 v3 v4 h => fit_mk h (fun a => h7.mk' v0 v1 v2 a.1 a.2) (fun _ _ _ v3 v4 => some (v3, v4)) (by kernel_rfl) (fun _ => by kernel_rfl) fun Lp a => by kernel_rfl
theorem fit16 {R : Type} (k : Nat) : Fit (R := R) (G k) live (tab k) (bl Tryd.f4 1) := h16.fit (key := 16) (by kernel_rfl) (T16 k) (fun _ _ _ => rfl) fun K r v0 v1 v2 v3 v4 v5 v6 h => fit_mk h (fun a => h16.mk' v0 v1 v2 v3 a.1 a.2 v6) (fun _ _ _ _ v4 v5 _ => some (v4, v5)) (by kernel_rfl) (fun _ => by kernel_rfl) fun Lp a => by kernel_rfl
theorem con (k : Nat) : Con Tryd.prog S (f k) := con_fn (nt := 80) (live := live) (Λ := tab k) tok (all_cons (ok_con (impl_FormatKey.con k)) (all_cons (ok_con (laws_big.con k)) (all_cons (ok_con (spec_DrawFormatMelds.con k)) (all_cons (ok_con (impl_FormatMelds.con k)) (all_cons (ok_con (spec_DrawFormatKey.con k)) (all_cons (ok_con (impl_FormatTable.con k)) (all_cons (ok_con (spec_DrawFormatTable.con k)) (all_cons (ok_con (impl_KeyOf.con k)) (all_cons (ok_con (impl_FormatNumbers.con k)) (all_cons (ok_con (impl_FormatSheet.con k)) all_nil)))))))))) mixed Tryd.func4 (by kernel_rfl) (all_cons (fit7 k) (all_cons (fit16 k) all_nil)) fun x => by kernel_rfl
end laws_FnViews
end Go.Proofs.YtfbafmeeejmgoaaDoor
