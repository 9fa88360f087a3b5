/- That the Go functions come to the answers of the plain ones. Printed by a program. -/
import Derived.Test.YtfbafmeeejmgoaaDoorT
import Derived.Test.YtfbafmeeejmgoaaDoorFFnExactFormatKey
import Derived.Test.YtfbafmeeejmgoaaDoorShelf
set_option linter.unusedVariables false
set_option maxRecDepth 100000
set_option maxHeartbeats 20000000
namespace Go.Proofs.YtfbafmeeejmgoaaDoor
open Go Go.Proofs.YtfbafmeeejmgoaaDoor.V Go.Proofs.YtfbafmeeejmgoaaDoor.M

namespace spec_l1In
def S : Sp := ⟨36, ⟨[3, 3, 3], [4], [.bor, .bor, .bor], .own⟩, [.I, .I, .I], [.B]⟩
theorem con (k : Nat) : Con Tryd.prog S (f k) := con_fn (nt := 15) (live := []) (Λ := noL) tok all_nil mixed Tryd.func36 (by kernel_rfl) all_nil fun x => by kernel_rfl
end spec_l1In

namespace spec_IsCard
def S : Sp := ⟨65, ⟨[3], [4], [.bor], .own⟩, [.I], [.B]⟩
theorem con (k : Nat) : Con Tryd.prog S (f k) := con_fn (nt := 5) (live := []) (Λ := noL) tok (all_cons (ok_con (spec_l1In.con k)) all_nil) mixed Tryd.func65 (by kernel_rfl) all_nil fun x => by kernel_rfl
end spec_IsCard

namespace spec_RankOf
def S : Sp := ⟨62, ⟨[3], [3], [.bor], .own⟩, [.I], [.O]⟩
theorem con (k : Nat) : Con Tryd.prog S (f k) := con_fn (nt := 8) (live := []) (Λ := noL) tok (all_cons (ok_con (spec_IsCard.con k)) all_nil) mixed Tryd.func62 (by kernel_rfl) all_nil fun x => by kernel_rfl
end spec_RankOf

namespace spec_l14Count
def S : Sp := ⟨34, ⟨[22], [22], [.bor], .own⟩, [.V], [.l .own (.ints .i64)]⟩
def live : List (Nat × List Nat) := [(3, [0, 3, 4]), (100003, [2, 3])]
def G {R : Type} (k : Nat) : Glob R := mkG tt [spec_RankOf.S.ent (spec_RankOf.f k)] 27
def h3 : Hd := ⟨[.V, .l (.own 0), .I], [.V]⟩
def T3 {R : Type} (k : Nat) (K : X → St → Option R) : h3.Fn (Option R) := fun v0 v1 v2 => l3 k v0 (fun p0 => K (.exit 0) (stOf [2, 3] [.one (.l (.any)), .one (.l (.own 0))] [some (.row 0 0 (.ints .i64 p0))])) k v1 v2
def tab {R : Type} (k : Nat) : LTab R := fun id K vs hs => bif id == 3 then h3.tell vs hs (T3 k K) else none
theorem fit3 {R : Type} (k : Nat) : Fit (R := R) (G k) live (tab k) (bl Tryd.f34 0) := h3.fit (key := 3) (by kernel_rfl) (T3 k) (fun _ _ _ => rfl) fun K r v0 v1 v2 h => fit_mk h (fun a => h3.mk' v0 a.1 a.2) (fun _ v1 v2 => some (v1, v2)) (by kernel_rfl) (fun _ => by kernel_rfl) fun Lp a => by kernel_rfl
theorem con (k : Nat) : Con Tryd.prog S (f k) := con_fn (nt := 27) (live := live) (Λ := tab k) tok (all_cons (ok_con (spec_RankOf.con k)) all_nil) mixed Tryd.func34 (by kernel_rfl) (all_cons (fit3 k) all_nil) fun x => by kernel_rfl
end spec_l14Count

namespace spec_l14Straight
def S : Sp := ⟨35, ⟨[22], [3], [.bor], .own⟩, [.V], [.O]⟩
def live : List (Nat × List Nat) := [(6, [0, 3, 4, 5]), (100006, [0, 2, 3, 4]), (2, [0, 3]), (100002, [2])]
def G {R : Type} (k : Nat) : Glob R := mkG tt [] 30
def h6 : Hd := ⟨[.V, .I, .l (.b), .I], []⟩
def T6 {R : Type} (k : Nat) (K : X → St → Option R) : h6.Fn (Option R) := fun v0 v1 v2 v3 => l6 k v0 v1 (fun p0 => K (.exit 2) (stOf [0, 2, 3, 4] [.one (.l (.val false (.ints .i64 v0))), .one (.l (.any)), .one (.l (.i .i64 v1)), .one (.l (.b p0))] [])) k v2 v3
def h2 : Hd := ⟨[.V, .I], []⟩
def T2 {R : Type} (k : Nat) (K : X → St → Option R) : h2.Fn (Option R) := fun v0 v1 => l2 k v0 (fun p0 => K .ret (stOf [2] [.one (.l (.i .i64 p0))] [])) (K (.exit 0) (stOf [2] [.one (.l (.any))] [])) k v1
def tab {R : Type} (k : Nat) : LTab R := fun id K vs hs => bif id == 6 then h6.tell vs hs (T6 k K) else bif id == 2 then h2.tell vs hs (T2 k K) else none
theorem fit2 {R : Type} (k : Nat) : Fit (R := R) (G k) live (tab k) (bl Tryd.f35 0) := h2.fit (key := 2) (by kernel_rfl) (T2 k) (fun _ _ _ => rfl) fun K r v0 v1 h => fit_mk h (fun a => h2.mk' v0 a) (fun _ v1 => some v1) (by kernel_rfl) (fun _ => by kernel_rfl) fun Lp a => by kernel_rfl
theorem fit6 {R : Type} (k : Nat) : Fit (R := R) (G k) live (tab k) (bl Tryd.f35 1) := h6.fit (key := 6) (by kernel_rfl) (T6 k) (fun _ _ _ => rfl) fun K r v0 v1 v2 v3 h => fit_mk h (fun a => h6.mk' v0 v1 a.1 a.2) (fun _ _ v2 v3 => some (v2, v3)) (by kernel_rfl) (fun _ => by kernel_rfl) fun Lp a => by kernel_rfl
theorem con (k : Nat) : Con Tryd.prog S (f k) := con_fn (nt := 30) (live := live) (Λ := tab k) tok all_nil mixed Tryd.func35 (by kernel_rfl) (all_cons (fit2 k) (all_cons (fit6 k) all_nil)) fun x => by kernel_rfl
end spec_l14Straight

namespace spec_HasCard
def S : Sp := ⟨41, ⟨[22, 3], [4], [.bor, .bor], .own⟩, [.V, .I], [.B]⟩
def live : List (Nat × List Nat) := [(2, [0, 1, 5]), (100002, [4])]
def G {R : Type} (k : Nat) : Glob R := mkG tt [] 18
def h2 : Hd := ⟨[.V, .I, .I], []⟩
def T2 {R : Type} (k : Nat) (K : X → St → Option R) : h2.Fn (Option R) := fun v0 v1 v2 => l2 k v0 v1 (K .ret (stOf [4] [.one (.l (.b true))] [])) (K (.exit 0) (stOf [4] [.one (.l (.any))] [])) k v2
def tab {R : Type} (k : Nat) : LTab R := fun id K vs hs => bif id == 2 then h2.tell vs hs (T2 k K) else none
theorem fit2 {R : Type} (k : Nat) : Fit (R := R) (G k) live (tab k) (bl Tryd.f41 0) := h2.fit (key := 2) (by kernel_rfl) (T2 k) (fun _ _ _ => rfl) fun K r v0 v1 v2 h => fit_mk h (fun a => h2.mk' v0 v1 a) (fun _ _ v2 => some v2) (by kernel_rfl) (fun _ => by kernel_rfl) fun Lp a => by kernel_rfl
theorem con (k : Nat) : Con Tryd.prog S (f k) := con_fn (nt := 18) (live := live) (Λ := tab k) tok all_nil mixed Tryd.func41 (by kernel_rfl) (all_cons (fit2 k) all_nil) fun x => by kernel_rfl
end spec_HasCard

namespace spec_IsHand
def S : Sp := ⟨59, ⟨[22], [4], [.bor], .own⟩, [.V], [.B]⟩
def live : List (Nat × List Nat) := [(2, [0, 3]), (100002, [2])]
def G {R : Type} (k : Nat) : Glob R := mkG tt [spec_HasCard.S.ent (spec_HasCard.f k), spec_IsCard.S.ent (spec_IsCard.f k)] 26
def h2 : Hd := ⟨[.V, .I], []⟩
def T2 {R : Type} (k : Nat) (K : X → St → Option R) : h2.Fn (Option R) := fun v0 v1 => l2 k v0 (K .ret (stOf [2] [.one (.l (.b false))] [])) (K (.exit 0) (stOf [2] [.one (.l (.any))] [])) k v1
def tab {R : Type} (k : Nat) : LTab R := fun id K vs hs => bif id == 2 then h2.tell vs hs (T2 k K) else none
theorem fit2 {R : Type} (k : Nat) : Fit (R := R) (G k) live (tab k) (bl Tryd.f59 0) := h2.fit (key := 2) (by kernel_rfl) (T2 k) (fun _ _ _ => rfl) fun K r v0 v1 h => fit_mk h (fun a => h2.mk' v0 a) (fun _ v1 => some v1) (by kernel_rfl) (fun _ => by kernel_rfl) fun Lp a => by kernel_rfl
theorem con (k : Nat) : Con Tryd.prog S (f k) := con_fn (nt := 26) (live := live) (Λ := tab k) tok (all_cons (ok_con (spec_HasCard.con k)) (all_cons (ok_con (spec_IsCard.con k)) all_nil)) mixed Tryd.func59 (by kernel_rfl) (all_cons (fit2 k) all_nil) fun x => by kernel_rfl
end spec_IsHand

namespace spec_SuitOf
def S : Sp := ⟨44, ⟨[3], [3], [.bor], .own⟩, [.I], [.O]⟩
theorem con (k : Nat) : Con Tryd.prog S (f k) := con_fn (nt := 8) (live := []) (Λ := noL) tok (all_cons (ok_con (spec_IsCard.con k)) all_nil) mixed Tryd.func44 (by kernel_rfl) all_nil fun x => by kernel_rfl
end spec_SuitOf

namespace spec_l14Flush
def S : Sp := ⟨60, ⟨[22], [4], [.bor], .own⟩, [.V], [.B]⟩
def live : List (Nat × List Nat) := [(2, [0, 3]), (100002, [2])]
def G {R : Type} (k : Nat) : Glob R := mkG tt [spec_SuitOf.S.ent (spec_SuitOf.f k)] 20
def h2 : Hd := ⟨[.V, .I], []⟩
def T2 {R : Type} (k : Nat) (K : X → St → Option R) : h2.Fn (Option R) := fun v0 v1 => l2 k v0 (K .ret (stOf [2] [.one (.l (.b false))] [])) (K (.exit 0) (stOf [2] [.one (.l (.any))] [])) k v1
def tab {R : Type} (k : Nat) : LTab R := fun id K vs hs => bif id == 2 then h2.tell vs hs (T2 k K) else none
theorem fit2 {R : Type} (k : Nat) : Fit (R := R) (G k) live (tab k) (bl Tryd.f60 0) := h2.fit (key := 2) (by kernel_rfl) (T2 k) (fun _ _ _ => rfl) fun K r v0 v1 h => fit_mk h (fun a => h2.mk' v0 a) (fun _ v1 => some v1) (by kernel_rfl) (fun _ => by kernel_rfl) fun Lp a => by kernel_rfl
theorem con (k : Nat) : Con Tryd.prog S (f k) := con_fn (nt := 20) (live := live) (Λ := tab k) tok (all_cons (ok_con (spec_SuitOf.con k)) all_nil) mixed Tryd.func60 (by kernel_rfl) (all_cons (fit2 k) all_nil) fun x => by kernel_rfl
end spec_l14Flush

namespace spec_l14Has
def S : Sp := ⟨61, ⟨[22, 3], [3], [.bor, .bor], .own⟩, [.V, .I], [.O]⟩
def live : List (Nat × List Nat) := [(3, [0, 1, 5, 6]), (100003, [4, 5])]
def G {R : Type} (k : Nat) : Glob R := mkG tt [] 22
def h3 : Hd := ⟨[.V, .I, .I, .I], []⟩
def T3 {R : Type} (k : Nat) (K : X → St → Option R) : h3.Fn (Option R) := fun v0 v1 v2 v3 => l3 k v0 v1 (fun p0 => K (.exit 0) (stOf [4, 5] [.one (.l (.any)), .one (.l (.i .i64 p0))] [])) k v2 v3
def tab {R : Type} (k : Nat) : LTab R := fun id K vs hs => bif id == 3 then h3.tell vs hs (T3 k K) else none
theorem fit3 {R : Type} (k : Nat) : Fit (R := R) (G k) live (tab k) (bl Tryd.f61 0) := h3.fit (key := 3) (by kernel_rfl) (T3 k) (fun _ _ _ => rfl) fun K r v0 v1 v2 v3 h => fit_mk h (fun a => h3.mk' v0 v1 a.1 a.2) (fun _ _ v2 v3 => some (v2, v3)) (by kernel_rfl) (fun _ => by kernel_rfl) fun Lp a => by kernel_rfl
theorem con (k : Nat) : Con Tryd.prog S (f k) := con_fn (nt := 22) (live := live) (Λ := tab k) tok all_nil mixed Tryd.func61 (by kernel_rfl) (all_cons (fit3 k) all_nil) fun x => by kernel_rfl
end spec_l14Has

namespace spec_KindOf
def S : Sp := ⟨33, ⟨[22], [3], [.bor], .own⟩, [.V], [.O]⟩
theorem con (k : Nat) : Con Tryd.prog S (f k) := con_fn (nt := 54) (live := []) (Λ := noL) tok (all_cons (ok_con (spec_l14Count.con k)) (all_cons (ok_con (spec_l14Straight.con k)) (all_cons (ok_con (spec_IsHand.con k)) (all_cons (ok_con (spec_l14Flush.con k)) (all_cons (ok_con (spec_l14Has.con k)) all_nil))))) mixed Tryd.func33 (by kernel_rfl) all_nil fun x => by kernel_rfl
end spec_KindOf

namespace spec_KeyOf
def S : Sp := ⟨18, ⟨[22], [22], [.bor], .own⟩, [.V], [.l .own (.ints .i64)]⟩
def live : List (Nat × List Nat) := [(12, [4, 5, 6, 7]), (100012, [2, 4, 5, 6]), (9, [4, 5, 6]), (100009, [2, 5])]
def G {R : Type} (k : Nat) : Glob R := mkG tt [spec_KindOf.S.ent (spec_KindOf.f k), spec_l14Count.S.ent (spec_l14Count.f k), spec_l14Straight.S.ent (spec_l14Straight.f k)] 46
def h12 : Hd := ⟨[.l (.own 0), .l (.own 1), .I, .I], [.V, .V]⟩
def T12 {R : Type} (k : Nat) (K : X → St → Option R) : h12.Fn (Option R) := fun v0 v1 v2 v3 => l12 k v0 v2 (fun p0 => K (.exit 2) (stOf [2, 4, 5, 6] [.one (.l (.any)), .one (.l (.own 0)), .one (.l (.own 1)), .one (.l (.i .i64 v0))] [some (.row 0 0 (.ints .i64 v2)), some (.row 0 0 (.ints .i64 p0))])) k v1 v3
def h9 : Hd := ⟨[.l (.own 0), .l (.own 1), .I], [.V, .V]⟩
def T9 {R : Type} (k : Nat) (K : X → St → Option R) : h9.Fn (Option R) := fun v0 v1 v2 => l9 k v1 (fun p0 => K (.exit 0) (stOf [2, 5] [.one (.l (.any)), .one (.l (.own 0))] [some (.row 0 0 (.ints .i64 p0))])) k v0 v2
def tab {R : Type} (k : Nat) : LTab R := fun id K vs hs => bif id == 12 then h12.tell vs hs (T12 k K) else bif id == 9 then h9.tell vs hs (T9 k K) else none
theorem fit9 {R : Type} (k : Nat) : Fit (R := R) (G k) live (tab k) (bl Tryd.f18 0) := h9.fit (key := 9) (by kernel_rfl) (T9 k) (fun _ _ _ => rfl) fun K r v0 v1 v2 h => fit_mk h (fun a => h9.mk' a.1 v1 a.2) (fun v0 _ v2 => some (v0, v2)) (by kernel_rfl) (fun _ => by kernel_rfl) fun Lp a => by kernel_rfl
theorem fit12 {R : Type} (k : Nat) : Fit (R := R) (G k) live (tab k) (bl Tryd.f18 1) := h12.fit (key := 12) (by kernel_rfl) (T12 k) (fun _ _ _ => rfl) fun K r v0 v1 v2 v3 h => fit_mk h (fun a => h12.mk' v0 a.1 v2 a.2) (fun _ v1 _ v3 => some (v1, v3)) (by kernel_rfl) (fun _ => by kernel_rfl) fun Lp a => by kernel_rfl
theorem con (k : Nat) : Con Tryd.prog S (f k) := con_fn (nt := 46) (live := live) (Λ := tab k) tok (all_cons (ok_con (spec_KindOf.con k)) (all_cons (ok_con (spec_l14Count.con k)) (all_cons (ok_con (spec_l14Straight.con k)) all_nil))) mixed Tryd.func18 (by kernel_rfl) (all_cons (fit9 k) (all_cons (fit12 k) all_nil)) fun x => by kernel_rfl
end spec_KeyOf

namespace spec_KindName
def S : Sp := ⟨19, ⟨[3], [9], [.bor], .own⟩, [.I], [.l .own .str]⟩
theorem con (k : Nat) : Con Tryd.prog S (f k) := con_fn (nt := 10) (live := []) (Λ := noL) tok (all_cons (ok_con (spec_l1In.con k)) all_nil) mixed Tryd.func19 (by kernel_rfl) all_nil fun x => by kernel_rfl
end spec_KindName

namespace spec_l39Join
def S : Sp := ⟨20, ⟨[43, 9], [9], [.bor, .bor], .own⟩, [.l .lent .strs, .l .lent .str], [.l .own .str]⟩
def live : List (Nat × List Nat) := [(3, [0, 1, 5, 6]), (100003, [0, 4, 5])]
def G {R : Type} (k : Nat) : Glob R := mkG tt [] 28
def h3 : Hd := ⟨[.l (.val false false .strs), .l (.s), .l (.s), .I], []⟩
def T3 {R : Type} (k : Nat) (K : X → St → Option R) : h3.Fn (Option R) := fun v0 v1 v2 v3 => l3 k v0 v1 (fun p0 => K (.exit 0) (stOf [0, 4, 5] [.one (.l (.val false (.strs v0))), .one (.l (.any)), .one (.l (.s p0))] [])) k v2 v3
def tab {R : Type} (k : Nat) : LTab R := fun id K vs hs => bif id == 3 then h3.tell vs hs (T3 k K) else none
theorem fit3 {R : Type} (k : Nat) : Fit (R := R) (G k) live (tab k) (bl Tryd.f20 0) := h3.fit (key := 3) (by kernel_rfl) (T3 k) (fun _ _ _ => rfl) fun K r v0 v1 v2 v3 h => fit_mk h (fun a => h3.mk' v0 v1 a.1 a.2) (fun _ _ v2 v3 => some (v2, v3)) (by kernel_rfl) (fun _ => by kernel_rfl) fun Lp a => by kernel_rfl
theorem con (k : Nat) : Con Tryd.prog S (f k) := con_fn (nt := 28) (live := live) (Λ := tab k) tok all_nil mixed Tryd.func20 (by kernel_rfl) (all_cons (fit3 k) all_nil) fun x => by kernel_rfl
end spec_l39Join

namespace spec_FormatInt
def S : Sp := ⟨37, ⟨[3], [9], [.bor], .own⟩, [.I], [.l .own .str]⟩
def live : List (Nat × List Nat) := [(5, [0, 3, 4]), (100005, [0, 2, 3])]
def G {R : Type} (k : Nat) : Glob R := mkG tt [] 31
def h5 : Hd := ⟨[.I, .l (.s), .I], []⟩
def T5 {R : Type} (k : Nat) (K : X → St → Option R) : h5.Fn (Option R) := fun v0 v1 v2 => l5 k (fun p0 => K (.exit 0) (stOf [0, 2, 3] [.one (.l (.i .i64 v0)), .one (.l (.any)), .one (.l (.s p0))] [])) k v1 v2
def tab {R : Type} (k : Nat) : LTab R := fun id K vs hs => bif id == 5 then h5.tell vs hs (T5 k K) else none
theorem fit5 {R : Type} (k : Nat) : Fit (R := R) (G k) live (tab k) (bl Tryd.f37 0) := h5.fit (key := 5) (by kernel_rfl) (T5 k) (fun _ _ _ => rfl) fun K r v0 v1 v2 h => fit_mk h (fun a => h5.mk' v0 a.1 a.2) (fun _ v1 v2 => some (v1, v2)) (by kernel_rfl) (fun _ => by kernel_rfl) fun Lp a => by kernel_rfl
theorem con (k : Nat) : Con Tryd.prog S (f k) := con_fn (nt := 31) (live := live) (Λ := tab k) tok all_nil mixed Tryd.func37 (by kernel_rfl) (all_cons (fit5 k) all_nil) fun x => by kernel_rfl
end spec_FormatInt

namespace spec_l39Numbers
def S : Sp := ⟨21, ⟨[22], [43], [.bor], .own⟩, [.V], [.l .own .strs]⟩
def live : List (Nat × List Nat) := [(3, [0, 3, 4]), (100003, [2, 3])]
def G {R : Type} (k : Nat) : Glob R := mkG tt [spec_FormatInt.S.ent (spec_FormatInt.f k)] 21
def h3 : Hd := ⟨[.V, .l (.own 0), .I], [.row false .strs]⟩
def T3 {R : Type} (k : Nat) (K : X → St → Option R) : h3.Fn (Option R) := fun v0 v1 v2 => l3 k v0 (fun p0 => K (.exit 0) (stOf [2, 3] [.one (.l (.any)), .one (.l (.own 0))] [some (.row 0 0 (.strs p0))])) k v1 v2
def tab {R : Type} (k : Nat) : LTab R := fun id K vs hs => bif id == 3 then h3.tell vs hs (T3 k K) else none
theorem fit3 {R : Type} (k : Nat) : Fit (R := R) (G k) live (tab k) (bl Tryd.f21 0) := h3.fit (key := 3) (by kernel_rfl) (T3 k) (fun _ _ _ => rfl) fun K r v0 v1 v2 h => fit_mk h (fun a => h3.mk' v0 a.1 a.2) (fun _ v1 v2 => some (v1, v2)) (by kernel_rfl) (fun _ => by kernel_rfl) fun Lp a => by kernel_rfl
theorem con (k : Nat) : Con Tryd.prog S (f k) := con_fn (nt := 21) (live := live) (Λ := tab k) tok (all_cons (ok_con (spec_FormatInt.con k)) all_nil) mixed Tryd.func21 (by kernel_rfl) (all_cons (fit3 k) all_nil) fun x => by kernel_rfl
end spec_l39Numbers

namespace spec_FormatKey
def S : Sp := ⟨5, ⟨[22], [9], [.bor], .own⟩, [.V], [.l .own .str]⟩
theorem con (k : Nat) : Con Tryd.prog S (f k) := con_fn (nt := 19) (live := []) (Λ := noL) tok (all_cons (ok_con (spec_KeyOf.con k)) (all_cons (ok_con (spec_KindName.con k)) (all_cons (ok_con (spec_l39Join.con k)) (all_cons (ok_con (spec_l39Numbers.con k)) all_nil)))) mixed Tryd.func5 (by kernel_rfl) all_nil fun x => by kernel_rfl
end spec_FormatKey

namespace laws_toIntS
def S : Sp := ⟨6, ⟨[22], [22], [.bor], .own⟩, [.V], [.l .own (.ints .i64)]⟩
def live : List (Nat × List Nat) := [(3, [0, 3, 4]), (100003, [2, 3])]
def G {R : Type} (k : Nat) : Glob R := mkG tt [] 22
def h3 : Hd := ⟨[.V, .l (.own 0), .I], [.V]⟩
def T3 {R : Type} (k : Nat) (K : X → St → Option R) : h3.Fn (Option R) := fun v0 v1 v2 => l3 k v0 (fun p0 => K (.exit 0) (stOf [2, 3] [.one (.l (.any)), .one (.l (.own 0))] [some (.row 0 0 (.ints .i64 p0))])) k v1 v2
def tab {R : Type} (k : Nat) : LTab R := fun id K vs hs => bif id == 3 then h3.tell vs hs (T3 k K) else none
theorem fit3 {R : Type} (k : Nat) : Fit (R := R) (G k) live (tab k) (bl Tryd.f6 0) := h3.fit (key := 3) (by kernel_rfl) (T3 k) (fun _ _ _ => rfl) fun K r v0 v1 v2 h => fit_mk h (fun a => h3.mk' v0 a.1 a.2) (fun _ v1 v2 => some (v1, v2)) (by kernel_rfl) (fun _ => by kernel_rfl) fun Lp a => by kernel_rfl
theorem con (k : Nat) : Con Tryd.prog S (f k) := con_fn (nt := 22) (live := live) (Λ := tab k) tok all_nil mixed Tryd.func6 (by kernel_rfl) (all_cons (fit3 k) all_nil) fun x => by kernel_rfl
end laws_toIntS

namespace impl_InRange
def S : Sp := ⟨38, ⟨[3, 3, 3], [4], [.bor, .bor, .bor], .own⟩, [.I, .I, .I], [.B]⟩
theorem con (k : Nat) : Con Tryd.prog S (f k) := con_fn (nt := 15) (live := []) (Λ := noL) tok all_nil mixed Tryd.func38 (by kernel_rfl) all_nil fun x => by kernel_rfl
end impl_InRange

namespace impl_IsCard
def S : Sp := ⟨69, ⟨[3], [4], [.bor], .own⟩, [.I], [.B]⟩
theorem con (k : Nat) : Con Tryd.prog S (f k) := con_fn (nt := 5) (live := []) (Λ := noL) tok (all_cons (ok_con (impl_InRange.con k)) all_nil) mixed Tryd.func69 (by kernel_rfl) all_nil fun x => by kernel_rfl
end impl_IsCard

namespace impl_RankOf
def S : Sp := ⟨57, ⟨[3], [3], [.bor], .own⟩, [.I], [.O]⟩
theorem con (k : Nat) : Con Tryd.prog S (f k) := con_fn (nt := 8) (live := []) (Λ := noL) tok (all_cons (ok_con (impl_IsCard.con k)) all_nil) mixed Tryd.func57 (by kernel_rfl) all_nil fun x => by kernel_rfl
end impl_RankOf

namespace impl_ranked
def S : Sp := ⟨31, ⟨[22], [22, 22], [.bor], .own⟩, [.V], [.l .own (.ints .i64), .l .own (.ints .i64)]⟩
def live : List (Nat × List Nat) := [(3, [4, 12, 13, 14]), (100003, [2, 3, 4]), (12, [4, 7, 8, 9, 10]), (100012, [2, 3, 4, 7, 8, 9]), (9, [4, 7, 8, 9]), (100009, [2, 3, 7, 8])]
def G {R : Type} (k : Nat) : Glob R := mkG tt [impl_RankOf.S.ent (impl_RankOf.f k)] 50
def h3 : Hd := ⟨[.l (.arr 0 13), .V, .I, .I], [.V]⟩
def T3 {R : Type} (k : Nat) (K : X → St → Option R) : h3.Fn (Option R) := fun v0 v1 v2 v3 => l3 k v0 v1 (fun p0 => K (.exit 0) (stOf [2, 3, 4] [.one (.l (.any)), .one (.l (.any)), .one (.l (.arr 0 13))] [some (.row 0 0 (.ints .i64 p0))])) k v2 v3
def h12 : Hd := ⟨[.l (.arr 0 13), .l (.own 1), .l (.own 2), .I, .I], [.V, .V, .V]⟩
def T12 {R : Type} (k : Nat) (K : X → St → Option R) : h12.Fn (Option R) := fun v0 v1 v2 v3 v4 => l12 k v0 v2 (fun p0 p1 => K (.exit 4) (stOf [2, 3, 4, 7, 8, 9] [.one (.l (.any)), .one (.l (.any)), .one (.l (.arr 0 13)), .one (.l (.own 1)), .one (.l (.own 2)), .one (.l (.i .i64 v0))] [some (.row 0 0 (.ints .i64 v2)), some (.row 0 0 (.ints .i64 p0)), some (.row 0 0 (.ints .i64 p1))])) k v1 v3 v4
def h9 : Hd := ⟨[.l (.arr 0 13), .l (.own 1), .l (.own 2), .I], [.V, .V, .V]⟩
def T9 {R : Type} (k : Nat) (K : X → St → Option R) : h9.Fn (Option R) := fun v0 v1 v2 v3 => l9 k v1 (fun p0 p1 => K (.exit 2) (stOf [2, 3, 7, 8] [.one (.l (.any)), .one (.l (.any)), .one (.l (.own 0)), .one (.l (.own 1))] [some (.row 0 0 (.ints .i64 p0)), some (.row 0 0 (.ints .i64 p1))])) k v0 v2 v3
def tab {R : Type} (k : Nat) : LTab R := fun id K vs hs => bif id == 3 then h3.tell vs hs (T3 k K) else bif id == 12 then h12.tell vs hs (T12 k K) else bif id == 9 then h9.tell vs hs (T9 k K) else none
theorem fit3 {R : Type} (k : Nat) : Fit (R := R) (G k) live (tab k) (bl Tryd.f31 0) := h3.fit (key := 3) (by kernel_rfl) (T3 k) (fun _ _ _ => rfl) fun K r v0 v1 v2 v3 h => fit_mk h (fun a => h3.mk' v0 v1 a.1 a.2) (fun _ _ v2 v3 => some (v2, v3)) (by kernel_rfl) (fun _ => by kernel_rfl) fun Lp a => by kernel_rfl
theorem fit9 {R : Type} (k : Nat) : Fit (R := R) (G k) live (tab k) (bl Tryd.f31 1) := h9.fit (key := 9) (by kernel_rfl) (T9 k) (fun _ _ _ => rfl) fun K r v0 v1 v2 v3 h => fit_mk h (fun a => h9.mk' a.1 v1 a.2.1 (t2 a)) (fun v0 _ v2 v3 => some (v0, v2, v3)) (by kernel_rfl) (fun _ => by kernel_rfl) fun Lp a => by kernel_rfl
theorem fit12 {R : Type} (k : Nat) : Fit (R := R) (G k) live (tab k) (bl Tryd.f31 2) := h12.fit (key := 12) (by kernel_rfl) (T12 k) (fun _ _ _ => rfl) fun K r v0 v1 v2 v3 v4 h => fit_mk h (fun a => h12.mk' v0 a.1 v2 a.2.1 (t2 a)) (fun _ v1 _ v3 v4 => some (v1, v3, v4)) (by kernel_rfl) (fun _ => by kernel_rfl) fun Lp a => by kernel_rfl
theorem con (k : Nat) : Con Tryd.prog S (f k) := con_fn (nt := 50) (live := live) (Λ := tab k) tok (all_cons (ok_con (impl_RankOf.con k)) all_nil) mixed Tryd.func31 (by kernel_rfl) (all_cons (fit3 k) (all_cons (fit9 k) (all_cons (fit12 k) all_nil))) fun x => by kernel_rfl
end impl_ranked

namespace impl_EqualInts
def S : Sp := ⟨58, ⟨[22, 22], [4], [.bor, .bor], .own⟩, [.V, .V], [.B]⟩
def live : List (Nat × List Nat) := [(4, [0, 1, 12, 13]), (100004, [4])]
def G {R : Type} (k : Nat) : Glob R := mkG tt [] 26
def h4 : Hd := ⟨[.V, .V, .I, .I], []⟩
def T4 {R : Type} (k : Nat) (K : X → St → Option R) : h4.Fn (Option R) := fun v0 v1 v2 v3 => l4 k v0 v1 v2 (K .ret (stOf [4] [.one (.l (.b false))] [])) (K (.exit 0) (stOf [4] [.one (.l (.any))] [])) k v3
def tab {R : Type} (k : Nat) : LTab R := fun id K vs hs => bif id == 4 then h4.tell vs hs (T4 k K) else none
theorem fit4 {R : Type} (k : Nat) : Fit (R := R) (G k) live (tab k) (bl Tryd.f58 0) := h4.fit (key := 4) (by kernel_rfl) (T4 k) (fun _ _ _ => rfl) fun K r v0 v1 v2 v3 h => fit_mk h (fun a => h4.mk' v0 v1 v2 a) (fun _ _ _ v3 => some v3) (by kernel_rfl) (fun _ => by kernel_rfl) fun Lp a => by kernel_rfl
theorem con (k : Nat) : Con Tryd.prog S (f k) := con_fn (nt := 26) (live := live) (Λ := tab k) tok all_nil mixed Tryd.func58 (by kernel_rfl) (all_cons (fit4 k) all_nil) fun x => by kernel_rfl
end impl_EqualInts

namespace impl_straight
def S : Sp := ⟨32, ⟨[22], [3], [.bor], .own⟩, [.V], [.O]⟩
theorem con (k : Nat) : Con Tryd.prog S (f k) := con_fn (nt := 23) (live := []) (Λ := noL) tok (all_cons (ok_con (impl_EqualInts.con k)) all_nil) mixed Tryd.func32 (by kernel_rfl) all_nil fun x => by kernel_rfl
end impl_straight

namespace impl_IsHand
def S : Sp := ⟨55, ⟨[22], [4], [.bor], .own⟩, [.V], [.B]⟩
def live : List (Nat × List Nat) := [(3, [3, 7, 8, 9]), (100003, [2])]
def G {R : Type} (k : Nat) : Glob R := mkG tt [impl_IsCard.S.ent (impl_IsCard.f k)] 24
def h3 : Hd := ⟨[.l (.arr 0 52), .V, .I, .I], [.row false .bools]⟩
def T3 {R : Type} (k : Nat) (K : X → St → Option R) : h3.Fn (Option R) := fun v0 v1 v2 v3 => l3 k v0 v1 (K .ret (stOf [2] [.one (.l (.b false))] [])) (K (.exit 0) (stOf [2] [.one (.l (.any))] [])) k v2 v3
def tab {R : Type} (k : Nat) : LTab R := fun id K vs hs => bif id == 3 then h3.tell vs hs (T3 k K) else none
theorem fit3 {R : Type} (k : Nat) : Fit (R := R) (G k) live (tab k) (bl Tryd.f55 0) := h3.fit (key := 3) (by kernel_rfl) (T3 k) (fun _ _ _ => rfl) fun K r v0 v1 v2 v3 h => fit_mk h (fun a => h3.mk' v0 v1 a.1 a.2) (fun _ _ v2 v3 => some (v2, v3)) (by kernel_rfl) (fun _ => by kernel_rfl) fun Lp a => by kernel_rfl
theorem con (k : Nat) : Con Tryd.prog S (f k) := con_fn (nt := 24) (live := live) (Λ := tab k) tok (all_cons (ok_con (impl_IsCard.con k)) all_nil) mixed Tryd.func55 (by kernel_rfl) (all_cons (fit3 k) all_nil) fun x => by kernel_rfl
end impl_IsHand

namespace impl_SuitOf
def S : Sp := ⟨56, ⟨[3], [3], [.bor], .own⟩, [.I], [.O]⟩
theorem con (k : Nat) : Con Tryd.prog S (f k) := con_fn (nt := 8) (live := []) (Λ := noL) tok (all_cons (ok_con (impl_IsCard.con k)) all_nil) mixed Tryd.func56 (by kernel_rfl) all_nil fun x => by kernel_rfl
end impl_SuitOf

namespace impl_KindOf
def S : Sp := ⟨30, ⟨[22], [3], [.bor], .own⟩, [.V], [.O]⟩
def live : List (Nat × List Nat) := [(6, [0, 3, 4, 5, 22, 23, 24]), (100006, [2, 3, 4, 5])]
def G {R : Type} (k : Nat) : Glob R := mkG tt [impl_ranked.S.ent (impl_ranked.f k), impl_straight.S.ent (impl_straight.f k), impl_IsHand.S.ent (impl_IsHand.f k), impl_SuitOf.S.ent (impl_SuitOf.f k)] 88
def h6 : Hd := ⟨[.V, .l (.own 0), .l (.own 1), .l (.b), .V, .I, .I], [.V, .V]⟩
def T6 {R : Type} (k : Nat) (K : X → St → Option R) : h6.Fn (Option R) := fun v0 v1 v2 v3 v4 v5 v6 => l6 k v0 v2 v3 (fun p0 => K (.exit 0) (stOf [2, 3, 4, 5] [.one (.l (.any)), .one (.l (.own 0)), .one (.l (.own 1)), .one (.l (.b p0))] [some (.row 0 0 (.ints .i64 v5)), some (.row 0 0 (.ints .i64 v6))])) k v1 v4
def tab {R : Type} (k : Nat) : LTab R := fun id K vs hs => bif id == 6 then h6.tell vs hs (T6 k K) else none
theorem fit6 {R : Type} (k : Nat) : Fit (R := R) (G k) live (tab k) (bl Tryd.f30 0) := h6.fit (key := 6) (by kernel_rfl) (T6 k) (fun _ _ _ => rfl) fun K r v0 v1 v2 v3 v4 v5 v6 h => fit_mk h (fun a => h6.mk' v0 a.1 v2 v3 a.2 v5 v6) (fun _ v1 _ _ v4 _ _ => some (v1, v4)) (by kernel_rfl) (fun _ => by kernel_rfl) fun Lp a => by kernel_rfl
theorem con (k : Nat) : Con Tryd.prog S (f k) := con_fn (nt := 88) (live := live) (Λ := tab k) tok (all_cons (ok_con (impl_ranked.con k)) (all_cons (ok_con (impl_straight.con k)) (all_cons (ok_con (impl_IsHand.con k)) (all_cons (ok_con (impl_SuitOf.con k)) all_nil)))) mixed Tryd.func30 (by kernel_rfl) (all_cons (fit6 k) all_nil) fun x => by kernel_rfl
end impl_KindOf

namespace impl_KeyOf
def S : Sp := ⟨15, ⟨[22], [22], [.bor], .own⟩, [.V], [.l .own (.ints .i64)]⟩
theorem con (k : Nat) : Con Tryd.prog S (f k) := con_fn (nt := 27) (live := []) (Λ := noL) tok (all_cons (ok_con (impl_KindOf.con k)) (all_cons (ok_con (impl_ranked.con k)) (all_cons (ok_con (impl_straight.con k)) all_nil))) mixed Tryd.func15 (by kernel_rfl) all_nil fun x => by kernel_rfl
end impl_KeyOf

namespace impl_KindName
def S : Sp := ⟨22, ⟨[3], [9], [.bor], .own⟩, [.I], [.l .own .str]⟩
theorem con (k : Nat) : Con Tryd.prog S (f k) := con_fn (nt := 10) (live := []) (Λ := noL) tok (all_cons (ok_con (impl_InRange.con k)) all_nil) mixed Tryd.func22 (by kernel_rfl) all_nil fun x => by kernel_rfl
end impl_KindName

namespace strings_Join
def S : Sp := ⟨27, ⟨[43, 9], [9], [.bor, .bor], .own⟩, [.l .lent .strs, .l .lent .str], [.l .own .str]⟩
theorem con (k : Nat) : Con Tryd.prog S (f k) := ⟨⟨Tryd.f27, Tryd.func27, by kernel_rfl, by kernel_rfl⟩, fun ⟨a, g, _⟩ r h => by
 obtain ⟨h1, h2⟩ := bif_some h
 obtain ⟨g1, g2⟩ := and_bool h1
 cases h2
 exact join_contract (fun bk o c xs sep w a b c' d e => Tryd.strings_Join bk o c xs sep w a b c' d e) (fun a c sep w => Tryd.strings_Join_none a c sep w) (Nat.le_of_ble_eq_true g1) (Nat.le_of_ble_eq_true g2)⟩
end strings_Join

namespace strconv_Itoa
def S : Sp := ⟨63, ⟨[3], [9], [.bor], .own⟩, [.I], [.l .own .str]⟩
theorem con (k : Nat) : Con Tryd.prog S (f k) := ⟨⟨Tryd.f63, Tryd.func63, by kernel_rfl, by kernel_rfl⟩, fun ⟨a, _⟩ r h => by
 obtain ⟨h1, h2⟩ := bif_some h
 obtain ⟨g1, g2⟩ := and_bool h1
 cases h2
 exact itoa_contract (by kernel_rfl) (fun n a b w t => Tryd.strconv_Itoa n a b w t) (of_decide_eq_true g1) (of_decide_eq_true g2)⟩
end strconv_Itoa

namespace impl_FormatInt
def S : Sp := ⟨39, ⟨[3], [9], [.bor], .own⟩, [.I], [.l .own .str]⟩
theorem con (k : Nat) : Con Tryd.prog S (f k) := con_fn (nt := 5) (live := []) (Λ := noL) tok (all_cons (ok_con (strconv_Itoa.con k)) all_nil) mixed Tryd.func39 (by kernel_rfl) all_nil fun x => by kernel_rfl
end impl_FormatInt

namespace impl_numbersText
def S : Sp := ⟨23, ⟨[22, 9], [9], [.bor, .bor], .own⟩, [.V, .l .lent .str], [.l .own .str]⟩
def live : List (Nat × List Nat) := [(3, [1, 5, 9, 10, 11]), (100003, [1, 4, 5])]
def G {R : Type} (k : Nat) : Glob R := mkG tt [strings_Join.S.ent (strings_Join.f k), impl_FormatInt.S.ent (impl_FormatInt.f k)] 24
def h3 : Hd := ⟨[.l (.s), .l (.own 0), .V, .I, .I], [.row false .strs]⟩
def T3 {R : Type} (k : Nat) (K : X → St → Option R) : h3.Fn (Option R) := fun v0 v1 v2 v3 v4 => l3 k v1 v2 (fun p0 => K (.exit 0) (stOf [1, 4, 5] [.one (.l (.s v0)), .one (.l (.any)), .one (.l (.own 0))] [some (.row 0 0 (.strs p0))])) k v3 v4
def tab {R : Type} (k : Nat) : LTab R := fun id K vs hs => bif id == 3 then h3.tell vs hs (T3 k K) else none
theorem fit3 {R : Type} (k : Nat) : Fit (R := R) (G k) live (tab k) (bl Tryd.f23 0) := h3.fit (key := 3) (by kernel_rfl) (T3 k) (fun _ _ _ => rfl) fun K r v0 v1 v2 v3 v4 h => fit_mk h (fun a => h3.mk' v0 v1 v2 a.1 a.2) (fun _ _ _ v3 v4 => some (v3, v4)) (by kernel_rfl) (fun _ => by kernel_rfl) fun Lp a => by kernel_rfl
theorem con (k : Nat) : Con Tryd.prog S (f k) := con_fn (nt := 24) (live := live) (Λ := tab k) tok (all_cons (ok_con (strings_Join.con k)) (all_cons (ok_con (impl_FormatInt.con k)) all_nil)) mixed Tryd.func23 (by kernel_rfl) (all_cons (fit3 k) all_nil) fun x => by kernel_rfl
end impl_numbersText

namespace impl_FormatKey
def S : Sp := ⟨7, ⟨[22], [9], [.bor], .own⟩, [.V], [.l .own .str]⟩
theorem con (k : Nat) : Con Tryd.prog S (f k) := con_fn (nt := 18) (live := []) (Λ := noL) tok (all_cons (ok_con (impl_KeyOf.con k)) (all_cons (ok_con (impl_KindName.con k)) (all_cons (ok_con (impl_numbersText.con k)) all_nil))) mixed Tryd.func7 (by kernel_rfl) all_nil fun x => by kernel_rfl
end impl_FormatKey

namespace laws_eqIntS
def S : Sp := ⟨8, ⟨[22, 22], [4], [.bor, .bor], .own⟩, [.V, .V], [.B]⟩
def live : List (Nat × List Nat) := [(4, [0, 1, 5]), (100004, [4])]
def G {R : Type} (k : Nat) : Glob R := mkG tt [] 26
def h4 : Hd := ⟨[.V, .V, .I], []⟩
def T4 {R : Type} (k : Nat) (K : X → St → Option R) : h4.Fn (Option R) := fun v0 v1 v2 => l4 k v0 v1 (K .ret (stOf [4] [.one (.l (.b false))] [])) (K (.exit 0) (stOf [4] [.one (.l (.any))] [])) k v2
def tab {R : Type} (k : Nat) : LTab R := fun id K vs hs => bif id == 4 then h4.tell vs hs (T4 k K) else none
theorem fit4 {R : Type} (k : Nat) : Fit (R := R) (G k) live (tab k) (bl Tryd.f8 0) := h4.fit (key := 4) (by kernel_rfl) (T4 k) (fun _ _ _ => rfl) fun K r v0 v1 v2 h => fit_mk h (fun a => h4.mk' v0 v1 a) (fun _ _ v2 => some v2) (by kernel_rfl) (fun _ => by kernel_rfl) fun Lp a => by kernel_rfl
theorem con (k : Nat) : Con Tryd.prog S (f k) := con_fn (nt := 26) (live := live) (Λ := tab k) tok all_nil mixed Tryd.func8 (by kernel_rfl) (all_cons (fit4 k) all_nil) fun x => by kernel_rfl
end laws_eqIntS

namespace laws_FnExactFormatKey
def S : Sp := ⟨3, ⟨[22], [4], [.bor], .own⟩, [.V], [.B]⟩
theorem con (k : Nat) : Con Tryd.prog S (f k) := con_fn (nt := 24) (live := []) (Λ := noL) tok (all_cons (ok_con (spec_FormatKey.con k)) (all_cons (ok_con (laws_toIntS.con k)) (all_cons (ok_con (impl_FormatKey.con k)) (all_cons (ok_con (laws_eqIntS.con k)) all_nil)))) mixed Tryd.func3 (by kernel_rfl) all_nil fun x => by kernel_rfl
end laws_FnExactFormatKey
end Go.Proofs.YtfbafmeeejmgoaaDoor
