/- That the Go functions come to the answers of the plain ones. Printed by a program. -/
import Derived.Test.YtfmmdbnkeadieaaDoorT
import Derived.Test.YtfmmdbnkeadieaaDoorFFnExactFormatNumbers
import Derived.Test.YtfmmdbnkeadieaaDoorShelf
set_option linter.unusedVariables false
set_option maxRecDepth 100000
set_option maxHeartbeats 20000000
namespace Go.Proofs.YtfmmdbnkeadieaaDoor
open Go Go.Proofs.YtfmmdbnkeadieaaDoor.V Go.Proofs.YtfmmdbnkeadieaaDoor.M

namespace spec_l39Join
def S : Sp := ⟨23, ⟨[50, 9], [9], [.bor, .bor], .own⟩, [.l .lent .strs, .l .lent .str], [.l .own .str]⟩
def live : List (Nat × List Nat) := [(3, [0, 1, 5, 6]), (100003, [0, 4, 5])]
def G {R : Type} (k : Nat) : Glob R := mkG tt [] 28
def h3 : Hd := ⟨[.l (.val false false .strs), .l (.s), .l (.s), .I], []⟩
def T3 {R : Type} (k : Nat) (K : X → St → Option R) : h3.Fn (Option R) := fun v0 v1 v2 v3 => l3 k v0 v1 (fun p0 => K (.exit 0) (stOf [0, 4, 5] [.one (.l (.val false (.strs v0))), .one (.l (.any)), .one (.l (.s p0))] [])) k v2 v3
def tab {R : Type} (k : Nat) : LTab R := fun id K vs hs => bif id == 3 then h3.tell vs hs (T3 k K) else none
theorem fit3 {R : Type} (k : Nat) : Fit (R := R) (G k) live (tab k) (bl Tryd.f23 0) := h3.fit (key := 3) (by kernel_rfl) (T3 k) (fun _ _ _ => rfl) fun K r v0 v1 v2 v3 h => fit_mk h (fun a => h3.mk' v0 v1 a.1 a.2) (fun _ _ v2 v3 => some (v2, v3)) (by kernel_rfl) (fun _ => by kernel_rfl) fun Lp a => by kernel_rfl
theorem con (k : Nat) : Con Tryd.prog S (f k) := con_fn (nt := 28) (live := live) (Λ := tab k) tok all_nil mixed Tryd.func23 (by kernel_rfl) (all_cons (fit3 k) all_nil) fun x => by kernel_rfl
end spec_l39Join

namespace spec_FormatInt
def S : Sp := ⟨38, ⟨[3], [9], [.bor], .own⟩, [.I], [.l .own .str]⟩
def live : List (Nat × List Nat) := [(5, [0, 3, 4]), (100005, [0, 2, 3])]
def G {R : Type} (k : Nat) : Glob R := mkG tt [] 31
def h5 : Hd := ⟨[.I, .l (.s), .I], []⟩
def T5 {R : Type} (k : Nat) (K : X → St → Option R) : h5.Fn (Option R) := fun v0 v1 v2 => l5 k (fun p0 => K (.exit 0) (stOf [0, 2, 3] [.one (.l (.i .i64 v0)), .one (.l (.any)), .one (.l (.s p0))] [])) k v1 v2
def tab {R : Type} (k : Nat) : LTab R := fun id K vs hs => bif id == 5 then h5.tell vs hs (T5 k K) else none
theorem fit5 {R : Type} (k : Nat) : Fit (R := R) (G k) live (tab k) (bl Tryd.f38 0) := h5.fit (key := 5) (by kernel_rfl) (T5 k) (fun _ _ _ => rfl) fun K r v0 v1 v2 h => fit_mk h (fun a => h5.mk' v0 a.1 a.2) (fun _ v1 v2 => some (v1, v2)) (by kernel_rfl) (fun _ => by kernel_rfl) fun Lp a => by kernel_rfl
theorem con (k : Nat) : Con Tryd.prog S (f k) := con_fn (nt := 31) (live := live) (Λ := tab k) tok all_nil mixed Tryd.func38 (by kernel_rfl) (all_cons (fit5 k) all_nil) fun x => by kernel_rfl
end spec_FormatInt

namespace spec_l39Numbers
def S : Sp := ⟨24, ⟨[22], [50], [.bor], .own⟩, [.V], [.l .own .strs]⟩
def live : List (Nat × List Nat) := [(3, [0, 3, 4]), (100003, [2, 3])]
def G {R : Type} (k : Nat) : Glob R := mkG tt [spec_FormatInt.S.ent (spec_FormatInt.f k)] 21
def h3 : Hd := ⟨[.V, .l (.own 0), .I], [.row false .strs]⟩
def T3 {R : Type} (k : Nat) (K : X → St → Option R) : h3.Fn (Option R) := fun v0 v1 v2 => l3 k v0 (fun p0 => K (.exit 0) (stOf [2, 3] [.one (.l (.any)), .one (.l (.own 0))] [some (.row 0 0 (.strs p0))])) k v1 v2
def tab {R : Type} (k : Nat) : LTab R := fun id K vs hs => bif id == 3 then h3.tell vs hs (T3 k K) else none
theorem fit3 {R : Type} (k : Nat) : Fit (R := R) (G k) live (tab k) (bl Tryd.f24 0) := h3.fit (key := 3) (by kernel_rfl) (T3 k) (fun _ _ _ => rfl) fun K r v0 v1 v2 h => fit_mk h (fun a => h3.mk' v0 a.1 a.2) (fun _ v1 v2 => some (v1, v2)) (by kernel_rfl) (fun _ => by kernel_rfl) fun Lp a => by kernel_rfl
theorem con (k : Nat) : Con Tryd.prog S (f k) := con_fn (nt := 21) (live := live) (Λ := tab k) tok (all_cons (ok_con (spec_FormatInt.con k)) all_nil) mixed Tryd.func24 (by kernel_rfl) (all_cons (fit3 k) all_nil) fun x => by kernel_rfl
end spec_l39Numbers

namespace spec_FormatNumbers
def S : Sp := ⟨7, ⟨[22], [9], [.bor], .own⟩, [.V], [.l .own .str]⟩
theorem con (k : Nat) : Con Tryd.prog S (f k) := con_fn (nt := 6) (live := []) (Λ := noL) tok (all_cons (ok_con (spec_l39Join.con k)) (all_cons (ok_con (spec_l39Numbers.con k)) all_nil)) mixed Tryd.func7 (by kernel_rfl) all_nil fun x => by kernel_rfl
end spec_FormatNumbers

namespace laws_toIntS
def S : Sp := ⟨8, ⟨[22], [22], [.bor], .own⟩, [.V], [.l .own (.ints .i64)]⟩
def live : List (Nat × List Nat) := [(3, [0, 3, 4]), (100003, [2, 3])]
def G {R : Type} (k : Nat) : Glob R := mkG tt [] 22
def h3 : Hd := ⟨[.V, .l (.own 0), .I], [.V]⟩
def T3 {R : Type} (k : Nat) (K : X → St → Option R) : h3.Fn (Option R) := fun v0 v1 v2 => l3 k v0 (fun p0 => K (.exit 0) (stOf [2, 3] [.one (.l (.any)), .one (.l (.own 0))] [some (.row 0 0 (.ints .i64 p0))])) k v1 v2
def tab {R : Type} (k : Nat) : LTab R := fun id K vs hs => bif id == 3 then h3.tell vs hs (T3 k K) else none
theorem fit3 {R : Type} (k : Nat) : Fit (R := R) (G k) live (tab k) (bl Tryd.f8 0) := h3.fit (key := 3) (by kernel_rfl) (T3 k) (fun _ _ _ => rfl) fun K r v0 v1 v2 h => fit_mk h (fun a => h3.mk' v0 a.1 a.2) (fun _ v1 v2 => some (v1, v2)) (by kernel_rfl) (fun _ => by kernel_rfl) fun Lp a => by kernel_rfl
theorem con (k : Nat) : Con Tryd.prog S (f k) := con_fn (nt := 22) (live := live) (Λ := tab k) tok all_nil mixed Tryd.func8 (by kernel_rfl) (all_cons (fit3 k) all_nil) fun x => by kernel_rfl
end laws_toIntS

namespace strings_Join
def S : Sp := ⟨27, ⟨[50, 9], [9], [.bor, .bor], .own⟩, [.l .lent .strs, .l .lent .str], [.l .own .str]⟩
theorem con (k : Nat) : Con Tryd.prog S (f k) := ⟨⟨Tryd.f27, Tryd.func27, by kernel_rfl, by kernel_rfl⟩, fun ⟨a, g, _⟩ r h => by
 obtain ⟨h1, h2⟩ := bif_some h
 obtain ⟨g1, g2⟩ := and_bool h1
 cases h2
 exact join_contract (fun bk o c xs sep w a b c' d e => Tryd.strings_Join bk o c xs sep w a b c' d e) (fun a c sep w => Tryd.strings_Join_none a c sep w) (Nat.le_of_ble_eq_true g1) (Nat.le_of_ble_eq_true g2)⟩
end strings_Join

namespace strconv_Itoa
def S : Sp := ⟨51, ⟨[3], [9], [.bor], .own⟩, [.I], [.l .own .str]⟩
theorem con (k : Nat) : Con Tryd.prog S (f k) := ⟨⟨Tryd.f51, Tryd.func51, by kernel_rfl, by kernel_rfl⟩, fun ⟨a, _⟩ r h => by
 obtain ⟨h1, h2⟩ := bif_some h
 obtain ⟨g1, g2⟩ := and_bool h1
 cases h2
 exact itoa_contract (by kernel_rfl) (fun n a b w t => Tryd.strconv_Itoa n a b w t) (of_decide_eq_true g1) (of_decide_eq_true g2)⟩
end strconv_Itoa

namespace impl_FormatInt
def S : Sp := ⟨39, ⟨[3], [9], [.bor], .own⟩, [.I], [.l .own .str]⟩
theorem con (k : Nat) : Con Tryd.prog S (f k) := con_fn (nt := 5) (live := []) (Λ := noL) tok (all_cons (ok_con (strconv_Itoa.con k)) all_nil) mixed Tryd.func39 (by kernel_rfl) all_nil fun x => by kernel_rfl
end impl_FormatInt

namespace impl_numbersText
def S : Sp := ⟨25, ⟨[22, 9], [9], [.bor, .bor], .own⟩, [.V, .l .lent .str], [.l .own .str]⟩
def live : List (Nat × List Nat) := [(3, [1, 5, 9, 10, 11]), (100003, [1, 4, 5])]
def G {R : Type} (k : Nat) : Glob R := mkG tt [strings_Join.S.ent (strings_Join.f k), impl_FormatInt.S.ent (impl_FormatInt.f k)] 24
def h3 : Hd := ⟨[.l (.s), .l (.own 0), .V, .I, .I], [.row false .strs]⟩
def T3 {R : Type} (k : Nat) (K : X → St → Option R) : h3.Fn (Option R) := fun v0 v1 v2 v3 v4 => l3 k v1 v2 (fun p0 => K (.exit 0) (stOf [1, 4, 5] [.one (.l (.s v0)), .one (.l (.any)), .one (.l (.own 0))] [some (.row 0 0 (.strs p0))])) k v3 v4
def tab {R : Type} (k : Nat) : LTab R := fun id K vs hs => bif id == 3 then h3.tell vs hs (T3 k K) else none
theorem fit3 {R : Type} (k : Nat) : Fit (R := R) (G k) live (tab k) (bl Tryd.f25 0) := h3.fit (key := 3) (by kernel_rfl) (T3 k) (fun _ _ _ => rfl) fun K r v0 v1 v2 v3 v4 h => fit_mk h (fun a => h3.mk' v0 v1 v2 a.1 a.2) (fun _ _ _ v3 v4 => some (v3, v4)) (by kernel_rfl) (fun _ => by kernel_rfl) fun Lp a => by kernel_rfl
theorem con (k : Nat) : Con Tryd.prog S (f k) := con_fn (nt := 24) (live := live) (Λ := tab k) tok (all_cons (ok_con (strings_Join.con k)) (all_cons (ok_con (impl_FormatInt.con k)) all_nil)) mixed Tryd.func25 (by kernel_rfl) (all_cons (fit3 k) all_nil) fun x => by kernel_rfl
end impl_numbersText

namespace impl_FormatNumbers
def S : Sp := ⟨9, ⟨[22], [9], [.bor], .own⟩, [.V], [.l .own .str]⟩
theorem con (k : Nat) : Con Tryd.prog S (f k) := con_fn (nt := 8) (live := []) (Λ := noL) tok (all_cons (ok_con (impl_numbersText.con k)) all_nil) mixed Tryd.func9 (by kernel_rfl) all_nil fun x => by kernel_rfl
end impl_FormatNumbers

namespace laws_eqIntS
def S : Sp := ⟨10, ⟨[22, 22], [4], [.bor, .bor], .own⟩, [.V, .V], [.B]⟩
def live : List (Nat × List Nat) := [(4, [0, 1, 5]), (100004, [4])]
def G {R : Type} (k : Nat) : Glob R := mkG tt [] 26
def h4 : Hd := ⟨[.V, .V, .I], []⟩
def T4 {R : Type} (k : Nat) (K : X → St → Option R) : h4.Fn (Option R) := fun v0 v1 v2 => l4 k v0 v1 (K .ret (stOf [4] [.one (.l (.b false))] [])) (K (.exit 0) (stOf [4] [.one (.l (.any))] [])) k v2
def tab {R : Type} (k : Nat) : LTab R := fun id K vs hs => bif id == 4 then h4.tell vs hs (T4 k K) else none
theorem fit4 {R : Type} (k : Nat) : Fit (R := R) (G k) live (tab k) (bl Tryd.f10 0) := h4.fit (key := 4) (by kernel_rfl) (T4 k) (fun _ _ _ => rfl) fun K r v0 v1 v2 h => fit_mk h (fun a => h4.mk' v0 v1 a) (fun _ _ v2 => some v2) (by kernel_rfl) (fun _ => by kernel_rfl) fun Lp a => by kernel_rfl
theorem con (k : Nat) : Con Tryd.prog S (f k) := con_fn (nt := 26) (live := live) (Λ := tab k) tok all_nil mixed Tryd.func10 (by kernel_rfl) (all_cons (fit4 k) all_nil) fun x => by kernel_rfl
end laws_eqIntS

namespace laws_FnExactFormatNumbers
def S : Sp := ⟨3, ⟨[22], [4], [.bor], .own⟩, [.V], [.B]⟩
theorem con (k : Nat) : Con Tryd.prog S (f k) := con_fn (nt := 24) (live := []) (Λ := noL) tok (all_cons (ok_con (spec_FormatNumbers.con k)) (all_cons (ok_con (laws_toIntS.con k)) (all_cons (ok_con (impl_FormatNumbers.con k)) (all_cons (ok_con (laws_eqIntS.con k)) all_nil)))) mixed Tryd.func3 (by kernel_rfl) all_nil fun x => by kernel_rfl
end laws_FnExactFormatNumbers
end Go.Proofs.YtfmmdbnkeadieaaDoor
