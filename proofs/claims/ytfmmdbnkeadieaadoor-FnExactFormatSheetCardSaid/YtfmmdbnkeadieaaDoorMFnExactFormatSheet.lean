/- That the Go functions come to the answers of the plain ones. Printed by a program. -/
import Derived.Test.YtfmmdbnkeadieaaDoorT
import Derived.Test.YtfmmdbnkeadieaaDoorMFnExactFormatNumbers
import Derived.Test.YtfmmdbnkeadieaaDoorFFnExactFormatSheet
set_option linter.unusedVariables false
set_option maxRecDepth 100000
set_option maxHeartbeats 20000000
namespace Go.Proofs.YtfmmdbnkeadieaaDoor
open Go Go.Proofs.YtfmmdbnkeadieaaDoor.V Go.Proofs.YtfmmdbnkeadieaaDoor.M

namespace laws_szIntS
def S : Sp := ⟨26, ⟨[22, 3], [3], [.bor, .bor], .own⟩, [.V, .I], [.O]⟩
theorem con (k : Nat) : Con Tryd.prog S (f k) := con_fn (nt := 12) (live := []) (Λ := noL) tok all_nil mixed Tryd.func26 (by kernel_rfl) all_nil fun x => by kernel_rfl
end laws_szIntS

namespace laws_szIntSS
def S : Sp := ⟨11, ⟨[27, 3], [3], [.bor, .bor], .own⟩, [.l .lent .rows, .I], [.O]⟩
def live : List (Nat × List Nat) := [(5, [0, 1, 5]), (100005, [1, 4])]
def G {R : Type} (k : Nat) : Glob R := mkG tt [laws_szIntS.S.ent (laws_szIntS.f k)] 27
def h5 : Hd := ⟨[.W, .I, .I], []⟩
def T5 {R : Type} (k : Nat) (K : X → St → Option R) : h5.Fn (Option R) := fun v0 v1 v2 => l5 k v0 (fun p0 => K .ret (stOf [1, 4] [.one (.l (.i .i64 p0)), .one (.l (.i .i64 (-1)))] [])) (fun p0 => K (.exit 0) (stOf [1, 4] [.one (.l (.i .i64 p0)), .one (.l (.any))] [])) k v1 v2
def tab {R : Type} (k : Nat) : LTab R := fun id K vs hs => bif id == 5 then h5.tell vs hs (T5 k K) else none
theorem fit5 {R : Type} (k : Nat) : Fit (R := R) (G k) live (tab k) (bl Tryd.f11 0) := h5.fit (key := 5) (by kernel_rfl) (T5 k) (fun _ _ _ => rfl) fun K r v0 v1 v2 h => fit_mk h (fun a => h5.mk' v0 a.1 a.2) (fun _ v1 v2 => some (v1, v2)) (by kernel_rfl) (fun _ => by kernel_rfl) fun Lp a => by kernel_rfl
theorem con (k : Nat) : Con Tryd.prog S (f k) := con_fn (nt := 27) (live := live) (Λ := tab k) tok (all_cons (ok_con (laws_szIntS.con k)) all_nil) mixed Tryd.func11 (by kernel_rfl) (all_cons (fit5 k) all_nil) fun x => by kernel_rfl
end laws_szIntSS

namespace spec_FormatSheet
def S : Sp := ⟨12, ⟨[27], [9], [.bor], .own⟩, [.l .lent .rows], [.l .own .str]⟩
def live : List (Nat × List Nat) := [(3, [0, 3, 4]), (100003, [2, 3])]
def G {R : Type} (k : Nat) : Glob R := mkG tt [spec_l39Join.S.ent (spec_l39Join.f k), spec_l39Numbers.S.ent (spec_l39Numbers.f k)] 31
def h3 : Hd := ⟨[.W, .l (.own 0), .I], [.row false .strs]⟩
def T3 {R : Type} (k : Nat) (K : X → St → Option R) : h3.Fn (Option R) := fun v0 v1 v2 => l3 k v0 (fun p0 => K (.exit 0) (stOf [2, 3] [.one (.l (.any)), .one (.l (.own 0))] [some (.row 0 0 (.strs p0))])) k v1 v2
def tab {R : Type} (k : Nat) : LTab R := fun id K vs hs => bif id == 3 then h3.tell vs hs (T3 k K) else none
theorem fit3 {R : Type} (k : Nat) : Fit (R := R) (G k) live (tab k) (bl Tryd.f12 0) := h3.fit (key := 3) (by kernel_rfl) (T3 k) (fun _ _ _ => rfl) fun K r v0 v1 v2 h => fit_mk h (fun a => h3.mk' v0 a.1 a.2) (fun _ v1 v2 => some (v1, v2)) (by kernel_rfl) (fun _ => by kernel_rfl) fun Lp a => by kernel_rfl
theorem con (k : Nat) : Con Tryd.prog S (f k) := con_fn (nt := 31) (live := live) (Λ := tab k) tok (all_cons (ok_con (spec_l39Join.con k)) (all_cons (ok_con (spec_l39Numbers.con k)) all_nil)) mixed Tryd.func12 (by kernel_rfl) (all_cons (fit3 k) all_nil) fun x => by kernel_rfl
end spec_FormatSheet

namespace laws_toIntSS
def S : Sp := ⟨13, ⟨[27], [27], [.bor], .own⟩, [.l .lent .rows], [.l .own .rows]⟩
def live : List (Nat × List Nat) := [(3, [0, 3, 4]), (100003, [2, 3])]
def G {R : Type} (k : Nat) : Glob R := mkG tt [laws_toIntS.S.ent (laws_toIntS.f k)] 23
def h3 : Hd := ⟨[.W, .l (.own 0), .I], [.W]⟩
def T3 {R : Type} (k : Nat) (K : X → St → Option R) : h3.Fn (Option R) := fun v0 v1 v2 => l3 k v0 (fun p0 => K (.exit 0) (stOf [2, 3] [.one (.l (.any)), .one (.l (.own 0))] [some (.row 0 0 (.rows true p0))])) k v1 v2
def tab {R : Type} (k : Nat) : LTab R := fun id K vs hs => bif id == 3 then h3.tell vs hs (T3 k K) else none
theorem fit3 {R : Type} (k : Nat) : Fit (R := R) (G k) live (tab k) (bl Tryd.f13 0) := h3.fit (key := 3) (by kernel_rfl) (T3 k) (fun _ _ _ => rfl) fun K r v0 v1 v2 h => fit_mk h (fun a => h3.mk' v0 a.1 a.2) (fun _ v1 v2 => some (v1, v2)) (by kernel_rfl) (fun _ => by kernel_rfl) fun Lp a => by kernel_rfl
theorem con (k : Nat) : Con Tryd.prog S (f k) := con_fn (nt := 23) (live := live) (Λ := tab k) tok (all_cons (ok_con (laws_toIntS.con k)) all_nil) mixed Tryd.func13 (by kernel_rfl) (all_cons (fit3 k) all_nil) fun x => by kernel_rfl
end laws_toIntSS

namespace impl_FormatSheet
def S : Sp := ⟨14, ⟨[27], [9], [.bor], .own⟩, [.l .lent .rows], [.l .own .str]⟩
def live : List (Nat × List Nat) := [(5, [3, 10, 11, 12]), (100005, [2, 3])]
def G {R : Type} (k : Nat) : Glob R := mkG tt [impl_numbersText.S.ent (impl_numbersText.f k), strings_Join.S.ent (strings_Join.f k)] 24
def h5 : Hd := ⟨[.l (.own 0), .W, .I, .I], [.row false .strs]⟩
def T5 {R : Type} (k : Nat) (K : X → St → Option R) : h5.Fn (Option R) := fun v0 v1 v2 v3 => l5 k v0 v1 (fun p0 => K (.exit 0) (stOf [2, 3] [.one (.l (.any)), .one (.l (.own 0))] [some (.row 0 0 (.strs p0))])) k v2 v3
def tab {R : Type} (k : Nat) : LTab R := fun id K vs hs => bif id == 5 then h5.tell vs hs (T5 k K) else none
theorem fit5 {R : Type} (k : Nat) : Fit (R := R) (G k) live (tab k) (bl Tryd.f14 0) := h5.fit (key := 5) (by kernel_rfl) (T5 k) (fun _ _ _ => rfl) fun K r v0 v1 v2 v3 h => fit_mk h (fun a => h5.mk' v0 v1 a.1 a.2) (fun _ _ v2 v3 => some (v2, v3)) (by kernel_rfl) (fun _ => by kernel_rfl) fun Lp a => by kernel_rfl
theorem con (k : Nat) : Con Tryd.prog S (f k) := con_fn (nt := 24) (live := live) (Λ := tab k) tok (all_cons (ok_con (impl_numbersText.con k)) (all_cons (ok_con (strings_Join.con k)) all_nil)) mixed Tryd.func14 (by kernel_rfl) (all_cons (fit5 k) all_nil) fun x => by kernel_rfl
end impl_FormatSheet

namespace laws_eqIntSS
def S : Sp := ⟨15, ⟨[27, 27], [4], [.bor, .bor], .own⟩, [.l .lent .rows, .l .lent .rows], [.B]⟩
def live : List (Nat × List Nat) := [(4, [0, 1, 5]), (100004, [4])]
def G {R : Type} (k : Nat) : Glob R := mkG tt [laws_eqIntS.S.ent (laws_eqIntS.f k)] 27
def h4 : Hd := ⟨[.W, .W, .I], []⟩
def T4 {R : Type} (k : Nat) (K : X → St → Option R) : h4.Fn (Option R) := fun v0 v1 v2 => l4 k v0 v1 (K .ret (stOf [4] [.one (.l (.b false))] [])) (K (.exit 0) (stOf [4] [.one (.l (.any))] [])) k v2
def tab {R : Type} (k : Nat) : LTab R := fun id K vs hs => bif id == 4 then h4.tell vs hs (T4 k K) else none
theorem fit4 {R : Type} (k : Nat) : Fit (R := R) (G k) live (tab k) (bl Tryd.f15 0) := h4.fit (key := 4) (by kernel_rfl) (T4 k) (fun _ _ _ => rfl) fun K r v0 v1 v2 h => fit_mk h (fun a => h4.mk' v0 v1 a) (fun _ _ v2 => some v2) (by kernel_rfl) (fun _ => by kernel_rfl) fun Lp a => by kernel_rfl
theorem con (k : Nat) : Con Tryd.prog S (f k) := con_fn (nt := 27) (live := live) (Λ := tab k) tok (all_cons (ok_con (laws_eqIntS.con k)) all_nil) mixed Tryd.func15 (by kernel_rfl) (all_cons (fit4 k) all_nil) fun x => by kernel_rfl
end laws_eqIntSS

namespace laws_FnExactFormatSheet
def S : Sp := ⟨4, ⟨[27], [4], [.bor], .own⟩, [.l .lent .rows], [.B]⟩
theorem con (k : Nat) : Con Tryd.prog S (f k) := con_fn (nt := 27) (live := []) (Λ := noL) tok (all_cons (ok_con (laws_szIntSS.con k)) (all_cons (ok_con (spec_FormatSheet.con k)) (all_cons (ok_con (laws_toIntSS.con k)) (all_cons (ok_con (impl_FormatSheet.con k)) (all_cons (ok_con (laws_eqIntSS.con k)) all_nil))))) mixed Tryd.func4 (by kernel_rfl) all_nil fun x => by kernel_rfl
end laws_FnExactFormatSheet
end Go.Proofs.YtfmmdbnkeadieaaDoor
