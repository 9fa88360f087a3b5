/- That the Go functions come to the answers of the plain ones. Printed by a program. -/
import Derived.Test.YtfkejiljabmaaaaT
import Derived.Test.YtfkejiljabmaaaaMFnExactWinsOf
import Derived.Test.YtfkejiljabmaaaaMFnExactIsRecorded
import Derived.Test.YtfkejiljabmaaaaFFnExactIsZeroSum
set_option linter.unusedVariables false
namespace Go.Proofs.Ytfkejiljabmaaaa
open Go Go.Proofs.Ytfkejiljabmaaaa.V Go.Proofs.Ytfkejiljabmaaaa.M

def spec_IsZeroSum.sig : Sig := ⟨[58], [4], [.bor], .own⟩
def spec_IsZeroSum.live : List (Nat × List Nat) := []
def spec_IsZeroSum.pk : List DK := [.agg .lent [(.int .i64), (.int .i64), .bool, .bool, (.ints .i64), (.ints .i64), (.int .i64), (.int .i64), (.ints .i64), .bool, (.ints .i64), (.int .i64), (.int .i64), .bool, .bool, (.ints .i64), (.ints .i64), (.int .i64), (.int .i64), .rows, (.ints .i64), (.ints .i64), (.int .i64), (.int .i64), (.int .i64), (.ints .i64), .rows]]
def spec_IsZeroSum.rk : List DK := [.l .own .bool]
def spec_IsZeroSum.enc (r : Bool) : List DV := dvs spec_IsZeroSum.rk (r, ())
def spec_IsZeroSum.dec (ds : List DV) : Option (Bool) := tellD spec_IsZeroSum.rk ds (fun u0 => some u0)
set_option maxRecDepth 100000 in
theorem spec_IsZeroSum.dec_some {ds : List DV} {r : Bool} (h0 : spec_IsZeroSum.dec ds = some r) : ds = spec_IsZeroSum.enc r := by
  obtain ⟨⟨u0, _⟩, rfl, h⟩ := tellD_some h0
  cases h
  rfl
def spec_IsZeroSum.phi {R : Type} (k : Nat) (ds : List DV) (K : List DV → Option R) : Option R := tellD spec_IsZeroSum.pk ds (fun a0_0 a0_1 a0_2 a0_3 a0_4 a0_5 a0_6 a0_7 a0_8 a0_9 a0_10 a0_11 a0_12 a0_13 a0_14 a0_15 a0_16 a0_17 a0_18 a0_19 a0_20 a0_21 a0_22 a0_23 a0_24 a0_25 a0_26 => (spec_IsZeroSum.f k a0_0 a0_1 a0_2 a0_3 a0_4 a0_5 a0_6 a0_7 a0_8 a0_9 a0_10 a0_11 a0_12 a0_13 a0_14 a0_15 a0_16 a0_17 a0_18 a0_19 a0_20 a0_21 a0_22 a0_23 a0_24 a0_25 a0_26).bind fun r => K (spec_IsZeroSum.enc r))
def spec_IsZeroSum.G {R : Type} (k : Nat) : Glob R := mkG tt [(61, ⟨spec_IsSheet.sig, spec_IsSheet.phi k⟩)] 9
set_option maxRecDepth 100000 in
theorem spec_IsZeroSum.gok {R : Type} (k : Nat) : GOK Try.prog (spec_IsZeroSum.G (R := R) k) := GOK_of tok (all_cons (fun _ _ _ h => spec_IsSheet.ok k h) all_nil)
def spec_IsZeroSum.tab {R : Type} (k : Nat) : LTab R := fun id K vs hs =>
  none
noncomputable def spec_IsZeroSum.body : Code := (Try.f52.body).getD .skip
set_option maxRecDepth 100000 in
theorem spec_IsZeroSum.ev (k : Nat) (a0_0 : Int) (a0_1 : Int) (a0_2 : Bool) (a0_3 : Bool) (a0_4 : List Int) (a0_5 : List Int) (a0_6 : Int) (a0_7 : Int) (a0_8 : List Int) (a0_9 : Bool) (a0_10 : List Int) (a0_11 : Int) (a0_12 : Int) (a0_13 : Bool) (a0_14 : Bool) (a0_15 : List Int) (a0_16 : List Int) (a0_17 : Int) (a0_18 : Int) (a0_19 : List (List Int)) (a0_20 : List Int) (a0_21 : List Int) (a0_22 : Int) (a0_23 : Int) (a0_24 : Int) (a0_25 : List Int) (a0_26 : List (List Int)) : evFn (spec_IsZeroSum.G k) spec_IsZeroSum.live (spec_IsZeroSum.tab k) spec_IsZeroSum.sig Try.f52 (dvs spec_IsZeroSum.pk ((a0_0, a0_1, a0_2, a0_3, a0_4, a0_5, a0_6, a0_7, a0_8, a0_9, a0_10, a0_11, a0_12, a0_13, a0_14, a0_15, a0_16, a0_17, a0_18, a0_19, a0_20, a0_21, a0_22, a0_23, a0_24, a0_25, a0_26, ()), ())) spec_IsZeroSum.dec = spec_IsZeroSum.f k a0_0 a0_1 a0_2 a0_3 a0_4 a0_5 a0_6 a0_7 a0_8 a0_9 a0_10 a0_11 a0_12 a0_13 a0_14 a0_15 a0_16 a0_17 a0_18 a0_19 a0_20 a0_21 a0_22 a0_23 a0_24 a0_25 a0_26 := by kernel_rfl
set_option maxRecDepth 100000 in
theorem spec_IsZeroSum.con (k : Nat) (a0_0 : Int) (a0_1 : Int) (a0_2 : Bool) (a0_3 : Bool) (a0_4 : List Int) (a0_5 : List Int) (a0_6 : Int) (a0_7 : Int) (a0_8 : List Int) (a0_9 : Bool) (a0_10 : List Int) (a0_11 : Int) (a0_12 : Int) (a0_13 : Bool) (a0_14 : Bool) (a0_15 : List Int) (a0_16 : List Int) (a0_17 : Int) (a0_18 : Int) (a0_19 : List (List Int)) (a0_20 : List Int) (a0_21 : List Int) (a0_22 : Int) (a0_23 : Int) (a0_24 : Int) (a0_25 : List Int) (a0_26 : List (List Int)) {r : Bool} (h : spec_IsZeroSum.f k a0_0 a0_1 a0_2 a0_3 a0_4 a0_5 a0_6 a0_7 a0_8 a0_9 a0_10 a0_11 a0_12 a0_13 a0_14 a0_15 a0_16 a0_17 a0_18 a0_19 a0_20 a0_21 a0_22 a0_23 a0_24 a0_25 a0_26 = some r) : Contract Try.prog 52 spec_IsZeroSum.sig (dvs spec_IsZeroSum.pk ((a0_0, a0_1, a0_2, a0_3, a0_4, a0_5, a0_6, a0_7, a0_8, a0_9, a0_10, a0_11, a0_12, a0_13, a0_14, a0_15, a0_16, a0_17, a0_18, a0_19, a0_20, a0_21, a0_22, a0_23, a0_24, a0_25, a0_26, ()), ())) (spec_IsZeroSum.enc r) :=
  fn_contract (spec_IsZeroSum.gok k) mixed Try.func52 (show _ = some spec_IsZeroSum.body by kernel_rfl) (LoopsOK_of (show loopsOf spec_IsZeroSum.body = [] by kernel_rfl) all_nil) (show 9 = Try.f52.ntmps by kernel_rfl) (Nat.le_of_ble_eq_true (by kernel_rfl)) (by kernel_rfl) (fun _ h => spec_IsZeroSum.dec_some h) ((spec_IsZeroSum.ev k a0_0 a0_1 a0_2 a0_3 a0_4 a0_5 a0_6 a0_7 a0_8 a0_9 a0_10 a0_11 a0_12 a0_13 a0_14 a0_15 a0_16 a0_17 a0_18 a0_19 a0_20 a0_21 a0_22 a0_23 a0_24 a0_25 a0_26).trans h)
set_option maxRecDepth 100000 in
theorem spec_IsZeroSum.ok {R : Type} (k : Nat) {ds : List DV} {K : List DV → Option R} {r : R} (h0 : spec_IsZeroSum.phi k ds K = some r) : Enters Try.prog 52 ∧ ∃ rs, Contract Try.prog 52 spec_IsZeroSum.sig ds rs ∧ K rs = some r := by
  obtain ⟨⟨⟨a0_0, a0_1, a0_2, a0_3, a0_4, a0_5, a0_6, a0_7, a0_8, a0_9, a0_10, a0_11, a0_12, a0_13, a0_14, a0_15, a0_16, a0_17, a0_18, a0_19, a0_20, a0_21, a0_22, a0_23, a0_24, a0_25, a0_26, _⟩, _⟩, rfl, h⟩ := tellD_some h0
  obtain ⟨x, h1, h2⟩ := Option.bind_eq_some_iff.1 (show ((spec_IsZeroSum.f k a0_0 a0_1 a0_2 a0_3 a0_4 a0_5 a0_6 a0_7 a0_8 a0_9 a0_10 a0_11 a0_12 a0_13 a0_14 a0_15 a0_16 a0_17 a0_18 a0_19 a0_20 a0_21 a0_22 a0_23 a0_24 a0_25 a0_26).bind fun r => K (spec_IsZeroSum.enc r)) = some r from h)
  exact ⟨⟨Try.f52, Try.func52, by kernel_rfl, by kernel_rfl⟩, spec_IsZeroSum.enc x, spec_IsZeroSum.con k a0_0 a0_1 a0_2 a0_3 a0_4 a0_5 a0_6 a0_7 a0_8 a0_9 a0_10 a0_11 a0_12 a0_13 a0_14 a0_15 a0_16 a0_17 a0_18 a0_19 a0_20 a0_21 a0_22 a0_23 a0_24 a0_25 a0_26 h1, h2⟩

def impl_IsZeroSum.sig : Sig := ⟨[58], [4], [.bor], .own⟩
def impl_IsZeroSum.live : List (Nat × List Nat) := []
def impl_IsZeroSum.pk : List DK := [.agg .lent [(.int .i64), (.int .i64), .bool, .bool, (.ints .i64), (.ints .i64), (.int .i64), (.int .i64), (.ints .i64), .bool, (.ints .i64), (.int .i64), (.int .i64), .bool, .bool, (.ints .i64), (.ints .i64), (.int .i64), (.int .i64), .rows, (.ints .i64), (.ints .i64), (.int .i64), (.int .i64), (.int .i64), (.ints .i64), .rows]]
def impl_IsZeroSum.rk : List DK := [.l .own .bool]
def impl_IsZeroSum.enc (r : Bool) : List DV := dvs impl_IsZeroSum.rk (r, ())
def impl_IsZeroSum.dec (ds : List DV) : Option (Bool) := tellD impl_IsZeroSum.rk ds (fun u0 => some u0)
set_option maxRecDepth 100000 in
theorem impl_IsZeroSum.dec_some {ds : List DV} {r : Bool} (h0 : impl_IsZeroSum.dec ds = some r) : ds = impl_IsZeroSum.enc r := by
  obtain ⟨⟨u0, _⟩, rfl, h⟩ := tellD_some h0
  cases h
  rfl
def impl_IsZeroSum.phi {R : Type} (k : Nat) (ds : List DV) (K : List DV → Option R) : Option R := tellD impl_IsZeroSum.pk ds (fun a0_0 a0_1 a0_2 a0_3 a0_4 a0_5 a0_6 a0_7 a0_8 a0_9 a0_10 a0_11 a0_12 a0_13 a0_14 a0_15 a0_16 a0_17 a0_18 a0_19 a0_20 a0_21 a0_22 a0_23 a0_24 a0_25 a0_26 => (impl_IsZeroSum.f k a0_0 a0_1 a0_2 a0_3 a0_4 a0_5 a0_6 a0_7 a0_8 a0_9 a0_10 a0_11 a0_12 a0_13 a0_14 a0_15 a0_16 a0_17 a0_18 a0_19 a0_20 a0_21 a0_22 a0_23 a0_24 a0_25 a0_26).bind fun r => K (impl_IsZeroSum.enc r))
def impl_IsZeroSum.G {R : Type} (k : Nat) : Glob R := mkG tt [(62, ⟨impl_IsSheet.sig, impl_IsSheet.phi k⟩)] 9
set_option maxRecDepth 100000 in
theorem impl_IsZeroSum.gok {R : Type} (k : Nat) : GOK Try.prog (impl_IsZeroSum.G (R := R) k) := GOK_of tok (all_cons (fun _ _ _ h => impl_IsSheet.ok k h) all_nil)
def impl_IsZeroSum.tab {R : Type} (k : Nat) : LTab R := fun id K vs hs =>
  none
noncomputable def impl_IsZeroSum.body : Code := (Try.f53.body).getD .skip
set_option maxRecDepth 100000 in
theorem impl_IsZeroSum.ev (k : Nat) (a0_0 : Int) (a0_1 : Int) (a0_2 : Bool) (a0_3 : Bool) (a0_4 : List Int) (a0_5 : List Int) (a0_6 : Int) (a0_7 : Int) (a0_8 : List Int) (a0_9 : Bool) (a0_10 : List Int) (a0_11 : Int) (a0_12 : Int) (a0_13 : Bool) (a0_14 : Bool) (a0_15 : List Int) (a0_16 : List Int) (a0_17 : Int) (a0_18 : Int) (a0_19 : List (List Int)) (a0_20 : List Int) (a0_21 : List Int) (a0_22 : Int) (a0_23 : Int) (a0_24 : Int) (a0_25 : List Int) (a0_26 : List (List Int)) : evFn (impl_IsZeroSum.G k) impl_IsZeroSum.live (impl_IsZeroSum.tab k) impl_IsZeroSum.sig Try.f53 (dvs impl_IsZeroSum.pk ((a0_0, a0_1, a0_2, a0_3, a0_4, a0_5, a0_6, a0_7, a0_8, a0_9, a0_10, a0_11, a0_12, a0_13, a0_14, a0_15, a0_16, a0_17, a0_18, a0_19, a0_20, a0_21, a0_22, a0_23, a0_24, a0_25, a0_26, ()), ())) impl_IsZeroSum.dec = impl_IsZeroSum.f k a0_0 a0_1 a0_2 a0_3 a0_4 a0_5 a0_6 a0_7 a0_8 a0_9 a0_10 a0_11 a0_12 a0_13 a0_14 a0_15 a0_16 a0_17 a0_18 a0_19 a0_20 a0_21 a0_22 a0_23 a0_24 a0_25 a0_26 := by kernel_rfl
set_option maxRecDepth 100000 in
theorem impl_IsZeroSum.con (k : Nat) (a0_0 : Int) (a0_1 : Int) (a0_2 : Bool) (a0_3 : Bool) (a0_4 : List Int) (a0_5 : List Int) (a0_6 : Int) (a0_7 : Int) (a0_8 : List Int) (a0_9 : Bool) (a0_10 : List Int) (a0_11 : Int) (a0_12 : Int) (a0_13 : Bool) (a0_14 : Bool) (a0_15 : List Int) (a0_16 : List Int) (a0_17 : Int) (a0_18 : Int) (a0_19 : List (List Int)) (a0_20 : List Int) (a0_21 : List Int) (a0_22 : Int) (a0_23 : Int) (a0_24 : Int) (a0_25 : List Int) (a0_26 : List (List Int)) {r : Bool} (h : impl_IsZeroSum.f k a0_0 a0_1 a0_2 a0_3 a0_4 a0_5 a0_6 a0_7 a0_8 a0_9 a0_10 a0_11 a0_12 a0_13 a0_14 a0_15 a0_16 a0_17 a0_18 a0_19 a0_20 a0_21 a0_22 a0_23 a0_24 a0_25 a0_26 = some r) : Contract Try.prog 53 impl_IsZeroSum.sig (dvs impl_IsZeroSum.pk ((a0_0, a0_1, a0_2, a0_3, a0_4, a0_5, a0_6, a0_7, a0_8, a0_9, a0_10, a0_11, a0_12, a0_13, a0_14, a0_15, a0_16, a0_17, a0_18, a0_19, a0_20, a0_21, a0_22, a0_23, a0_24, a0_25, a0_26, ()), ())) (impl_IsZeroSum.enc r) :=
  fn_contract (impl_IsZeroSum.gok k) mixed Try.func53 (show _ = some impl_IsZeroSum.body by kernel_rfl) (LoopsOK_of (show loopsOf impl_IsZeroSum.body = [] by kernel_rfl) all_nil) (show 9 = Try.f53.ntmps by kernel_rfl) (Nat.le_of_ble_eq_true (by kernel_rfl)) (by kernel_rfl) (fun _ h => impl_IsZeroSum.dec_some h) ((impl_IsZeroSum.ev k a0_0 a0_1 a0_2 a0_3 a0_4 a0_5 a0_6 a0_7 a0_8 a0_9 a0_10 a0_11 a0_12 a0_13 a0_14 a0_15 a0_16 a0_17 a0_18 a0_19 a0_20 a0_21 a0_22 a0_23 a0_24 a0_25 a0_26).trans h)
set_option maxRecDepth 100000 in
theorem impl_IsZeroSum.ok {R : Type} (k : Nat) {ds : List DV} {K : List DV → Option R} {r : R} (h0 : impl_IsZeroSum.phi k ds K = some r) : Enters Try.prog 53 ∧ ∃ rs, Contract Try.prog 53 impl_IsZeroSum.sig ds rs ∧ K rs = some r := by
  obtain ⟨⟨⟨a0_0, a0_1, a0_2, a0_3, a0_4, a0_5, a0_6, a0_7, a0_8, a0_9, a0_10, a0_11, a0_12, a0_13, a0_14, a0_15, a0_16, a0_17, a0_18, a0_19, a0_20, a0_21, a0_22, a0_23, a0_24, a0_25, a0_26, _⟩, _⟩, rfl, h⟩ := tellD_some h0
  obtain ⟨x, h1, h2⟩ := Option.bind_eq_some_iff.1 (show ((impl_IsZeroSum.f k a0_0 a0_1 a0_2 a0_3 a0_4 a0_5 a0_6 a0_7 a0_8 a0_9 a0_10 a0_11 a0_12 a0_13 a0_14 a0_15 a0_16 a0_17 a0_18 a0_19 a0_20 a0_21 a0_22 a0_23 a0_24 a0_25 a0_26).bind fun r => K (impl_IsZeroSum.enc r)) = some r from h)
  exact ⟨⟨Try.f53, Try.func53, by kernel_rfl, by kernel_rfl⟩, impl_IsZeroSum.enc x, impl_IsZeroSum.con k a0_0 a0_1 a0_2 a0_3 a0_4 a0_5 a0_6 a0_7 a0_8 a0_9 a0_10 a0_11 a0_12 a0_13 a0_14 a0_15 a0_16 a0_17 a0_18 a0_19 a0_20 a0_21 a0_22 a0_23 a0_24 a0_25 a0_26 h1, h2⟩

def laws_FnExactIsZeroSum.sig : Sig := ⟨[51], [4], [.bor], .own⟩
def laws_FnExactIsZeroSum.live : List (Nat × List Nat) := []
def laws_FnExactIsZeroSum.pk : List DK := [.agg .lent [(.int .i64), (.int .i64), .bool, .bool, (.ints .i64), (.ints .i64), (.int .i64), (.int .i64), (.ints .i64), .bool, (.ints .i64), (.int .i64), (.int .i64), .bool, .bool, (.ints .i64), (.ints .i64), (.int .i64), (.int .i64), .rows, (.ints .i64), (.ints .i64), (.int .i64), (.int .i64), (.int .i64), (.ints .i64), .rows]]
def laws_FnExactIsZeroSum.rk : List DK := [.l .own .bool]
def laws_FnExactIsZeroSum.enc (r : Bool) : List DV := dvs laws_FnExactIsZeroSum.rk (r, ())
def laws_FnExactIsZeroSum.dec (ds : List DV) : Option (Bool) := tellD laws_FnExactIsZeroSum.rk ds (fun u0 => some u0)
set_option maxRecDepth 100000 in
theorem laws_FnExactIsZeroSum.dec_some {ds : List DV} {r : Bool} (h0 : laws_FnExactIsZeroSum.dec ds = some r) : ds = laws_FnExactIsZeroSum.enc r := by
  obtain ⟨⟨u0, _⟩, rfl, h⟩ := tellD_some h0
  cases h
  rfl
def laws_FnExactIsZeroSum.phi {R : Type} (k : Nat) (ds : List DV) (K : List DV → Option R) : Option R := tellD laws_FnExactIsZeroSum.pk ds (fun a0_0 a0_1 a0_2 a0_3 a0_4 a0_5 a0_6 a0_7 a0_8 a0_9 a0_10 a0_11 a0_12 a0_13 a0_14 a0_15 a0_16 a0_17 a0_18 a0_19 a0_20 a0_21 a0_22 a0_23 a0_24 a0_25 a0_26 => (laws_FnExactIsZeroSum.f k a0_0 a0_1 a0_2 a0_3 a0_4 a0_5 a0_6 a0_7 a0_8 a0_9 a0_10 a0_11 a0_12 a0_13 a0_14 a0_15 a0_16 a0_17 a0_18 a0_19 a0_20 a0_21 a0_22 a0_23 a0_24 a0_25 a0_26).bind fun r => K (laws_FnExactIsZeroSum.enc r))
def laws_FnExactIsZeroSum.G {R : Type} (k : Nat) : Glob R := mkG tt [(36, ⟨laws_szTable.sig, laws_szTable.phi k⟩), (38, ⟨laws_toTable.sig, laws_toTable.phi k⟩), (40, ⟨laws_eqTable.sig, laws_eqTable.phi k⟩), (52, ⟨spec_IsZeroSum.sig, spec_IsZeroSum.phi k⟩), (53, ⟨impl_IsZeroSum.sig, impl_IsZeroSum.phi k⟩)] 27
set_option maxRecDepth 100000 in
theorem laws_FnExactIsZeroSum.gok {R : Type} (k : Nat) : GOK Try.prog (laws_FnExactIsZeroSum.G (R := R) k) := GOK_of tok (all_cons (fun _ _ _ h => laws_szTable.ok k h) (all_cons (fun _ _ _ h => laws_toTable.ok k h) (all_cons (fun _ _ _ h => laws_eqTable.ok k h) (all_cons (fun _ _ _ h => spec_IsZeroSum.ok k h) (all_cons (fun _ _ _ h => impl_IsZeroSum.ok k h) all_nil)))))
def laws_FnExactIsZeroSum.tab {R : Type} (k : Nat) : LTab R := fun id K vs hs =>
  none
noncomputable def laws_FnExactIsZeroSum.body : Code := (Try.f13.body).getD .skip
set_option maxRecDepth 100000 in
theorem laws_FnExactIsZeroSum.ev (k : Nat) (a0_0 : Int) (a0_1 : Int) (a0_2 : Bool) (a0_3 : Bool) (a0_4 : List Int) (a0_5 : List Int) (a0_6 : Int) (a0_7 : Int) (a0_8 : List Int) (a0_9 : Bool) (a0_10 : List Int) (a0_11 : Int) (a0_12 : Int) (a0_13 : Bool) (a0_14 : Bool) (a0_15 : List Int) (a0_16 : List Int) (a0_17 : Int) (a0_18 : Int) (a0_19 : List (List Int)) (a0_20 : List Int) (a0_21 : List Int) (a0_22 : Int) (a0_23 : Int) (a0_24 : Int) (a0_25 : List Int) (a0_26 : List (List Int)) : evFn (laws_FnExactIsZeroSum.G k) laws_FnExactIsZeroSum.live (laws_FnExactIsZeroSum.tab k) laws_FnExactIsZeroSum.sig Try.f13 (dvs laws_FnExactIsZeroSum.pk ((a0_0, a0_1, a0_2, a0_3, a0_4, a0_5, a0_6, a0_7, a0_8, a0_9, a0_10, a0_11, a0_12, a0_13, a0_14, a0_15, a0_16, a0_17, a0_18, a0_19, a0_20, a0_21, a0_22, a0_23, a0_24, a0_25, a0_26, ()), ())) laws_FnExactIsZeroSum.dec = laws_FnExactIsZeroSum.f k a0_0 a0_1 a0_2 a0_3 a0_4 a0_5 a0_6 a0_7 a0_8 a0_9 a0_10 a0_11 a0_12 a0_13 a0_14 a0_15 a0_16 a0_17 a0_18 a0_19 a0_20 a0_21 a0_22 a0_23 a0_24 a0_25 a0_26 := by kernel_rfl
set_option maxRecDepth 100000 in
theorem laws_FnExactIsZeroSum.con (k : Nat) (a0_0 : Int) (a0_1 : Int) (a0_2 : Bool) (a0_3 : Bool) (a0_4 : List Int) (a0_5 : List Int) (a0_6 : Int) (a0_7 : Int) (a0_8 : List Int) (a0_9 : Bool) (a0_10 : List Int) (a0_11 : Int) (a0_12 : Int) (a0_13 : Bool) (a0_14 : Bool) (a0_15 : List Int) (a0_16 : List Int) (a0_17 : Int) (a0_18 : Int) (a0_19 : List (List Int)) (a0_20 : List Int) (a0_21 : List Int) (a0_22 : Int) (a0_23 : Int) (a0_24 : Int) (a0_25 : List Int) (a0_26 : List (List Int)) {r : Bool} (h : laws_FnExactIsZeroSum.f k a0_0 a0_1 a0_2 a0_3 a0_4 a0_5 a0_6 a0_7 a0_8 a0_9 a0_10 a0_11 a0_12 a0_13 a0_14 a0_15 a0_16 a0_17 a0_18 a0_19 a0_20 a0_21 a0_22 a0_23 a0_24 a0_25 a0_26 = some r) : Contract Try.prog 13 laws_FnExactIsZeroSum.sig (dvs laws_FnExactIsZeroSum.pk ((a0_0, a0_1, a0_2, a0_3, a0_4, a0_5, a0_6, a0_7, a0_8, a0_9, a0_10, a0_11, a0_12, a0_13, a0_14, a0_15, a0_16, a0_17, a0_18, a0_19, a0_20, a0_21, a0_22, a0_23, a0_24, a0_25, a0_26, ()), ())) (laws_FnExactIsZeroSum.enc r) :=
  fn_contract (laws_FnExactIsZeroSum.gok k) mixed Try.func13 (show _ = some laws_FnExactIsZeroSum.body by kernel_rfl) (LoopsOK_of (show loopsOf laws_FnExactIsZeroSum.body = [] by kernel_rfl) all_nil) (show 27 = Try.f13.ntmps by kernel_rfl) (Nat.le_of_ble_eq_true (by kernel_rfl)) (by kernel_rfl) (fun _ h => laws_FnExactIsZeroSum.dec_some h) ((laws_FnExactIsZeroSum.ev k a0_0 a0_1 a0_2 a0_3 a0_4 a0_5 a0_6 a0_7 a0_8 a0_9 a0_10 a0_11 a0_12 a0_13 a0_14 a0_15 a0_16 a0_17 a0_18 a0_19 a0_20 a0_21 a0_22 a0_23 a0_24 a0_25 a0_26).trans h)
set_option maxRecDepth 100000 in
theorem laws_FnExactIsZeroSum.ok {R : Type} (k : Nat) {ds : List DV} {K : List DV → Option R} {r : R} (h0 : laws_FnExactIsZeroSum.phi k ds K = some r) : Enters Try.prog 13 ∧ ∃ rs, Contract Try.prog 13 laws_FnExactIsZeroSum.sig ds rs ∧ K rs = some r := by
  obtain ⟨⟨⟨a0_0, a0_1, a0_2, a0_3, a0_4, a0_5, a0_6, a0_7, a0_8, a0_9, a0_10, a0_11, a0_12, a0_13, a0_14, a0_15, a0_16, a0_17, a0_18, a0_19, a0_20, a0_21, a0_22, a0_23, a0_24, a0_25, a0_26, _⟩, _⟩, rfl, h⟩ := tellD_some h0
  obtain ⟨x, h1, h2⟩ := Option.bind_eq_some_iff.1 (show ((laws_FnExactIsZeroSum.f k a0_0 a0_1 a0_2 a0_3 a0_4 a0_5 a0_6 a0_7 a0_8 a0_9 a0_10 a0_11 a0_12 a0_13 a0_14 a0_15 a0_16 a0_17 a0_18 a0_19 a0_20 a0_21 a0_22 a0_23 a0_24 a0_25 a0_26).bind fun r => K (laws_FnExactIsZeroSum.enc r)) = some r from h)
  exact ⟨⟨Try.f13, Try.func13, by kernel_rfl, by kernel_rfl⟩, laws_FnExactIsZeroSum.enc x, laws_FnExactIsZeroSum.con k a0_0 a0_1 a0_2 a0_3 a0_4 a0_5 a0_6 a0_7 a0_8 a0_9 a0_10 a0_11 a0_12 a0_13 a0_14 a0_15 a0_16 a0_17 a0_18 a0_19 a0_20 a0_21 a0_22 a0_23 a0_24 a0_25 a0_26 h1, h2⟩
end Go.Proofs.Ytfkejiljabmaaaa
