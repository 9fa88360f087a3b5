/- That the Go functions come to the answers of the plain ones. Printed by a program. -/
import Derived.Test.YtfkejiljabmaaaaT
import Derived.Test.YtfkejiljabmaaaaMFnExactAverageMoves
import Derived.Test.YtfkejiljabmaaaaFFnExactIsRecorded
set_option linter.unusedVariables false
namespace Go.Proofs.Ytfkejiljabmaaaa
open Go Go.Proofs.Ytfkejiljabmaaaa.V Go.Proofs.Ytfkejiljabmaaaa.M

def laws_szRules.sig : Sig := ⟨[47, 3], [3], [.bor, .bor], .own⟩
def laws_szRules.live : List (Nat × List Nat) := []
def laws_szRules.pk : List DK := [.agg .lent [(.int .i64), (.int .i64), .bool, .bool, (.ints .i64), (.ints .i64), (.int .i64), (.int .i64)], .l .lent (.int .i64)]
def laws_szRules.rk : List DK := [.l .own (.int .i64)]
def laws_szRules.enc (r : Int) : List DV := dvs laws_szRules.rk (r, ())
def laws_szRules.dec (ds : List DV) : Option (Int) := tellD laws_szRules.rk ds (fun u0 => some u0)
theorem laws_szRules.dec_some {ds : List DV} {r : Int} (h0 : laws_szRules.dec ds = some r) : ds = laws_szRules.enc r := by
  obtain ⟨⟨u0, _⟩, rfl, h⟩ := tellD_some h0
  cases h
  rfl
def laws_szRules.phi {R : Type} (k : Nat) (ds : List DV) (K : List DV → Option R) : Option R := tellD laws_szRules.pk ds (fun a0_0 a0_1 a0_2 a0_3 a0_4 a0_5 a0_6 a0_7 a1 => (laws_szRules.f k a0_0 a0_1 a0_2 a0_3 a0_4 a0_5 a0_6 a0_7 a1).bind fun r => K (laws_szRules.enc r))
def laws_szRules.G {R : Type} (k : Nat) : Glob R := mkG tt [(56, ⟨laws_szIntS.sig, laws_szIntS.phi k⟩)] 18
theorem laws_szRules.gok {R : Type} (k : Nat) : GOK Try.prog (laws_szRules.G (R := R) k) := GOK_of tok (all_cons (fun _ _ _ h => laws_szIntS.ok k h) all_nil)
def laws_szRules.tab {R : Type} (k : Nat) : LTab R := fun id K vs hs =>
  none
noncomputable def laws_szRules.body : Code := (Try.f41.body).getD .skip
theorem laws_szRules.ev (k : Nat) (a0_0 : Int) (a0_1 : Int) (a0_2 : Bool) (a0_3 : Bool) (a0_4 : List Int) (a0_5 : List Int) (a0_6 : Int) (a0_7 : Int) (a1 : Int) : evFn (laws_szRules.G k) laws_szRules.live (laws_szRules.tab k) laws_szRules.sig Try.f41 (dvs laws_szRules.pk ((a0_0, a0_1, a0_2, a0_3, a0_4, a0_5, a0_6, a0_7, ()), a1, ())) laws_szRules.dec = laws_szRules.f k a0_0 a0_1 a0_2 a0_3 a0_4 a0_5 a0_6 a0_7 a1 := by kernel_rfl
theorem laws_szRules.con (k : Nat) (a0_0 : Int) (a0_1 : Int) (a0_2 : Bool) (a0_3 : Bool) (a0_4 : List Int) (a0_5 : List Int) (a0_6 : Int) (a0_7 : Int) (a1 : Int) {r : Int} (h : laws_szRules.f k a0_0 a0_1 a0_2 a0_3 a0_4 a0_5 a0_6 a0_7 a1 = some r) : Contract Try.prog 41 laws_szRules.sig (dvs laws_szRules.pk ((a0_0, a0_1, a0_2, a0_3, a0_4, a0_5, a0_6, a0_7, ()), a1, ())) (laws_szRules.enc r) :=
  fn_contract (laws_szRules.gok k) mixed Try.func41 (show _ = some laws_szRules.body by kernel_rfl) (LoopsOK_of (show loopsOf laws_szRules.body = [] by kernel_rfl) all_nil) (show 18 = Try.f41.ntmps by kernel_rfl) (Nat.le_of_ble_eq_true (by kernel_rfl)) (by kernel_rfl) (fun _ h => laws_szRules.dec_some h) ((laws_szRules.ev k a0_0 a0_1 a0_2 a0_3 a0_4 a0_5 a0_6 a0_7 a1).trans h)
theorem laws_szRules.ok {R : Type} (k : Nat) {ds : List DV} {K : List DV → Option R} {r : R} (h0 : laws_szRules.phi k ds K = some r) : Enters Try.prog 41 ∧ ∃ rs, Contract Try.prog 41 laws_szRules.sig ds rs ∧ K rs = some r := by
  obtain ⟨⟨⟨a0_0, a0_1, a0_2, a0_3, a0_4, a0_5, a0_6, a0_7, _⟩, a1, _⟩, rfl, h⟩ := tellD_some h0
  obtain ⟨x, h1, h2⟩ := Option.bind_eq_some_iff.1 (show ((laws_szRules.f k a0_0 a0_1 a0_2 a0_3 a0_4 a0_5 a0_6 a0_7 a1).bind fun r => K (laws_szRules.enc r)) = some r from h)
  exact ⟨⟨Try.f41, Try.func41, by kernel_rfl, by kernel_rfl⟩, laws_szRules.enc x, laws_szRules.con k a0_0 a0_1 a0_2 a0_3 a0_4 a0_5 a0_6 a0_7 a1 h1, h2⟩

def laws_szGame.sig : Sig := ⟨[49, 3], [3], [.bor, .bor], .own⟩
def laws_szGame.live : List (Nat × List Nat) := []
def laws_szGame.pk : List DK := [.agg .lent [(.int .i64), (.int .i64), .bool, .bool, (.ints .i64), (.ints .i64), (.int .i64), (.int .i64), .rows, (.ints .i64), (.ints .i64), (.int .i64), (.int .i64), (.int .i64)], .l .lent (.int .i64)]
def laws_szGame.rk : List DK := [.l .own (.int .i64)]
def laws_szGame.enc (r : Int) : List DV := dvs laws_szGame.rk (r, ())
def laws_szGame.dec (ds : List DV) : Option (Int) := tellD laws_szGame.rk ds (fun u0 => some u0)
set_option maxRecDepth 100000 in
theorem laws_szGame.dec_some {ds : List DV} {r : Int} (h0 : laws_szGame.dec ds = some r) : ds = laws_szGame.enc r := by
  obtain ⟨⟨u0, _⟩, rfl, h⟩ := tellD_some h0
  cases h
  rfl
def laws_szGame.phi {R : Type} (k : Nat) (ds : List DV) (K : List DV → Option R) : Option R := tellD laws_szGame.pk ds (fun a0_0 a0_1 a0_2 a0_3 a0_4 a0_5 a0_6 a0_7 a0_8 a0_9 a0_10 a0_11 a0_12 a0_13 a1 => (laws_szGame.f k a0_0 a0_1 a0_2 a0_3 a0_4 a0_5 a0_6 a0_7 a0_8 a0_9 a0_10 a0_11 a0_12 a0_13 a1).bind fun r => K (laws_szGame.enc r))
def laws_szGame.G {R : Type} (k : Nat) : Glob R := mkG tt [(20, ⟨laws_szIntSS.sig, laws_szIntSS.phi k⟩), (41, ⟨laws_szRules.sig, laws_szRules.phi k⟩), (56, ⟨laws_szIntS.sig, laws_szIntS.phi k⟩)] 30
set_option maxRecDepth 100000 in
theorem laws_szGame.gok {R : Type} (k : Nat) : GOK Try.prog (laws_szGame.G (R := R) k) := GOK_of tok (all_cons (fun _ _ _ h => laws_szIntSS.ok k h) (all_cons (fun _ _ _ h => laws_szRules.ok k h) (all_cons (fun _ _ _ h => laws_szIntS.ok k h) all_nil)))
def laws_szGame.tab {R : Type} (k : Nat) : LTab R := fun id K vs hs =>
  none
noncomputable def laws_szGame.body : Code := (Try.f69.body).getD .skip
set_option maxRecDepth 100000 in
theorem laws_szGame.ev (k : Nat) (a0_0 : Int) (a0_1 : Int) (a0_2 : Bool) (a0_3 : Bool) (a0_4 : List Int) (a0_5 : List Int) (a0_6 : Int) (a0_7 : Int) (a0_8 : List (List Int)) (a0_9 : List Int) (a0_10 : List Int) (a0_11 : Int) (a0_12 : Int) (a0_13 : Int) (a1 : Int) : evFn (laws_szGame.G k) laws_szGame.live (laws_szGame.tab k) laws_szGame.sig Try.f69 (dvs laws_szGame.pk ((a0_0, a0_1, a0_2, a0_3, a0_4, a0_5, a0_6, a0_7, a0_8, a0_9, a0_10, a0_11, a0_12, a0_13, ()), a1, ())) laws_szGame.dec = laws_szGame.f k a0_0 a0_1 a0_2 a0_3 a0_4 a0_5 a0_6 a0_7 a0_8 a0_9 a0_10 a0_11 a0_12 a0_13 a1 := by kernel_rfl
set_option maxRecDepth 100000 in
theorem laws_szGame.con (k : Nat) (a0_0 : Int) (a0_1 : Int) (a0_2 : Bool) (a0_3 : Bool) (a0_4 : List Int) (a0_5 : List Int) (a0_6 : Int) (a0_7 : Int) (a0_8 : List (List Int)) (a0_9 : List Int) (a0_10 : List Int) (a0_11 : Int) (a0_12 : Int) (a0_13 : Int) (a1 : Int) {r : Int} (h : laws_szGame.f k a0_0 a0_1 a0_2 a0_3 a0_4 a0_5 a0_6 a0_7 a0_8 a0_9 a0_10 a0_11 a0_12 a0_13 a1 = some r) : Contract Try.prog 69 laws_szGame.sig (dvs laws_szGame.pk ((a0_0, a0_1, a0_2, a0_3, a0_4, a0_5, a0_6, a0_7, a0_8, a0_9, a0_10, a0_11, a0_12, a0_13, ()), a1, ())) (laws_szGame.enc r) :=
  fn_contract (laws_szGame.gok k) mixed Try.func69 (show _ = some laws_szGame.body by kernel_rfl) (LoopsOK_of (show loopsOf laws_szGame.body = [] by kernel_rfl) all_nil) (show 30 = Try.f69.ntmps by kernel_rfl) (Nat.le_of_ble_eq_true (by kernel_rfl)) (by kernel_rfl) (fun _ h => laws_szGame.dec_some h) ((laws_szGame.ev k a0_0 a0_1 a0_2 a0_3 a0_4 a0_5 a0_6 a0_7 a0_8 a0_9 a0_10 a0_11 a0_12 a0_13 a1).trans h)
set_option maxRecDepth 100000 in
theorem laws_szGame.ok {R : Type} (k : Nat) {ds : List DV} {K : List DV → Option R} {r : R} (h0 : laws_szGame.phi k ds K = some r) : Enters Try.prog 69 ∧ ∃ rs, Contract Try.prog 69 laws_szGame.sig ds rs ∧ K rs = some r := by
  obtain ⟨⟨⟨a0_0, a0_1, a0_2, a0_3, a0_4, a0_5, a0_6, a0_7, a0_8, a0_9, a0_10, a0_11, a0_12, a0_13, _⟩, a1, _⟩, rfl, h⟩ := tellD_some h0
  obtain ⟨x, h1, h2⟩ := Option.bind_eq_some_iff.1 (show ((laws_szGame.f k a0_0 a0_1 a0_2 a0_3 a0_4 a0_5 a0_6 a0_7 a0_8 a0_9 a0_10 a0_11 a0_12 a0_13 a1).bind fun r => K (laws_szGame.enc r)) = some r from h)
  exact ⟨⟨Try.f69, Try.func69, by kernel_rfl, by kernel_rfl⟩, laws_szGame.enc x, laws_szGame.con k a0_0 a0_1 a0_2 a0_3 a0_4 a0_5 a0_6 a0_7 a0_8 a0_9 a0_10 a0_11 a0_12 a0_13 a1 h1, h2⟩

def laws_szTable.sig : Sig := ⟨[51, 3], [3], [.bor, .bor], .own⟩
def laws_szTable.live : List (Nat × List Nat) := []
def laws_szTable.pk : List DK := [.agg .lent [(.int .i64), (.int .i64), .bool, .bool, (.ints .i64), (.ints .i64), (.int .i64), (.int .i64), (.ints .i64), .bool, (.ints .i64), (.int .i64), (.int .i64), .bool, .bool, (.ints .i64), (.ints .i64), (.int .i64), (.int .i64), .rows, (.ints .i64), (.ints .i64), (.int .i64), (.int .i64), (.int .i64), (.ints .i64), .rows], .l .lent (.int .i64)]
def laws_szTable.rk : List DK := [.l .own (.int .i64)]
def laws_szTable.enc (r : Int) : List DV := dvs laws_szTable.rk (r, ())
def laws_szTable.dec (ds : List DV) : Option (Int) := tellD laws_szTable.rk ds (fun u0 => some u0)
set_option maxRecDepth 100000 in
theorem laws_szTable.dec_some {ds : List DV} {r : Int} (h0 : laws_szTable.dec ds = some r) : ds = laws_szTable.enc r := by
  obtain ⟨⟨u0, _⟩, rfl, h⟩ := tellD_some h0
  cases h
  rfl
def laws_szTable.phi {R : Type} (k : Nat) (ds : List DV) (K : List DV → Option R) : Option R := tellD laws_szTable.pk ds (fun a0_0 a0_1 a0_2 a0_3 a0_4 a0_5 a0_6 a0_7 a0_8 a0_9 a0_10 a0_11 a0_12 a0_13 a0_14 a0_15 a0_16 a0_17 a0_18 a0_19 a0_20 a0_21 a0_22 a0_23 a0_24 a0_25 a0_26 a1 => (laws_szTable.f k a0_0 a0_1 a0_2 a0_3 a0_4 a0_5 a0_6 a0_7 a0_8 a0_9 a0_10 a0_11 a0_12 a0_13 a0_14 a0_15 a0_16 a0_17 a0_18 a0_19 a0_20 a0_21 a0_22 a0_23 a0_24 a0_25 a0_26 a1).bind fun r => K (laws_szTable.enc r))
def laws_szTable.G {R : Type} (k : Nat) : Glob R := mkG tt [(20, ⟨laws_szIntSS.sig, laws_szIntSS.phi k⟩), (41, ⟨laws_szRules.sig, laws_szRules.phi k⟩), (56, ⟨laws_szIntS.sig, laws_szIntS.phi k⟩), (69, ⟨laws_szGame.sig, laws_szGame.phi k⟩)] 42
set_option maxRecDepth 100000 in
theorem laws_szTable.gok {R : Type} (k : Nat) : GOK Try.prog (laws_szTable.G (R := R) k) := GOK_of tok (all_cons (fun _ _ _ h => laws_szIntSS.ok k h) (all_cons (fun _ _ _ h => laws_szRules.ok k h) (all_cons (fun _ _ _ h => laws_szIntS.ok k h) (all_cons (fun _ _ _ h => laws_szGame.ok k h) all_nil))))
def laws_szTable.tab {R : Type} (k : Nat) : LTab R := fun id K vs hs =>
  none
noncomputable def laws_szTable.body : Code := (Try.f36.body).getD .skip
set_option maxRecDepth 100000 in
theorem laws_szTable.ev (k : Nat) (a0_0 : Int) (a0_1 : Int) (a0_2 : Bool) (a0_3 : Bool) (a0_4 : List Int) (a0_5 : List Int) (a0_6 : Int) (a0_7 : Int) (a0_8 : List Int) (a0_9 : Bool) (a0_10 : List Int) (a0_11 : Int) (a0_12 : Int) (a0_13 : Bool) (a0_14 : Bool) (a0_15 : List Int) (a0_16 : List Int) (a0_17 : Int) (a0_18 : Int) (a0_19 : List (List Int)) (a0_20 : List Int) (a0_21 : List Int) (a0_22 : Int) (a0_23 : Int) (a0_24 : Int) (a0_25 : List Int) (a0_26 : List (List Int)) (a1 : Int) : evFn (laws_szTable.G k) laws_szTable.live (laws_szTable.tab k) laws_szTable.sig Try.f36 (dvs laws_szTable.pk ((a0_0, a0_1, a0_2, a0_3, a0_4, a0_5, a0_6, a0_7, a0_8, a0_9, a0_10, a0_11, a0_12, a0_13, a0_14, a0_15, a0_16, a0_17, a0_18, a0_19, a0_20, a0_21, a0_22, a0_23, a0_24, a0_25, a0_26, ()), a1, ())) laws_szTable.dec = laws_szTable.f k a0_0 a0_1 a0_2 a0_3 a0_4 a0_5 a0_6 a0_7 a0_8 a0_9 a0_10 a0_11 a0_12 a0_13 a0_14 a0_15 a0_16 a0_17 a0_18 a0_19 a0_20 a0_21 a0_22 a0_23 a0_24 a0_25 a0_26 a1 := by kernel_rfl
set_option maxRecDepth 100000 in
theorem laws_szTable.con (k : Nat) (a0_0 : Int) (a0_1 : Int) (a0_2 : Bool) (a0_3 : Bool) (a0_4 : List Int) (a0_5 : List Int) (a0_6 : Int) (a0_7 : Int) (a0_8 : List Int) (a0_9 : Bool) (a0_10 : List Int) (a0_11 : Int) (a0_12 : Int) (a0_13 : Bool) (a0_14 : Bool) (a0_15 : List Int) (a0_16 : List Int) (a0_17 : Int) (a0_18 : Int) (a0_19 : List (List Int)) (a0_20 : List Int) (a0_21 : List Int) (a0_22 : Int) (a0_23 : Int) (a0_24 : Int) (a0_25 : List Int) (a0_26 : List (List Int)) (a1 : Int) {r : Int} (h : laws_szTable.f k a0_0 a0_1 a0_2 a0_3 a0_4 a0_5 a0_6 a0_7 a0_8 a0_9 a0_10 a0_11 a0_12 a0_13 a0_14 a0_15 a0_16 a0_17 a0_18 a0_19 a0_20 a0_21 a0_22 a0_23 a0_24 a0_25 a0_26 a1 = some r) : Contract Try.prog 36 laws_szTable.sig (dvs laws_szTable.pk ((a0_0, a0_1, a0_2, a0_3, a0_4, a0_5, a0_6, a0_7, a0_8, a0_9, a0_10, a0_11, a0_12, a0_13, a0_14, a0_15, a0_16, a0_17, a0_18, a0_19, a0_20, a0_21, a0_22, a0_23, a0_24, a0_25, a0_26, ()), a1, ())) (laws_szTable.enc r) :=
  fn_contract (laws_szTable.gok k) mixed Try.func36 (show _ = some laws_szTable.body by kernel_rfl) (LoopsOK_of (show loopsOf laws_szTable.body = [] by kernel_rfl) all_nil) (show 42 = Try.f36.ntmps by kernel_rfl) (Nat.le_of_ble_eq_true (by kernel_rfl)) (by kernel_rfl) (fun _ h => laws_szTable.dec_some h) ((laws_szTable.ev k a0_0 a0_1 a0_2 a0_3 a0_4 a0_5 a0_6 a0_7 a0_8 a0_9 a0_10 a0_11 a0_12 a0_13 a0_14 a0_15 a0_16 a0_17 a0_18 a0_19 a0_20 a0_21 a0_22 a0_23 a0_24 a0_25 a0_26 a1).trans h)
set_option maxRecDepth 100000 in
theorem laws_szTable.ok {R : Type} (k : Nat) {ds : List DV} {K : List DV → Option R} {r : R} (h0 : laws_szTable.phi k ds K = some r) : Enters Try.prog 36 ∧ ∃ rs, Contract Try.prog 36 laws_szTable.sig ds rs ∧ K rs = some r := by
  obtain ⟨⟨⟨a0_0, a0_1, a0_2, a0_3, a0_4, a0_5, a0_6, a0_7, a0_8, a0_9, a0_10, a0_11, a0_12, a0_13, a0_14, a0_15, a0_16, a0_17, a0_18, a0_19, a0_20, a0_21, a0_22, a0_23, a0_24, a0_25, a0_26, _⟩, a1, _⟩, rfl, h⟩ := tellD_some h0
  obtain ⟨x, h1, h2⟩ := Option.bind_eq_some_iff.1 (show ((laws_szTable.f k a0_0 a0_1 a0_2 a0_3 a0_4 a0_5 a0_6 a0_7 a0_8 a0_9 a0_10 a0_11 a0_12 a0_13 a0_14 a0_15 a0_16 a0_17 a0_18 a0_19 a0_20 a0_21 a0_22 a0_23 a0_24 a0_25 a0_26 a1).bind fun r => K (laws_szTable.enc r)) = some r from h)
  exact ⟨⟨Try.f36, Try.func36, by kernel_rfl, by kernel_rfl⟩, laws_szTable.enc x, laws_szTable.con k a0_0 a0_1 a0_2 a0_3 a0_4 a0_5 a0_6 a0_7 a0_8 a0_9 a0_10 a0_11 a0_12 a0_13 a0_14 a0_15 a0_16 a0_17 a0_18 a0_19 a0_20 a0_21 a0_22 a0_23 a0_24 a0_25 a0_26 a1 h1, h2⟩

def spec_IsRecorded.sig : Sig := ⟨[58], [4], [.bor], .own⟩
def spec_IsRecorded.live : List (Nat × List Nat) := []
def spec_IsRecorded.pk : List DK := [.agg .lent [(.int .i64), (.int .i64), .bool, .bool, (.ints .i64), (.ints .i64), (.int .i64), (.int .i64), (.ints .i64), .bool, (.ints .i64), (.int .i64), (.int .i64), .bool, .bool, (.ints .i64), (.ints .i64), (.int .i64), (.int .i64), .rows, (.ints .i64), (.ints .i64), (.int .i64), (.int .i64), (.int .i64), (.ints .i64), .rows]]
def spec_IsRecorded.rk : List DK := [.l .own .bool]
def spec_IsRecorded.enc (r : Bool) : List DV := dvs spec_IsRecorded.rk (r, ())
def spec_IsRecorded.dec (ds : List DV) : Option (Bool) := tellD spec_IsRecorded.rk ds (fun u0 => some u0)
set_option maxRecDepth 100000 in
theorem spec_IsRecorded.dec_some {ds : List DV} {r : Bool} (h0 : spec_IsRecorded.dec ds = some r) : ds = spec_IsRecorded.enc r := by
  obtain ⟨⟨u0, _⟩, rfl, h⟩ := tellD_some h0
  cases h
  rfl
def spec_IsRecorded.phi {R : Type} (k : Nat) (ds : List DV) (K : List DV → Option R) : Option R := tellD spec_IsRecorded.pk ds (fun a0_0 a0_1 a0_2 a0_3 a0_4 a0_5 a0_6 a0_7 a0_8 a0_9 a0_10 a0_11 a0_12 a0_13 a0_14 a0_15 a0_16 a0_17 a0_18 a0_19 a0_20 a0_21 a0_22 a0_23 a0_24 a0_25 a0_26 => (spec_IsRecorded.f k a0_0 a0_1 a0_2 a0_3 a0_4 a0_5 a0_6 a0_7 a0_8 a0_9 a0_10 a0_11 a0_12 a0_13 a0_14 a0_15 a0_16 a0_17 a0_18 a0_19 a0_20 a0_21 a0_22 a0_23 a0_24 a0_25 a0_26).bind fun r => K (spec_IsRecorded.enc r))
def spec_IsRecorded.G {R : Type} (k : Nat) : Glob R := mkG tt [] 10
set_option maxRecDepth 100000 in
theorem spec_IsRecorded.gok {R : Type} (k : Nat) : GOK Try.prog (spec_IsRecorded.G (R := R) k) := GOK_of tok all_nil
def spec_IsRecorded.tab {R : Type} (k : Nat) : LTab R := fun id K vs hs =>
  none
noncomputable def spec_IsRecorded.body : Code := (Try.f37.body).getD .skip
set_option maxRecDepth 100000 in
theorem spec_IsRecorded.ev (k : Nat) (a0_0 : Int) (a0_1 : Int) (a0_2 : Bool) (a0_3 : Bool) (a0_4 : List Int) (a0_5 : List Int) (a0_6 : Int) (a0_7 : Int) (a0_8 : List Int) (a0_9 : Bool) (a0_10 : List Int) (a0_11 : Int) (a0_12 : Int) (a0_13 : Bool) (a0_14 : Bool) (a0_15 : List Int) (a0_16 : List Int) (a0_17 : Int) (a0_18 : Int) (a0_19 : List (List Int)) (a0_20 : List Int) (a0_21 : List Int) (a0_22 : Int) (a0_23 : Int) (a0_24 : Int) (a0_25 : List Int) (a0_26 : List (List Int)) : evFn (spec_IsRecorded.G k) spec_IsRecorded.live (spec_IsRecorded.tab k) spec_IsRecorded.sig Try.f37 (dvs spec_IsRecorded.pk ((a0_0, a0_1, a0_2, a0_3, a0_4, a0_5, a0_6, a0_7, a0_8, a0_9, a0_10, a0_11, a0_12, a0_13, a0_14, a0_15, a0_16, a0_17, a0_18, a0_19, a0_20, a0_21, a0_22, a0_23, a0_24, a0_25, a0_26, ()), ())) spec_IsRecorded.dec = spec_IsRecorded.f k a0_0 a0_1 a0_2 a0_3 a0_4 a0_5 a0_6 a0_7 a0_8 a0_9 a0_10 a0_11 a0_12 a0_13 a0_14 a0_15 a0_16 a0_17 a0_18 a0_19 a0_20 a0_21 a0_22 a0_23 a0_24 a0_25 a0_26 := by kernel_rfl
set_option maxRecDepth 100000 in
theorem spec_IsRecorded.con (k : Nat) (a0_0 : Int) (a0_1 : Int) (a0_2 : Bool) (a0_3 : Bool) (a0_4 : List Int) (a0_5 : List Int) (a0_6 : Int) (a0_7 : Int) (a0_8 : List Int) (a0_9 : Bool) (a0_10 : List Int) (a0_11 : Int) (a0_12 : Int) (a0_13 : Bool) (a0_14 : Bool) (a0_15 : List Int) (a0_16 : List Int) (a0_17 : Int) (a0_18 : Int) (a0_19 : List (List Int)) (a0_20 : List Int) (a0_21 : List Int) (a0_22 : Int) (a0_23 : Int) (a0_24 : Int) (a0_25 : List Int) (a0_26 : List (List Int)) {r : Bool} (h : spec_IsRecorded.f k a0_0 a0_1 a0_2 a0_3 a0_4 a0_5 a0_6 a0_7 a0_8 a0_9 a0_10 a0_11 a0_12 a0_13 a0_14 a0_15 a0_16 a0_17 a0_18 a0_19 a0_20 a0_21 a0_22 a0_23 a0_24 a0_25 a0_26 = some r) : Contract Try.prog 37 spec_IsRecorded.sig (dvs spec_IsRecorded.pk ((a0_0, a0_1, a0_2, a0_3, a0_4, a0_5, a0_6, a0_7, a0_8, a0_9, a0_10, a0_11, a0_12, a0_13, a0_14, a0_15, a0_16, a0_17, a0_18, a0_19, a0_20, a0_21, a0_22, a0_23, a0_24, a0_25, a0_26, ()), ())) (spec_IsRecorded.enc r) :=
  fn_contract (spec_IsRecorded.gok k) mixed Try.func37 (show _ = some spec_IsRecorded.body by kernel_rfl) (LoopsOK_of (show loopsOf spec_IsRecorded.body = [] by kernel_rfl) all_nil) (show 10 = Try.f37.ntmps by kernel_rfl) (Nat.le_of_ble_eq_true (by kernel_rfl)) (by kernel_rfl) (fun _ h => spec_IsRecorded.dec_some h) ((spec_IsRecorded.ev k a0_0 a0_1 a0_2 a0_3 a0_4 a0_5 a0_6 a0_7 a0_8 a0_9 a0_10 a0_11 a0_12 a0_13 a0_14 a0_15 a0_16 a0_17 a0_18 a0_19 a0_20 a0_21 a0_22 a0_23 a0_24 a0_25 a0_26).trans h)
set_option maxRecDepth 100000 in
theorem spec_IsRecorded.ok {R : Type} (k : Nat) {ds : List DV} {K : List DV → Option R} {r : R} (h0 : spec_IsRecorded.phi k ds K = some r) : Enters Try.prog 37 ∧ ∃ rs, Contract Try.prog 37 spec_IsRecorded.sig ds rs ∧ K rs = some r := by
  obtain ⟨⟨⟨a0_0, a0_1, a0_2, a0_3, a0_4, a0_5, a0_6, a0_7, a0_8, a0_9, a0_10, a0_11, a0_12, a0_13, a0_14, a0_15, a0_16, a0_17, a0_18, a0_19, a0_20, a0_21, a0_22, a0_23, a0_24, a0_25, a0_26, _⟩, _⟩, rfl, h⟩ := tellD_some h0
  obtain ⟨x, h1, h2⟩ := Option.bind_eq_some_iff.1 (show ((spec_IsRecorded.f k a0_0 a0_1 a0_2 a0_3 a0_4 a0_5 a0_6 a0_7 a0_8 a0_9 a0_10 a0_11 a0_12 a0_13 a0_14 a0_15 a0_16 a0_17 a0_18 a0_19 a0_20 a0_21 a0_22 a0_23 a0_24 a0_25 a0_26).bind fun r => K (spec_IsRecorded.enc r)) = some r from h)
  exact ⟨⟨Try.f37, Try.func37, by kernel_rfl, by kernel_rfl⟩, spec_IsRecorded.enc x, spec_IsRecorded.con k a0_0 a0_1 a0_2 a0_3 a0_4 a0_5 a0_6 a0_7 a0_8 a0_9 a0_10 a0_11 a0_12 a0_13 a0_14 a0_15 a0_16 a0_17 a0_18 a0_19 a0_20 a0_21 a0_22 a0_23 a0_24 a0_25 a0_26 h1, h2⟩

def laws_toRules.sig : Sig := ⟨[47], [54], [.bor], .own⟩
def laws_toRules.live : List (Nat × List Nat) := []
def laws_toRules.pk : List DK := [.agg .lent [(.int .i64), (.int .i64), .bool, .bool, (.ints .i64), (.ints .i64), (.int .i64), (.int .i64)]]
def laws_toRules.rk : List DK := [.agg .own [(.int .i64), (.int .i64), .bool, .bool, (.ints .i64), (.ints .i64), (.int .i64), (.int .i64)]]
def laws_toRules.enc (r : Int × Int × Bool × Bool × List Int × List Int × Int × Int) : List DV := dvs laws_toRules.rk ((r.1, r.2.1, r.2.2.1, r.2.2.2.1, r.2.2.2.2.1, r.2.2.2.2.2.1, r.2.2.2.2.2.2.1, r.2.2.2.2.2.2.2, ()), ())
def laws_toRules.dec (ds : List DV) : Option (Int × Int × Bool × Bool × List Int × List Int × Int × Int) := tellD laws_toRules.rk ds (fun u0 u1 u2 u3 u4 u5 u6 u7 => some (u0, u1, u2, u3, u4, u5, u6, u7))
theorem laws_toRules.dec_some {ds : List DV} {r : Int × Int × Bool × Bool × List Int × List Int × Int × Int} (h0 : laws_toRules.dec ds = some r) : ds = laws_toRules.enc r := by
  obtain ⟨⟨⟨u0, u1, u2, u3, u4, u5, u6, u7, _⟩, _⟩, rfl, h⟩ := tellD_some h0
  cases h
  rfl
def laws_toRules.phi {R : Type} (k : Nat) (ds : List DV) (K : List DV → Option R) : Option R := tellD laws_toRules.pk ds (fun a0_0 a0_1 a0_2 a0_3 a0_4 a0_5 a0_6 a0_7 => (laws_toRules.f k a0_0 a0_1 a0_2 a0_3 a0_4 a0_5 a0_6 a0_7).bind fun r => K (laws_toRules.enc r))
def laws_toRules.G {R : Type} (k : Nat) : Glob R := mkG tt [(17, ⟨laws_toIntS.sig, laws_toIntS.phi k⟩)] 31
theorem laws_toRules.gok {R : Type} (k : Nat) : GOK Try.prog (laws_toRules.G (R := R) k) := GOK_of tok (all_cons (fun _ _ _ h => laws_toIntS.ok k h) all_nil)
def laws_toRules.tab {R : Type} (k : Nat) : LTab R := fun id K vs hs =>
  none
noncomputable def laws_toRules.body : Code := (Try.f43.body).getD .skip
theorem laws_toRules.ev (k : Nat) (a0_0 : Int) (a0_1 : Int) (a0_2 : Bool) (a0_3 : Bool) (a0_4 : List Int) (a0_5 : List Int) (a0_6 : Int) (a0_7 : Int) : evFn (laws_toRules.G k) laws_toRules.live (laws_toRules.tab k) laws_toRules.sig Try.f43 (dvs laws_toRules.pk ((a0_0, a0_1, a0_2, a0_3, a0_4, a0_5, a0_6, a0_7, ()), ())) laws_toRules.dec = laws_toRules.f k a0_0 a0_1 a0_2 a0_3 a0_4 a0_5 a0_6 a0_7 := by kernel_rfl
theorem laws_toRules.con (k : Nat) (a0_0 : Int) (a0_1 : Int) (a0_2 : Bool) (a0_3 : Bool) (a0_4 : List Int) (a0_5 : List Int) (a0_6 : Int) (a0_7 : Int) {r : Int × Int × Bool × Bool × List Int × List Int × Int × Int} (h : laws_toRules.f k a0_0 a0_1 a0_2 a0_3 a0_4 a0_5 a0_6 a0_7 = some r) : Contract Try.prog 43 laws_toRules.sig (dvs laws_toRules.pk ((a0_0, a0_1, a0_2, a0_3, a0_4, a0_5, a0_6, a0_7, ()), ())) (laws_toRules.enc r) :=
  fn_contract (laws_toRules.gok k) mixed Try.func43 (show _ = some laws_toRules.body by kernel_rfl) (LoopsOK_of (show loopsOf laws_toRules.body = [] by kernel_rfl) all_nil) (show 31 = Try.f43.ntmps by kernel_rfl) (Nat.le_of_ble_eq_true (by kernel_rfl)) (by kernel_rfl) (fun _ h => laws_toRules.dec_some h) ((laws_toRules.ev k a0_0 a0_1 a0_2 a0_3 a0_4 a0_5 a0_6 a0_7).trans h)
theorem laws_toRules.ok {R : Type} (k : Nat) {ds : List DV} {K : List DV → Option R} {r : R} (h0 : laws_toRules.phi k ds K = some r) : Enters Try.prog 43 ∧ ∃ rs, Contract Try.prog 43 laws_toRules.sig ds rs ∧ K rs = some r := by
  obtain ⟨⟨⟨a0_0, a0_1, a0_2, a0_3, a0_4, a0_5, a0_6, a0_7, _⟩, _⟩, rfl, h⟩ := tellD_some h0
  obtain ⟨x, h1, h2⟩ := Option.bind_eq_some_iff.1 (show ((laws_toRules.f k a0_0 a0_1 a0_2 a0_3 a0_4 a0_5 a0_6 a0_7).bind fun r => K (laws_toRules.enc r)) = some r from h)
  exact ⟨⟨Try.f43, Try.func43, by kernel_rfl, by kernel_rfl⟩, laws_toRules.enc x, laws_toRules.con k a0_0 a0_1 a0_2 a0_3 a0_4 a0_5 a0_6 a0_7 h1, h2⟩

def laws_toGame.sig : Sig := ⟨[49], [56], [.bor], .own⟩
def laws_toGame.live : List (Nat × List Nat) := []
def laws_toGame.pk : List DK := [.agg .lent [(.int .i64), (.int .i64), .bool, .bool, (.ints .i64), (.ints .i64), (.int .i64), (.int .i64), .rows, (.ints .i64), (.ints .i64), (.int .i64), (.int .i64), (.int .i64)]]
def laws_toGame.rk : List DK := [.agg .own [(.int .i64), (.int .i64), .bool, .bool, (.ints .i64), (.ints .i64), (.int .i64), (.int .i64), .rows, (.ints .i64), (.ints .i64), (.int .i64), (.int .i64), (.int .i64)]]
def laws_toGame.enc (r : Int × Int × Bool × Bool × List Int × List Int × Int × Int × List (List Int) × List Int × List Int × Int × Int × Int) : List DV := dvs laws_toGame.rk ((r.1, r.2.1, r.2.2.1, r.2.2.2.1, r.2.2.2.2.1, r.2.2.2.2.2.1, r.2.2.2.2.2.2.1, r.2.2.2.2.2.2.2.1, r.2.2.2.2.2.2.2.2.1, r.2.2.2.2.2.2.2.2.2.1, r.2.2.2.2.2.2.2.2.2.2.1, r.2.2.2.2.2.2.2.2.2.2.2.1, r.2.2.2.2.2.2.2.2.2.2.2.2.1, r.2.2.2.2.2.2.2.2.2.2.2.2.2, ()), ())
def laws_toGame.dec (ds : List DV) : Option (Int × Int × Bool × Bool × List Int × List Int × Int × Int × List (List Int) × List Int × List Int × Int × Int × Int) := tellD laws_toGame.rk ds (fun u0 u1 u2 u3 u4 u5 u6 u7 u8 u9 u10 u11 u12 u13 => some (u0, u1, u2, u3, u4, u5, u6, u7, u8, u9, u10, u11, u12, u13))
set_option maxRecDepth 100000 in
theorem laws_toGame.dec_some {ds : List DV} {r : Int × Int × Bool × Bool × List Int × List Int × Int × Int × List (List Int) × List Int × List Int × Int × Int × Int} (h0 : laws_toGame.dec ds = some r) : ds = laws_toGame.enc r := by
  obtain ⟨⟨⟨u0, u1, u2, u3, u4, u5, u6, u7, u8, u9, u10, u11, u12, u13, _⟩, _⟩, rfl, h⟩ := tellD_some h0
  cases h
  rfl
def laws_toGame.phi {R : Type} (k : Nat) (ds : List DV) (K : List DV → Option R) : Option R := tellD laws_toGame.pk ds (fun a0_0 a0_1 a0_2 a0_3 a0_4 a0_5 a0_6 a0_7 a0_8 a0_9 a0_10 a0_11 a0_12 a0_13 => (laws_toGame.f k a0_0 a0_1 a0_2 a0_3 a0_4 a0_5 a0_6 a0_7 a0_8 a0_9 a0_10 a0_11 a0_12 a0_13).bind fun r => K (laws_toGame.enc r))
def laws_toGame.G {R : Type} (k : Nat) : Glob R := mkG tt [(17, ⟨laws_toIntS.sig, laws_toIntS.phi k⟩), (22, ⟨laws_toIntSS.sig, laws_toIntSS.phi k⟩), (43, ⟨laws_toRules.sig, laws_toRules.phi k⟩)] 30
set_option maxRecDepth 100000 in
theorem laws_toGame.gok {R : Type} (k : Nat) : GOK Try.prog (laws_toGame.G (R := R) k) := GOK_of tok (all_cons (fun _ _ _ h => laws_toIntS.ok k h) (all_cons (fun _ _ _ h => laws_toIntSS.ok k h) (all_cons (fun _ _ _ h => laws_toRules.ok k h) all_nil)))
def laws_toGame.tab {R : Type} (k : Nat) : LTab R := fun id K vs hs =>
  none
noncomputable def laws_toGame.body : Code := (Try.f70.body).getD .skip
set_option maxRecDepth 100000 in
theorem laws_toGame.ev (k : Nat) (a0_0 : Int) (a0_1 : Int) (a0_2 : Bool) (a0_3 : Bool) (a0_4 : List Int) (a0_5 : List Int) (a0_6 : Int) (a0_7 : Int) (a0_8 : List (List Int)) (a0_9 : List Int) (a0_10 : List Int) (a0_11 : Int) (a0_12 : Int) (a0_13 : Int) : evFn (laws_toGame.G k) laws_toGame.live (laws_toGame.tab k) laws_toGame.sig Try.f70 (dvs laws_toGame.pk ((a0_0, a0_1, a0_2, a0_3, a0_4, a0_5, a0_6, a0_7, a0_8, a0_9, a0_10, a0_11, a0_12, a0_13, ()), ())) laws_toGame.dec = laws_toGame.f k a0_0 a0_1 a0_2 a0_3 a0_4 a0_5 a0_6 a0_7 a0_8 a0_9 a0_10 a0_11 a0_12 a0_13 := by kernel_rfl
set_option maxRecDepth 100000 in
theorem laws_toGame.con (k : Nat) (a0_0 : Int) (a0_1 : Int) (a0_2 : Bool) (a0_3 : Bool) (a0_4 : List Int) (a0_5 : List Int) (a0_6 : Int) (a0_7 : Int) (a0_8 : List (List Int)) (a0_9 : List Int) (a0_10 : List Int) (a0_11 : Int) (a0_12 : Int) (a0_13 : Int) {r : Int × Int × Bool × Bool × List Int × List Int × Int × Int × List (List Int) × List Int × List Int × Int × Int × Int} (h : laws_toGame.f k a0_0 a0_1 a0_2 a0_3 a0_4 a0_5 a0_6 a0_7 a0_8 a0_9 a0_10 a0_11 a0_12 a0_13 = some r) : Contract Try.prog 70 laws_toGame.sig (dvs laws_toGame.pk ((a0_0, a0_1, a0_2, a0_3, a0_4, a0_5, a0_6, a0_7, a0_8, a0_9, a0_10, a0_11, a0_12, a0_13, ()), ())) (laws_toGame.enc r) :=
  fn_contract (laws_toGame.gok k) mixed Try.func70 (show _ = some laws_toGame.body by kernel_rfl) (LoopsOK_of (show loopsOf laws_toGame.body = [] by kernel_rfl) all_nil) (show 30 = Try.f70.ntmps by kernel_rfl) (Nat.le_of_ble_eq_true (by kernel_rfl)) (by kernel_rfl) (fun _ h => laws_toGame.dec_some h) ((laws_toGame.ev k a0_0 a0_1 a0_2 a0_3 a0_4 a0_5 a0_6 a0_7 a0_8 a0_9 a0_10 a0_11 a0_12 a0_13).trans h)
set_option maxRecDepth 100000 in
theorem laws_toGame.ok {R : Type} (k : Nat) {ds : List DV} {K : List DV → Option R} {r : R} (h0 : laws_toGame.phi k ds K = some r) : Enters Try.prog 70 ∧ ∃ rs, Contract Try.prog 70 laws_toGame.sig ds rs ∧ K rs = some r := by
  obtain ⟨⟨⟨a0_0, a0_1, a0_2, a0_3, a0_4, a0_5, a0_6, a0_7, a0_8, a0_9, a0_10, a0_11, a0_12, a0_13, _⟩, _⟩, rfl, h⟩ := tellD_some h0
  obtain ⟨x, h1, h2⟩ := Option.bind_eq_some_iff.1 (show ((laws_toGame.f k a0_0 a0_1 a0_2 a0_3 a0_4 a0_5 a0_6 a0_7 a0_8 a0_9 a0_10 a0_11 a0_12 a0_13).bind fun r => K (laws_toGame.enc r)) = some r from h)
  exact ⟨⟨Try.f70, Try.func70, by kernel_rfl, by kernel_rfl⟩, laws_toGame.enc x, laws_toGame.con k a0_0 a0_1 a0_2 a0_3 a0_4 a0_5 a0_6 a0_7 a0_8 a0_9 a0_10 a0_11 a0_12 a0_13 h1, h2⟩

def laws_toTable.sig : Sig := ⟨[51], [58], [.bor], .own⟩
def laws_toTable.live : List (Nat × List Nat) := []
def laws_toTable.pk : List DK := [.agg .lent [(.int .i64), (.int .i64), .bool, .bool, (.ints .i64), (.ints .i64), (.int .i64), (.int .i64), (.ints .i64), .bool, (.ints .i64), (.int .i64), (.int .i64), .bool, .bool, (.ints .i64), (.ints .i64), (.int .i64), (.int .i64), .rows, (.ints .i64), (.ints .i64), (.int .i64), (.int .i64), (.int .i64), (.ints .i64), .rows]]
def laws_toTable.rk : List DK := [.agg .own [(.int .i64), (.int .i64), .bool, .bool, (.ints .i64), (.ints .i64), (.int .i64), (.int .i64), (.ints .i64), .bool, (.ints .i64), (.int .i64), (.int .i64), .bool, .bool, (.ints .i64), (.ints .i64), (.int .i64), (.int .i64), .rows, (.ints .i64), (.ints .i64), (.int .i64), (.int .i64), (.int .i64), (.ints .i64), .rows]]
def laws_toTable.enc (r : Int × Int × Bool × Bool × List Int × List Int × Int × Int × List Int × Bool × List Int × Int × Int × Bool × Bool × List Int × List Int × Int × Int × List (List Int) × List Int × List Int × Int × Int × Int × List Int × List (List Int)) : List DV := dvs laws_toTable.rk ((r.1, r.2.1, r.2.2.1, r.2.2.2.1, r.2.2.2.2.1, r.2.2.2.2.2.1, r.2.2.2.2.2.2.1, r.2.2.2.2.2.2.2.1, r.2.2.2.2.2.2.2.2.1, r.2.2.2.2.2.2.2.2.2.1, r.2.2.2.2.2.2.2.2.2.2.1, r.2.2.2.2.2.2.2.2.2.2.2.1, r.2.2.2.2.2.2.2.2.2.2.2.2.1, r.2.2.2.2.2.2.2.2.2.2.2.2.2.1, r.2.2.2.2.2.2.2.2.2.2.2.2.2.2.1, r.2.2.2.2.2.2.2.2.2.2.2.2.2.2.2.1, r.2.2.2.2.2.2.2.2.2.2.2.2.2.2.2.2.1, r.2.2.2.2.2.2.2.2.2.2.2.2.2.2.2.2.2.1, r.2.2.2.2.2.2.2.2.2.2.2.2.2.2.2.2.2.2.1, r.2.2.2.2.2.2.2.2.2.2.2.2.2.2.2.2.2.2.2.1, r.2.2.2.2.2.2.2.2.2.2.2.2.2.2.2.2.2.2.2.2.1, r.2.2.2.2.2.2.2.2.2.2.2.2.2.2.2.2.2.2.2.2.2.1, r.2.2.2.2.2.2.2.2.2.2.2.2.2.2.2.2.2.2.2.2.2.2.1, r.2.2.2.2.2.2.2.2.2.2.2.2.2.2.2.2.2.2.2.2.2.2.2.1, r.2.2.2.2.2.2.2.2.2.2.2.2.2.2.2.2.2.2.2.2.2.2.2.2.1, r.2.2.2.2.2.2.2.2.2.2.2.2.2.2.2.2.2.2.2.2.2.2.2.2.2.1, r.2.2.2.2.2.2.2.2.2.2.2.2.2.2.2.2.2.2.2.2.2.2.2.2.2.2, ()), ())
def laws_toTable.dec (ds : List DV) : Option (Int × Int × Bool × Bool × List Int × List Int × Int × Int × List Int × Bool × List Int × Int × Int × Bool × Bool × List Int × List Int × Int × Int × List (List Int) × List Int × List Int × Int × Int × Int × List Int × List (List Int)) := tellD laws_toTable.rk ds (fun u0 u1 u2 u3 u4 u5 u6 u7 u8 u9 u10 u11 u12 u13 u14 u15 u16 u17 u18 u19 u20 u21 u22 u23 u24 u25 u26 => some (u0, u1, u2, u3, u4, u5, u6, u7, u8, u9, u10, u11, u12, u13, u14, u15, u16, u17, u18, u19, u20, u21, u22, u23, u24, u25, u26))
set_option maxRecDepth 100000 in
theorem laws_toTable.dec_some {ds : List DV} {r : Int × Int × Bool × Bool × List Int × List Int × Int × Int × List Int × Bool × List Int × Int × Int × Bool × Bool × List Int × List Int × Int × Int × List (List Int) × List Int × List Int × Int × Int × Int × List Int × List (List Int)} (h0 : laws_toTable.dec ds = some r) : ds = laws_toTable.enc r := by
  obtain ⟨⟨⟨u0, u1, u2, u3, u4, u5, u6, u7, u8, u9, u10, u11, u12, u13, u14, u15, u16, u17, u18, u19, u20, u21, u22, u23, u24, u25, u26, _⟩, _⟩, rfl, h⟩ := tellD_some h0
  cases h
  rfl
def laws_toTable.phi {R : Type} (k : Nat) (ds : List DV) (K : List DV → Option R) : Option R := tellD laws_toTable.pk ds (fun a0_0 a0_1 a0_2 a0_3 a0_4 a0_5 a0_6 a0_7 a0_8 a0_9 a0_10 a0_11 a0_12 a0_13 a0_14 a0_15 a0_16 a0_17 a0_18 a0_19 a0_20 a0_21 a0_22 a0_23 a0_24 a0_25 a0_26 => (laws_toTable.f k a0_0 a0_1 a0_2 a0_3 a0_4 a0_5 a0_6 a0_7 a0_8 a0_9 a0_10 a0_11 a0_12 a0_13 a0_14 a0_15 a0_16 a0_17 a0_18 a0_19 a0_20 a0_21 a0_22 a0_23 a0_24 a0_25 a0_26).bind fun r => K (laws_toTable.enc r))
def laws_toTable.G {R : Type} (k : Nat) : Glob R := mkG tt [(17, ⟨laws_toIntS.sig, laws_toIntS.phi k⟩), (22, ⟨laws_toIntSS.sig, laws_toIntSS.phi k⟩), (43, ⟨laws_toRules.sig, laws_toRules.phi k⟩), (70, ⟨laws_toGame.sig, laws_toGame.phi k⟩)] 32
set_option maxRecDepth 100000 in
theorem laws_toTable.gok {R : Type} (k : Nat) : GOK Try.prog (laws_toTable.G (R := R) k) := GOK_of tok (all_cons (fun _ _ _ h => laws_toIntS.ok k h) (all_cons (fun _ _ _ h => laws_toIntSS.ok k h) (all_cons (fun _ _ _ h => laws_toRules.ok k h) (all_cons (fun _ _ _ h => laws_toGame.ok k h) all_nil))))
def laws_toTable.tab {R : Type} (k : Nat) : LTab R := fun id K vs hs =>
  none
noncomputable def laws_toTable.body : Code := (Try.f38.body).getD .skip
set_option maxRecDepth 100000 in
theorem laws_toTable.ev (k : Nat) (a0_0 : Int) (a0_1 : Int) (a0_2 : Bool) (a0_3 : Bool) (a0_4 : List Int) (a0_5 : List Int) (a0_6 : Int) (a0_7 : Int) (a0_8 : List Int) (a0_9 : Bool) (a0_10 : List Int) (a0_11 : Int) (a0_12 : Int) (a0_13 : Bool) (a0_14 : Bool) (a0_15 : List Int) (a0_16 : List Int) (a0_17 : Int) (a0_18 : Int) (a0_19 : List (List Int)) (a0_20 : List Int) (a0_21 : List Int) (a0_22 : Int) (a0_23 : Int) (a0_24 : Int) (a0_25 : List Int) (a0_26 : List (List Int)) : evFn (laws_toTable.G k) laws_toTable.live (laws_toTable.tab k) laws_toTable.sig Try.f38 (dvs laws_toTable.pk ((a0_0, a0_1, a0_2, a0_3, a0_4, a0_5, a0_6, a0_7, a0_8, a0_9, a0_10, a0_11, a0_12, a0_13, a0_14, a0_15, a0_16, a0_17, a0_18, a0_19, a0_20, a0_21, a0_22, a0_23, a0_24, a0_25, a0_26, ()), ())) laws_toTable.dec = laws_toTable.f k a0_0 a0_1 a0_2 a0_3 a0_4 a0_5 a0_6 a0_7 a0_8 a0_9 a0_10 a0_11 a0_12 a0_13 a0_14 a0_15 a0_16 a0_17 a0_18 a0_19 a0_20 a0_21 a0_22 a0_23 a0_24 a0_25 a0_26 := by kernel_rfl
set_option maxRecDepth 100000 in
theorem laws_toTable.con (k : Nat) (a0_0 : Int) (a0_1 : Int) (a0_2 : Bool) (a0_3 : Bool) (a0_4 : List Int) (a0_5 : List Int) (a0_6 : Int) (a0_7 : Int) (a0_8 : List Int) (a0_9 : Bool) (a0_10 : List Int) (a0_11 : Int) (a0_12 : Int) (a0_13 : Bool) (a0_14 : Bool) (a0_15 : List Int) (a0_16 : List Int) (a0_17 : Int) (a0_18 : Int) (a0_19 : List (List Int)) (a0_20 : List Int) (a0_21 : List Int) (a0_22 : Int) (a0_23 : Int) (a0_24 : Int) (a0_25 : List Int) (a0_26 : List (List Int)) {r : Int × Int × Bool × Bool × List Int × List Int × Int × Int × List Int × Bool × List Int × Int × Int × Bool × Bool × List Int × List Int × Int × Int × List (List Int) × List Int × List Int × Int × Int × Int × List Int × List (List Int)} (h : laws_toTable.f k a0_0 a0_1 a0_2 a0_3 a0_4 a0_5 a0_6 a0_7 a0_8 a0_9 a0_10 a0_11 a0_12 a0_13 a0_14 a0_15 a0_16 a0_17 a0_18 a0_19 a0_20 a0_21 a0_22 a0_23 a0_24 a0_25 a0_26 = some r) : Contract Try.prog 38 laws_toTable.sig (dvs laws_toTable.pk ((a0_0, a0_1, a0_2, a0_3, a0_4, a0_5, a0_6, a0_7, a0_8, a0_9, a0_10, a0_11, a0_12, a0_13, a0_14, a0_15, a0_16, a0_17, a0_18, a0_19, a0_20, a0_21, a0_22, a0_23, a0_24, a0_25, a0_26, ()), ())) (laws_toTable.enc r) :=
  fn_contract (laws_toTable.gok k) mixed Try.func38 (show _ = some laws_toTable.body by kernel_rfl) (LoopsOK_of (show loopsOf laws_toTable.body = [] by kernel_rfl) all_nil) (show 32 = Try.f38.ntmps by kernel_rfl) (Nat.le_of_ble_eq_true (by kernel_rfl)) (by kernel_rfl) (fun _ h => laws_toTable.dec_some h) ((laws_toTable.ev k a0_0 a0_1 a0_2 a0_3 a0_4 a0_5 a0_6 a0_7 a0_8 a0_9 a0_10 a0_11 a0_12 a0_13 a0_14 a0_15 a0_16 a0_17 a0_18 a0_19 a0_20 a0_21 a0_22 a0_23 a0_24 a0_25 a0_26).trans h)
set_option maxRecDepth 100000 in
theorem laws_toTable.ok {R : Type} (k : Nat) {ds : List DV} {K : List DV → Option R} {r : R} (h0 : laws_toTable.phi k ds K = some r) : Enters Try.prog 38 ∧ ∃ rs, Contract Try.prog 38 laws_toTable.sig ds rs ∧ K rs = some r := by
  obtain ⟨⟨⟨a0_0, a0_1, a0_2, a0_3, a0_4, a0_5, a0_6, a0_7, a0_8, a0_9, a0_10, a0_11, a0_12, a0_13, a0_14, a0_15, a0_16, a0_17, a0_18, a0_19, a0_20, a0_21, a0_22, a0_23, a0_24, a0_25, a0_26, _⟩, _⟩, rfl, h⟩ := tellD_some h0
  obtain ⟨x, h1, h2⟩ := Option.bind_eq_some_iff.1 (show ((laws_toTable.f k a0_0 a0_1 a0_2 a0_3 a0_4 a0_5 a0_6 a0_7 a0_8 a0_9 a0_10 a0_11 a0_12 a0_13 a0_14 a0_15 a0_16 a0_17 a0_18 a0_19 a0_20 a0_21 a0_22 a0_23 a0_24 a0_25 a0_26).bind fun r => K (laws_toTable.enc r)) = some r from h)
  exact ⟨⟨Try.f38, Try.func38, by kernel_rfl, by kernel_rfl⟩, laws_toTable.enc x, laws_toTable.con k a0_0 a0_1 a0_2 a0_3 a0_4 a0_5 a0_6 a0_7 a0_8 a0_9 a0_10 a0_11 a0_12 a0_13 a0_14 a0_15 a0_16 a0_17 a0_18 a0_19 a0_20 a0_21 a0_22 a0_23 a0_24 a0_25 a0_26 h1, h2⟩

def impl_IsRecorded.sig : Sig := ⟨[58], [4], [.bor], .own⟩
def impl_IsRecorded.live : List (Nat × List Nat) := []
def impl_IsRecorded.pk : List DK := [.agg .lent [(.int .i64), (.int .i64), .bool, .bool, (.ints .i64), (.ints .i64), (.int .i64), (.int .i64), (.ints .i64), .bool, (.ints .i64), (.int .i64), (.int .i64), .bool, .bool, (.ints .i64), (.ints .i64), (.int .i64), (.int .i64), .rows, (.ints .i64), (.ints .i64), (.int .i64), (.int .i64), (.int .i64), (.ints .i64), .rows]]
def impl_IsRecorded.rk : List DK := [.l .own .bool]
def impl_IsRecorded.enc (r : Bool) : List DV := dvs impl_IsRecorded.rk (r, ())
def impl_IsRecorded.dec (ds : List DV) : Option (Bool) := tellD impl_IsRecorded.rk ds (fun u0 => some u0)
set_option maxRecDepth 100000 in
theorem impl_IsRecorded.dec_some {ds : List DV} {r : Bool} (h0 : impl_IsRecorded.dec ds = some r) : ds = impl_IsRecorded.enc r := by
  obtain ⟨⟨u0, _⟩, rfl, h⟩ := tellD_some h0
  cases h
  rfl
def impl_IsRecorded.phi {R : Type} (k : Nat) (ds : List DV) (K : List DV → Option R) : Option R := tellD impl_IsRecorded.pk ds (fun a0_0 a0_1 a0_2 a0_3 a0_4 a0_5 a0_6 a0_7 a0_8 a0_9 a0_10 a0_11 a0_12 a0_13 a0_14 a0_15 a0_16 a0_17 a0_18 a0_19 a0_20 a0_21 a0_22 a0_23 a0_24 a0_25 a0_26 => (impl_IsRecorded.f k a0_0 a0_1 a0_2 a0_3 a0_4 a0_5 a0_6 a0_7 a0_8 a0_9 a0_10 a0_11 a0_12 a0_13 a0_14 a0_15 a0_16 a0_17 a0_18 a0_19 a0_20 a0_21 a0_22 a0_23 a0_24 a0_25 a0_26).bind fun r => K (impl_IsRecorded.enc r))
def impl_IsRecorded.G {R : Type} (k : Nat) : Glob R := mkG tt [] 10
set_option maxRecDepth 100000 in
theorem impl_IsRecorded.gok {R : Type} (k : Nat) : GOK Try.prog (impl_IsRecorded.G (R := R) k) := GOK_of tok all_nil
def impl_IsRecorded.tab {R : Type} (k : Nat) : LTab R := fun id K vs hs =>
  none
noncomputable def impl_IsRecorded.body : Code := (Try.f39.body).getD .skip
set_option maxRecDepth 100000 in
theorem impl_IsRecorded.ev (k : Nat) (a0_0 : Int) (a0_1 : Int) (a0_2 : Bool) (a0_3 : Bool) (a0_4 : List Int) (a0_5 : List Int) (a0_6 : Int) (a0_7 : Int) (a0_8 : List Int) (a0_9 : Bool) (a0_10 : List Int) (a0_11 : Int) (a0_12 : Int) (a0_13 : Bool) (a0_14 : Bool) (a0_15 : List Int) (a0_16 : List Int) (a0_17 : Int) (a0_18 : Int) (a0_19 : List (List Int)) (a0_20 : List Int) (a0_21 : List Int) (a0_22 : Int) (a0_23 : Int) (a0_24 : Int) (a0_25 : List Int) (a0_26 : List (List Int)) : evFn (impl_IsRecorded.G k) impl_IsRecorded.live (impl_IsRecorded.tab k) impl_IsRecorded.sig Try.f39 (dvs impl_IsRecorded.pk ((a0_0, a0_1, a0_2, a0_3, a0_4, a0_5, a0_6, a0_7, a0_8, a0_9, a0_10, a0_11, a0_12, a0_13, a0_14, a0_15, a0_16, a0_17, a0_18, a0_19, a0_20, a0_21, a0_22, a0_23, a0_24, a0_25, a0_26, ()), ())) impl_IsRecorded.dec = impl_IsRecorded.f k a0_0 a0_1 a0_2 a0_3 a0_4 a0_5 a0_6 a0_7 a0_8 a0_9 a0_10 a0_11 a0_12 a0_13 a0_14 a0_15 a0_16 a0_17 a0_18 a0_19 a0_20 a0_21 a0_22 a0_23 a0_24 a0_25 a0_26 := by kernel_rfl
set_option maxRecDepth 100000 in
theorem impl_IsRecorded.con (k : Nat) (a0_0 : Int) (a0_1 : Int) (a0_2 : Bool) (a0_3 : Bool) (a0_4 : List Int) (a0_5 : List Int) (a0_6 : Int) (a0_7 : Int) (a0_8 : List Int) (a0_9 : Bool) (a0_10 : List Int) (a0_11 : Int) (a0_12 : Int) (a0_13 : Bool) (a0_14 : Bool) (a0_15 : List Int) (a0_16 : List Int) (a0_17 : Int) (a0_18 : Int) (a0_19 : List (List Int)) (a0_20 : List Int) (a0_21 : List Int) (a0_22 : Int) (a0_23 : Int) (a0_24 : Int) (a0_25 : List Int) (a0_26 : List (List Int)) {r : Bool} (h : impl_IsRecorded.f k a0_0 a0_1 a0_2 a0_3 a0_4 a0_5 a0_6 a0_7 a0_8 a0_9 a0_10 a0_11 a0_12 a0_13 a0_14 a0_15 a0_16 a0_17 a0_18 a0_19 a0_20 a0_21 a0_22 a0_23 a0_24 a0_25 a0_26 = some r) : Contract Try.prog 39 impl_IsRecorded.sig (dvs impl_IsRecorded.pk ((a0_0, a0_1, a0_2, a0_3, a0_4, a0_5, a0_6, a0_7, a0_8, a0_9, a0_10, a0_11, a0_12, a0_13, a0_14, a0_15, a0_16, a0_17, a0_18, a0_19, a0_20, a0_21, a0_22, a0_23, a0_24, a0_25, a0_26, ()), ())) (impl_IsRecorded.enc r) :=
  fn_contract (impl_IsRecorded.gok k) mixed Try.func39 (show _ = some impl_IsRecorded.body by kernel_rfl) (LoopsOK_of (show loopsOf impl_IsRecorded.body = [] by kernel_rfl) all_nil) (show 10 = Try.f39.ntmps by kernel_rfl) (Nat.le_of_ble_eq_true (by kernel_rfl)) (by kernel_rfl) (fun _ h => impl_IsRecorded.dec_some h) ((impl_IsRecorded.ev k a0_0 a0_1 a0_2 a0_3 a0_4 a0_5 a0_6 a0_7 a0_8 a0_9 a0_10 a0_11 a0_12 a0_13 a0_14 a0_15 a0_16 a0_17 a0_18 a0_19 a0_20 a0_21 a0_22 a0_23 a0_24 a0_25 a0_26).trans h)
set_option maxRecDepth 100000 in
theorem impl_IsRecorded.ok {R : Type} (k : Nat) {ds : List DV} {K : List DV → Option R} {r : R} (h0 : impl_IsRecorded.phi k ds K = some r) : Enters Try.prog 39 ∧ ∃ rs, Contract Try.prog 39 impl_IsRecorded.sig ds rs ∧ K rs = some r := by
  obtain ⟨⟨⟨a0_0, a0_1, a0_2, a0_3, a0_4, a0_5, a0_6, a0_7, a0_8, a0_9, a0_10, a0_11, a0_12, a0_13, a0_14, a0_15, a0_16, a0_17, a0_18, a0_19, a0_20, a0_21, a0_22, a0_23, a0_24, a0_25, a0_26, _⟩, _⟩, rfl, h⟩ := tellD_some h0
  obtain ⟨x, h1, h2⟩ := Option.bind_eq_some_iff.1 (show ((impl_IsRecorded.f k a0_0 a0_1 a0_2 a0_3 a0_4 a0_5 a0_6 a0_7 a0_8 a0_9 a0_10 a0_11 a0_12 a0_13 a0_14 a0_15 a0_16 a0_17 a0_18 a0_19 a0_20 a0_21 a0_22 a0_23 a0_24 a0_25 a0_26).bind fun r => K (impl_IsRecorded.enc r)) = some r from h)
  exact ⟨⟨Try.f39, Try.func39, by kernel_rfl, by kernel_rfl⟩, impl_IsRecorded.enc x, impl_IsRecorded.con k a0_0 a0_1 a0_2 a0_3 a0_4 a0_5 a0_6 a0_7 a0_8 a0_9 a0_10 a0_11 a0_12 a0_13 a0_14 a0_15 a0_16 a0_17 a0_18 a0_19 a0_20 a0_21 a0_22 a0_23 a0_24 a0_25 a0_26 h1, h2⟩

def laws_eqRules.sig : Sig := ⟨[54, 54], [4], [.bor, .bor], .own⟩
def laws_eqRules.live : List (Nat × List Nat) := []
def laws_eqRules.pk : List DK := [.agg .lent [(.int .i64), (.int .i64), .bool, .bool, (.ints .i64), (.ints .i64), (.int .i64), (.int .i64)], .agg .lent [(.int .i64), (.int .i64), .bool, .bool, (.ints .i64), (.ints .i64), (.int .i64), (.int .i64)]]
def laws_eqRules.rk : List DK := [.l .own .bool]
def laws_eqRules.enc (r : Bool) : List DV := dvs laws_eqRules.rk (r, ())
def laws_eqRules.dec (ds : List DV) : Option (Bool) := tellD laws_eqRules.rk ds (fun u0 => some u0)
set_option maxRecDepth 100000 in
theorem laws_eqRules.dec_some {ds : List DV} {r : Bool} (h0 : laws_eqRules.dec ds = some r) : ds = laws_eqRules.enc r := by
  obtain ⟨⟨u0, _⟩, rfl, h⟩ := tellD_some h0
  cases h
  rfl
def laws_eqRules.phi {R : Type} (k : Nat) (ds : List DV) (K : List DV → Option R) : Option R := tellD laws_eqRules.pk ds (fun a0_0 a0_1 a0_2 a0_3 a0_4 a0_5 a0_6 a0_7 a1_0 a1_1 a1_2 a1_3 a1_4 a1_5 a1_6 a1_7 => (laws_eqRules.f k a0_0 a0_1 a0_2 a0_3 a0_4 a0_5 a0_6 a0_7 a1_0 a1_1 a1_2 a1_3 a1_4 a1_5 a1_6 a1_7).bind fun r => K (laws_eqRules.enc r))
def laws_eqRules.G {R : Type} (k : Nat) : Glob R := mkG tt [(19, ⟨laws_eqIntS.sig, laws_eqIntS.phi k⟩)] 47
set_option maxRecDepth 100000 in
theorem laws_eqRules.gok {R : Type} (k : Nat) : GOK Try.prog (laws_eqRules.G (R := R) k) := GOK_of tok (all_cons (fun _ _ _ h => laws_eqIntS.ok k h) all_nil)
def laws_eqRules.tab {R : Type} (k : Nat) : LTab R := fun id K vs hs =>
  none
noncomputable def laws_eqRules.body : Code := (Try.f45.body).getD .skip
set_option maxRecDepth 100000 in
theorem laws_eqRules.ev (k : Nat) (a0_0 : Int) (a0_1 : Int) (a0_2 : Bool) (a0_3 : Bool) (a0_4 : List Int) (a0_5 : List Int) (a0_6 : Int) (a0_7 : Int) (a1_0 : Int) (a1_1 : Int) (a1_2 : Bool) (a1_3 : Bool) (a1_4 : List Int) (a1_5 : List Int) (a1_6 : Int) (a1_7 : Int) : evFn (laws_eqRules.G k) laws_eqRules.live (laws_eqRules.tab k) laws_eqRules.sig Try.f45 (dvs laws_eqRules.pk ((a0_0, a0_1, a0_2, a0_3, a0_4, a0_5, a0_6, a0_7, ()), (a1_0, a1_1, a1_2, a1_3, a1_4, a1_5, a1_6, a1_7, ()), ())) laws_eqRules.dec = laws_eqRules.f k a0_0 a0_1 a0_2 a0_3 a0_4 a0_5 a0_6 a0_7 a1_0 a1_1 a1_2 a1_3 a1_4 a1_5 a1_6 a1_7 := by kernel_rfl
set_option maxRecDepth 100000 in
theorem laws_eqRules.con (k : Nat) (a0_0 : Int) (a0_1 : Int) (a0_2 : Bool) (a0_3 : Bool) (a0_4 : List Int) (a0_5 : List Int) (a0_6 : Int) (a0_7 : Int) (a1_0 : Int) (a1_1 : Int) (a1_2 : Bool) (a1_3 : Bool) (a1_4 : List Int) (a1_5 : List Int) (a1_6 : Int) (a1_7 : Int) {r : Bool} (h : laws_eqRules.f k a0_0 a0_1 a0_2 a0_3 a0_4 a0_5 a0_6 a0_7 a1_0 a1_1 a1_2 a1_3 a1_4 a1_5 a1_6 a1_7 = some r) : Contract Try.prog 45 laws_eqRules.sig (dvs laws_eqRules.pk ((a0_0, a0_1, a0_2, a0_3, a0_4, a0_5, a0_6, a0_7, ()), (a1_0, a1_1, a1_2, a1_3, a1_4, a1_5, a1_6, a1_7, ()), ())) (laws_eqRules.enc r) :=
  fn_contract (laws_eqRules.gok k) mixed Try.func45 (show _ = some laws_eqRules.body by kernel_rfl) (LoopsOK_of (show loopsOf laws_eqRules.body = [] by kernel_rfl) all_nil) (show 47 = Try.f45.ntmps by kernel_rfl) (Nat.le_of_ble_eq_true (by kernel_rfl)) (by kernel_rfl) (fun _ h => laws_eqRules.dec_some h) ((laws_eqRules.ev k a0_0 a0_1 a0_2 a0_3 a0_4 a0_5 a0_6 a0_7 a1_0 a1_1 a1_2 a1_3 a1_4 a1_5 a1_6 a1_7).trans h)
set_option maxRecDepth 100000 in
theorem laws_eqRules.ok {R : Type} (k : Nat) {ds : List DV} {K : List DV → Option R} {r : R} (h0 : laws_eqRules.phi k ds K = some r) : Enters Try.prog 45 ∧ ∃ rs, Contract Try.prog 45 laws_eqRules.sig ds rs ∧ K rs = some r := by
  obtain ⟨⟨⟨a0_0, a0_1, a0_2, a0_3, a0_4, a0_5, a0_6, a0_7, _⟩, ⟨a1_0, a1_1, a1_2, a1_3, a1_4, a1_5, a1_6, a1_7, _⟩, _⟩, rfl, h⟩ := tellD_some h0
  obtain ⟨x, h1, h2⟩ := Option.bind_eq_some_iff.1 (show ((laws_eqRules.f k a0_0 a0_1 a0_2 a0_3 a0_4 a0_5 a0_6 a0_7 a1_0 a1_1 a1_2 a1_3 a1_4 a1_5 a1_6 a1_7).bind fun r => K (laws_eqRules.enc r)) = some r from h)
  exact ⟨⟨Try.f45, Try.func45, by kernel_rfl, by kernel_rfl⟩, laws_eqRules.enc x, laws_eqRules.con k a0_0 a0_1 a0_2 a0_3 a0_4 a0_5 a0_6 a0_7 a1_0 a1_1 a1_2 a1_3 a1_4 a1_5 a1_6 a1_7 h1, h2⟩

def laws_eqGame.sig : Sig := ⟨[56, 56], [4], [.bor, .bor], .own⟩
def laws_eqGame.live : List (Nat × List Nat) := []
def laws_eqGame.pk : List DK := [.agg .lent [(.int .i64), (.int .i64), .bool, .bool, (.ints .i64), (.ints .i64), (.int .i64), (.int .i64), .rows, (.ints .i64), (.ints .i64), (.int .i64), (.int .i64), (.int .i64)], .agg .lent [(.int .i64), (.int .i64), .bool, .bool, (.ints .i64), (.ints .i64), (.int .i64), (.int .i64), .rows, (.ints .i64), (.ints .i64), (.int .i64), (.int .i64), (.int .i64)]]
def laws_eqGame.rk : List DK := [.l .own .bool]
def laws_eqGame.enc (r : Bool) : List DV := dvs laws_eqGame.rk (r, ())
def laws_eqGame.dec (ds : List DV) : Option (Bool) := tellD laws_eqGame.rk ds (fun u0 => some u0)
set_option maxRecDepth 100000 in
theorem laws_eqGame.dec_some {ds : List DV} {r : Bool} (h0 : laws_eqGame.dec ds = some r) : ds = laws_eqGame.enc r := by
  obtain ⟨⟨u0, _⟩, rfl, h⟩ := tellD_some h0
  cases h
  rfl
def laws_eqGame.phi {R : Type} (k : Nat) (ds : List DV) (K : List DV → Option R) : Option R := tellD laws_eqGame.pk ds (fun a0_0 a0_1 a0_2 a0_3 a0_4 a0_5 a0_6 a0_7 a0_8 a0_9 a0_10 a0_11 a0_12 a0_13 a1_0 a1_1 a1_2 a1_3 a1_4 a1_5 a1_6 a1_7 a1_8 a1_9 a1_10 a1_11 a1_12 a1_13 => (laws_eqGame.f k a0_0 a0_1 a0_2 a0_3 a0_4 a0_5 a0_6 a0_7 a0_8 a0_9 a0_10 a0_11 a0_12 a0_13 a1_0 a1_1 a1_2 a1_3 a1_4 a1_5 a1_6 a1_7 a1_8 a1_9 a1_10 a1_11 a1_12 a1_13).bind fun r => K (laws_eqGame.enc r))
def laws_eqGame.G {R : Type} (k : Nat) : Glob R := mkG tt [(19, ⟨laws_eqIntS.sig, laws_eqIntS.phi k⟩), (24, ⟨laws_eqIntSS.sig, laws_eqIntSS.phi k⟩), (45, ⟨laws_eqRules.sig, laws_eqRules.phi k⟩)] 44
set_option maxRecDepth 100000 in
theorem laws_eqGame.gok {R : Type} (k : Nat) : GOK Try.prog (laws_eqGame.G (R := R) k) := GOK_of tok (all_cons (fun _ _ _ h => laws_eqIntS.ok k h) (all_cons (fun _ _ _ h => laws_eqIntSS.ok k h) (all_cons (fun _ _ _ h => laws_eqRules.ok k h) all_nil)))
def laws_eqGame.tab {R : Type} (k : Nat) : LTab R := fun id K vs hs =>
  none
noncomputable def laws_eqGame.body : Code := (Try.f71.body).getD .skip
set_option maxRecDepth 100000 in
theorem laws_eqGame.ev (k : Nat) (a0_0 : Int) (a0_1 : Int) (a0_2 : Bool) (a0_3 : Bool) (a0_4 : List Int) (a0_5 : List Int) (a0_6 : Int) (a0_7 : Int) (a0_8 : List (List Int)) (a0_9 : List Int) (a0_10 : List Int) (a0_11 : Int) (a0_12 : Int) (a0_13 : Int) (a1_0 : Int) (a1_1 : Int) (a1_2 : Bool) (a1_3 : Bool) (a1_4 : List Int) (a1_5 : List Int) (a1_6 : Int) (a1_7 : Int) (a1_8 : List (List Int)) (a1_9 : List Int) (a1_10 : List Int) (a1_11 : Int) (a1_12 : Int) (a1_13 : Int) : evFn (laws_eqGame.G k) laws_eqGame.live (laws_eqGame.tab k) laws_eqGame.sig Try.f71 (dvs laws_eqGame.pk ((a0_0, a0_1, a0_2, a0_3, a0_4, a0_5, a0_6, a0_7, a0_8, a0_9, a0_10, a0_11, a0_12, a0_13, ()), (a1_0, a1_1, a1_2, a1_3, a1_4, a1_5, a1_6, a1_7, a1_8, a1_9, a1_10, a1_11, a1_12, a1_13, ()), ())) laws_eqGame.dec = laws_eqGame.f k a0_0 a0_1 a0_2 a0_3 a0_4 a0_5 a0_6 a0_7 a0_8 a0_9 a0_10 a0_11 a0_12 a0_13 a1_0 a1_1 a1_2 a1_3 a1_4 a1_5 a1_6 a1_7 a1_8 a1_9 a1_10 a1_11 a1_12 a1_13 := by kernel_rfl
set_option maxRecDepth 100000 in
theorem laws_eqGame.con (k : Nat) (a0_0 : Int) (a0_1 : Int) (a0_2 : Bool) (a0_3 : Bool) (a0_4 : List Int) (a0_5 : List Int) (a0_6 : Int) (a0_7 : Int) (a0_8 : List (List Int)) (a0_9 : List Int) (a0_10 : List Int) (a0_11 : Int) (a0_12 : Int) (a0_13 : Int) (a1_0 : Int) (a1_1 : Int) (a1_2 : Bool) (a1_3 : Bool) (a1_4 : List Int) (a1_5 : List Int) (a1_6 : Int) (a1_7 : Int) (a1_8 : List (List Int)) (a1_9 : List Int) (a1_10 : List Int) (a1_11 : Int) (a1_12 : Int) (a1_13 : Int) {r : Bool} (h : laws_eqGame.f k a0_0 a0_1 a0_2 a0_3 a0_4 a0_5 a0_6 a0_7 a0_8 a0_9 a0_10 a0_11 a0_12 a0_13 a1_0 a1_1 a1_2 a1_3 a1_4 a1_5 a1_6 a1_7 a1_8 a1_9 a1_10 a1_11 a1_12 a1_13 = some r) : Contract Try.prog 71 laws_eqGame.sig (dvs laws_eqGame.pk ((a0_0, a0_1, a0_2, a0_3, a0_4, a0_5, a0_6, a0_7, a0_8, a0_9, a0_10, a0_11, a0_12, a0_13, ()), (a1_0, a1_1, a1_2, a1_3, a1_4, a1_5, a1_6, a1_7, a1_8, a1_9, a1_10, a1_11, a1_12, a1_13, ()), ())) (laws_eqGame.enc r) :=
  fn_contract (laws_eqGame.gok k) mixed Try.func71 (show _ = some laws_eqGame.body by kernel_rfl) (LoopsOK_of (show loopsOf laws_eqGame.body = [] by kernel_rfl) all_nil) (show 44 = Try.f71.ntmps by kernel_rfl) (Nat.le_of_ble_eq_true (by kernel_rfl)) (by kernel_rfl) (fun _ h => laws_eqGame.dec_some h) ((laws_eqGame.ev k a0_0 a0_1 a0_2 a0_3 a0_4 a0_5 a0_6 a0_7 a0_8 a0_9 a0_10 a0_11 a0_12 a0_13 a1_0 a1_1 a1_2 a1_3 a1_4 a1_5 a1_6 a1_7 a1_8 a1_9 a1_10 a1_11 a1_12 a1_13).trans h)
set_option maxRecDepth 100000 in
theorem laws_eqGame.ok {R : Type} (k : Nat) {ds : List DV} {K : List DV → Option R} {r : R} (h0 : laws_eqGame.phi k ds K = some r) : Enters Try.prog 71 ∧ ∃ rs, Contract Try.prog 71 laws_eqGame.sig ds rs ∧ K rs = some r := by
  obtain ⟨⟨⟨a0_0, a0_1, a0_2, a0_3, a0_4, a0_5, a0_6, a0_7, a0_8, a0_9, a0_10, a0_11, a0_12, a0_13, _⟩, ⟨a1_0, a1_1, a1_2, a1_3, a1_4, a1_5, a1_6, a1_7, a1_8, a1_9, a1_10, a1_11, a1_12, a1_13, _⟩, _⟩, rfl, h⟩ := tellD_some h0
  obtain ⟨x, h1, h2⟩ := Option.bind_eq_some_iff.1 (show ((laws_eqGame.f k a0_0 a0_1 a0_2 a0_3 a0_4 a0_5 a0_6 a0_7 a0_8 a0_9 a0_10 a0_11 a0_12 a0_13 a1_0 a1_1 a1_2 a1_3 a1_4 a1_5 a1_6 a1_7 a1_8 a1_9 a1_10 a1_11 a1_12 a1_13).bind fun r => K (laws_eqGame.enc r)) = some r from h)
  exact ⟨⟨Try.f71, Try.func71, by kernel_rfl, by kernel_rfl⟩, laws_eqGame.enc x, laws_eqGame.con k a0_0 a0_1 a0_2 a0_3 a0_4 a0_5 a0_6 a0_7 a0_8 a0_9 a0_10 a0_11 a0_12 a0_13 a1_0 a1_1 a1_2 a1_3 a1_4 a1_5 a1_6 a1_7 a1_8 a1_9 a1_10 a1_11 a1_12 a1_13 h1, h2⟩

def laws_eqTable.sig : Sig := ⟨[58, 58], [4], [.bor, .bor], .own⟩
def laws_eqTable.live : List (Nat × List Nat) := []
def laws_eqTable.pk : List DK := [.agg .lent [(.int .i64), (.int .i64), .bool, .bool, (.ints .i64), (.ints .i64), (.int .i64), (.int .i64), (.ints .i64), .bool, (.ints .i64), (.int .i64), (.int .i64), .bool, .bool, (.ints .i64), (.ints .i64), (.int .i64), (.int .i64), .rows, (.ints .i64), (.ints .i64), (.int .i64), (.int .i64), (.int .i64), (.ints .i64), .rows], .agg .lent [(.int .i64), (.int .i64), .bool, .bool, (.ints .i64), (.ints .i64), (.int .i64), (.int .i64), (.ints .i64), .bool, (.ints .i64), (.int .i64), (.int .i64), .bool, .bool, (.ints .i64), (.ints .i64), (.int .i64), (.int .i64), .rows, (.ints .i64), (.ints .i64), (.int .i64), (.int .i64), (.int .i64), (.ints .i64), .rows]]
def laws_eqTable.rk : List DK := [.l .own .bool]
def laws_eqTable.enc (r : Bool) : List DV := dvs laws_eqTable.rk (r, ())
def laws_eqTable.dec (ds : List DV) : Option (Bool) := tellD laws_eqTable.rk ds (fun u0 => some u0)
set_option maxRecDepth 100000 in
theorem laws_eqTable.dec_some {ds : List DV} {r : Bool} (h0 : laws_eqTable.dec ds = some r) : ds = laws_eqTable.enc r := by
  obtain ⟨⟨u0, _⟩, rfl, h⟩ := tellD_some h0
  cases h
  rfl
def laws_eqTable.phi {R : Type} (k : Nat) (ds : List DV) (K : List DV → Option R) : Option R := tellD laws_eqTable.pk ds (fun a0_0 a0_1 a0_2 a0_3 a0_4 a0_5 a0_6 a0_7 a0_8 a0_9 a0_10 a0_11 a0_12 a0_13 a0_14 a0_15 a0_16 a0_17 a0_18 a0_19 a0_20 a0_21 a0_22 a0_23 a0_24 a0_25 a0_26 a1_0 a1_1 a1_2 a1_3 a1_4 a1_5 a1_6 a1_7 a1_8 a1_9 a1_10 a1_11 a1_12 a1_13 a1_14 a1_15 a1_16 a1_17 a1_18 a1_19 a1_20 a1_21 a1_22 a1_23 a1_24 a1_25 a1_26 => (laws_eqTable.f k a0_0 a0_1 a0_2 a0_3 a0_4 a0_5 a0_6 a0_7 a0_8 a0_9 a0_10 a0_11 a0_12 a0_13 a0_14 a0_15 a0_16 a0_17 a0_18 a0_19 a0_20 a0_21 a0_22 a0_23 a0_24 a0_25 a0_26 a1_0 a1_1 a1_2 a1_3 a1_4 a1_5 a1_6 a1_7 a1_8 a1_9 a1_10 a1_11 a1_12 a1_13 a1_14 a1_15 a1_16 a1_17 a1_18 a1_19 a1_20 a1_21 a1_22 a1_23 a1_24 a1_25 a1_26).bind fun r => K (laws_eqTable.enc r))
def laws_eqTable.G {R : Type} (k : Nat) : Glob R := mkG tt [(19, ⟨laws_eqIntS.sig, laws_eqIntS.phi k⟩), (24, ⟨laws_eqIntSS.sig, laws_eqIntSS.phi k⟩), (45, ⟨laws_eqRules.sig, laws_eqRules.phi k⟩), (71, ⟨laws_eqGame.sig, laws_eqGame.phi k⟩)] 46
set_option maxRecDepth 100000 in
theorem laws_eqTable.gok {R : Type} (k : Nat) : GOK Try.prog (laws_eqTable.G (R := R) k) := GOK_of tok (all_cons (fun _ _ _ h => laws_eqIntS.ok k h) (all_cons (fun _ _ _ h => laws_eqIntSS.ok k h) (all_cons (fun _ _ _ h => laws_eqRules.ok k h) (all_cons (fun _ _ _ h => laws_eqGame.ok k h) all_nil))))
def laws_eqTable.tab {R : Type} (k : Nat) : LTab R := fun id K vs hs =>
  none
noncomputable def laws_eqTable.body : Code := (Try.f40.body).getD .skip
set_option maxRecDepth 100000 in
theorem laws_eqTable.ev (k : Nat) (a0_0 : Int) (a0_1 : Int) (a0_2 : Bool) (a0_3 : Bool) (a0_4 : List Int) (a0_5 : List Int) (a0_6 : Int) (a0_7 : Int) (a0_8 : List Int) (a0_9 : Bool) (a0_10 : List Int) (a0_11 : Int) (a0_12 : Int) (a0_13 : Bool) (a0_14 : Bool) (a0_15 : List Int) (a0_16 : List Int) (a0_17 : Int) (a0_18 : Int) (a0_19 : List (List Int)) (a0_20 : List Int) (a0_21 : List Int) (a0_22 : Int) (a0_23 : Int) (a0_24 : Int) (a0_25 : List Int) (a0_26 : List (List Int)) (a1_0 : Int) (a1_1 : Int) (a1_2 : Bool) (a1_3 : Bool) (a1_4 : List Int) (a1_5 : List Int) (a1_6 : Int) (a1_7 : Int) (a1_8 : List Int) (a1_9 : Bool) (a1_10 : List Int) (a1_11 : Int) (a1_12 : Int) (a1_13 : Bool) (a1_14 : Bool) (a1_15 : List Int) (a1_16 : List Int) (a1_17 : Int) (a1_18 : Int) (a1_19 : List (List Int)) (a1_20 : List Int) (a1_21 : List Int) (a1_22 : Int) (a1_23 : Int) (a1_24 : Int) (a1_25 : List Int) (a1_26 : List (List Int)) : evFn (laws_eqTable.G k) laws_eqTable.live (laws_eqTable.tab k) laws_eqTable.sig Try.f40 (dvs laws_eqTable.pk ((a0_0, a0_1, a0_2, a0_3, a0_4, a0_5, a0_6, a0_7, a0_8, a0_9, a0_10, a0_11, a0_12, a0_13, a0_14, a0_15, a0_16, a0_17, a0_18, a0_19, a0_20, a0_21, a0_22, a0_23, a0_24, a0_25, a0_26, ()), (a1_0, a1_1, a1_2, a1_3, a1_4, a1_5, a1_6, a1_7, a1_8, a1_9, a1_10, a1_11, a1_12, a1_13, a1_14, a1_15, a1_16, a1_17, a1_18, a1_19, a1_20, a1_21, a1_22, a1_23, a1_24, a1_25, a1_26, ()), ())) laws_eqTable.dec = laws_eqTable.f k a0_0 a0_1 a0_2 a0_3 a0_4 a0_5 a0_6 a0_7 a0_8 a0_9 a0_10 a0_11 a0_12 a0_13 a0_14 a0_15 a0_16 a0_17 a0_18 a0_19 a0_20 a0_21 a0_22 a0_23 a0_24 a0_25 a0_26 a1_0 a1_1 a1_2 a1_3 a1_4 a1_5 a1_6 a1_7 a1_8 a1_9 a1_10 a1_11 a1_12 a1_13 a1_14 a1_15 a1_16 a1_17 a1_18 a1_19 a1_20 a1_21 a1_22 a1_23 a1_24 a1_25 a1_26 := by kernel_rfl
set_option maxRecDepth 100000 in
theorem laws_eqTable.con (k : Nat) (a0_0 : Int) (a0_1 : Int) (a0_2 : Bool) (a0_3 : Bool) (a0_4 : List Int) (a0_5 : List Int) (a0_6 : Int) (a0_7 : Int) (a0_8 : List Int) (a0_9 : Bool) (a0_10 : List Int) (a0_11 : Int) (a0_12 : Int) (a0_13 : Bool) (a0_14 : Bool) (a0_15 : List Int) (a0_16 : List Int) (a0_17 : Int) (a0_18 : Int) (a0_19 : List (List Int)) (a0_20 : List Int) (a0_21 : List Int) (a0_22 : Int) (a0_23 : Int) (a0_24 : Int) (a0_25 : List Int) (a0_26 : List (List Int)) (a1_0 : Int) (a1_1 : Int) (a1_2 : Bool) (a1_3 : Bool) (a1_4 : List Int) (a1_5 : List Int) (a1_6 : Int) (a1_7 : Int) (a1_8 : List Int) (a1_9 : Bool) (a1_10 : List Int) (a1_11 : Int) (a1_12 : Int) (a1_13 : Bool) (a1_14 : Bool) (a1_15 : List Int) (a1_16 : List Int) (a1_17 : Int) (a1_18 : Int) (a1_19 : List (List Int)) (a1_20 : List Int) (a1_21 : List Int) (a1_22 : Int) (a1_23 : Int) (a1_24 : Int) (a1_25 : List Int) (a1_26 : List (List Int)) {r : Bool} (h : laws_eqTable.f k a0_0 a0_1 a0_2 a0_3 a0_4 a0_5 a0_6 a0_7 a0_8 a0_9 a0_10 a0_11 a0_12 a0_13 a0_14 a0_15 a0_16 a0_17 a0_18 a0_19 a0_20 a0_21 a0_22 a0_23 a0_24 a0_25 a0_26 a1_0 a1_1 a1_2 a1_3 a1_4 a1_5 a1_6 a1_7 a1_8 a1_9 a1_10 a1_11 a1_12 a1_13 a1_14 a1_15 a1_16 a1_17 a1_18 a1_19 a1_20 a1_21 a1_22 a1_23 a1_24 a1_25 a1_26 = some r) : Contract Try.prog 40 laws_eqTable.sig (dvs laws_eqTable.pk ((a0_0, a0_1, a0_2, a0_3, a0_4, a0_5, a0_6, a0_7, a0_8, a0_9, a0_10, a0_11, a0_12, a0_13, a0_14, a0_15, a0_16, a0_17, a0_18, a0_19, a0_20, a0_21, a0_22, a0_23, a0_24, a0_25, a0_26, ()), (a1_0, a1_1, a1_2, a1_3, a1_4, a1_5, a1_6, a1_7, a1_8, a1_9, a1_10, a1_11, a1_12, a1_13, a1_14, a1_15, a1_16, a1_17, a1_18, a1_19, a1_20, a1_21, a1_22, a1_23, a1_24, a1_25, a1_26, ()), ())) (laws_eqTable.enc r) :=
  fn_contract (laws_eqTable.gok k) mixed Try.func40 (show _ = some laws_eqTable.body by kernel_rfl) (LoopsOK_of (show loopsOf laws_eqTable.body = [] by kernel_rfl) all_nil) (show 46 = Try.f40.ntmps by kernel_rfl) (Nat.le_of_ble_eq_true (by kernel_rfl)) (by kernel_rfl) (fun _ h => laws_eqTable.dec_some h) ((laws_eqTable.ev k a0_0 a0_1 a0_2 a0_3 a0_4 a0_5 a0_6 a0_7 a0_8 a0_9 a0_10 a0_11 a0_12 a0_13 a0_14 a0_15 a0_16 a0_17 a0_18 a0_19 a0_20 a0_21 a0_22 a0_23 a0_24 a0_25 a0_26 a1_0 a1_1 a1_2 a1_3 a1_4 a1_5 a1_6 a1_7 a1_8 a1_9 a1_10 a1_11 a1_12 a1_13 a1_14 a1_15 a1_16 a1_17 a1_18 a1_19 a1_20 a1_21 a1_22 a1_23 a1_24 a1_25 a1_26).trans h)
set_option maxRecDepth 100000 in
theorem laws_eqTable.ok {R : Type} (k : Nat) {ds : List DV} {K : List DV → Option R} {r : R} (h0 : laws_eqTable.phi k ds K = some r) : Enters Try.prog 40 ∧ ∃ rs, Contract Try.prog 40 laws_eqTable.sig ds rs ∧ K rs = some r := by
  obtain ⟨⟨⟨a0_0, a0_1, a0_2, a0_3, a0_4, a0_5, a0_6, a0_7, a0_8, a0_9, a0_10, a0_11, a0_12, a0_13, a0_14, a0_15, a0_16, a0_17, a0_18, a0_19, a0_20, a0_21, a0_22, a0_23, a0_24, a0_25, a0_26, _⟩, ⟨a1_0, a1_1, a1_2, a1_3, a1_4, a1_5, a1_6, a1_7, a1_8, a1_9, a1_10, a1_11, a1_12, a1_13, a1_14, a1_15, a1_16, a1_17, a1_18, a1_19, a1_20, a1_21, a1_22, a1_23, a1_24, a1_25, a1_26, _⟩, _⟩, rfl, h⟩ := tellD_some h0
  obtain ⟨x, h1, h2⟩ := Option.bind_eq_some_iff.1 (show ((laws_eqTable.f k a0_0 a0_1 a0_2 a0_3 a0_4 a0_5 a0_6 a0_7 a0_8 a0_9 a0_10 a0_11 a0_12 a0_13 a0_14 a0_15 a0_16 a0_17 a0_18 a0_19 a0_20 a0_21 a0_22 a0_23 a0_24 a0_25 a0_26 a1_0 a1_1 a1_2 a1_3 a1_4 a1_5 a1_6 a1_7 a1_8 a1_9 a1_10 a1_11 a1_12 a1_13 a1_14 a1_15 a1_16 a1_17 a1_18 a1_19 a1_20 a1_21 a1_22 a1_23 a1_24 a1_25 a1_26).bind fun r => K (laws_eqTable.enc r)) = some r from h)
  exact ⟨⟨Try.f40, Try.func40, by kernel_rfl, by kernel_rfl⟩, laws_eqTable.enc x, laws_eqTable.con k a0_0 a0_1 a0_2 a0_3 a0_4 a0_5 a0_6 a0_7 a0_8 a0_9 a0_10 a0_11 a0_12 a0_13 a0_14 a0_15 a0_16 a0_17 a0_18 a0_19 a0_20 a0_21 a0_22 a0_23 a0_24 a0_25 a0_26 a1_0 a1_1 a1_2 a1_3 a1_4 a1_5 a1_6 a1_7 a1_8 a1_9 a1_10 a1_11 a1_12 a1_13 a1_14 a1_15 a1_16 a1_17 a1_18 a1_19 a1_20 a1_21 a1_22 a1_23 a1_24 a1_25 a1_26 h1, h2⟩

def laws_FnExactIsRecorded.sig : Sig := ⟨[51], [4], [.bor], .own⟩
def laws_FnExactIsRecorded.live : List (Nat × List Nat) := []
def laws_FnExactIsRecorded.pk : List DK := [.agg .lent [(.int .i64), (.int .i64), .bool, .bool, (.ints .i64), (.ints .i64), (.int .i64), (.int .i64), (.ints .i64), .bool, (.ints .i64), (.int .i64), (.int .i64), .bool, .bool, (.ints .i64), (.ints .i64), (.int .i64), (.int .i64), .rows, (.ints .i64), (.ints .i64), (.int .i64), (.int .i64), (.int .i64), (.ints .i64), .rows]]
def laws_FnExactIsRecorded.rk : List DK := [.l .own .bool]
def laws_FnExactIsRecorded.enc (r : Bool) : List DV := dvs laws_FnExactIsRecorded.rk (r, ())
def laws_FnExactIsRecorded.dec (ds : List DV) : Option (Bool) := tellD laws_FnExactIsRecorded.rk ds (fun u0 => some u0)
set_option maxRecDepth 100000 in
theorem laws_FnExactIsRecorded.dec_some {ds : List DV} {r : Bool} (h0 : laws_FnExactIsRecorded.dec ds = some r) : ds = laws_FnExactIsRecorded.enc r := by
  obtain ⟨⟨u0, _⟩, rfl, h⟩ := tellD_some h0
  cases h
  rfl
def laws_FnExactIsRecorded.phi {R : Type} (k : Nat) (ds : List DV) (K : List DV → Option R) : Option R := tellD laws_FnExactIsRecorded.pk ds (fun a0_0 a0_1 a0_2 a0_3 a0_4 a0_5 a0_6 a0_7 a0_8 a0_9 a0_10 a0_11 a0_12 a0_13 a0_14 a0_15 a0_16 a0_17 a0_18 a0_19 a0_20 a0_21 a0_22 a0_23 a0_24 a0_25 a0_26 => (laws_FnExactIsRecorded.f k a0_0 a0_1 a0_2 a0_3 a0_4 a0_5 a0_6 a0_7 a0_8 a0_9 a0_10 a0_11 a0_12 a0_13 a0_14 a0_15 a0_16 a0_17 a0_18 a0_19 a0_20 a0_21 a0_22 a0_23 a0_24 a0_25 a0_26).bind fun r => K (laws_FnExactIsRecorded.enc r))
def laws_FnExactIsRecorded.G {R : Type} (k : Nat) : Glob R := mkG tt [(36, ⟨laws_szTable.sig, laws_szTable.phi k⟩), (37, ⟨spec_IsRecorded.sig, spec_IsRecorded.phi k⟩), (38, ⟨laws_toTable.sig, laws_toTable.phi k⟩), (39, ⟨impl_IsRecorded.sig, impl_IsRecorded.phi k⟩), (40, ⟨laws_eqTable.sig, laws_eqTable.phi k⟩)] 27
set_option maxRecDepth 100000 in
theorem laws_FnExactIsRecorded.gok {R : Type} (k : Nat) : GOK Try.prog (laws_FnExactIsRecorded.G (R := R) k) := GOK_of tok (all_cons (fun _ _ _ h => laws_szTable.ok k h) (all_cons (fun _ _ _ h => spec_IsRecorded.ok k h) (all_cons (fun _ _ _ h => laws_toTable.ok k h) (all_cons (fun _ _ _ h => impl_IsRecorded.ok k h) (all_cons (fun _ _ _ h => laws_eqTable.ok k h) all_nil)))))
def laws_FnExactIsRecorded.tab {R : Type} (k : Nat) : LTab R := fun id K vs hs =>
  none
noncomputable def laws_FnExactIsRecorded.body : Code := (Try.f10.body).getD .skip
set_option maxRecDepth 100000 in
theorem laws_FnExactIsRecorded.ev (k : Nat) (a0_0 : Int) (a0_1 : Int) (a0_2 : Bool) (a0_3 : Bool) (a0_4 : List Int) (a0_5 : List Int) (a0_6 : Int) (a0_7 : Int) (a0_8 : List Int) (a0_9 : Bool) (a0_10 : List Int) (a0_11 : Int) (a0_12 : Int) (a0_13 : Bool) (a0_14 : Bool) (a0_15 : List Int) (a0_16 : List Int) (a0_17 : Int) (a0_18 : Int) (a0_19 : List (List Int)) (a0_20 : List Int) (a0_21 : List Int) (a0_22 : Int) (a0_23 : Int) (a0_24 : Int) (a0_25 : List Int) (a0_26 : List (List Int)) : evFn (laws_FnExactIsRecorded.G k) laws_FnExactIsRecorded.live (laws_FnExactIsRecorded.tab k) laws_FnExactIsRecorded.sig Try.f10 (dvs laws_FnExactIsRecorded.pk ((a0_0, a0_1, a0_2, a0_3, a0_4, a0_5, a0_6, a0_7, a0_8, a0_9, a0_10, a0_11, a0_12, a0_13, a0_14, a0_15, a0_16, a0_17, a0_18, a0_19, a0_20, a0_21, a0_22, a0_23, a0_24, a0_25, a0_26, ()), ())) laws_FnExactIsRecorded.dec = laws_FnExactIsRecorded.f k a0_0 a0_1 a0_2 a0_3 a0_4 a0_5 a0_6 a0_7 a0_8 a0_9 a0_10 a0_11 a0_12 a0_13 a0_14 a0_15 a0_16 a0_17 a0_18 a0_19 a0_20 a0_21 a0_22 a0_23 a0_24 a0_25 a0_26 := by kernel_rfl
set_option maxRecDepth 100000 in
theorem laws_FnExactIsRecorded.con (k : Nat) (a0_0 : Int) (a0_1 : Int) (a0_2 : Bool) (a0_3 : Bool) (a0_4 : List Int) (a0_5 : List Int) (a0_6 : Int) (a0_7 : Int) (a0_8 : List Int) (a0_9 : Bool) (a0_10 : List Int) (a0_11 : Int) (a0_12 : Int) (a0_13 : Bool) (a0_14 : Bool) (a0_15 : List Int) (a0_16 : List Int) (a0_17 : Int) (a0_18 : Int) (a0_19 : List (List Int)) (a0_20 : List Int) (a0_21 : List Int) (a0_22 : Int) (a0_23 : Int) (a0_24 : Int) (a0_25 : List Int) (a0_26 : List (List Int)) {r : Bool} (h : laws_FnExactIsRecorded.f k a0_0 a0_1 a0_2 a0_3 a0_4 a0_5 a0_6 a0_7 a0_8 a0_9 a0_10 a0_11 a0_12 a0_13 a0_14 a0_15 a0_16 a0_17 a0_18 a0_19 a0_20 a0_21 a0_22 a0_23 a0_24 a0_25 a0_26 = some r) : Contract Try.prog 10 laws_FnExactIsRecorded.sig (dvs laws_FnExactIsRecorded.pk ((a0_0, a0_1, a0_2, a0_3, a0_4, a0_5, a0_6, a0_7, a0_8, a0_9, a0_10, a0_11, a0_12, a0_13, a0_14, a0_15, a0_16, a0_17, a0_18, a0_19, a0_20, a0_21, a0_22, a0_23, a0_24, a0_25, a0_26, ()), ())) (laws_FnExactIsRecorded.enc r) :=
  fn_contract (laws_FnExactIsRecorded.gok k) mixed Try.func10 (show _ = some laws_FnExactIsRecorded.body by kernel_rfl) (LoopsOK_of (show loopsOf laws_FnExactIsRecorded.body = [] by kernel_rfl) all_nil) (show 27 = Try.f10.ntmps by kernel_rfl) (Nat.le_of_ble_eq_true (by kernel_rfl)) (by kernel_rfl) (fun _ h => laws_FnExactIsRecorded.dec_some h) ((laws_FnExactIsRecorded.ev k a0_0 a0_1 a0_2 a0_3 a0_4 a0_5 a0_6 a0_7 a0_8 a0_9 a0_10 a0_11 a0_12 a0_13 a0_14 a0_15 a0_16 a0_17 a0_18 a0_19 a0_20 a0_21 a0_22 a0_23 a0_24 a0_25 a0_26).trans h)
set_option maxRecDepth 100000 in
theorem laws_FnExactIsRecorded.ok {R : Type} (k : Nat) {ds : List DV} {K : List DV → Option R} {r : R} (h0 : laws_FnExactIsRecorded.phi k ds K = some r) : Enters Try.prog 10 ∧ ∃ rs, Contract Try.prog 10 laws_FnExactIsRecorded.sig ds rs ∧ K rs = some r := by
  obtain ⟨⟨⟨a0_0, a0_1, a0_2, a0_3, a0_4, a0_5, a0_6, a0_7, a0_8, a0_9, a0_10, a0_11, a0_12, a0_13, a0_14, a0_15, a0_16, a0_17, a0_18, a0_19, a0_20, a0_21, a0_22, a0_23, a0_24, a0_25, a0_26, _⟩, _⟩, rfl, h⟩ := tellD_some h0
  obtain ⟨x, h1, h2⟩ := Option.bind_eq_some_iff.1 (show ((laws_FnExactIsRecorded.f k a0_0 a0_1 a0_2 a0_3 a0_4 a0_5 a0_6 a0_7 a0_8 a0_9 a0_10 a0_11 a0_12 a0_13 a0_14 a0_15 a0_16 a0_17 a0_18 a0_19 a0_20 a0_21 a0_22 a0_23 a0_24 a0_25 a0_26).bind fun r => K (laws_FnExactIsRecorded.enc r)) = some r from h)
  exact ⟨⟨Try.f10, Try.func10, by kernel_rfl, by kernel_rfl⟩, laws_FnExactIsRecorded.enc x, laws_FnExactIsRecorded.con k a0_0 a0_1 a0_2 a0_3 a0_4 a0_5 a0_6 a0_7 a0_8 a0_9 a0_10 a0_11 a0_12 a0_13 a0_14 a0_15 a0_16 a0_17 a0_18 a0_19 a0_20 a0_21 a0_22 a0_23 a0_24 a0_25 a0_26 h1, h2⟩
end Go.Proofs.Ytfkejiljabmaaaa
