/- That the Go functions come to the answers of the plain ones. Printed by a program. -/
import Derived.Test.YtfkejiljabmaaaaT
import Derived.Test.YtfkejiljabmaaaaMFnExactWinsOf
import Derived.Test.YtfkejiljabmaaaaMFnExactIsRecorded
import Derived.Test.YtfkejiljabmaaaaFFnExactWildShare
set_option linter.unusedVariables false
namespace Go.Proofs.Ytfkejiljabmaaaa
open Go Go.Proofs.Ytfkejiljabmaaaa.V Go.Proofs.Ytfkejiljabmaaaa.M

def spec_l8Leaf.sig : Sig := ⟨[3], [4], [.bor], .own⟩
def spec_l8Leaf.live : List (Nat × List Nat) := []
def spec_l8Leaf.pk : List DK := [.l .lent (.int .i64)]
def spec_l8Leaf.rk : List DK := [.l .own .bool]
def spec_l8Leaf.enc (r : Bool) : List DV := dvs spec_l8Leaf.rk (r, ())
def spec_l8Leaf.dec (ds : List DV) : Option (Bool) := tellD spec_l8Leaf.rk ds (fun u0 => some u0)
theorem spec_l8Leaf.dec_some {ds : List DV} {r : Bool} (h0 : spec_l8Leaf.dec ds = some r) : ds = spec_l8Leaf.enc r := by
  obtain ⟨⟨u0, _⟩, rfl, h⟩ := tellD_some h0
  cases h
  rfl
def spec_l8Leaf.phi {R : Type} (k : Nat) (ds : List DV) (K : List DV → Option R) : Option R := tellD spec_l8Leaf.pk ds (fun a0 => (spec_l8Leaf.f k a0).bind fun r => K (spec_l8Leaf.enc r))
def spec_l8Leaf.G {R : Type} (k : Nat) : Glob R := mkG tt [(54, ⟨spec_l1In.sig, spec_l1In.phi k⟩)] 17
theorem spec_l8Leaf.gok {R : Type} (k : Nat) : GOK Try.prog (spec_l8Leaf.G (R := R) k) := GOK_of tok (all_cons (fun _ _ _ h => spec_l1In.ok k h) all_nil)
def spec_l8Leaf.tab {R : Type} (k : Nat) : LTab R := fun id K vs hs =>
  none
noncomputable def spec_l8Leaf.body : Code := (Try.f123.body).getD .skip
theorem spec_l8Leaf.ev (k : Nat) (a0 : Int) : evFn (spec_l8Leaf.G k) spec_l8Leaf.live (spec_l8Leaf.tab k) spec_l8Leaf.sig Try.f123 (dvs spec_l8Leaf.pk (a0, ())) spec_l8Leaf.dec = spec_l8Leaf.f k a0 := by kernel_rfl
theorem spec_l8Leaf.con (k : Nat) (a0 : Int) {r : Bool} (h : spec_l8Leaf.f k a0 = some r) : Contract Try.prog 123 spec_l8Leaf.sig (dvs spec_l8Leaf.pk (a0, ())) (spec_l8Leaf.enc r) :=
  fn_contract (spec_l8Leaf.gok k) mixed Try.func123 (show _ = some spec_l8Leaf.body by kernel_rfl) (LoopsOK_of (show loopsOf spec_l8Leaf.body = [] by kernel_rfl) all_nil) (show 17 = Try.f123.ntmps by kernel_rfl) (Nat.le_of_ble_eq_true (by kernel_rfl)) (by kernel_rfl) (fun _ h => spec_l8Leaf.dec_some h) ((spec_l8Leaf.ev k a0).trans h)
theorem spec_l8Leaf.ok {R : Type} (k : Nat) {ds : List DV} {K : List DV → Option R} {r : R} (h0 : spec_l8Leaf.phi k ds K = some r) : Enters Try.prog 123 ∧ ∃ rs, Contract Try.prog 123 spec_l8Leaf.sig ds rs ∧ K rs = some r := by
  obtain ⟨⟨a0, _⟩, rfl, h⟩ := tellD_some h0
  obtain ⟨x, h1, h2⟩ := Option.bind_eq_some_iff.1 (show ((spec_l8Leaf.f k a0).bind fun r => K (spec_l8Leaf.enc r)) = some r from h)
  exact ⟨⟨Try.f123, Try.func123, by kernel_rfl, by kernel_rfl⟩, spec_l8Leaf.enc x, spec_l8Leaf.con k a0 h1, h2⟩

def spec_IsPattern.sig : Sig := ⟨[24], [4], [.bor], .own⟩
def spec_IsPattern.live : List (Nat × List Nat) := [(3, [0, 3, 4]), (100003, [0, 2, 3])]
def spec_IsPattern.pk : List DK := [.l .lent (.ints .i64)]
def spec_IsPattern.rk : List DK := [.l .own .bool]
def spec_IsPattern.enc (r : Bool) : List DV := dvs spec_IsPattern.rk (r, ())
def spec_IsPattern.dec (ds : List DV) : Option (Bool) := tellD spec_IsPattern.rk ds (fun u0 => some u0)
theorem spec_IsPattern.dec_some {ds : List DV} {r : Bool} (h0 : spec_IsPattern.dec ds = some r) : ds = spec_IsPattern.enc r := by
  obtain ⟨⟨u0, _⟩, rfl, h⟩ := tellD_some h0
  cases h
  rfl
def spec_IsPattern.phi {R : Type} (k : Nat) (ds : List DV) (K : List DV → Option R) : Option R := tellD spec_IsPattern.pk ds (fun a0 => (spec_IsPattern.f k a0).bind fun r => K (spec_IsPattern.enc r))
def spec_IsPattern.G {R : Type} (k : Nat) : Glob R := mkG tt [(123, ⟨spec_l8Leaf.sig, spec_l8Leaf.phi k⟩)] 55
theorem spec_IsPattern.gok {R : Type} (k : Nat) : GOK Try.prog (spec_IsPattern.G (R := R) k) := GOK_of tok (all_cons (fun _ _ _ h => spec_l8Leaf.ok k h) all_nil)
def spec_IsPattern.x3_0 {R : Type} (K : X → St → Option R) (v3_0 : List Int) (p0 : Int) : Option R := K .ret (stOf [0, 2, 3] [.one (.l (.val false (.ints .i64 v3_0))), .one (.l (.b false)), .one (.l (.i .i64 p0))] [])
def spec_IsPattern.x3_1 {R : Type} (K : X → St → Option R) (v3_0 : List Int) (p0 : Int) : Option R := K (.exit 0) (stOf [0, 2, 3] [.one (.l (.val false (.ints .i64 v3_0))), .one (.l (.any)), .one (.l (.i .i64 p0))] [])
def spec_IsPattern.h3 : Hd := ⟨[.l (.val false false (.ints .i64)), .l (.i .i64), .l (.i .i64)], []⟩
def spec_IsPattern.tab {R : Type} (k : Nat) : LTab R := fun id K vs hs =>
  bif id == 3 then spec_IsPattern.h3.tell vs hs (fun v3_0 v3_1 v3_2 => spec_IsPattern.l3 k v3_0 (spec_IsPattern.x3_0 K v3_0) (spec_IsPattern.x3_1 K v3_0) k v3_1 v3_2) else
  none
noncomputable def spec_IsPattern.body : Code := (Try.f115.body).getD .skip
noncomputable def spec_IsPattern.b3 : Code := ((loopsOf spec_IsPattern.body)[0]?).getD .skip
theorem spec_IsPattern.fit3 {R : Type} (k : Nat) (K : X → St → Option R) (vs : List AV) (hs : List (Option Root)) (r : R) (h : spec_IsPattern.tab k (V.keyOf spec_IsPattern.b3) K vs hs = some r) : LoopFit (spec_IsPattern.G k) spec_IsPattern.live (spec_IsPattern.tab k) spec_IsPattern.b3 K vs hs r := by
  rw [show V.keyOf spec_IsPattern.b3 = 3 by kernel_rfl] at h
  obtain ⟨⟨⟨⟨v3_0, _⟩, ⟨v3_1, _⟩, ⟨v3_2, _⟩, _⟩, _⟩, e, h⟩ := Hd.tell_some (show spec_IsPattern.h3.tell vs hs (fun v3_0 v3_1 v3_2 => spec_IsPattern.l3 k v3_0 (spec_IsPattern.x3_0 K v3_0) (spec_IsPattern.x3_1 K v3_0) k v3_1 v3_2) = some r from h)
  exact ⟨Int × Int, fun a => spec_IsPattern.h3.enc (((v3_0, ()), (a.1, ()), (a.2, ()), ()), ()), fun vs hs => spec_IsPattern.h3.tell vs hs (fun _ v3_1 v3_2 => some (v3_1, v3_2)), fun rec a => spec_IsPattern.s3 k v3_0 (spec_IsPattern.x3_0 K v3_0) (spec_IsPattern.x3_1 K v3_0) (fun c0 c1 => rec (c0, c1)) a.1 a.2, k, (v3_1, v3_2), e, fun _ => rfl, fun Lp a => by kernel_rfl, h⟩
theorem spec_IsPattern.ev (k : Nat) (a0 : List Int) : evFn (spec_IsPattern.G k) spec_IsPattern.live (spec_IsPattern.tab k) spec_IsPattern.sig Try.f115 (dvs spec_IsPattern.pk (a0, ())) spec_IsPattern.dec = spec_IsPattern.f k a0 := by kernel_rfl
theorem spec_IsPattern.con (k : Nat) (a0 : List Int) {r : Bool} (h : spec_IsPattern.f k a0 = some r) : Contract Try.prog 115 spec_IsPattern.sig (dvs spec_IsPattern.pk (a0, ())) (spec_IsPattern.enc r) :=
  fn_contract (spec_IsPattern.gok k) mixed Try.func115 (show _ = some spec_IsPattern.body by kernel_rfl) (LoopsOK_of (show loopsOf spec_IsPattern.body = [spec_IsPattern.b3] by kernel_rfl) (all_cons (spec_IsPattern.fit3 k) all_nil)) (show 55 = Try.f115.ntmps by kernel_rfl) (Nat.le_of_ble_eq_true (by kernel_rfl)) (by kernel_rfl) (fun _ h => spec_IsPattern.dec_some h) ((spec_IsPattern.ev k a0).trans h)
theorem spec_IsPattern.ok {R : Type} (k : Nat) {ds : List DV} {K : List DV → Option R} {r : R} (h0 : spec_IsPattern.phi k ds K = some r) : Enters Try.prog 115 ∧ ∃ rs, Contract Try.prog 115 spec_IsPattern.sig ds rs ∧ K rs = some r := by
  obtain ⟨⟨a0, _⟩, rfl, h⟩ := tellD_some h0
  obtain ⟨x, h1, h2⟩ := Option.bind_eq_some_iff.1 (show ((spec_IsPattern.f k a0).bind fun r => K (spec_IsPattern.enc r)) = some r from h)
  exact ⟨⟨Try.f115, Try.func115, by kernel_rfl, by kernel_rfl⟩, spec_IsPattern.enc x, spec_IsPattern.con k a0 h1, h2⟩

def spec_l22Pattern.sig : Sig := ⟨[24], [4], [.bor], .own⟩
def spec_l22Pattern.live : List (Nat × List Nat) := []
def spec_l22Pattern.pk : List DK := [.l .lent (.ints .i64)]
def spec_l22Pattern.rk : List DK := [.l .own .bool]
def spec_l22Pattern.enc (r : Bool) : List DV := dvs spec_l22Pattern.rk (r, ())
def spec_l22Pattern.dec (ds : List DV) : Option (Bool) := tellD spec_l22Pattern.rk ds (fun u0 => some u0)
theorem spec_l22Pattern.dec_some {ds : List DV} {r : Bool} (h0 : spec_l22Pattern.dec ds = some r) : ds = spec_l22Pattern.enc r := by
  obtain ⟨⟨u0, _⟩, rfl, h⟩ := tellD_some h0
  cases h
  rfl
def spec_l22Pattern.phi {R : Type} (k : Nat) (ds : List DV) (K : List DV → Option R) : Option R := tellD spec_l22Pattern.pk ds (fun a0 => (spec_l22Pattern.f k a0).bind fun r => K (spec_l22Pattern.enc r))
def spec_l22Pattern.G {R : Type} (k : Nat) : Glob R := mkG tt [(115, ⟨spec_IsPattern.sig, spec_IsPattern.phi k⟩)] 10
theorem spec_l22Pattern.gok {R : Type} (k : Nat) : GOK Try.prog (spec_l22Pattern.G (R := R) k) := GOK_of tok (all_cons (fun _ _ _ h => spec_IsPattern.ok k h) all_nil)
def spec_l22Pattern.tab {R : Type} (k : Nat) : LTab R := fun id K vs hs =>
  none
noncomputable def spec_l22Pattern.body : Code := (Try.f98.body).getD .skip
theorem spec_l22Pattern.ev (k : Nat) (a0 : List Int) : evFn (spec_l22Pattern.G k) spec_l22Pattern.live (spec_l22Pattern.tab k) spec_l22Pattern.sig Try.f98 (dvs spec_l22Pattern.pk (a0, ())) spec_l22Pattern.dec = spec_l22Pattern.f k a0 := by kernel_rfl
theorem spec_l22Pattern.con (k : Nat) (a0 : List Int) {r : Bool} (h : spec_l22Pattern.f k a0 = some r) : Contract Try.prog 98 spec_l22Pattern.sig (dvs spec_l22Pattern.pk (a0, ())) (spec_l22Pattern.enc r) :=
  fn_contract (spec_l22Pattern.gok k) mixed Try.func98 (show _ = some spec_l22Pattern.body by kernel_rfl) (LoopsOK_of (show loopsOf spec_l22Pattern.body = [] by kernel_rfl) all_nil) (show 10 = Try.f98.ntmps by kernel_rfl) (Nat.le_of_ble_eq_true (by kernel_rfl)) (by kernel_rfl) (fun _ h => spec_l22Pattern.dec_some h) ((spec_l22Pattern.ev k a0).trans h)
theorem spec_l22Pattern.ok {R : Type} (k : Nat) {ds : List DV} {K : List DV → Option R} {r : R} (h0 : spec_l22Pattern.phi k ds K = some r) : Enters Try.prog 98 ∧ ∃ rs, Contract Try.prog 98 spec_l22Pattern.sig ds rs ∧ K rs = some r := by
  obtain ⟨⟨a0, _⟩, rfl, h⟩ := tellD_some h0
  obtain ⟨x, h1, h2⟩ := Option.bind_eq_some_iff.1 (show ((spec_l22Pattern.f k a0).bind fun r => K (spec_l22Pattern.enc r)) = some r from h)
  exact ⟨⟨Try.f98, Try.func98, by kernel_rfl, by kernel_rfl⟩, spec_l22Pattern.enc x, spec_l22Pattern.con k a0 h1, h2⟩

def spec_IsRules.sig : Sig := ⟨[54], [4], [.bor], .own⟩
def spec_IsRules.live : List (Nat × List Nat) := []
def spec_IsRules.pk : List DK := [.agg .lent [(.int .i64), (.int .i64), .bool, .bool, (.ints .i64), (.ints .i64), (.int .i64), (.int .i64)]]
def spec_IsRules.rk : List DK := [.l .own .bool]
def spec_IsRules.enc (r : Bool) : List DV := dvs spec_IsRules.rk (r, ())
def spec_IsRules.dec (ds : List DV) : Option (Bool) := tellD spec_IsRules.rk ds (fun u0 => some u0)
theorem spec_IsRules.dec_some {ds : List DV} {r : Bool} (h0 : spec_IsRules.dec ds = some r) : ds = spec_IsRules.enc r := by
  obtain ⟨⟨u0, _⟩, rfl, h⟩ := tellD_some h0
  cases h
  rfl
def spec_IsRules.phi {R : Type} (k : Nat) (ds : List DV) (K : List DV → Option R) : Option R := tellD spec_IsRules.pk ds (fun a0_0 a0_1 a0_2 a0_3 a0_4 a0_5 a0_6 a0_7 => (spec_IsRules.f k a0_0 a0_1 a0_2 a0_3 a0_4 a0_5 a0_6 a0_7).bind fun r => K (spec_IsRules.enc r))
def spec_IsRules.G {R : Type} (k : Nat) : Glob R := mkG tt [(54, ⟨spec_l1In.sig, spec_l1In.phi k⟩), (98, ⟨spec_l22Pattern.sig, spec_l22Pattern.phi k⟩)] 39
theorem spec_IsRules.gok {R : Type} (k : Nat) : GOK Try.prog (spec_IsRules.G (R := R) k) := GOK_of tok (all_cons (fun _ _ _ h => spec_l1In.ok k h) (all_cons (fun _ _ _ h => spec_l22Pattern.ok k h) all_nil))
def spec_IsRules.tab {R : Type} (k : Nat) : LTab R := fun id K vs hs =>
  none
noncomputable def spec_IsRules.body : Code := (Try.f72.body).getD .skip
theorem spec_IsRules.ev (k : Nat) (a0_0 : Int) (a0_1 : Int) (a0_2 : Bool) (a0_3 : Bool) (a0_4 : List Int) (a0_5 : List Int) (a0_6 : Int) (a0_7 : Int) : evFn (spec_IsRules.G k) spec_IsRules.live (spec_IsRules.tab k) spec_IsRules.sig Try.f72 (dvs spec_IsRules.pk ((a0_0, a0_1, a0_2, a0_3, a0_4, a0_5, a0_6, a0_7, ()), ())) spec_IsRules.dec = spec_IsRules.f k a0_0 a0_1 a0_2 a0_3 a0_4 a0_5 a0_6 a0_7 := by kernel_rfl
theorem spec_IsRules.con (k : Nat) (a0_0 : Int) (a0_1 : Int) (a0_2 : Bool) (a0_3 : Bool) (a0_4 : List Int) (a0_5 : List Int) (a0_6 : Int) (a0_7 : Int) {r : Bool} (h : spec_IsRules.f k a0_0 a0_1 a0_2 a0_3 a0_4 a0_5 a0_6 a0_7 = some r) : Contract Try.prog 72 spec_IsRules.sig (dvs spec_IsRules.pk ((a0_0, a0_1, a0_2, a0_3, a0_4, a0_5, a0_6, a0_7, ()), ())) (spec_IsRules.enc r) :=
  fn_contract (spec_IsRules.gok k) mixed Try.func72 (show _ = some spec_IsRules.body by kernel_rfl) (LoopsOK_of (show loopsOf spec_IsRules.body = [] by kernel_rfl) all_nil) (show 39 = Try.f72.ntmps by kernel_rfl) (Nat.le_of_ble_eq_true (by kernel_rfl)) (by kernel_rfl) (fun _ h => spec_IsRules.dec_some h) ((spec_IsRules.ev k a0_0 a0_1 a0_2 a0_3 a0_4 a0_5 a0_6 a0_7).trans h)
theorem spec_IsRules.ok {R : Type} (k : Nat) {ds : List DV} {K : List DV → Option R} {r : R} (h0 : spec_IsRules.phi k ds K = some r) : Enters Try.prog 72 ∧ ∃ rs, Contract Try.prog 72 spec_IsRules.sig ds rs ∧ K rs = some r := by
  obtain ⟨⟨⟨a0_0, a0_1, a0_2, a0_3, a0_4, a0_5, a0_6, a0_7, _⟩, _⟩, rfl, h⟩ := tellD_some h0
  obtain ⟨x, h1, h2⟩ := Option.bind_eq_some_iff.1 (show ((spec_IsRules.f k a0_0 a0_1 a0_2 a0_3 a0_4 a0_5 a0_6 a0_7).bind fun r => K (spec_IsRules.enc r)) = some r from h)
  exact ⟨⟨Try.f72, Try.func72, by kernel_rfl, by kernel_rfl⟩, spec_IsRules.enc x, spec_IsRules.con k a0_0 a0_1 a0_2 a0_3 a0_4 a0_5 a0_6 a0_7 h1, h2⟩

def spec_IsCard.sig : Sig := ⟨[3], [4], [.bor], .own⟩
def spec_IsCard.live : List (Nat × List Nat) := []
def spec_IsCard.pk : List DK := [.l .lent (.int .i64)]
def spec_IsCard.rk : List DK := [.l .own .bool]
def spec_IsCard.enc (r : Bool) : List DV := dvs spec_IsCard.rk (r, ())
def spec_IsCard.dec (ds : List DV) : Option (Bool) := tellD spec_IsCard.rk ds (fun u0 => some u0)
theorem spec_IsCard.dec_some {ds : List DV} {r : Bool} (h0 : spec_IsCard.dec ds = some r) : ds = spec_IsCard.enc r := by
  obtain ⟨⟨u0, _⟩, rfl, h⟩ := tellD_some h0
  cases h
  rfl
def spec_IsCard.phi {R : Type} (k : Nat) (ds : List DV) (K : List DV → Option R) : Option R := tellD spec_IsCard.pk ds (fun a0 => (spec_IsCard.f k a0).bind fun r => K (spec_IsCard.enc r))
def spec_IsCard.G {R : Type} (k : Nat) : Glob R := mkG tt [(54, ⟨spec_l1In.sig, spec_l1In.phi k⟩)] 5
theorem spec_IsCard.gok {R : Type} (k : Nat) : GOK Try.prog (spec_IsCard.G (R := R) k) := GOK_of tok (all_cons (fun _ _ _ h => spec_l1In.ok k h) all_nil)
def spec_IsCard.tab {R : Type} (k : Nat) : LTab R := fun id K vs hs =>
  none
noncomputable def spec_IsCard.body : Code := (Try.f92.body).getD .skip
theorem spec_IsCard.ev (k : Nat) (a0 : Int) : evFn (spec_IsCard.G k) spec_IsCard.live (spec_IsCard.tab k) spec_IsCard.sig Try.f92 (dvs spec_IsCard.pk (a0, ())) spec_IsCard.dec = spec_IsCard.f k a0 := by kernel_rfl
theorem spec_IsCard.con (k : Nat) (a0 : Int) {r : Bool} (h : spec_IsCard.f k a0 = some r) : Contract Try.prog 92 spec_IsCard.sig (dvs spec_IsCard.pk (a0, ())) (spec_IsCard.enc r) :=
  fn_contract (spec_IsCard.gok k) mixed Try.func92 (show _ = some spec_IsCard.body by kernel_rfl) (LoopsOK_of (show loopsOf spec_IsCard.body = [] by kernel_rfl) all_nil) (show 5 = Try.f92.ntmps by kernel_rfl) (Nat.le_of_ble_eq_true (by kernel_rfl)) (by kernel_rfl) (fun _ h => spec_IsCard.dec_some h) ((spec_IsCard.ev k a0).trans h)
theorem spec_IsCard.ok {R : Type} (k : Nat) {ds : List DV} {K : List DV → Option R} {r : R} (h0 : spec_IsCard.phi k ds K = some r) : Enters Try.prog 92 ∧ ∃ rs, Contract Try.prog 92 spec_IsCard.sig ds rs ∧ K rs = some r := by
  obtain ⟨⟨a0, _⟩, rfl, h⟩ := tellD_some h0
  obtain ⟨x, h1, h2⟩ := Option.bind_eq_some_iff.1 (show ((spec_IsCard.f k a0).bind fun r => K (spec_IsCard.enc r)) = some r from h)
  exact ⟨⟨Try.f92, Try.func92, by kernel_rfl, by kernel_rfl⟩, spec_IsCard.enc x, spec_IsCard.con k a0 h1, h2⟩

def spec_SuitOf.sig : Sig := ⟨[3], [3], [.bor], .own⟩
def spec_SuitOf.live : List (Nat × List Nat) := []
def spec_SuitOf.pk : List DK := [.l .lent (.int .i64)]
def spec_SuitOf.rk : List DK := [.l .own (.int .i64)]
def spec_SuitOf.enc (r : Int) : List DV := dvs spec_SuitOf.rk (r, ())
def spec_SuitOf.dec (ds : List DV) : Option (Int) := tellD spec_SuitOf.rk ds (fun u0 => some u0)
theorem spec_SuitOf.dec_some {ds : List DV} {r : Int} (h0 : spec_SuitOf.dec ds = some r) : ds = spec_SuitOf.enc r := by
  obtain ⟨⟨u0, _⟩, rfl, h⟩ := tellD_some h0
  cases h
  rfl
def spec_SuitOf.phi {R : Type} (k : Nat) (ds : List DV) (K : List DV → Option R) : Option R := tellD spec_SuitOf.pk ds (fun a0 => (spec_SuitOf.f k a0).bind fun r => K (spec_SuitOf.enc r))
def spec_SuitOf.G {R : Type} (k : Nat) : Glob R := mkG tt [(92, ⟨spec_IsCard.sig, spec_IsCard.phi k⟩)] 8
theorem spec_SuitOf.gok {R : Type} (k : Nat) : GOK Try.prog (spec_SuitOf.G (R := R) k) := GOK_of tok (all_cons (fun _ _ _ h => spec_IsCard.ok k h) all_nil)
def spec_SuitOf.tab {R : Type} (k : Nat) : LTab R := fun id K vs hs =>
  none
noncomputable def spec_SuitOf.body : Code := (Try.f86.body).getD .skip
theorem spec_SuitOf.ev (k : Nat) (a0 : Int) : evFn (spec_SuitOf.G k) spec_SuitOf.live (spec_SuitOf.tab k) spec_SuitOf.sig Try.f86 (dvs spec_SuitOf.pk (a0, ())) spec_SuitOf.dec = spec_SuitOf.f k a0 := by kernel_rfl
theorem spec_SuitOf.con (k : Nat) (a0 : Int) {r : Int} (h : spec_SuitOf.f k a0 = some r) : Contract Try.prog 86 spec_SuitOf.sig (dvs spec_SuitOf.pk (a0, ())) (spec_SuitOf.enc r) :=
  fn_contract (spec_SuitOf.gok k) mixed Try.func86 (show _ = some spec_SuitOf.body by kernel_rfl) (LoopsOK_of (show loopsOf spec_SuitOf.body = [] by kernel_rfl) all_nil) (show 8 = Try.f86.ntmps by kernel_rfl) (Nat.le_of_ble_eq_true (by kernel_rfl)) (by kernel_rfl) (fun _ h => spec_SuitOf.dec_some h) ((spec_SuitOf.ev k a0).trans h)
theorem spec_SuitOf.ok {R : Type} (k : Nat) {ds : List DV} {K : List DV → Option R} {r : R} (h0 : spec_SuitOf.phi k ds K = some r) : Enters Try.prog 86 ∧ ∃ rs, Contract Try.prog 86 spec_SuitOf.sig ds rs ∧ K rs = some r := by
  obtain ⟨⟨a0, _⟩, rfl, h⟩ := tellD_some h0
  obtain ⟨x, h1, h2⟩ := Option.bind_eq_some_iff.1 (show ((spec_SuitOf.f k a0).bind fun r => K (spec_SuitOf.enc r)) = some r from h)
  exact ⟨⟨Try.f86, Try.func86, by kernel_rfl, by kernel_rfl⟩, spec_SuitOf.enc x, spec_SuitOf.con k a0 h1, h2⟩

def spec_RankOf.sig : Sig := ⟨[3], [3], [.bor], .own⟩
def spec_RankOf.live : List (Nat × List Nat) := []
def spec_RankOf.pk : List DK := [.l .lent (.int .i64)]
def spec_RankOf.rk : List DK := [.l .own (.int .i64)]
def spec_RankOf.enc (r : Int) : List DV := dvs spec_RankOf.rk (r, ())
def spec_RankOf.dec (ds : List DV) : Option (Int) := tellD spec_RankOf.rk ds (fun u0 => some u0)
theorem spec_RankOf.dec_some {ds : List DV} {r : Int} (h0 : spec_RankOf.dec ds = some r) : ds = spec_RankOf.enc r := by
  obtain ⟨⟨u0, _⟩, rfl, h⟩ := tellD_some h0
  cases h
  rfl
def spec_RankOf.phi {R : Type} (k : Nat) (ds : List DV) (K : List DV → Option R) : Option R := tellD spec_RankOf.pk ds (fun a0 => (spec_RankOf.f k a0).bind fun r => K (spec_RankOf.enc r))
def spec_RankOf.G {R : Type} (k : Nat) : Glob R := mkG tt [(92, ⟨spec_IsCard.sig, spec_IsCard.phi k⟩)] 8
theorem spec_RankOf.gok {R : Type} (k : Nat) : GOK Try.prog (spec_RankOf.G (R := R) k) := GOK_of tok (all_cons (fun _ _ _ h => spec_IsCard.ok k h) all_nil)
def spec_RankOf.tab {R : Type} (k : Nat) : LTab R := fun id K vs hs =>
  none
noncomputable def spec_RankOf.body : Code := (Try.f111.body).getD .skip
theorem spec_RankOf.ev (k : Nat) (a0 : Int) : evFn (spec_RankOf.G k) spec_RankOf.live (spec_RankOf.tab k) spec_RankOf.sig Try.f111 (dvs spec_RankOf.pk (a0, ())) spec_RankOf.dec = spec_RankOf.f k a0 := by kernel_rfl
theorem spec_RankOf.con (k : Nat) (a0 : Int) {r : Int} (h : spec_RankOf.f k a0 = some r) : Contract Try.prog 111 spec_RankOf.sig (dvs spec_RankOf.pk (a0, ())) (spec_RankOf.enc r) :=
  fn_contract (spec_RankOf.gok k) mixed Try.func111 (show _ = some spec_RankOf.body by kernel_rfl) (LoopsOK_of (show loopsOf spec_RankOf.body = [] by kernel_rfl) all_nil) (show 8 = Try.f111.ntmps by kernel_rfl) (Nat.le_of_ble_eq_true (by kernel_rfl)) (by kernel_rfl) (fun _ h => spec_RankOf.dec_some h) ((spec_RankOf.ev k a0).trans h)
theorem spec_RankOf.ok {R : Type} (k : Nat) {ds : List DV} {K : List DV → Option R} {r : R} (h0 : spec_RankOf.phi k ds K = some r) : Enters Try.prog 111 ∧ ∃ rs, Contract Try.prog 111 spec_RankOf.sig ds rs ∧ K rs = some r := by
  obtain ⟨⟨a0, _⟩, rfl, h⟩ := tellD_some h0
  obtain ⟨x, h1, h2⟩ := Option.bind_eq_some_iff.1 (show ((spec_RankOf.f k a0).bind fun r => K (spec_RankOf.enc r)) = some r from h)
  exact ⟨⟨Try.f111, Try.func111, by kernel_rfl, by kernel_rfl⟩, spec_RankOf.enc x, spec_RankOf.con k a0 h1, h2⟩

def spec_IsRed.sig : Sig := ⟨[3], [4], [.bor], .own⟩
def spec_IsRed.live : List (Nat × List Nat) := []
def spec_IsRed.pk : List DK := [.l .lent (.int .i64)]
def spec_IsRed.rk : List DK := [.l .own .bool]
def spec_IsRed.enc (r : Bool) : List DV := dvs spec_IsRed.rk (r, ())
def spec_IsRed.dec (ds : List DV) : Option (Bool) := tellD spec_IsRed.rk ds (fun u0 => some u0)
theorem spec_IsRed.dec_some {ds : List DV} {r : Bool} (h0 : spec_IsRed.dec ds = some r) : ds = spec_IsRed.enc r := by
  obtain ⟨⟨u0, _⟩, rfl, h⟩ := tellD_some h0
  cases h
  rfl
def spec_IsRed.phi {R : Type} (k : Nat) (ds : List DV) (K : List DV → Option R) : Option R := tellD spec_IsRed.pk ds (fun a0 => (spec_IsRed.f k a0).bind fun r => K (spec_IsRed.enc r))
def spec_IsRed.G {R : Type} (k : Nat) : Glob R := mkG tt [(54, ⟨spec_l1In.sig, spec_l1In.phi k⟩), (86, ⟨spec_SuitOf.sig, spec_SuitOf.phi k⟩)] 6
theorem spec_IsRed.gok {R : Type} (k : Nat) : GOK Try.prog (spec_IsRed.G (R := R) k) := GOK_of tok (all_cons (fun _ _ _ h => spec_l1In.ok k h) (all_cons (fun _ _ _ h => spec_SuitOf.ok k h) all_nil))
def spec_IsRed.tab {R : Type} (k : Nat) : LTab R := fun id K vs hs =>
  none
noncomputable def spec_IsRed.body : Code := (Try.f124.body).getD .skip
theorem spec_IsRed.ev (k : Nat) (a0 : Int) : evFn (spec_IsRed.G k) spec_IsRed.live (spec_IsRed.tab k) spec_IsRed.sig Try.f124 (dvs spec_IsRed.pk (a0, ())) spec_IsRed.dec = spec_IsRed.f k a0 := by kernel_rfl
theorem spec_IsRed.con (k : Nat) (a0 : Int) {r : Bool} (h : spec_IsRed.f k a0 = some r) : Contract Try.prog 124 spec_IsRed.sig (dvs spec_IsRed.pk (a0, ())) (spec_IsRed.enc r) :=
  fn_contract (spec_IsRed.gok k) mixed Try.func124 (show _ = some spec_IsRed.body by kernel_rfl) (LoopsOK_of (show loopsOf spec_IsRed.body = [] by kernel_rfl) all_nil) (show 6 = Try.f124.ntmps by kernel_rfl) (Nat.le_of_ble_eq_true (by kernel_rfl)) (by kernel_rfl) (fun _ h => spec_IsRed.dec_some h) ((spec_IsRed.ev k a0).trans h)
theorem spec_IsRed.ok {R : Type} (k : Nat) {ds : List DV} {K : List DV → Option R} {r : R} (h0 : spec_IsRed.phi k ds K = some r) : Enters Try.prog 124 ∧ ∃ rs, Contract Try.prog 124 spec_IsRed.sig ds rs ∧ K rs = some r := by
  obtain ⟨⟨a0, _⟩, rfl, h⟩ := tellD_some h0
  obtain ⟨x, h1, h2⟩ := Option.bind_eq_some_iff.1 (show ((spec_IsRed.f k a0).bind fun r => K (spec_IsRed.enc r)) = some r from h)
  exact ⟨⟨Try.f124, Try.func124, by kernel_rfl, by kernel_rfl⟩, spec_IsRed.enc x, spec_IsRed.con k a0 h1, h2⟩

def spec_l8Value.sig : Sig := ⟨[3, 3], [4], [.bor, .bor], .own⟩
def spec_l8Value.live : List (Nat × List Nat) := []
def spec_l8Value.pk : List DK := [.l .lent (.int .i64), .l .lent (.int .i64)]
def spec_l8Value.rk : List DK := [.l .own .bool]
def spec_l8Value.enc (r : Bool) : List DV := dvs spec_l8Value.rk (r, ())
def spec_l8Value.dec (ds : List DV) : Option (Bool) := tellD spec_l8Value.rk ds (fun u0 => some u0)
theorem spec_l8Value.dec_some {ds : List DV} {r : Bool} (h0 : spec_l8Value.dec ds = some r) : ds = spec_l8Value.enc r := by
  obtain ⟨⟨u0, _⟩, rfl, h⟩ := tellD_some h0
  cases h
  rfl
def spec_l8Value.phi {R : Type} (k : Nat) (ds : List DV) (K : List DV → Option R) : Option R := tellD spec_l8Value.pk ds (fun a0 a1 => (spec_l8Value.f k a0 a1).bind fun r => K (spec_l8Value.enc r))
def spec_l8Value.G {R : Type} (k : Nat) : Glob R := mkG tt [(86, ⟨spec_SuitOf.sig, spec_SuitOf.phi k⟩), (111, ⟨spec_RankOf.sig, spec_RankOf.phi k⟩), (124, ⟨spec_IsRed.sig, spec_IsRed.phi k⟩)] 31
theorem spec_l8Value.gok {R : Type} (k : Nat) : GOK Try.prog (spec_l8Value.G (R := R) k) := GOK_of tok (all_cons (fun _ _ _ h => spec_SuitOf.ok k h) (all_cons (fun _ _ _ h => spec_RankOf.ok k h) (all_cons (fun _ _ _ h => spec_IsRed.ok k h) all_nil)))
def spec_l8Value.tab {R : Type} (k : Nat) : LTab R := fun id K vs hs =>
  none
noncomputable def spec_l8Value.body : Code := (Try.f116.body).getD .skip
theorem spec_l8Value.ev (k : Nat) (a0 : Int) (a1 : Int) : evFn (spec_l8Value.G k) spec_l8Value.live (spec_l8Value.tab k) spec_l8Value.sig Try.f116 (dvs spec_l8Value.pk (a0, a1, ())) spec_l8Value.dec = spec_l8Value.f k a0 a1 := by kernel_rfl
theorem spec_l8Value.con (k : Nat) (a0 : Int) (a1 : Int) {r : Bool} (h : spec_l8Value.f k a0 a1 = some r) : Contract Try.prog 116 spec_l8Value.sig (dvs spec_l8Value.pk (a0, a1, ())) (spec_l8Value.enc r) :=
  fn_contract (spec_l8Value.gok k) mixed Try.func116 (show _ = some spec_l8Value.body by kernel_rfl) (LoopsOK_of (show loopsOf spec_l8Value.body = [] by kernel_rfl) all_nil) (show 31 = Try.f116.ntmps by kernel_rfl) (Nat.le_of_ble_eq_true (by kernel_rfl)) (by kernel_rfl) (fun _ h => spec_l8Value.dec_some h) ((spec_l8Value.ev k a0 a1).trans h)
theorem spec_l8Value.ok {R : Type} (k : Nat) {ds : List DV} {K : List DV → Option R} {r : R} (h0 : spec_l8Value.phi k ds K = some r) : Enters Try.prog 116 ∧ ∃ rs, Contract Try.prog 116 spec_l8Value.sig ds rs ∧ K rs = some r := by
  obtain ⟨⟨a0, a1, _⟩, rfl, h⟩ := tellD_some h0
  obtain ⟨x, h1, h2⟩ := Option.bind_eq_some_iff.1 (show ((spec_l8Value.f k a0 a1).bind fun r => K (spec_l8Value.enc r)) = some r from h)
  exact ⟨⟨Try.f116, Try.func116, by kernel_rfl, by kernel_rfl⟩, spec_l8Value.enc x, spec_l8Value.con k a0 a1 h1, h2⟩

def spec_Matches.sig : Sig := ⟨[24, 3], [4], [.bor, .bor], .own⟩
def spec_Matches.live : List (Nat × List Nat) := [(5, [0, 1, 5, 6]), (100005, [4, 5])]
def spec_Matches.pk : List DK := [.l .lent (.ints .i64), .l .lent (.int .i64)]
def spec_Matches.rk : List DK := [.l .own .bool]
def spec_Matches.enc (r : Bool) : List DV := dvs spec_Matches.rk (r, ())
def spec_Matches.dec (ds : List DV) : Option (Bool) := tellD spec_Matches.rk ds (fun u0 => some u0)
theorem spec_Matches.dec_some {ds : List DV} {r : Bool} (h0 : spec_Matches.dec ds = some r) : ds = spec_Matches.enc r := by
  obtain ⟨⟨u0, _⟩, rfl, h⟩ := tellD_some h0
  cases h
  rfl
def spec_Matches.phi {R : Type} (k : Nat) (ds : List DV) (K : List DV → Option R) : Option R := tellD spec_Matches.pk ds (fun a0 a1 => (spec_Matches.f k a0 a1).bind fun r => K (spec_Matches.enc r))
def spec_Matches.G {R : Type} (k : Nat) : Glob R := mkG tt [(92, ⟨spec_IsCard.sig, spec_IsCard.phi k⟩), (115, ⟨spec_IsPattern.sig, spec_IsPattern.phi k⟩), (116, ⟨spec_l8Value.sig, spec_l8Value.phi k⟩)] 93
theorem spec_Matches.gok {R : Type} (k : Nat) : GOK Try.prog (spec_Matches.G (R := R) k) := GOK_of tok (all_cons (fun _ _ _ h => spec_IsCard.ok k h) (all_cons (fun _ _ _ h => spec_IsPattern.ok k h) (all_cons (fun _ _ _ h => spec_l8Value.ok k h) all_nil)))
def spec_Matches.x5_0 {R : Type} (K : X → St → Option R) (p0 : List Bool) : Option R := K (.exit 0) (stOf [4, 5] [.one (.l (.any)), .one (.l (.own 0))] [some (.row 0 0 (.bools p0))])
def spec_Matches.h5 : Hd := ⟨[.l (.val false false (.ints .i64)), .l (.i .i64), .l (.own 0), .l (.i .i64)], [.row false .bools]⟩
def spec_Matches.tab {R : Type} (k : Nat) : LTab R := fun id K vs hs =>
  bif id == 5 then spec_Matches.h5.tell vs hs (fun v5_0 v5_1 v5_2 v5_3 => spec_Matches.l5 k v5_0 v5_1 (spec_Matches.x5_0 K) k v5_2 v5_3) else
  none
noncomputable def spec_Matches.body : Code := (Try.f99.body).getD .skip
noncomputable def spec_Matches.b5 : Code := ((loopsOf spec_Matches.body)[0]?).getD .skip
theorem spec_Matches.fit5 {R : Type} (k : Nat) (K : X → St → Option R) (vs : List AV) (hs : List (Option Root)) (r : R) (h : spec_Matches.tab k (V.keyOf spec_Matches.b5) K vs hs = some r) : LoopFit (spec_Matches.G k) spec_Matches.live (spec_Matches.tab k) spec_Matches.b5 K vs hs r := by
  rw [show V.keyOf spec_Matches.b5 = 5 by kernel_rfl] at h
  obtain ⟨⟨⟨⟨v5_0, _⟩, ⟨v5_1, _⟩, ⟨_, _⟩, ⟨v5_2, _⟩, _⟩, ⟨v5_3, _⟩⟩, e, h⟩ := Hd.tell_some (show spec_Matches.h5.tell vs hs (fun v5_0 v5_1 v5_2 v5_3 => spec_Matches.l5 k v5_0 v5_1 (spec_Matches.x5_0 K) k v5_2 v5_3) = some r from h)
  exact ⟨Int × List Bool, fun a => spec_Matches.h5.enc (((v5_0, ()), (v5_1, ()), ((), ()), (a.1, ()), ()), (a.2, ())), fun vs hs => spec_Matches.h5.tell vs hs (fun _ _ v5_2 v5_3 => some (v5_2, v5_3)), fun rec a => spec_Matches.s5 k v5_0 v5_1 (spec_Matches.x5_0 K) (fun c0 c1 => rec (c0, c1)) a.1 a.2, k, (v5_2, v5_3), e, fun _ => rfl, fun Lp a => by kernel_rfl, h⟩
theorem spec_Matches.ev (k : Nat) (a0 : List Int) (a1 : Int) : evFn (spec_Matches.G k) spec_Matches.live (spec_Matches.tab k) spec_Matches.sig Try.f99 (dvs spec_Matches.pk (a0, a1, ())) spec_Matches.dec = spec_Matches.f k a0 a1 := by kernel_rfl
theorem spec_Matches.con (k : Nat) (a0 : List Int) (a1 : Int) {r : Bool} (h : spec_Matches.f k a0 a1 = some r) : Contract Try.prog 99 spec_Matches.sig (dvs spec_Matches.pk (a0, a1, ())) (spec_Matches.enc r) :=
  fn_contract (spec_Matches.gok k) mixed Try.func99 (show _ = some spec_Matches.body by kernel_rfl) (LoopsOK_of (show loopsOf spec_Matches.body = [spec_Matches.b5] by kernel_rfl) (all_cons (spec_Matches.fit5 k) all_nil)) (show 93 = Try.f99.ntmps by kernel_rfl) (Nat.le_of_ble_eq_true (by kernel_rfl)) (by kernel_rfl) (fun _ h => spec_Matches.dec_some h) ((spec_Matches.ev k a0 a1).trans h)
theorem spec_Matches.ok {R : Type} (k : Nat) {ds : List DV} {K : List DV → Option R} {r : R} (h0 : spec_Matches.phi k ds K = some r) : Enters Try.prog 99 ∧ ∃ rs, Contract Try.prog 99 spec_Matches.sig ds rs ∧ K rs = some r := by
  obtain ⟨⟨a0, a1, _⟩, rfl, h⟩ := tellD_some h0
  obtain ⟨x, h1, h2⟩ := Option.bind_eq_some_iff.1 (show ((spec_Matches.f k a0 a1).bind fun r => K (spec_Matches.enc r)) = some r from h)
  exact ⟨⟨Try.f99, Try.func99, by kernel_rfl, by kernel_rfl⟩, spec_Matches.enc x, spec_Matches.con k a0 a1 h1, h2⟩

def spec_MatchSet.sig : Sig := ⟨[24], [24], [.bor], .own⟩
def spec_MatchSet.live : List (Nat × List Nat) := [(3, [0, 3, 4]), (100003, [2, 3])]
def spec_MatchSet.pk : List DK := [.l .lent (.ints .i64)]
def spec_MatchSet.rk : List DK := [.l .own (.ints .i64)]
def spec_MatchSet.enc (r : List Int) : List DV := dvs spec_MatchSet.rk (r, ())
def spec_MatchSet.dec (ds : List DV) : Option (List Int) := tellD spec_MatchSet.rk ds (fun u0 => some u0)
theorem spec_MatchSet.dec_some {ds : List DV} {r : List Int} (h0 : spec_MatchSet.dec ds = some r) : ds = spec_MatchSet.enc r := by
  obtain ⟨⟨u0, _⟩, rfl, h⟩ := tellD_some h0
  cases h
  rfl
def spec_MatchSet.phi {R : Type} (k : Nat) (ds : List DV) (K : List DV → Option R) : Option R := tellD spec_MatchSet.pk ds (fun a0 => (spec_MatchSet.f k a0).bind fun r => K (spec_MatchSet.enc r))
def spec_MatchSet.G {R : Type} (k : Nat) : Glob R := mkG tt [(99, ⟨spec_Matches.sig, spec_Matches.phi k⟩)] 18
theorem spec_MatchSet.gok {R : Type} (k : Nat) : GOK Try.prog (spec_MatchSet.G (R := R) k) := GOK_of tok (all_cons (fun _ _ _ h => spec_Matches.ok k h) all_nil)
def spec_MatchSet.x3_0 {R : Type} (K : X → St → Option R) (p0 : List Int) : Option R := K (.exit 0) (stOf [2, 3] [.one (.l (.any)), .one (.l (.own 0))] [some (.row 0 0 (.ints .i64 p0))])
def spec_MatchSet.h3 : Hd := ⟨[.l (.val false false (.ints .i64)), .l (.own 0), .l (.i .i64)], [.row false (.ints .i64)]⟩
def spec_MatchSet.tab {R : Type} (k : Nat) : LTab R := fun id K vs hs =>
  bif id == 3 then spec_MatchSet.h3.tell vs hs (fun v3_0 v3_1 v3_2 => spec_MatchSet.l3 k v3_0 (spec_MatchSet.x3_0 K) k v3_1 v3_2) else
  none
noncomputable def spec_MatchSet.body : Code := (Try.f73.body).getD .skip
noncomputable def spec_MatchSet.b3 : Code := ((loopsOf spec_MatchSet.body)[0]?).getD .skip
theorem spec_MatchSet.fit3 {R : Type} (k : Nat) (K : X → St → Option R) (vs : List AV) (hs : List (Option Root)) (r : R) (h : spec_MatchSet.tab k (V.keyOf spec_MatchSet.b3) K vs hs = some r) : LoopFit (spec_MatchSet.G k) spec_MatchSet.live (spec_MatchSet.tab k) spec_MatchSet.b3 K vs hs r := by
  rw [show V.keyOf spec_MatchSet.b3 = 3 by kernel_rfl] at h
  obtain ⟨⟨⟨⟨v3_0, _⟩, ⟨_, _⟩, ⟨v3_1, _⟩, _⟩, ⟨v3_2, _⟩⟩, e, h⟩ := Hd.tell_some (show spec_MatchSet.h3.tell vs hs (fun v3_0 v3_1 v3_2 => spec_MatchSet.l3 k v3_0 (spec_MatchSet.x3_0 K) k v3_1 v3_2) = some r from h)
  exact ⟨Int × List Int, fun a => spec_MatchSet.h3.enc (((v3_0, ()), ((), ()), (a.1, ()), ()), (a.2, ())), fun vs hs => spec_MatchSet.h3.tell vs hs (fun _ v3_1 v3_2 => some (v3_1, v3_2)), fun rec a => spec_MatchSet.s3 k v3_0 (spec_MatchSet.x3_0 K) (fun c0 c1 => rec (c0, c1)) a.1 a.2, k, (v3_1, v3_2), e, fun _ => rfl, fun Lp a => by kernel_rfl, h⟩
theorem spec_MatchSet.ev (k : Nat) (a0 : List Int) : evFn (spec_MatchSet.G k) spec_MatchSet.live (spec_MatchSet.tab k) spec_MatchSet.sig Try.f73 (dvs spec_MatchSet.pk (a0, ())) spec_MatchSet.dec = spec_MatchSet.f k a0 := by kernel_rfl
theorem spec_MatchSet.con (k : Nat) (a0 : List Int) {r : List Int} (h : spec_MatchSet.f k a0 = some r) : Contract Try.prog 73 spec_MatchSet.sig (dvs spec_MatchSet.pk (a0, ())) (spec_MatchSet.enc r) :=
  fn_contract (spec_MatchSet.gok k) mixed Try.func73 (show _ = some spec_MatchSet.body by kernel_rfl) (LoopsOK_of (show loopsOf spec_MatchSet.body = [spec_MatchSet.b3] by kernel_rfl) (all_cons (spec_MatchSet.fit3 k) all_nil)) (show 18 = Try.f73.ntmps by kernel_rfl) (Nat.le_of_ble_eq_true (by kernel_rfl)) (by kernel_rfl) (fun _ h => spec_MatchSet.dec_some h) ((spec_MatchSet.ev k a0).trans h)
theorem spec_MatchSet.ok {R : Type} (k : Nat) {ds : List DV} {K : List DV → Option R} {r : R} (h0 : spec_MatchSet.phi k ds K = some r) : Enters Try.prog 73 ∧ ∃ rs, Contract Try.prog 73 spec_MatchSet.sig ds rs ∧ K rs = some r := by
  obtain ⟨⟨a0, _⟩, rfl, h⟩ := tellD_some h0
  obtain ⟨x, h1, h2⟩ := Option.bind_eq_some_iff.1 (show ((spec_MatchSet.f k a0).bind fun r => K (spec_MatchSet.enc r)) = some r from h)
  exact ⟨⟨Try.f73, Try.func73, by kernel_rfl, by kernel_rfl⟩, spec_MatchSet.enc x, spec_MatchSet.con k a0 h1, h2⟩

def spec_WildShare.sig : Sig := ⟨[54], [3], [.bor], .own⟩
def spec_WildShare.live : List (Nat × List Nat) := []
def spec_WildShare.pk : List DK := [.agg .lent [(.int .i64), (.int .i64), .bool, .bool, (.ints .i64), (.ints .i64), (.int .i64), (.int .i64)]]
def spec_WildShare.rk : List DK := [.l .own (.int .i64)]
def spec_WildShare.enc (r : Int) : List DV := dvs spec_WildShare.rk (r, ())
def spec_WildShare.dec (ds : List DV) : Option (Int) := tellD spec_WildShare.rk ds (fun u0 => some u0)
theorem spec_WildShare.dec_some {ds : List DV} {r : Int} (h0 : spec_WildShare.dec ds = some r) : ds = spec_WildShare.enc r := by
  obtain ⟨⟨u0, _⟩, rfl, h⟩ := tellD_some h0
  cases h
  rfl
def spec_WildShare.phi {R : Type} (k : Nat) (ds : List DV) (K : List DV → Option R) : Option R := tellD spec_WildShare.pk ds (fun a0_0 a0_1 a0_2 a0_3 a0_4 a0_5 a0_6 a0_7 => (spec_WildShare.f k a0_0 a0_1 a0_2 a0_3 a0_4 a0_5 a0_6 a0_7).bind fun r => K (spec_WildShare.enc r))
def spec_WildShare.G {R : Type} (k : Nat) : Glob R := mkG tt [(72, ⟨spec_IsRules.sig, spec_IsRules.phi k⟩), (73, ⟨spec_MatchSet.sig, spec_MatchSet.phi k⟩)] 12
theorem spec_WildShare.gok {R : Type} (k : Nat) : GOK Try.prog (spec_WildShare.G (R := R) k) := GOK_of tok (all_cons (fun _ _ _ h => spec_IsRules.ok k h) (all_cons (fun _ _ _ h => spec_MatchSet.ok k h) all_nil))
def spec_WildShare.tab {R : Type} (k : Nat) : LTab R := fun id K vs hs =>
  none
noncomputable def spec_WildShare.body : Code := (Try.f42.body).getD .skip
theorem spec_WildShare.ev (k : Nat) (a0_0 : Int) (a0_1 : Int) (a0_2 : Bool) (a0_3 : Bool) (a0_4 : List Int) (a0_5 : List Int) (a0_6 : Int) (a0_7 : Int) : evFn (spec_WildShare.G k) spec_WildShare.live (spec_WildShare.tab k) spec_WildShare.sig Try.f42 (dvs spec_WildShare.pk ((a0_0, a0_1, a0_2, a0_3, a0_4, a0_5, a0_6, a0_7, ()), ())) spec_WildShare.dec = spec_WildShare.f k a0_0 a0_1 a0_2 a0_3 a0_4 a0_5 a0_6 a0_7 := by kernel_rfl
theorem spec_WildShare.con (k : Nat) (a0_0 : Int) (a0_1 : Int) (a0_2 : Bool) (a0_3 : Bool) (a0_4 : List Int) (a0_5 : List Int) (a0_6 : Int) (a0_7 : Int) {r : Int} (h : spec_WildShare.f k a0_0 a0_1 a0_2 a0_3 a0_4 a0_5 a0_6 a0_7 = some r) : Contract Try.prog 42 spec_WildShare.sig (dvs spec_WildShare.pk ((a0_0, a0_1, a0_2, a0_3, a0_4, a0_5, a0_6, a0_7, ()), ())) (spec_WildShare.enc r) :=
  fn_contract (spec_WildShare.gok k) mixed Try.func42 (show _ = some spec_WildShare.body by kernel_rfl) (LoopsOK_of (show loopsOf spec_WildShare.body = [] by kernel_rfl) all_nil) (show 12 = Try.f42.ntmps by kernel_rfl) (Nat.le_of_ble_eq_true (by kernel_rfl)) (by kernel_rfl) (fun _ h => spec_WildShare.dec_some h) ((spec_WildShare.ev k a0_0 a0_1 a0_2 a0_3 a0_4 a0_5 a0_6 a0_7).trans h)
theorem spec_WildShare.ok {R : Type} (k : Nat) {ds : List DV} {K : List DV → Option R} {r : R} (h0 : spec_WildShare.phi k ds K = some r) : Enters Try.prog 42 ∧ ∃ rs, Contract Try.prog 42 spec_WildShare.sig ds rs ∧ K rs = some r := by
  obtain ⟨⟨⟨a0_0, a0_1, a0_2, a0_3, a0_4, a0_5, a0_6, a0_7, _⟩, _⟩, rfl, h⟩ := tellD_some h0
  obtain ⟨x, h1, h2⟩ := Option.bind_eq_some_iff.1 (show ((spec_WildShare.f k a0_0 a0_1 a0_2 a0_3 a0_4 a0_5 a0_6 a0_7).bind fun r => K (spec_WildShare.enc r)) = some r from h)
  exact ⟨⟨Try.f42, Try.func42, by kernel_rfl, by kernel_rfl⟩, spec_WildShare.enc x, spec_WildShare.con k a0_0 a0_1 a0_2 a0_3 a0_4 a0_5 a0_6 a0_7 h1, h2⟩

def impl_isTest.sig : Sig := ⟨[3], [4], [.bor], .own⟩
def impl_isTest.live : List (Nat × List Nat) := []
def impl_isTest.pk : List DK := [.l .lent (.int .i64)]
def impl_isTest.rk : List DK := [.l .own .bool]
def impl_isTest.enc (r : Bool) : List DV := dvs impl_isTest.rk (r, ())
def impl_isTest.dec (ds : List DV) : Option (Bool) := tellD impl_isTest.rk ds (fun u0 => some u0)
theorem impl_isTest.dec_some {ds : List DV} {r : Bool} (h0 : impl_isTest.dec ds = some r) : ds = impl_isTest.enc r := by
  obtain ⟨⟨u0, _⟩, rfl, h⟩ := tellD_some h0
  cases h
  rfl
def impl_isTest.phi {R : Type} (k : Nat) (ds : List DV) (K : List DV → Option R) : Option R := tellD impl_isTest.pk ds (fun a0 => (impl_isTest.f k a0).bind fun r => K (impl_isTest.enc r))
def impl_isTest.G {R : Type} (k : Nat) : Glob R := mkG tt [(55, ⟨impl_InRange.sig, impl_InRange.phi k⟩)] 17
theorem impl_isTest.gok {R : Type} (k : Nat) : GOK Try.prog (impl_isTest.G (R := R) k) := GOK_of tok (all_cons (fun _ _ _ h => impl_InRange.ok k h) all_nil)
def impl_isTest.tab {R : Type} (k : Nat) : LTab R := fun id K vs hs =>
  none
noncomputable def impl_isTest.body : Code := (Try.f125.body).getD .skip
theorem impl_isTest.ev (k : Nat) (a0 : Int) : evFn (impl_isTest.G k) impl_isTest.live (impl_isTest.tab k) impl_isTest.sig Try.f125 (dvs impl_isTest.pk (a0, ())) impl_isTest.dec = impl_isTest.f k a0 := by kernel_rfl
theorem impl_isTest.con (k : Nat) (a0 : Int) {r : Bool} (h : impl_isTest.f k a0 = some r) : Contract Try.prog 125 impl_isTest.sig (dvs impl_isTest.pk (a0, ())) (impl_isTest.enc r) :=
  fn_contract (impl_isTest.gok k) mixed Try.func125 (show _ = some impl_isTest.body by kernel_rfl) (LoopsOK_of (show loopsOf impl_isTest.body = [] by kernel_rfl) all_nil) (show 17 = Try.f125.ntmps by kernel_rfl) (Nat.le_of_ble_eq_true (by kernel_rfl)) (by kernel_rfl) (fun _ h => impl_isTest.dec_some h) ((impl_isTest.ev k a0).trans h)
theorem impl_isTest.ok {R : Type} (k : Nat) {ds : List DV} {K : List DV → Option R} {r : R} (h0 : impl_isTest.phi k ds K = some r) : Enters Try.prog 125 ∧ ∃ rs, Contract Try.prog 125 impl_isTest.sig ds rs ∧ K rs = some r := by
  obtain ⟨⟨a0, _⟩, rfl, h⟩ := tellD_some h0
  obtain ⟨x, h1, h2⟩ := Option.bind_eq_some_iff.1 (show ((impl_isTest.f k a0).bind fun r => K (impl_isTest.enc r)) = some r from h)
  exact ⟨⟨Try.f125, Try.func125, by kernel_rfl, by kernel_rfl⟩, impl_isTest.enc x, impl_isTest.con k a0 h1, h2⟩

def impl_IsPattern.sig : Sig := ⟨[24], [4], [.bor], .own⟩
def impl_IsPattern.live : List (Nat × List Nat) := [(3, [0, 3, 6, 7, 8]), (100003, [0, 2, 3])]
def impl_IsPattern.pk : List DK := [.l .lent (.ints .i64)]
def impl_IsPattern.rk : List DK := [.l .own .bool]
def impl_IsPattern.enc (r : Bool) : List DV := dvs impl_IsPattern.rk (r, ())
def impl_IsPattern.dec (ds : List DV) : Option (Bool) := tellD impl_IsPattern.rk ds (fun u0 => some u0)
theorem impl_IsPattern.dec_some {ds : List DV} {r : Bool} (h0 : impl_IsPattern.dec ds = some r) : ds = impl_IsPattern.enc r := by
  obtain ⟨⟨u0, _⟩, rfl, h⟩ := tellD_some h0
  cases h
  rfl
def impl_IsPattern.phi {R : Type} (k : Nat) (ds : List DV) (K : List DV → Option R) : Option R := tellD impl_IsPattern.pk ds (fun a0 => (impl_IsPattern.f k a0).bind fun r => K (impl_IsPattern.enc r))
def impl_IsPattern.G {R : Type} (k : Nat) : Glob R := mkG tt [(55, ⟨impl_InRange.sig, impl_InRange.phi k⟩), (125, ⟨impl_isTest.sig, impl_isTest.phi k⟩)] 45
theorem impl_IsPattern.gok {R : Type} (k : Nat) : GOK Try.prog (impl_IsPattern.G (R := R) k) := GOK_of tok (all_cons (fun _ _ _ h => impl_InRange.ok k h) (all_cons (fun _ _ _ h => impl_isTest.ok k h) all_nil))
def impl_IsPattern.x3_0 {R : Type} (K : X → St → Option R) (v3_0 : List Int) (p0 : Int) : Option R := K .ret (stOf [0, 2, 3] [.one (.l (.val false (.ints .i64 v3_0))), .one (.l (.b false)), .one (.l (.i .i64 p0))] [])
def impl_IsPattern.x3_1 {R : Type} (K : X → St → Option R) (v3_0 : List Int) (p0 : Int) : Option R := K (.exit 0) (stOf [0, 2, 3] [.one (.l (.val false (.ints .i64 v3_0))), .one (.l (.any)), .one (.l (.i .i64 p0))] [])
def impl_IsPattern.h3 : Hd := ⟨[.l (.val false false (.ints .i64)), .l (.i .i64), .l (.val false false (.ints .i64)), .l (.i .i64), .l (.i .i64)], []⟩
def impl_IsPattern.tab {R : Type} (k : Nat) : LTab R := fun id K vs hs =>
  bif id == 3 then impl_IsPattern.h3.tell vs hs (fun v3_0 v3_1 v3_2 v3_3 v3_4 => impl_IsPattern.l3 k v3_2 v3_3 (impl_IsPattern.x3_0 K v3_0) (impl_IsPattern.x3_1 K v3_0) k v3_1 v3_4) else
  none
noncomputable def impl_IsPattern.body : Code := (Try.f117.body).getD .skip
noncomputable def impl_IsPattern.b3 : Code := ((loopsOf impl_IsPattern.body)[0]?).getD .skip
theorem impl_IsPattern.fit3 {R : Type} (k : Nat) (K : X → St → Option R) (vs : List AV) (hs : List (Option Root)) (r : R) (h : impl_IsPattern.tab k (V.keyOf impl_IsPattern.b3) K vs hs = some r) : LoopFit (impl_IsPattern.G k) impl_IsPattern.live (impl_IsPattern.tab k) impl_IsPattern.b3 K vs hs r := by
  rw [show V.keyOf impl_IsPattern.b3 = 3 by kernel_rfl] at h
  obtain ⟨⟨⟨⟨v3_0, _⟩, ⟨v3_1, _⟩, ⟨v3_2, _⟩, ⟨v3_3, _⟩, ⟨v3_4, _⟩, _⟩, _⟩, e, h⟩ := Hd.tell_some (show impl_IsPattern.h3.tell vs hs (fun v3_0 v3_1 v3_2 v3_3 v3_4 => impl_IsPattern.l3 k v3_2 v3_3 (impl_IsPattern.x3_0 K v3_0) (impl_IsPattern.x3_1 K v3_0) k v3_1 v3_4) = some r from h)
  exact ⟨Int × Int, fun a => impl_IsPattern.h3.enc (((v3_0, ()), (a.1, ()), (v3_2, ()), (v3_3, ()), (a.2, ()), ()), ()), fun vs hs => impl_IsPattern.h3.tell vs hs (fun _ v3_1 _ _ v3_4 => some (v3_1, v3_4)), fun rec a => impl_IsPattern.s3 k v3_2 v3_3 (impl_IsPattern.x3_0 K v3_0) (impl_IsPattern.x3_1 K v3_0) (fun c0 c1 => rec (c0, c1)) a.1 a.2, k, (v3_1, v3_4), e, fun _ => rfl, fun Lp a => by kernel_rfl, h⟩
theorem impl_IsPattern.ev (k : Nat) (a0 : List Int) : evFn (impl_IsPattern.G k) impl_IsPattern.live (impl_IsPattern.tab k) impl_IsPattern.sig Try.f117 (dvs impl_IsPattern.pk (a0, ())) impl_IsPattern.dec = impl_IsPattern.f k a0 := by kernel_rfl
theorem impl_IsPattern.con (k : Nat) (a0 : List Int) {r : Bool} (h : impl_IsPattern.f k a0 = some r) : Contract Try.prog 117 impl_IsPattern.sig (dvs impl_IsPattern.pk (a0, ())) (impl_IsPattern.enc r) :=
  fn_contract (impl_IsPattern.gok k) mixed Try.func117 (show _ = some impl_IsPattern.body by kernel_rfl) (LoopsOK_of (show loopsOf impl_IsPattern.body = [impl_IsPattern.b3] by kernel_rfl) (all_cons (impl_IsPattern.fit3 k) all_nil)) (show 45 = Try.f117.ntmps by kernel_rfl) (Nat.le_of_ble_eq_true (by kernel_rfl)) (by kernel_rfl) (fun _ h => impl_IsPattern.dec_some h) ((impl_IsPattern.ev k a0).trans h)
theorem impl_IsPattern.ok {R : Type} (k : Nat) {ds : List DV} {K : List DV → Option R} {r : R} (h0 : impl_IsPattern.phi k ds K = some r) : Enters Try.prog 117 ∧ ∃ rs, Contract Try.prog 117 impl_IsPattern.sig ds rs ∧ K rs = some r := by
  obtain ⟨⟨a0, _⟩, rfl, h⟩ := tellD_some h0
  obtain ⟨x, h1, h2⟩ := Option.bind_eq_some_iff.1 (show ((impl_IsPattern.f k a0).bind fun r => K (impl_IsPattern.enc r)) = some r from h)
  exact ⟨⟨Try.f117, Try.func117, by kernel_rfl, by kernel_rfl⟩, impl_IsPattern.enc x, impl_IsPattern.con k a0 h1, h2⟩

def impl_isMaybe.sig : Sig := ⟨[24], [4], [.bor], .own⟩
def impl_isMaybe.live : List (Nat × List Nat) := []
def impl_isMaybe.pk : List DK := [.l .lent (.ints .i64)]
def impl_isMaybe.rk : List DK := [.l .own .bool]
def impl_isMaybe.enc (r : Bool) : List DV := dvs impl_isMaybe.rk (r, ())
def impl_isMaybe.dec (ds : List DV) : Option (Bool) := tellD impl_isMaybe.rk ds (fun u0 => some u0)
theorem impl_isMaybe.dec_some {ds : List DV} {r : Bool} (h0 : impl_isMaybe.dec ds = some r) : ds = impl_isMaybe.enc r := by
  obtain ⟨⟨u0, _⟩, rfl, h⟩ := tellD_some h0
  cases h
  rfl
def impl_isMaybe.phi {R : Type} (k : Nat) (ds : List DV) (K : List DV → Option R) : Option R := tellD impl_isMaybe.pk ds (fun a0 => (impl_isMaybe.f k a0).bind fun r => K (impl_isMaybe.enc r))
def impl_isMaybe.G {R : Type} (k : Nat) : Glob R := mkG tt [(117, ⟨impl_IsPattern.sig, impl_IsPattern.phi k⟩)] 10
theorem impl_isMaybe.gok {R : Type} (k : Nat) : GOK Try.prog (impl_isMaybe.G (R := R) k) := GOK_of tok (all_cons (fun _ _ _ h => impl_IsPattern.ok k h) all_nil)
def impl_isMaybe.tab {R : Type} (k : Nat) : LTab R := fun id K vs hs =>
  none
noncomputable def impl_isMaybe.body : Code := (Try.f100.body).getD .skip
theorem impl_isMaybe.ev (k : Nat) (a0 : List Int) : evFn (impl_isMaybe.G k) impl_isMaybe.live (impl_isMaybe.tab k) impl_isMaybe.sig Try.f100 (dvs impl_isMaybe.pk (a0, ())) impl_isMaybe.dec = impl_isMaybe.f k a0 := by kernel_rfl
theorem impl_isMaybe.con (k : Nat) (a0 : List Int) {r : Bool} (h : impl_isMaybe.f k a0 = some r) : Contract Try.prog 100 impl_isMaybe.sig (dvs impl_isMaybe.pk (a0, ())) (impl_isMaybe.enc r) :=
  fn_contract (impl_isMaybe.gok k) mixed Try.func100 (show _ = some impl_isMaybe.body by kernel_rfl) (LoopsOK_of (show loopsOf impl_isMaybe.body = [] by kernel_rfl) all_nil) (show 10 = Try.f100.ntmps by kernel_rfl) (Nat.le_of_ble_eq_true (by kernel_rfl)) (by kernel_rfl) (fun _ h => impl_isMaybe.dec_some h) ((impl_isMaybe.ev k a0).trans h)
theorem impl_isMaybe.ok {R : Type} (k : Nat) {ds : List DV} {K : List DV → Option R} {r : R} (h0 : impl_isMaybe.phi k ds K = some r) : Enters Try.prog 100 ∧ ∃ rs, Contract Try.prog 100 impl_isMaybe.sig ds rs ∧ K rs = some r := by
  obtain ⟨⟨a0, _⟩, rfl, h⟩ := tellD_some h0
  obtain ⟨x, h1, h2⟩ := Option.bind_eq_some_iff.1 (show ((impl_isMaybe.f k a0).bind fun r => K (impl_isMaybe.enc r)) = some r from h)
  exact ⟨⟨Try.f100, Try.func100, by kernel_rfl, by kernel_rfl⟩, impl_isMaybe.enc x, impl_isMaybe.con k a0 h1, h2⟩

def impl_IsRules.sig : Sig := ⟨[54], [4], [.bor], .own⟩
def impl_IsRules.live : List (Nat × List Nat) := []
def impl_IsRules.pk : List DK := [.agg .lent [(.int .i64), (.int .i64), .bool, .bool, (.ints .i64), (.ints .i64), (.int .i64), (.int .i64)]]
def impl_IsRules.rk : List DK := [.l .own .bool]
def impl_IsRules.enc (r : Bool) : List DV := dvs impl_IsRules.rk (r, ())
def impl_IsRules.dec (ds : List DV) : Option (Bool) := tellD impl_IsRules.rk ds (fun u0 => some u0)
theorem impl_IsRules.dec_some {ds : List DV} {r : Bool} (h0 : impl_IsRules.dec ds = some r) : ds = impl_IsRules.enc r := by
  obtain ⟨⟨u0, _⟩, rfl, h⟩ := tellD_some h0
  cases h
  rfl
def impl_IsRules.phi {R : Type} (k : Nat) (ds : List DV) (K : List DV → Option R) : Option R := tellD impl_IsRules.pk ds (fun a0_0 a0_1 a0_2 a0_3 a0_4 a0_5 a0_6 a0_7 => (impl_IsRules.f k a0_0 a0_1 a0_2 a0_3 a0_4 a0_5 a0_6 a0_7).bind fun r => K (impl_IsRules.enc r))
def impl_IsRules.G {R : Type} (k : Nat) : Glob R := mkG tt [(55, ⟨impl_InRange.sig, impl_InRange.phi k⟩), (100, ⟨impl_isMaybe.sig, impl_isMaybe.phi k⟩)] 39
theorem impl_IsRules.gok {R : Type} (k : Nat) : GOK Try.prog (impl_IsRules.G (R := R) k) := GOK_of tok (all_cons (fun _ _ _ h => impl_InRange.ok k h) (all_cons (fun _ _ _ h => impl_isMaybe.ok k h) all_nil))
def impl_IsRules.tab {R : Type} (k : Nat) : LTab R := fun id K vs hs =>
  none
noncomputable def impl_IsRules.body : Code := (Try.f74.body).getD .skip
theorem impl_IsRules.ev (k : Nat) (a0_0 : Int) (a0_1 : Int) (a0_2 : Bool) (a0_3 : Bool) (a0_4 : List Int) (a0_5 : List Int) (a0_6 : Int) (a0_7 : Int) : evFn (impl_IsRules.G k) impl_IsRules.live (impl_IsRules.tab k) impl_IsRules.sig Try.f74 (dvs impl_IsRules.pk ((a0_0, a0_1, a0_2, a0_3, a0_4, a0_5, a0_6, a0_7, ()), ())) impl_IsRules.dec = impl_IsRules.f k a0_0 a0_1 a0_2 a0_3 a0_4 a0_5 a0_6 a0_7 := by kernel_rfl
theorem impl_IsRules.con (k : Nat) (a0_0 : Int) (a0_1 : Int) (a0_2 : Bool) (a0_3 : Bool) (a0_4 : List Int) (a0_5 : List Int) (a0_6 : Int) (a0_7 : Int) {r : Bool} (h : impl_IsRules.f k a0_0 a0_1 a0_2 a0_3 a0_4 a0_5 a0_6 a0_7 = some r) : Contract Try.prog 74 impl_IsRules.sig (dvs impl_IsRules.pk ((a0_0, a0_1, a0_2, a0_3, a0_4, a0_5, a0_6, a0_7, ()), ())) (impl_IsRules.enc r) :=
  fn_contract (impl_IsRules.gok k) mixed Try.func74 (show _ = some impl_IsRules.body by kernel_rfl) (LoopsOK_of (show loopsOf impl_IsRules.body = [] by kernel_rfl) all_nil) (show 39 = Try.f74.ntmps by kernel_rfl) (Nat.le_of_ble_eq_true (by kernel_rfl)) (by kernel_rfl) (fun _ h => impl_IsRules.dec_some h) ((impl_IsRules.ev k a0_0 a0_1 a0_2 a0_3 a0_4 a0_5 a0_6 a0_7).trans h)
theorem impl_IsRules.ok {R : Type} (k : Nat) {ds : List DV} {K : List DV → Option R} {r : R} (h0 : impl_IsRules.phi k ds K = some r) : Enters Try.prog 74 ∧ ∃ rs, Contract Try.prog 74 impl_IsRules.sig ds rs ∧ K rs = some r := by
  obtain ⟨⟨⟨a0_0, a0_1, a0_2, a0_3, a0_4, a0_5, a0_6, a0_7, _⟩, _⟩, rfl, h⟩ := tellD_some h0
  obtain ⟨x, h1, h2⟩ := Option.bind_eq_some_iff.1 (show ((impl_IsRules.f k a0_0 a0_1 a0_2 a0_3 a0_4 a0_5 a0_6 a0_7).bind fun r => K (impl_IsRules.enc r)) = some r from h)
  exact ⟨⟨Try.f74, Try.func74, by kernel_rfl, by kernel_rfl⟩, impl_IsRules.enc x, impl_IsRules.con k a0_0 a0_1 a0_2 a0_3 a0_4 a0_5 a0_6 a0_7 h1, h2⟩

def impl_IsCard.sig : Sig := ⟨[3], [4], [.bor], .own⟩
def impl_IsCard.live : List (Nat × List Nat) := []
def impl_IsCard.pk : List DK := [.l .lent (.int .i64)]
def impl_IsCard.rk : List DK := [.l .own .bool]
def impl_IsCard.enc (r : Bool) : List DV := dvs impl_IsCard.rk (r, ())
def impl_IsCard.dec (ds : List DV) : Option (Bool) := tellD impl_IsCard.rk ds (fun u0 => some u0)
theorem impl_IsCard.dec_some {ds : List DV} {r : Bool} (h0 : impl_IsCard.dec ds = some r) : ds = impl_IsCard.enc r := by
  obtain ⟨⟨u0, _⟩, rfl, h⟩ := tellD_some h0
  cases h
  rfl
def impl_IsCard.phi {R : Type} (k : Nat) (ds : List DV) (K : List DV → Option R) : Option R := tellD impl_IsCard.pk ds (fun a0 => (impl_IsCard.f k a0).bind fun r => K (impl_IsCard.enc r))
def impl_IsCard.G {R : Type} (k : Nat) : Glob R := mkG tt [(55, ⟨impl_InRange.sig, impl_InRange.phi k⟩)] 5
theorem impl_IsCard.gok {R : Type} (k : Nat) : GOK Try.prog (impl_IsCard.G (R := R) k) := GOK_of tok (all_cons (fun _ _ _ h => impl_InRange.ok k h) all_nil)
def impl_IsCard.tab {R : Type} (k : Nat) : LTab R := fun id K vs hs =>
  none
noncomputable def impl_IsCard.body : Code := (Try.f108.body).getD .skip
theorem impl_IsCard.ev (k : Nat) (a0 : Int) : evFn (impl_IsCard.G k) impl_IsCard.live (impl_IsCard.tab k) impl_IsCard.sig Try.f108 (dvs impl_IsCard.pk (a0, ())) impl_IsCard.dec = impl_IsCard.f k a0 := by kernel_rfl
theorem impl_IsCard.con (k : Nat) (a0 : Int) {r : Bool} (h : impl_IsCard.f k a0 = some r) : Contract Try.prog 108 impl_IsCard.sig (dvs impl_IsCard.pk (a0, ())) (impl_IsCard.enc r) :=
  fn_contract (impl_IsCard.gok k) mixed Try.func108 (show _ = some impl_IsCard.body by kernel_rfl) (LoopsOK_of (show loopsOf impl_IsCard.body = [] by kernel_rfl) all_nil) (show 5 = Try.f108.ntmps by kernel_rfl) (Nat.le_of_ble_eq_true (by kernel_rfl)) (by kernel_rfl) (fun _ h => impl_IsCard.dec_some h) ((impl_IsCard.ev k a0).trans h)
theorem impl_IsCard.ok {R : Type} (k : Nat) {ds : List DV} {K : List DV → Option R} {r : R} (h0 : impl_IsCard.phi k ds K = some r) : Enters Try.prog 108 ∧ ∃ rs, Contract Try.prog 108 impl_IsCard.sig ds rs ∧ K rs = some r := by
  obtain ⟨⟨a0, _⟩, rfl, h⟩ := tellD_some h0
  obtain ⟨x, h1, h2⟩ := Option.bind_eq_some_iff.1 (show ((impl_IsCard.f k a0).bind fun r => K (impl_IsCard.enc r)) = some r from h)
  exact ⟨⟨Try.f108, Try.func108, by kernel_rfl, by kernel_rfl⟩, impl_IsCard.enc x, impl_IsCard.con k a0 h1, h2⟩

def impl_RankOf.sig : Sig := ⟨[3], [3], [.bor], .own⟩
def impl_RankOf.live : List (Nat × List Nat) := []
def impl_RankOf.pk : List DK := [.l .lent (.int .i64)]
def impl_RankOf.rk : List DK := [.l .own (.int .i64)]
def impl_RankOf.enc (r : Int) : List DV := dvs impl_RankOf.rk (r, ())
def impl_RankOf.dec (ds : List DV) : Option (Int) := tellD impl_RankOf.rk ds (fun u0 => some u0)
theorem impl_RankOf.dec_some {ds : List DV} {r : Int} (h0 : impl_RankOf.dec ds = some r) : ds = impl_RankOf.enc r := by
  obtain ⟨⟨u0, _⟩, rfl, h⟩ := tellD_some h0
  cases h
  rfl
def impl_RankOf.phi {R : Type} (k : Nat) (ds : List DV) (K : List DV → Option R) : Option R := tellD impl_RankOf.pk ds (fun a0 => (impl_RankOf.f k a0).bind fun r => K (impl_RankOf.enc r))
def impl_RankOf.G {R : Type} (k : Nat) : Glob R := mkG tt [(108, ⟨impl_IsCard.sig, impl_IsCard.phi k⟩)] 8
theorem impl_RankOf.gok {R : Type} (k : Nat) : GOK Try.prog (impl_RankOf.G (R := R) k) := GOK_of tok (all_cons (fun _ _ _ h => impl_IsCard.ok k h) all_nil)
def impl_RankOf.tab {R : Type} (k : Nat) : LTab R := fun id K vs hs =>
  none
noncomputable def impl_RankOf.body : Code := (Try.f109.body).getD .skip
theorem impl_RankOf.ev (k : Nat) (a0 : Int) : evFn (impl_RankOf.G k) impl_RankOf.live (impl_RankOf.tab k) impl_RankOf.sig Try.f109 (dvs impl_RankOf.pk (a0, ())) impl_RankOf.dec = impl_RankOf.f k a0 := by kernel_rfl
theorem impl_RankOf.con (k : Nat) (a0 : Int) {r : Int} (h : impl_RankOf.f k a0 = some r) : Contract Try.prog 109 impl_RankOf.sig (dvs impl_RankOf.pk (a0, ())) (impl_RankOf.enc r) :=
  fn_contract (impl_RankOf.gok k) mixed Try.func109 (show _ = some impl_RankOf.body by kernel_rfl) (LoopsOK_of (show loopsOf impl_RankOf.body = [] by kernel_rfl) all_nil) (show 8 = Try.f109.ntmps by kernel_rfl) (Nat.le_of_ble_eq_true (by kernel_rfl)) (by kernel_rfl) (fun _ h => impl_RankOf.dec_some h) ((impl_RankOf.ev k a0).trans h)
theorem impl_RankOf.ok {R : Type} (k : Nat) {ds : List DV} {K : List DV → Option R} {r : R} (h0 : impl_RankOf.phi k ds K = some r) : Enters Try.prog 109 ∧ ∃ rs, Contract Try.prog 109 impl_RankOf.sig ds rs ∧ K rs = some r := by
  obtain ⟨⟨a0, _⟩, rfl, h⟩ := tellD_some h0
  obtain ⟨x, h1, h2⟩ := Option.bind_eq_some_iff.1 (show ((impl_RankOf.f k a0).bind fun r => K (impl_RankOf.enc r)) = some r from h)
  exact ⟨⟨Try.f109, Try.func109, by kernel_rfl, by kernel_rfl⟩, impl_RankOf.enc x, impl_RankOf.con k a0 h1, h2⟩

def impl_SuitOf.sig : Sig := ⟨[3], [3], [.bor], .own⟩
def impl_SuitOf.live : List (Nat × List Nat) := []
def impl_SuitOf.pk : List DK := [.l .lent (.int .i64)]
def impl_SuitOf.rk : List DK := [.l .own (.int .i64)]
def impl_SuitOf.enc (r : Int) : List DV := dvs impl_SuitOf.rk (r, ())
def impl_SuitOf.dec (ds : List DV) : Option (Int) := tellD impl_SuitOf.rk ds (fun u0 => some u0)
theorem impl_SuitOf.dec_some {ds : List DV} {r : Int} (h0 : impl_SuitOf.dec ds = some r) : ds = impl_SuitOf.enc r := by
  obtain ⟨⟨u0, _⟩, rfl, h⟩ := tellD_some h0
  cases h
  rfl
def impl_SuitOf.phi {R : Type} (k : Nat) (ds : List DV) (K : List DV → Option R) : Option R := tellD impl_SuitOf.pk ds (fun a0 => (impl_SuitOf.f k a0).bind fun r => K (impl_SuitOf.enc r))
def impl_SuitOf.G {R : Type} (k : Nat) : Glob R := mkG tt [(108, ⟨impl_IsCard.sig, impl_IsCard.phi k⟩)] 8
theorem impl_SuitOf.gok {R : Type} (k : Nat) : GOK Try.prog (impl_SuitOf.G (R := R) k) := GOK_of tok (all_cons (fun _ _ _ h => impl_IsCard.ok k h) all_nil)
def impl_SuitOf.tab {R : Type} (k : Nat) : LTab R := fun id K vs hs =>
  none
noncomputable def impl_SuitOf.body : Code := (Try.f110.body).getD .skip
theorem impl_SuitOf.ev (k : Nat) (a0 : Int) : evFn (impl_SuitOf.G k) impl_SuitOf.live (impl_SuitOf.tab k) impl_SuitOf.sig Try.f110 (dvs impl_SuitOf.pk (a0, ())) impl_SuitOf.dec = impl_SuitOf.f k a0 := by kernel_rfl
theorem impl_SuitOf.con (k : Nat) (a0 : Int) {r : Int} (h : impl_SuitOf.f k a0 = some r) : Contract Try.prog 110 impl_SuitOf.sig (dvs impl_SuitOf.pk (a0, ())) (impl_SuitOf.enc r) :=
  fn_contract (impl_SuitOf.gok k) mixed Try.func110 (show _ = some impl_SuitOf.body by kernel_rfl) (LoopsOK_of (show loopsOf impl_SuitOf.body = [] by kernel_rfl) all_nil) (show 8 = Try.f110.ntmps by kernel_rfl) (Nat.le_of_ble_eq_true (by kernel_rfl)) (by kernel_rfl) (fun _ h => impl_SuitOf.dec_some h) ((impl_SuitOf.ev k a0).trans h)
theorem impl_SuitOf.ok {R : Type} (k : Nat) {ds : List DV} {K : List DV → Option R} {r : R} (h0 : impl_SuitOf.phi k ds K = some r) : Enters Try.prog 110 ∧ ∃ rs, Contract Try.prog 110 impl_SuitOf.sig ds rs ∧ K rs = some r := by
  obtain ⟨⟨a0, _⟩, rfl, h⟩ := tellD_some h0
  obtain ⟨x, h1, h2⟩ := Option.bind_eq_some_iff.1 (show ((impl_SuitOf.f k a0).bind fun r => K (impl_SuitOf.enc r)) = some r from h)
  exact ⟨⟨Try.f110, Try.func110, by kernel_rfl, by kernel_rfl⟩, impl_SuitOf.enc x, impl_SuitOf.con k a0 h1, h2⟩

def impl_IsRed.sig : Sig := ⟨[3], [4], [.bor], .own⟩
def impl_IsRed.live : List (Nat × List Nat) := []
def impl_IsRed.pk : List DK := [.l .lent (.int .i64)]
def impl_IsRed.rk : List DK := [.l .own .bool]
def impl_IsRed.enc (r : Bool) : List DV := dvs impl_IsRed.rk (r, ())
def impl_IsRed.dec (ds : List DV) : Option (Bool) := tellD impl_IsRed.rk ds (fun u0 => some u0)
theorem impl_IsRed.dec_some {ds : List DV} {r : Bool} (h0 : impl_IsRed.dec ds = some r) : ds = impl_IsRed.enc r := by
  obtain ⟨⟨u0, _⟩, rfl, h⟩ := tellD_some h0
  cases h
  rfl
def impl_IsRed.phi {R : Type} (k : Nat) (ds : List DV) (K : List DV → Option R) : Option R := tellD impl_IsRed.pk ds (fun a0 => (impl_IsRed.f k a0).bind fun r => K (impl_IsRed.enc r))
def impl_IsRed.G {R : Type} (k : Nat) : Glob R := mkG tt [(110, ⟨impl_SuitOf.sig, impl_SuitOf.phi k⟩)] 11
theorem impl_IsRed.gok {R : Type} (k : Nat) : GOK Try.prog (impl_IsRed.G (R := R) k) := GOK_of tok (all_cons (fun _ _ _ h => impl_SuitOf.ok k h) all_nil)
def impl_IsRed.tab {R : Type} (k : Nat) : LTab R := fun id K vs hs =>
  none
noncomputable def impl_IsRed.body : Code := (Try.f126.body).getD .skip
theorem impl_IsRed.ev (k : Nat) (a0 : Int) : evFn (impl_IsRed.G k) impl_IsRed.live (impl_IsRed.tab k) impl_IsRed.sig Try.f126 (dvs impl_IsRed.pk (a0, ())) impl_IsRed.dec = impl_IsRed.f k a0 := by kernel_rfl
theorem impl_IsRed.con (k : Nat) (a0 : Int) {r : Bool} (h : impl_IsRed.f k a0 = some r) : Contract Try.prog 126 impl_IsRed.sig (dvs impl_IsRed.pk (a0, ())) (impl_IsRed.enc r) :=
  fn_contract (impl_IsRed.gok k) mixed Try.func126 (show _ = some impl_IsRed.body by kernel_rfl) (LoopsOK_of (show loopsOf impl_IsRed.body = [] by kernel_rfl) all_nil) (show 11 = Try.f126.ntmps by kernel_rfl) (Nat.le_of_ble_eq_true (by kernel_rfl)) (by kernel_rfl) (fun _ h => impl_IsRed.dec_some h) ((impl_IsRed.ev k a0).trans h)
theorem impl_IsRed.ok {R : Type} (k : Nat) {ds : List DV} {K : List DV → Option R} {r : R} (h0 : impl_IsRed.phi k ds K = some r) : Enters Try.prog 126 ∧ ∃ rs, Contract Try.prog 126 impl_IsRed.sig ds rs ∧ K rs = some r := by
  obtain ⟨⟨a0, _⟩, rfl, h⟩ := tellD_some h0
  obtain ⟨x, h1, h2⟩ := Option.bind_eq_some_iff.1 (show ((impl_IsRed.f k a0).bind fun r => K (impl_IsRed.enc r)) = some r from h)
  exact ⟨⟨Try.f126, Try.func126, by kernel_rfl, by kernel_rfl⟩, impl_IsRed.enc x, impl_IsRed.con k a0 h1, h2⟩

def impl_asks.sig : Sig := ⟨[3, 3], [4], [.bor, .bor], .own⟩
def impl_asks.live : List (Nat × List Nat) := []
def impl_asks.pk : List DK := [.l .lent (.int .i64), .l .lent (.int .i64)]
def impl_asks.rk : List DK := [.l .own .bool]
def impl_asks.enc (r : Bool) : List DV := dvs impl_asks.rk (r, ())
def impl_asks.dec (ds : List DV) : Option (Bool) := tellD impl_asks.rk ds (fun u0 => some u0)
theorem impl_asks.dec_some {ds : List DV} {r : Bool} (h0 : impl_asks.dec ds = some r) : ds = impl_asks.enc r := by
  obtain ⟨⟨u0, _⟩, rfl, h⟩ := tellD_some h0
  cases h
  rfl
def impl_asks.phi {R : Type} (k : Nat) (ds : List DV) (K : List DV → Option R) : Option R := tellD impl_asks.pk ds (fun a0 a1 => (impl_asks.f k a0 a1).bind fun r => K (impl_asks.enc r))
def impl_asks.G {R : Type} (k : Nat) : Glob R := mkG tt [(109, ⟨impl_RankOf.sig, impl_RankOf.phi k⟩), (110, ⟨impl_SuitOf.sig, impl_SuitOf.phi k⟩), (126, ⟨impl_IsRed.sig, impl_IsRed.phi k⟩)] 31
theorem impl_asks.gok {R : Type} (k : Nat) : GOK Try.prog (impl_asks.G (R := R) k) := GOK_of tok (all_cons (fun _ _ _ h => impl_RankOf.ok k h) (all_cons (fun _ _ _ h => impl_SuitOf.ok k h) (all_cons (fun _ _ _ h => impl_IsRed.ok k h) all_nil)))
def impl_asks.tab {R : Type} (k : Nat) : LTab R := fun id K vs hs =>
  none
noncomputable def impl_asks.body : Code := (Try.f118.body).getD .skip
theorem impl_asks.ev (k : Nat) (a0 : Int) (a1 : Int) : evFn (impl_asks.G k) impl_asks.live (impl_asks.tab k) impl_asks.sig Try.f118 (dvs impl_asks.pk (a0, a1, ())) impl_asks.dec = impl_asks.f k a0 a1 := by kernel_rfl
theorem impl_asks.con (k : Nat) (a0 : Int) (a1 : Int) {r : Bool} (h : impl_asks.f k a0 a1 = some r) : Contract Try.prog 118 impl_asks.sig (dvs impl_asks.pk (a0, a1, ())) (impl_asks.enc r) :=
  fn_contract (impl_asks.gok k) mixed Try.func118 (show _ = some impl_asks.body by kernel_rfl) (LoopsOK_of (show loopsOf impl_asks.body = [] by kernel_rfl) all_nil) (show 31 = Try.f118.ntmps by kernel_rfl) (Nat.le_of_ble_eq_true (by kernel_rfl)) (by kernel_rfl) (fun _ h => impl_asks.dec_some h) ((impl_asks.ev k a0 a1).trans h)
theorem impl_asks.ok {R : Type} (k : Nat) {ds : List DV} {K : List DV → Option R} {r : R} (h0 : impl_asks.phi k ds K = some r) : Enters Try.prog 118 ∧ ∃ rs, Contract Try.prog 118 impl_asks.sig ds rs ∧ K rs = some r := by
  obtain ⟨⟨a0, a1, _⟩, rfl, h⟩ := tellD_some h0
  obtain ⟨x, h1, h2⟩ := Option.bind_eq_some_iff.1 (show ((impl_asks.f k a0 a1).bind fun r => K (impl_asks.enc r)) = some r from h)
  exact ⟨⟨Try.f118, Try.func118, by kernel_rfl, by kernel_rfl⟩, impl_asks.enc x, impl_asks.con k a0 a1 h1, h2⟩

def impl_Matches.sig : Sig := ⟨[24, 3], [4], [.bor, .bor], .own⟩
def impl_Matches.live : List (Nat × List Nat) := [(5, [1, 5, 18, 19, 20]), (100005, [4, 5])]
def impl_Matches.pk : List DK := [.l .lent (.ints .i64), .l .lent (.int .i64)]
def impl_Matches.rk : List DK := [.l .own .bool]
def impl_Matches.enc (r : Bool) : List DV := dvs impl_Matches.rk (r, ())
def impl_Matches.dec (ds : List DV) : Option (Bool) := tellD impl_Matches.rk ds (fun u0 => some u0)
theorem impl_Matches.dec_some {ds : List DV} {r : Bool} (h0 : impl_Matches.dec ds = some r) : ds = impl_Matches.enc r := by
  obtain ⟨⟨u0, _⟩, rfl, h⟩ := tellD_some h0
  cases h
  rfl
def impl_Matches.phi {R : Type} (k : Nat) (ds : List DV) (K : List DV → Option R) : Option R := tellD impl_Matches.pk ds (fun a0 a1 => (impl_Matches.f k a0 a1).bind fun r => K (impl_Matches.enc r))
def impl_Matches.G {R : Type} (k : Nat) : Glob R := mkG tt [(108, ⟨impl_IsCard.sig, impl_IsCard.phi k⟩), (117, ⟨impl_IsPattern.sig, impl_IsPattern.phi k⟩), (118, ⟨impl_asks.sig, impl_asks.phi k⟩)] 89
theorem impl_Matches.gok {R : Type} (k : Nat) : GOK Try.prog (impl_Matches.G (R := R) k) := GOK_of tok (all_cons (fun _ _ _ h => impl_IsCard.ok k h) (all_cons (fun _ _ _ h => impl_IsPattern.ok k h) (all_cons (fun _ _ _ h => impl_asks.ok k h) all_nil)))
def impl_Matches.x5_0 {R : Type} (K : X → St → Option R) (p0 : List Bool) : Option R := K (.exit 0) (stOf [4, 5] [.one (.l (.any)), .one (.l (.own 0))] [some (.row 0 0 (.bools p0))])
def impl_Matches.h5 : Hd := ⟨[.l (.i .i64), .l (.own 0), .l (.val false false (.ints .i64)), .l (.i .i64), .l (.i .i64)], [.row false .bools]⟩
def impl_Matches.tab {R : Type} (k : Nat) : LTab R := fun id K vs hs =>
  bif id == 5 then impl_Matches.h5.tell vs hs (fun v5_0 v5_1 v5_2 v5_3 v5_4 => impl_Matches.l5 k v5_0 v5_1 v5_2 (impl_Matches.x5_0 K) k v5_3 v5_4) else
  none
noncomputable def impl_Matches.body : Code := (Try.f101.body).getD .skip
noncomputable def impl_Matches.b5 : Code := ((loopsOf impl_Matches.body)[0]?).getD .skip
theorem impl_Matches.fit5 {R : Type} (k : Nat) (K : X → St → Option R) (vs : List AV) (hs : List (Option Root)) (r : R) (h : impl_Matches.tab k (V.keyOf impl_Matches.b5) K vs hs = some r) : LoopFit (impl_Matches.G k) impl_Matches.live (impl_Matches.tab k) impl_Matches.b5 K vs hs r := by
  rw [show V.keyOf impl_Matches.b5 = 5 by kernel_rfl] at h
  obtain ⟨⟨⟨⟨v5_0, _⟩, ⟨_, _⟩, ⟨v5_1, _⟩, ⟨v5_2, _⟩, ⟨v5_3, _⟩, _⟩, ⟨v5_4, _⟩⟩, e, h⟩ := Hd.tell_some (show impl_Matches.h5.tell vs hs (fun v5_0 v5_1 v5_2 v5_3 v5_4 => impl_Matches.l5 k v5_0 v5_1 v5_2 (impl_Matches.x5_0 K) k v5_3 v5_4) = some r from h)
  exact ⟨Int × List Bool, fun a => impl_Matches.h5.enc (((v5_0, ()), ((), ()), (v5_1, ()), (v5_2, ()), (a.1, ()), ()), (a.2, ())), fun vs hs => impl_Matches.h5.tell vs hs (fun _ _ _ v5_3 v5_4 => some (v5_3, v5_4)), fun rec a => impl_Matches.s5 k v5_0 v5_1 v5_2 (impl_Matches.x5_0 K) (fun c0 c1 => rec (c0, c1)) a.1 a.2, k, (v5_3, v5_4), e, fun _ => rfl, fun Lp a => by kernel_rfl, h⟩
theorem impl_Matches.ev (k : Nat) (a0 : List Int) (a1 : Int) : evFn (impl_Matches.G k) impl_Matches.live (impl_Matches.tab k) impl_Matches.sig Try.f101 (dvs impl_Matches.pk (a0, a1, ())) impl_Matches.dec = impl_Matches.f k a0 a1 := by kernel_rfl
theorem impl_Matches.con (k : Nat) (a0 : List Int) (a1 : Int) {r : Bool} (h : impl_Matches.f k a0 a1 = some r) : Contract Try.prog 101 impl_Matches.sig (dvs impl_Matches.pk (a0, a1, ())) (impl_Matches.enc r) :=
  fn_contract (impl_Matches.gok k) mixed Try.func101 (show _ = some impl_Matches.body by kernel_rfl) (LoopsOK_of (show loopsOf impl_Matches.body = [impl_Matches.b5] by kernel_rfl) (all_cons (impl_Matches.fit5 k) all_nil)) (show 89 = Try.f101.ntmps by kernel_rfl) (Nat.le_of_ble_eq_true (by kernel_rfl)) (by kernel_rfl) (fun _ h => impl_Matches.dec_some h) ((impl_Matches.ev k a0 a1).trans h)
theorem impl_Matches.ok {R : Type} (k : Nat) {ds : List DV} {K : List DV → Option R} {r : R} (h0 : impl_Matches.phi k ds K = some r) : Enters Try.prog 101 ∧ ∃ rs, Contract Try.prog 101 impl_Matches.sig ds rs ∧ K rs = some r := by
  obtain ⟨⟨a0, a1, _⟩, rfl, h⟩ := tellD_some h0
  obtain ⟨x, h1, h2⟩ := Option.bind_eq_some_iff.1 (show ((impl_Matches.f k a0 a1).bind fun r => K (impl_Matches.enc r)) = some r from h)
  exact ⟨⟨Try.f101, Try.func101, by kernel_rfl, by kernel_rfl⟩, impl_Matches.enc x, impl_Matches.con k a0 a1 h1, h2⟩

def impl_MatchSet.sig : Sig := ⟨[24], [24], [.bor], .own⟩
def impl_MatchSet.live : List (Nat × List Nat) := [(3, [0, 3, 6]), (100003, [2, 3])]
def impl_MatchSet.pk : List DK := [.l .lent (.ints .i64)]
def impl_MatchSet.rk : List DK := [.l .own (.ints .i64)]
def impl_MatchSet.enc (r : List Int) : List DV := dvs impl_MatchSet.rk (r, ())
def impl_MatchSet.dec (ds : List DV) : Option (List Int) := tellD impl_MatchSet.rk ds (fun u0 => some u0)
theorem impl_MatchSet.dec_some {ds : List DV} {r : List Int} (h0 : impl_MatchSet.dec ds = some r) : ds = impl_MatchSet.enc r := by
  obtain ⟨⟨u0, _⟩, rfl, h⟩ := tellD_some h0
  cases h
  rfl
def impl_MatchSet.phi {R : Type} (k : Nat) (ds : List DV) (K : List DV → Option R) : Option R := tellD impl_MatchSet.pk ds (fun a0 => (impl_MatchSet.f k a0).bind fun r => K (impl_MatchSet.enc r))
def impl_MatchSet.G {R : Type} (k : Nat) : Glob R := mkG tt [(101, ⟨impl_Matches.sig, impl_Matches.phi k⟩)] 18
theorem impl_MatchSet.gok {R : Type} (k : Nat) : GOK Try.prog (impl_MatchSet.G (R := R) k) := GOK_of tok (all_cons (fun _ _ _ h => impl_Matches.ok k h) all_nil)
def impl_MatchSet.x3_0 {R : Type} (K : X → St → Option R) (p0 : List Int) : Option R := K (.exit 0) (stOf [2, 3] [.one (.l (.any)), .one (.l (.own 0))] [some (.row 0 0 (.ints .i64 p0))])
def impl_MatchSet.h3 : Hd := ⟨[.l (.val false false (.ints .i64)), .l (.own 0), .l (.i .i64)], [.row false (.ints .i64)]⟩
def impl_MatchSet.tab {R : Type} (k : Nat) : LTab R := fun id K vs hs =>
  bif id == 3 then impl_MatchSet.h3.tell vs hs (fun v3_0 v3_1 v3_2 => impl_MatchSet.l3 k v3_0 (impl_MatchSet.x3_0 K) k v3_1 v3_2) else
  none
noncomputable def impl_MatchSet.body : Code := (Try.f75.body).getD .skip
noncomputable def impl_MatchSet.b3 : Code := ((loopsOf impl_MatchSet.body)[0]?).getD .skip
theorem impl_MatchSet.fit3 {R : Type} (k : Nat) (K : X → St → Option R) (vs : List AV) (hs : List (Option Root)) (r : R) (h : impl_MatchSet.tab k (V.keyOf impl_MatchSet.b3) K vs hs = some r) : LoopFit (impl_MatchSet.G k) impl_MatchSet.live (impl_MatchSet.tab k) impl_MatchSet.b3 K vs hs r := by
  rw [show V.keyOf impl_MatchSet.b3 = 3 by kernel_rfl] at h
  obtain ⟨⟨⟨⟨v3_0, _⟩, ⟨_, _⟩, ⟨v3_1, _⟩, _⟩, ⟨v3_2, _⟩⟩, e, h⟩ := Hd.tell_some (show impl_MatchSet.h3.tell vs hs (fun v3_0 v3_1 v3_2 => impl_MatchSet.l3 k v3_0 (impl_MatchSet.x3_0 K) k v3_1 v3_2) = some r from h)
  exact ⟨Int × List Int, fun a => impl_MatchSet.h3.enc (((v3_0, ()), ((), ()), (a.1, ()), ()), (a.2, ())), fun vs hs => impl_MatchSet.h3.tell vs hs (fun _ v3_1 v3_2 => some (v3_1, v3_2)), fun rec a => impl_MatchSet.s3 k v3_0 (impl_MatchSet.x3_0 K) (fun c0 c1 => rec (c0, c1)) a.1 a.2, k, (v3_1, v3_2), e, fun _ => rfl, fun Lp a => by kernel_rfl, h⟩
theorem impl_MatchSet.ev (k : Nat) (a0 : List Int) : evFn (impl_MatchSet.G k) impl_MatchSet.live (impl_MatchSet.tab k) impl_MatchSet.sig Try.f75 (dvs impl_MatchSet.pk (a0, ())) impl_MatchSet.dec = impl_MatchSet.f k a0 := by kernel_rfl
theorem impl_MatchSet.con (k : Nat) (a0 : List Int) {r : List Int} (h : impl_MatchSet.f k a0 = some r) : Contract Try.prog 75 impl_MatchSet.sig (dvs impl_MatchSet.pk (a0, ())) (impl_MatchSet.enc r) :=
  fn_contract (impl_MatchSet.gok k) mixed Try.func75 (show _ = some impl_MatchSet.body by kernel_rfl) (LoopsOK_of (show loopsOf impl_MatchSet.body = [impl_MatchSet.b3] by kernel_rfl) (all_cons (impl_MatchSet.fit3 k) all_nil)) (show 18 = Try.f75.ntmps by kernel_rfl) (Nat.le_of_ble_eq_true (by kernel_rfl)) (by kernel_rfl) (fun _ h => impl_MatchSet.dec_some h) ((impl_MatchSet.ev k a0).trans h)
theorem impl_MatchSet.ok {R : Type} (k : Nat) {ds : List DV} {K : List DV → Option R} {r : R} (h0 : impl_MatchSet.phi k ds K = some r) : Enters Try.prog 75 ∧ ∃ rs, Contract Try.prog 75 impl_MatchSet.sig ds rs ∧ K rs = some r := by
  obtain ⟨⟨a0, _⟩, rfl, h⟩ := tellD_some h0
  obtain ⟨x, h1, h2⟩ := Option.bind_eq_some_iff.1 (show ((impl_MatchSet.f k a0).bind fun r => K (impl_MatchSet.enc r)) = some r from h)
  exact ⟨⟨Try.f75, Try.func75, by kernel_rfl, by kernel_rfl⟩, impl_MatchSet.enc x, impl_MatchSet.con k a0 h1, h2⟩

def impl_WildShare.sig : Sig := ⟨[54], [3], [.bor], .own⟩
def impl_WildShare.live : List (Nat × List Nat) := []
def impl_WildShare.pk : List DK := [.agg .lent [(.int .i64), (.int .i64), .bool, .bool, (.ints .i64), (.ints .i64), (.int .i64), (.int .i64)]]
def impl_WildShare.rk : List DK := [.l .own (.int .i64)]
def impl_WildShare.enc (r : Int) : List DV := dvs impl_WildShare.rk (r, ())
def impl_WildShare.dec (ds : List DV) : Option (Int) := tellD impl_WildShare.rk ds (fun u0 => some u0)
theorem impl_WildShare.dec_some {ds : List DV} {r : Int} (h0 : impl_WildShare.dec ds = some r) : ds = impl_WildShare.enc r := by
  obtain ⟨⟨u0, _⟩, rfl, h⟩ := tellD_some h0
  cases h
  rfl
def impl_WildShare.phi {R : Type} (k : Nat) (ds : List DV) (K : List DV → Option R) : Option R := tellD impl_WildShare.pk ds (fun a0_0 a0_1 a0_2 a0_3 a0_4 a0_5 a0_6 a0_7 => (impl_WildShare.f k a0_0 a0_1 a0_2 a0_3 a0_4 a0_5 a0_6 a0_7).bind fun r => K (impl_WildShare.enc r))
def impl_WildShare.G {R : Type} (k : Nat) : Glob R := mkG tt [(74, ⟨impl_IsRules.sig, impl_IsRules.phi k⟩), (75, ⟨impl_MatchSet.sig, impl_MatchSet.phi k⟩)] 12
theorem impl_WildShare.gok {R : Type} (k : Nat) : GOK Try.prog (impl_WildShare.G (R := R) k) := GOK_of tok (all_cons (fun _ _ _ h => impl_IsRules.ok k h) (all_cons (fun _ _ _ h => impl_MatchSet.ok k h) all_nil))
def impl_WildShare.tab {R : Type} (k : Nat) : LTab R := fun id K vs hs =>
  none
noncomputable def impl_WildShare.body : Code := (Try.f44.body).getD .skip
theorem impl_WildShare.ev (k : Nat) (a0_0 : Int) (a0_1 : Int) (a0_2 : Bool) (a0_3 : Bool) (a0_4 : List Int) (a0_5 : List Int) (a0_6 : Int) (a0_7 : Int) : evFn (impl_WildShare.G k) impl_WildShare.live (impl_WildShare.tab k) impl_WildShare.sig Try.f44 (dvs impl_WildShare.pk ((a0_0, a0_1, a0_2, a0_3, a0_4, a0_5, a0_6, a0_7, ()), ())) impl_WildShare.dec = impl_WildShare.f k a0_0 a0_1 a0_2 a0_3 a0_4 a0_5 a0_6 a0_7 := by kernel_rfl
theorem impl_WildShare.con (k : Nat) (a0_0 : Int) (a0_1 : Int) (a0_2 : Bool) (a0_3 : Bool) (a0_4 : List Int) (a0_5 : List Int) (a0_6 : Int) (a0_7 : Int) {r : Int} (h : impl_WildShare.f k a0_0 a0_1 a0_2 a0_3 a0_4 a0_5 a0_6 a0_7 = some r) : Contract Try.prog 44 impl_WildShare.sig (dvs impl_WildShare.pk ((a0_0, a0_1, a0_2, a0_3, a0_4, a0_5, a0_6, a0_7, ()), ())) (impl_WildShare.enc r) :=
  fn_contract (impl_WildShare.gok k) mixed Try.func44 (show _ = some impl_WildShare.body by kernel_rfl) (LoopsOK_of (show loopsOf impl_WildShare.body = [] by kernel_rfl) all_nil) (show 12 = Try.f44.ntmps by kernel_rfl) (Nat.le_of_ble_eq_true (by kernel_rfl)) (by kernel_rfl) (fun _ h => impl_WildShare.dec_some h) ((impl_WildShare.ev k a0_0 a0_1 a0_2 a0_3 a0_4 a0_5 a0_6 a0_7).trans h)
theorem impl_WildShare.ok {R : Type} (k : Nat) {ds : List DV} {K : List DV → Option R} {r : R} (h0 : impl_WildShare.phi k ds K = some r) : Enters Try.prog 44 ∧ ∃ rs, Contract Try.prog 44 impl_WildShare.sig ds rs ∧ K rs = some r := by
  obtain ⟨⟨⟨a0_0, a0_1, a0_2, a0_3, a0_4, a0_5, a0_6, a0_7, _⟩, _⟩, rfl, h⟩ := tellD_some h0
  obtain ⟨x, h1, h2⟩ := Option.bind_eq_some_iff.1 (show ((impl_WildShare.f k a0_0 a0_1 a0_2 a0_3 a0_4 a0_5 a0_6 a0_7).bind fun r => K (impl_WildShare.enc r)) = some r from h)
  exact ⟨⟨Try.f44, Try.func44, by kernel_rfl, by kernel_rfl⟩, impl_WildShare.enc x, impl_WildShare.con k a0_0 a0_1 a0_2 a0_3 a0_4 a0_5 a0_6 a0_7 h1, h2⟩

def laws_FnExactWildShare.sig : Sig := ⟨[47], [4], [.bor], .own⟩
def laws_FnExactWildShare.live : List (Nat × List Nat) := []
def laws_FnExactWildShare.pk : List DK := [.agg .lent [(.int .i64), (.int .i64), .bool, .bool, (.ints .i64), (.ints .i64), (.int .i64), (.int .i64)]]
def laws_FnExactWildShare.rk : List DK := [.l .own .bool]
def laws_FnExactWildShare.enc (r : Bool) : List DV := dvs laws_FnExactWildShare.rk (r, ())
def laws_FnExactWildShare.dec (ds : List DV) : Option (Bool) := tellD laws_FnExactWildShare.rk ds (fun u0 => some u0)
theorem laws_FnExactWildShare.dec_some {ds : List DV} {r : Bool} (h0 : laws_FnExactWildShare.dec ds = some r) : ds = laws_FnExactWildShare.enc r := by
  obtain ⟨⟨u0, _⟩, rfl, h⟩ := tellD_some h0
  cases h
  rfl
def laws_FnExactWildShare.phi {R : Type} (k : Nat) (ds : List DV) (K : List DV → Option R) : Option R := tellD laws_FnExactWildShare.pk ds (fun a0_0 a0_1 a0_2 a0_3 a0_4 a0_5 a0_6 a0_7 => (laws_FnExactWildShare.f k a0_0 a0_1 a0_2 a0_3 a0_4 a0_5 a0_6 a0_7).bind fun r => K (laws_FnExactWildShare.enc r))
def laws_FnExactWildShare.G {R : Type} (k : Nat) : Glob R := mkG tt [(41, ⟨laws_szRules.sig, laws_szRules.phi k⟩), (42, ⟨spec_WildShare.sig, spec_WildShare.phi k⟩), (43, ⟨laws_toRules.sig, laws_toRules.phi k⟩), (44, ⟨impl_WildShare.sig, impl_WildShare.phi k⟩), (45, ⟨laws_eqRules.sig, laws_eqRules.phi k⟩)] 27
theorem laws_FnExactWildShare.gok {R : Type} (k : Nat) : GOK Try.prog (laws_FnExactWildShare.G (R := R) k) := GOK_of tok (all_cons (fun _ _ _ h => laws_szRules.ok k h) (all_cons (fun _ _ _ h => spec_WildShare.ok k h) (all_cons (fun _ _ _ h => laws_toRules.ok k h) (all_cons (fun _ _ _ h => impl_WildShare.ok k h) (all_cons (fun _ _ _ h => laws_eqRules.ok k h) all_nil)))))
def laws_FnExactWildShare.tab {R : Type} (k : Nat) : LTab R := fun id K vs hs =>
  none
noncomputable def laws_FnExactWildShare.body : Code := (Try.f11.body).getD .skip
theorem laws_FnExactWildShare.ev (k : Nat) (a0_0 : Int) (a0_1 : Int) (a0_2 : Bool) (a0_3 : Bool) (a0_4 : List Int) (a0_5 : List Int) (a0_6 : Int) (a0_7 : Int) : evFn (laws_FnExactWildShare.G k) laws_FnExactWildShare.live (laws_FnExactWildShare.tab k) laws_FnExactWildShare.sig Try.f11 (dvs laws_FnExactWildShare.pk ((a0_0, a0_1, a0_2, a0_3, a0_4, a0_5, a0_6, a0_7, ()), ())) laws_FnExactWildShare.dec = laws_FnExactWildShare.f k a0_0 a0_1 a0_2 a0_3 a0_4 a0_5 a0_6 a0_7 := by kernel_rfl
theorem laws_FnExactWildShare.con (k : Nat) (a0_0 : Int) (a0_1 : Int) (a0_2 : Bool) (a0_3 : Bool) (a0_4 : List Int) (a0_5 : List Int) (a0_6 : Int) (a0_7 : Int) {r : Bool} (h : laws_FnExactWildShare.f k a0_0 a0_1 a0_2 a0_3 a0_4 a0_5 a0_6 a0_7 = some r) : Contract Try.prog 11 laws_FnExactWildShare.sig (dvs laws_FnExactWildShare.pk ((a0_0, a0_1, a0_2, a0_3, a0_4, a0_5, a0_6, a0_7, ()), ())) (laws_FnExactWildShare.enc r) :=
  fn_contract (laws_FnExactWildShare.gok k) mixed Try.func11 (show _ = some laws_FnExactWildShare.body by kernel_rfl) (LoopsOK_of (show loopsOf laws_FnExactWildShare.body = [] by kernel_rfl) all_nil) (show 27 = Try.f11.ntmps by kernel_rfl) (Nat.le_of_ble_eq_true (by kernel_rfl)) (by kernel_rfl) (fun _ h => laws_FnExactWildShare.dec_some h) ((laws_FnExactWildShare.ev k a0_0 a0_1 a0_2 a0_3 a0_4 a0_5 a0_6 a0_7).trans h)
theorem laws_FnExactWildShare.ok {R : Type} (k : Nat) {ds : List DV} {K : List DV → Option R} {r : R} (h0 : laws_FnExactWildShare.phi k ds K = some r) : Enters Try.prog 11 ∧ ∃ rs, Contract Try.prog 11 laws_FnExactWildShare.sig ds rs ∧ K rs = some r := by
  obtain ⟨⟨⟨a0_0, a0_1, a0_2, a0_3, a0_4, a0_5, a0_6, a0_7, _⟩, _⟩, rfl, h⟩ := tellD_some h0
  obtain ⟨x, h1, h2⟩ := Option.bind_eq_some_iff.1 (show ((laws_FnExactWildShare.f k a0_0 a0_1 a0_2 a0_3 a0_4 a0_5 a0_6 a0_7).bind fun r => K (laws_FnExactWildShare.enc r)) = some r from h)
  exact ⟨⟨Try.f11, Try.func11, by kernel_rfl, by kernel_rfl⟩, laws_FnExactWildShare.enc x, laws_FnExactWildShare.con k a0_0 a0_1 a0_2 a0_3 a0_4 a0_5 a0_6 a0_7 h1, h2⟩
end Go.Proofs.Ytfkejiljabmaaaa
