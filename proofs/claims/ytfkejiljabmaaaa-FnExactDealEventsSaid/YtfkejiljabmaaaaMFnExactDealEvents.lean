/- That the Go functions come to the answers of the plain ones. Printed by a program. -/
import Derived.Test.YtfkejiljabmaaaaT
import Derived.Test.YtfkejiljabmaaaaMFnExactWinsOf
import Derived.Test.YtfkejiljabmaaaaMFnExactWildShare
import Derived.Test.YtfkejiljabmaaaaMFnExactAverageMoves
import Derived.Test.YtfkejiljabmaaaaMFnExactCountEvents
import Derived.Test.YtfkejiljabmaaaaMFnExactIsRecorded
import Derived.Test.YtfkejiljabmaaaaFFnExactDealEvents
set_option linter.unusedVariables false
namespace Go.Proofs.Ytfkejiljabmaaaa
open Go Go.Proofs.Ytfkejiljabmaaaa.V Go.Proofs.Ytfkejiljabmaaaa.M

def spec_Mod.sig : Sig := ⟨[3, 3], [3], [.bor, .bor], .own⟩
def spec_Mod.live : List (Nat × List Nat) := []
def spec_Mod.pk : List DK := [.l .lent (.int .i64), .l .lent (.int .i64)]
def spec_Mod.rk : List DK := [.l .own (.int .i64)]
def spec_Mod.enc (r : Int) : List DV := dvs spec_Mod.rk (r, ())
def spec_Mod.dec (ds : List DV) : Option (Int) := tellD spec_Mod.rk ds (fun u0 => some u0)
theorem spec_Mod.dec_some {ds : List DV} {r : Int} (h0 : spec_Mod.dec ds = some r) : ds = spec_Mod.enc r := by
  obtain ⟨⟨u0, _⟩, rfl, h⟩ := tellD_some h0
  cases h
  rfl
def spec_Mod.phi {R : Type} (k : Nat) (ds : List DV) (K : List DV → Option R) : Option R := tellD spec_Mod.pk ds (fun a0 a1 => (spec_Mod.f k a0 a1).bind fun r => K (spec_Mod.enc r))
def spec_Mod.G {R : Type} (k : Nat) : Glob R := mkG tt [(54, ⟨spec_l1In.sig, spec_l1In.phi k⟩)] 15
theorem spec_Mod.gok {R : Type} (k : Nat) : GOK Try.prog (spec_Mod.G (R := R) k) := GOK_of tok (all_cons (fun _ _ _ h => spec_l1In.ok k h) all_nil)
def spec_Mod.tab {R : Type} (k : Nat) : LTab R := fun id K vs hs =>
  none
noncomputable def spec_Mod.body : Code := (Try.f119.body).getD .skip
theorem spec_Mod.ev (k : Nat) (a0 : Int) (a1 : Int) : evFn (spec_Mod.G k) spec_Mod.live (spec_Mod.tab k) spec_Mod.sig Try.f119 (dvs spec_Mod.pk (a0, a1, ())) spec_Mod.dec = spec_Mod.f k a0 a1 := by kernel_rfl
theorem spec_Mod.con (k : Nat) (a0 : Int) (a1 : Int) {r : Int} (h : spec_Mod.f k a0 a1 = some r) : Contract Try.prog 119 spec_Mod.sig (dvs spec_Mod.pk (a0, a1, ())) (spec_Mod.enc r) :=
  fn_contract (spec_Mod.gok k) mixed Try.func119 (show _ = some spec_Mod.body by kernel_rfl) (LoopsOK_of (show loopsOf spec_Mod.body = [] by kernel_rfl) all_nil) (show 15 = Try.f119.ntmps by kernel_rfl) (Nat.le_of_ble_eq_true (by kernel_rfl)) (by kernel_rfl) (fun _ h => spec_Mod.dec_some h) ((spec_Mod.ev k a0 a1).trans h)
theorem spec_Mod.ok {R : Type} (k : Nat) {ds : List DV} {K : List DV → Option R} {r : R} (h0 : spec_Mod.phi k ds K = some r) : Enters Try.prog 119 ∧ ∃ rs, Contract Try.prog 119 spec_Mod.sig ds rs ∧ K rs = some r := by
  obtain ⟨⟨a0, a1, _⟩, rfl, h⟩ := tellD_some h0
  obtain ⟨x, h1, h2⟩ := Option.bind_eq_some_iff.1 (show ((spec_Mod.f k a0 a1).bind fun r => K (spec_Mod.enc r)) = some r from h)
  exact ⟨⟨Try.f119, Try.func119, by kernel_rfl, by kernel_rfl⟩, spec_Mod.enc x, spec_Mod.con k a0 a1 h1, h2⟩

def spec_Hash.sig : Sig := ⟨[24], [3], [.bor], .own⟩
def spec_Hash.live : List (Nat × List Nat) := [(3, [0, 3, 4]), (100003, [2, 3])]
def spec_Hash.pk : List DK := [.l .lent (.ints .i64)]
def spec_Hash.rk : List DK := [.l .own (.int .i64)]
def spec_Hash.enc (r : Int) : List DV := dvs spec_Hash.rk (r, ())
def spec_Hash.dec (ds : List DV) : Option (Int) := tellD spec_Hash.rk ds (fun u0 => some u0)
theorem spec_Hash.dec_some {ds : List DV} {r : Int} (h0 : spec_Hash.dec ds = some r) : ds = spec_Hash.enc r := by
  obtain ⟨⟨u0, _⟩, rfl, h⟩ := tellD_some h0
  cases h
  rfl
def spec_Hash.phi {R : Type} (k : Nat) (ds : List DV) (K : List DV → Option R) : Option R := tellD spec_Hash.pk ds (fun a0 => (spec_Hash.f k a0).bind fun r => K (spec_Hash.enc r))
def spec_Hash.G {R : Type} (k : Nat) : Glob R := mkG tt [(119, ⟨spec_Mod.sig, spec_Mod.phi k⟩)] 22
theorem spec_Hash.gok {R : Type} (k : Nat) : GOK Try.prog (spec_Hash.G (R := R) k) := GOK_of tok (all_cons (fun _ _ _ h => spec_Mod.ok k h) all_nil)
def spec_Hash.x3_0 {R : Type} (K : X → St → Option R) (p0 : Int) : Option R := K (.exit 0) (stOf [2, 3] [.one (.l (.any)), .one (.l (.i .i64 p0))] [])
def spec_Hash.h3 : Hd := ⟨[.l (.val false false (.ints .i64)), .l (.i .i64), .l (.i .i64)], []⟩
def spec_Hash.tab {R : Type} (k : Nat) : LTab R := fun id K vs hs =>
  bif id == 3 then spec_Hash.h3.tell vs hs (fun v3_0 v3_1 v3_2 => spec_Hash.l3 k v3_0 (spec_Hash.x3_0 K) k v3_1 v3_2) else
  none
noncomputable def spec_Hash.body : Code := (Try.f102.body).getD .skip
noncomputable def spec_Hash.b3 : Code := ((loopsOf spec_Hash.body)[0]?).getD .skip
theorem spec_Hash.fit3 {R : Type} (k : Nat) (K : X → St → Option R) (vs : List AV) (hs : List (Option Root)) (r : R) (h : spec_Hash.tab k (V.keyOf spec_Hash.b3) K vs hs = some r) : LoopFit (spec_Hash.G k) spec_Hash.live (spec_Hash.tab k) spec_Hash.b3 K vs hs r := by
  rw [show V.keyOf spec_Hash.b3 = 3 by kernel_rfl] at h
  obtain ⟨⟨⟨⟨v3_0, _⟩, ⟨v3_1, _⟩, ⟨v3_2, _⟩, _⟩, _⟩, e, h⟩ := Hd.tell_some (show spec_Hash.h3.tell vs hs (fun v3_0 v3_1 v3_2 => spec_Hash.l3 k v3_0 (spec_Hash.x3_0 K) k v3_1 v3_2) = some r from h)
  exact ⟨Int × Int, fun a => spec_Hash.h3.enc (((v3_0, ()), (a.1, ()), (a.2, ()), ()), ()), fun vs hs => spec_Hash.h3.tell vs hs (fun _ v3_1 v3_2 => some (v3_1, v3_2)), fun rec a => spec_Hash.s3 k v3_0 (spec_Hash.x3_0 K) (fun c0 c1 => rec (c0, c1)) a.1 a.2, k, (v3_1, v3_2), e, fun _ => rfl, fun Lp a => by kernel_rfl, h⟩
theorem spec_Hash.ev (k : Nat) (a0 : List Int) : evFn (spec_Hash.G k) spec_Hash.live (spec_Hash.tab k) spec_Hash.sig Try.f102 (dvs spec_Hash.pk (a0, ())) spec_Hash.dec = spec_Hash.f k a0 := by kernel_rfl
theorem spec_Hash.con (k : Nat) (a0 : List Int) {r : Int} (h : spec_Hash.f k a0 = some r) : Contract Try.prog 102 spec_Hash.sig (dvs spec_Hash.pk (a0, ())) (spec_Hash.enc r) :=
  fn_contract (spec_Hash.gok k) mixed Try.func102 (show _ = some spec_Hash.body by kernel_rfl) (LoopsOK_of (show loopsOf spec_Hash.body = [spec_Hash.b3] by kernel_rfl) (all_cons (spec_Hash.fit3 k) all_nil)) (show 22 = Try.f102.ntmps by kernel_rfl) (Nat.le_of_ble_eq_true (by kernel_rfl)) (by kernel_rfl) (fun _ h => spec_Hash.dec_some h) ((spec_Hash.ev k a0).trans h)
theorem spec_Hash.ok {R : Type} (k : Nat) {ds : List DV} {K : List DV → Option R} {r : R} (h0 : spec_Hash.phi k ds K = some r) : Enters Try.prog 102 ∧ ∃ rs, Contract Try.prog 102 spec_Hash.sig ds rs ∧ K rs = some r := by
  obtain ⟨⟨a0, _⟩, rfl, h⟩ := tellD_some h0
  obtain ⟨x, h1, h2⟩ := Option.bind_eq_some_iff.1 (show ((spec_Hash.f k a0).bind fun r => K (spec_Hash.enc r)) = some r from h)
  exact ⟨⟨Try.f102, Try.func102, by kernel_rfl, by kernel_rfl⟩, spec_Hash.enc x, spec_Hash.con k a0 h1, h2⟩

def spec_SeedSeal.sig : Sig := ⟨[3, 3, 3], [3], [.bor, .bor, .bor], .own⟩
def spec_SeedSeal.live : List (Nat × List Nat) := []
def spec_SeedSeal.pk : List DK := [.l .lent (.int .i64), .l .lent (.int .i64), .l .lent (.int .i64)]
def spec_SeedSeal.rk : List DK := [.l .own (.int .i64)]
def spec_SeedSeal.enc (r : Int) : List DV := dvs spec_SeedSeal.rk (r, ())
def spec_SeedSeal.dec (ds : List DV) : Option (Int) := tellD spec_SeedSeal.rk ds (fun u0 => some u0)
theorem spec_SeedSeal.dec_some {ds : List DV} {r : Int} (h0 : spec_SeedSeal.dec ds = some r) : ds = spec_SeedSeal.enc r := by
  obtain ⟨⟨u0, _⟩, rfl, h⟩ := tellD_some h0
  cases h
  rfl
def spec_SeedSeal.phi {R : Type} (k : Nat) (ds : List DV) (K : List DV → Option R) : Option R := tellD spec_SeedSeal.pk ds (fun a0 a1 a2 => (spec_SeedSeal.f k a0 a1 a2).bind fun r => K (spec_SeedSeal.enc r))
def spec_SeedSeal.G {R : Type} (k : Nat) : Glob R := mkG tt [(102, ⟨spec_Hash.sig, spec_Hash.phi k⟩)] 12
theorem spec_SeedSeal.gok {R : Type} (k : Nat) : GOK Try.prog (spec_SeedSeal.G (R := R) k) := GOK_of tok (all_cons (fun _ _ _ h => spec_Hash.ok k h) all_nil)
def spec_SeedSeal.tab {R : Type} (k : Nat) : LTab R := fun id K vs hs =>
  none
noncomputable def spec_SeedSeal.body : Code := (Try.f76.body).getD .skip
theorem spec_SeedSeal.ev (k : Nat) (a0 : Int) (a1 : Int) (a2 : Int) : evFn (spec_SeedSeal.G k) spec_SeedSeal.live (spec_SeedSeal.tab k) spec_SeedSeal.sig Try.f76 (dvs spec_SeedSeal.pk (a0, a1, a2, ())) spec_SeedSeal.dec = spec_SeedSeal.f k a0 a1 a2 := by kernel_rfl
theorem spec_SeedSeal.con (k : Nat) (a0 : Int) (a1 : Int) (a2 : Int) {r : Int} (h : spec_SeedSeal.f k a0 a1 a2 = some r) : Contract Try.prog 76 spec_SeedSeal.sig (dvs spec_SeedSeal.pk (a0, a1, a2, ())) (spec_SeedSeal.enc r) :=
  fn_contract (spec_SeedSeal.gok k) mixed Try.func76 (show _ = some spec_SeedSeal.body by kernel_rfl) (LoopsOK_of (show loopsOf spec_SeedSeal.body = [] by kernel_rfl) all_nil) (show 12 = Try.f76.ntmps by kernel_rfl) (Nat.le_of_ble_eq_true (by kernel_rfl)) (by kernel_rfl) (fun _ h => spec_SeedSeal.dec_some h) ((spec_SeedSeal.ev k a0 a1 a2).trans h)
theorem spec_SeedSeal.ok {R : Type} (k : Nat) {ds : List DV} {K : List DV → Option R} {r : R} (h0 : spec_SeedSeal.phi k ds K = some r) : Enters Try.prog 76 ∧ ∃ rs, Contract Try.prog 76 spec_SeedSeal.sig ds rs ∧ K rs = some r := by
  obtain ⟨⟨a0, a1, a2, _⟩, rfl, h⟩ := tellD_some h0
  obtain ⟨x, h1, h2⟩ := Option.bind_eq_some_iff.1 (show ((spec_SeedSeal.f k a0 a1 a2).bind fun r => K (spec_SeedSeal.enc r)) = some r from h)
  exact ⟨⟨Try.f76, Try.func76, by kernel_rfl, by kernel_rfl⟩, spec_SeedSeal.enc x, spec_SeedSeal.con k a0 a1 a2 h1, h2⟩

def spec_DealEvents.sig : Sig := ⟨[54, 24, 3], [37], [.bor, .bor, .bor], .own⟩
def spec_DealEvents.live : List (Nat × List Nat) := [(6, [1, 2, 7, 8, 9]), (100006, [1, 6, 7, 8])]
def spec_DealEvents.pk : List DK := [.agg .lent [(.int .i64), (.int .i64), .bool, .bool, (.ints .i64), (.ints .i64), (.int .i64), (.int .i64)], .l .lent (.ints .i64), .l .lent (.int .i64)]
def spec_DealEvents.rk : List DK := [.l .own (.recs [false, false, true, true])]
def spec_DealEvents.enc (r : List (List Leaf)) : List DV := dvs spec_DealEvents.rk (r, ())
def spec_DealEvents.dec (ds : List DV) : Option (List (List Leaf)) := tellD spec_DealEvents.rk ds (fun u0 => some u0)
theorem spec_DealEvents.dec_some {ds : List DV} {r : List (List Leaf)} (h0 : spec_DealEvents.dec ds = some r) : ds = spec_DealEvents.enc r := by
  obtain ⟨⟨u0, _⟩, rfl, h⟩ := tellD_some h0
  cases h
  rfl
def spec_DealEvents.phi {R : Type} (k : Nat) (ds : List DV) (K : List DV → Option R) : Option R := tellD spec_DealEvents.pk ds (fun a0_0 a0_1 a0_2 a0_3 a0_4 a0_5 a0_6 a0_7 a1 a2 => (spec_DealEvents.f k a0_0 a0_1 a0_2 a0_3 a0_4 a0_5 a0_6 a0_7 a1 a2).bind fun r => K (spec_DealEvents.enc r))
def spec_DealEvents.G {R : Type} (k : Nat) : Glob R := mkG tt [(72, ⟨spec_IsRules.sig, spec_IsRules.phi k⟩), (76, ⟨spec_SeedSeal.sig, spec_SeedSeal.phi k⟩)] 52
theorem spec_DealEvents.gok {R : Type} (k : Nat) : GOK Try.prog (spec_DealEvents.G (R := R) k) := GOK_of tok (all_cons (fun _ _ _ h => spec_IsRules.ok k h) (all_cons (fun _ _ _ h => spec_SeedSeal.ok k h) all_nil))
def spec_DealEvents.x6_0 {R : Type} (K : X → St → Option R) (v6_0 : List Int) (p0 : List (List Leaf)) (p1 : List Int) : Option R := K (.exit 0) (stOf [1, 6, 7, 8] [.one (.l (.val false (.ints .i64 v6_0))), .one (.l (.any)), .one (.l (.own 0)), .one (.l (.own 1))] [some (.row 0 0 (.recs [false, false, true, true] true p0)), some (.row 0 0 (.ints .i64 p1))])
def spec_DealEvents.h6 : Hd := ⟨[.l (.val false false (.ints .i64)), .l (.i .i64), .l (.own 0), .l (.own 1), .l (.i .i64)], [.row true (.recs [false, false, true, true]), .row false (.ints .i64)]⟩
def spec_DealEvents.tab {R : Type} (k : Nat) : LTab R := fun id K vs hs =>
  bif id == 6 then spec_DealEvents.h6.tell vs hs (fun v6_0 v6_1 v6_2 v6_3 v6_4 => spec_DealEvents.l6 k v6_0 v6_1 (spec_DealEvents.x6_0 K v6_0) k v6_2 v6_3 v6_4) else
  none
noncomputable def spec_DealEvents.body : Code := (Try.f46.body).getD .skip
noncomputable def spec_DealEvents.b6 : Code := ((loopsOf spec_DealEvents.body)[0]?).getD .skip
theorem spec_DealEvents.fit6 {R : Type} (k : Nat) (K : X → St → Option R) (vs : List AV) (hs : List (Option Root)) (r : R) (h : spec_DealEvents.tab k (V.keyOf spec_DealEvents.b6) K vs hs = some r) : LoopFit (spec_DealEvents.G k) spec_DealEvents.live (spec_DealEvents.tab k) spec_DealEvents.b6 K vs hs r := by
  rw [show V.keyOf spec_DealEvents.b6 = 6 by kernel_rfl] at h
  obtain ⟨⟨⟨⟨v6_0, _⟩, ⟨v6_1, _⟩, ⟨_, _⟩, ⟨_, _⟩, ⟨v6_2, _⟩, _⟩, ⟨v6_3, v6_4, _⟩⟩, e, h⟩ := Hd.tell_some (show spec_DealEvents.h6.tell vs hs (fun v6_0 v6_1 v6_2 v6_3 v6_4 => spec_DealEvents.l6 k v6_0 v6_1 (spec_DealEvents.x6_0 K v6_0) k v6_2 v6_3 v6_4) = some r from h)
  exact ⟨Int × List (List Leaf) × List Int, fun a => spec_DealEvents.h6.enc (((v6_0, ()), (v6_1, ()), ((), ()), ((), ()), (a.1, ()), ()), (a.2.1, a.2.2, ())), fun vs hs => spec_DealEvents.h6.tell vs hs (fun _ _ v6_2 v6_3 v6_4 => some (v6_2, v6_3, v6_4)), fun rec a => spec_DealEvents.s6 k v6_0 v6_1 (spec_DealEvents.x6_0 K v6_0) (fun c0 c1 c2 => rec (c0, c1, c2)) a.1 a.2.1 a.2.2, k, (v6_2, v6_3, v6_4), e, fun _ => rfl, fun Lp a => by kernel_rfl, h⟩
theorem spec_DealEvents.ev (k : Nat) (a0_0 : Int) (a0_1 : Int) (a0_2 : Bool) (a0_3 : Bool) (a0_4 : List Int) (a0_5 : List Int) (a0_6 : Int) (a0_7 : Int) (a1 : List Int) (a2 : Int) : evFn (spec_DealEvents.G k) spec_DealEvents.live (spec_DealEvents.tab k) spec_DealEvents.sig Try.f46 (dvs spec_DealEvents.pk ((a0_0, a0_1, a0_2, a0_3, a0_4, a0_5, a0_6, a0_7, ()), a1, a2, ())) spec_DealEvents.dec = spec_DealEvents.f k a0_0 a0_1 a0_2 a0_3 a0_4 a0_5 a0_6 a0_7 a1 a2 := by kernel_rfl
theorem spec_DealEvents.con (k : Nat) (a0_0 : Int) (a0_1 : Int) (a0_2 : Bool) (a0_3 : Bool) (a0_4 : List Int) (a0_5 : List Int) (a0_6 : Int) (a0_7 : Int) (a1 : List Int) (a2 : Int) {r : List (List Leaf)} (h : spec_DealEvents.f k a0_0 a0_1 a0_2 a0_3 a0_4 a0_5 a0_6 a0_7 a1 a2 = some r) : Contract Try.prog 46 spec_DealEvents.sig (dvs spec_DealEvents.pk ((a0_0, a0_1, a0_2, a0_3, a0_4, a0_5, a0_6, a0_7, ()), a1, a2, ())) (spec_DealEvents.enc r) :=
  fn_contract (spec_DealEvents.gok k) mixed Try.func46 (show _ = some spec_DealEvents.body by kernel_rfl) (LoopsOK_of (show loopsOf spec_DealEvents.body = [spec_DealEvents.b6] by kernel_rfl) (all_cons (spec_DealEvents.fit6 k) all_nil)) (show 52 = Try.f46.ntmps by kernel_rfl) (Nat.le_of_ble_eq_true (by kernel_rfl)) (by kernel_rfl) (fun _ h => spec_DealEvents.dec_some h) ((spec_DealEvents.ev k a0_0 a0_1 a0_2 a0_3 a0_4 a0_5 a0_6 a0_7 a1 a2).trans h)
theorem spec_DealEvents.ok {R : Type} (k : Nat) {ds : List DV} {K : List DV → Option R} {r : R} (h0 : spec_DealEvents.phi k ds K = some r) : Enters Try.prog 46 ∧ ∃ rs, Contract Try.prog 46 spec_DealEvents.sig ds rs ∧ K rs = some r := by
  obtain ⟨⟨⟨a0_0, a0_1, a0_2, a0_3, a0_4, a0_5, a0_6, a0_7, _⟩, a1, a2, _⟩, rfl, h⟩ := tellD_some h0
  obtain ⟨x, h1, h2⟩ := Option.bind_eq_some_iff.1 (show ((spec_DealEvents.f k a0_0 a0_1 a0_2 a0_3 a0_4 a0_5 a0_6 a0_7 a1 a2).bind fun r => K (spec_DealEvents.enc r)) = some r from h)
  exact ⟨⟨Try.f46, Try.func46, by kernel_rfl, by kernel_rfl⟩, spec_DealEvents.enc x, spec_DealEvents.con k a0_0 a0_1 a0_2 a0_3 a0_4 a0_5 a0_6 a0_7 a1 a2 h1, h2⟩

def impl_Mod.sig : Sig := ⟨[3, 3], [3], [.bor, .bor], .own⟩
def impl_Mod.live : List (Nat × List Nat) := []
def impl_Mod.pk : List DK := [.l .lent (.int .i64), .l .lent (.int .i64)]
def impl_Mod.rk : List DK := [.l .own (.int .i64)]
def impl_Mod.enc (r : Int) : List DV := dvs impl_Mod.rk (r, ())
def impl_Mod.dec (ds : List DV) : Option (Int) := tellD impl_Mod.rk ds (fun u0 => some u0)
theorem impl_Mod.dec_some {ds : List DV} {r : Int} (h0 : impl_Mod.dec ds = some r) : ds = impl_Mod.enc r := by
  obtain ⟨⟨u0, _⟩, rfl, h⟩ := tellD_some h0
  cases h
  rfl
def impl_Mod.phi {R : Type} (k : Nat) (ds : List DV) (K : List DV → Option R) : Option R := tellD impl_Mod.pk ds (fun a0 a1 => (impl_Mod.f k a0 a1).bind fun r => K (impl_Mod.enc r))
def impl_Mod.G {R : Type} (k : Nat) : Glob R := mkG tt [(55, ⟨impl_InRange.sig, impl_InRange.phi k⟩)] 15
theorem impl_Mod.gok {R : Type} (k : Nat) : GOK Try.prog (impl_Mod.G (R := R) k) := GOK_of tok (all_cons (fun _ _ _ h => impl_InRange.ok k h) all_nil)
def impl_Mod.tab {R : Type} (k : Nat) : LTab R := fun id K vs hs =>
  none
noncomputable def impl_Mod.body : Code := (Try.f120.body).getD .skip
theorem impl_Mod.ev (k : Nat) (a0 : Int) (a1 : Int) : evFn (impl_Mod.G k) impl_Mod.live (impl_Mod.tab k) impl_Mod.sig Try.f120 (dvs impl_Mod.pk (a0, a1, ())) impl_Mod.dec = impl_Mod.f k a0 a1 := by kernel_rfl
theorem impl_Mod.con (k : Nat) (a0 : Int) (a1 : Int) {r : Int} (h : impl_Mod.f k a0 a1 = some r) : Contract Try.prog 120 impl_Mod.sig (dvs impl_Mod.pk (a0, a1, ())) (impl_Mod.enc r) :=
  fn_contract (impl_Mod.gok k) mixed Try.func120 (show _ = some impl_Mod.body by kernel_rfl) (LoopsOK_of (show loopsOf impl_Mod.body = [] by kernel_rfl) all_nil) (show 15 = Try.f120.ntmps by kernel_rfl) (Nat.le_of_ble_eq_true (by kernel_rfl)) (by kernel_rfl) (fun _ h => impl_Mod.dec_some h) ((impl_Mod.ev k a0 a1).trans h)
theorem impl_Mod.ok {R : Type} (k : Nat) {ds : List DV} {K : List DV → Option R} {r : R} (h0 : impl_Mod.phi k ds K = some r) : Enters Try.prog 120 ∧ ∃ rs, Contract Try.prog 120 impl_Mod.sig ds rs ∧ K rs = some r := by
  obtain ⟨⟨a0, a1, _⟩, rfl, h⟩ := tellD_some h0
  obtain ⟨x, h1, h2⟩ := Option.bind_eq_some_iff.1 (show ((impl_Mod.f k a0 a1).bind fun r => K (impl_Mod.enc r)) = some r from h)
  exact ⟨⟨Try.f120, Try.func120, by kernel_rfl, by kernel_rfl⟩, impl_Mod.enc x, impl_Mod.con k a0 a1 h1, h2⟩

def impl_Hash.sig : Sig := ⟨[24], [3], [.bor], .own⟩
def impl_Hash.live : List (Nat × List Nat) := [(3, [3, 6, 7, 8]), (100003, [2, 3])]
def impl_Hash.pk : List DK := [.l .lent (.ints .i64)]
def impl_Hash.rk : List DK := [.l .own (.int .i64)]
def impl_Hash.enc (r : Int) : List DV := dvs impl_Hash.rk (r, ())
def impl_Hash.dec (ds : List DV) : Option (Int) := tellD impl_Hash.rk ds (fun u0 => some u0)
theorem impl_Hash.dec_some {ds : List DV} {r : Int} (h0 : impl_Hash.dec ds = some r) : ds = impl_Hash.enc r := by
  obtain ⟨⟨u0, _⟩, rfl, h⟩ := tellD_some h0
  cases h
  rfl
def impl_Hash.phi {R : Type} (k : Nat) (ds : List DV) (K : List DV → Option R) : Option R := tellD impl_Hash.pk ds (fun a0 => (impl_Hash.f k a0).bind fun r => K (impl_Hash.enc r))
def impl_Hash.G {R : Type} (k : Nat) : Glob R := mkG tt [(120, ⟨impl_Mod.sig, impl_Mod.phi k⟩)] 21
theorem impl_Hash.gok {R : Type} (k : Nat) : GOK Try.prog (impl_Hash.G (R := R) k) := GOK_of tok (all_cons (fun _ _ _ h => impl_Mod.ok k h) all_nil)
def impl_Hash.x3_0 {R : Type} (K : X → St → Option R) (p0 : Int) : Option R := K (.exit 0) (stOf [2, 3] [.one (.l (.any)), .one (.l (.i .i64 p0))] [])
def impl_Hash.h3 : Hd := ⟨[.l (.i .i64), .l (.val false false (.ints .i64)), .l (.i .i64), .l (.i .i64)], []⟩
def impl_Hash.tab {R : Type} (k : Nat) : LTab R := fun id K vs hs =>
  bif id == 3 then impl_Hash.h3.tell vs hs (fun v3_0 v3_1 v3_2 v3_3 => impl_Hash.l3 k v3_1 v3_2 (impl_Hash.x3_0 K) k v3_0 v3_3) else
  none
noncomputable def impl_Hash.body : Code := (Try.f103.body).getD .skip
noncomputable def impl_Hash.b3 : Code := ((loopsOf impl_Hash.body)[0]?).getD .skip
theorem impl_Hash.fit3 {R : Type} (k : Nat) (K : X → St → Option R) (vs : List AV) (hs : List (Option Root)) (r : R) (h : impl_Hash.tab k (V.keyOf impl_Hash.b3) K vs hs = some r) : LoopFit (impl_Hash.G k) impl_Hash.live (impl_Hash.tab k) impl_Hash.b3 K vs hs r := by
  rw [show V.keyOf impl_Hash.b3 = 3 by kernel_rfl] at h
  obtain ⟨⟨⟨⟨v3_0, _⟩, ⟨v3_1, _⟩, ⟨v3_2, _⟩, ⟨v3_3, _⟩, _⟩, _⟩, e, h⟩ := Hd.tell_some (show impl_Hash.h3.tell vs hs (fun v3_0 v3_1 v3_2 v3_3 => impl_Hash.l3 k v3_1 v3_2 (impl_Hash.x3_0 K) k v3_0 v3_3) = some r from h)
  exact ⟨Int × Int, fun a => impl_Hash.h3.enc (((a.1, ()), (v3_1, ()), (v3_2, ()), (a.2, ()), ()), ()), fun vs hs => impl_Hash.h3.tell vs hs (fun v3_0 _ _ v3_3 => some (v3_0, v3_3)), fun rec a => impl_Hash.s3 k v3_1 v3_2 (impl_Hash.x3_0 K) (fun c0 c1 => rec (c0, c1)) a.1 a.2, k, (v3_0, v3_3), e, fun _ => rfl, fun Lp a => by kernel_rfl, h⟩
theorem impl_Hash.ev (k : Nat) (a0 : List Int) : evFn (impl_Hash.G k) impl_Hash.live (impl_Hash.tab k) impl_Hash.sig Try.f103 (dvs impl_Hash.pk (a0, ())) impl_Hash.dec = impl_Hash.f k a0 := by kernel_rfl
theorem impl_Hash.con (k : Nat) (a0 : List Int) {r : Int} (h : impl_Hash.f k a0 = some r) : Contract Try.prog 103 impl_Hash.sig (dvs impl_Hash.pk (a0, ())) (impl_Hash.enc r) :=
  fn_contract (impl_Hash.gok k) mixed Try.func103 (show _ = some impl_Hash.body by kernel_rfl) (LoopsOK_of (show loopsOf impl_Hash.body = [impl_Hash.b3] by kernel_rfl) (all_cons (impl_Hash.fit3 k) all_nil)) (show 21 = Try.f103.ntmps by kernel_rfl) (Nat.le_of_ble_eq_true (by kernel_rfl)) (by kernel_rfl) (fun _ h => impl_Hash.dec_some h) ((impl_Hash.ev k a0).trans h)
theorem impl_Hash.ok {R : Type} (k : Nat) {ds : List DV} {K : List DV → Option R} {r : R} (h0 : impl_Hash.phi k ds K = some r) : Enters Try.prog 103 ∧ ∃ rs, Contract Try.prog 103 impl_Hash.sig ds rs ∧ K rs = some r := by
  obtain ⟨⟨a0, _⟩, rfl, h⟩ := tellD_some h0
  obtain ⟨x, h1, h2⟩ := Option.bind_eq_some_iff.1 (show ((impl_Hash.f k a0).bind fun r => K (impl_Hash.enc r)) = some r from h)
  exact ⟨⟨Try.f103, Try.func103, by kernel_rfl, by kernel_rfl⟩, impl_Hash.enc x, impl_Hash.con k a0 h1, h2⟩

def impl_SeedSeal.sig : Sig := ⟨[3, 3, 3], [3], [.bor, .bor, .bor], .own⟩
def impl_SeedSeal.live : List (Nat × List Nat) := []
def impl_SeedSeal.pk : List DK := [.l .lent (.int .i64), .l .lent (.int .i64), .l .lent (.int .i64)]
def impl_SeedSeal.rk : List DK := [.l .own (.int .i64)]
def impl_SeedSeal.enc (r : Int) : List DV := dvs impl_SeedSeal.rk (r, ())
def impl_SeedSeal.dec (ds : List DV) : Option (Int) := tellD impl_SeedSeal.rk ds (fun u0 => some u0)
theorem impl_SeedSeal.dec_some {ds : List DV} {r : Int} (h0 : impl_SeedSeal.dec ds = some r) : ds = impl_SeedSeal.enc r := by
  obtain ⟨⟨u0, _⟩, rfl, h⟩ := tellD_some h0
  cases h
  rfl
def impl_SeedSeal.phi {R : Type} (k : Nat) (ds : List DV) (K : List DV → Option R) : Option R := tellD impl_SeedSeal.pk ds (fun a0 a1 a2 => (impl_SeedSeal.f k a0 a1 a2).bind fun r => K (impl_SeedSeal.enc r))
def impl_SeedSeal.G {R : Type} (k : Nat) : Glob R := mkG tt [(103, ⟨impl_Hash.sig, impl_Hash.phi k⟩)] 12
theorem impl_SeedSeal.gok {R : Type} (k : Nat) : GOK Try.prog (impl_SeedSeal.G (R := R) k) := GOK_of tok (all_cons (fun _ _ _ h => impl_Hash.ok k h) all_nil)
def impl_SeedSeal.tab {R : Type} (k : Nat) : LTab R := fun id K vs hs =>
  none
noncomputable def impl_SeedSeal.body : Code := (Try.f77.body).getD .skip
theorem impl_SeedSeal.ev (k : Nat) (a0 : Int) (a1 : Int) (a2 : Int) : evFn (impl_SeedSeal.G k) impl_SeedSeal.live (impl_SeedSeal.tab k) impl_SeedSeal.sig Try.f77 (dvs impl_SeedSeal.pk (a0, a1, a2, ())) impl_SeedSeal.dec = impl_SeedSeal.f k a0 a1 a2 := by kernel_rfl
theorem impl_SeedSeal.con (k : Nat) (a0 : Int) (a1 : Int) (a2 : Int) {r : Int} (h : impl_SeedSeal.f k a0 a1 a2 = some r) : Contract Try.prog 77 impl_SeedSeal.sig (dvs impl_SeedSeal.pk (a0, a1, a2, ())) (impl_SeedSeal.enc r) :=
  fn_contract (impl_SeedSeal.gok k) mixed Try.func77 (show _ = some impl_SeedSeal.body by kernel_rfl) (LoopsOK_of (show loopsOf impl_SeedSeal.body = [] by kernel_rfl) all_nil) (show 12 = Try.f77.ntmps by kernel_rfl) (Nat.le_of_ble_eq_true (by kernel_rfl)) (by kernel_rfl) (fun _ h => impl_SeedSeal.dec_some h) ((impl_SeedSeal.ev k a0 a1 a2).trans h)
theorem impl_SeedSeal.ok {R : Type} (k : Nat) {ds : List DV} {K : List DV → Option R} {r : R} (h0 : impl_SeedSeal.phi k ds K = some r) : Enters Try.prog 77 ∧ ∃ rs, Contract Try.prog 77 impl_SeedSeal.sig ds rs ∧ K rs = some r := by
  obtain ⟨⟨a0, a1, a2, _⟩, rfl, h⟩ := tellD_some h0
  obtain ⟨x, h1, h2⟩ := Option.bind_eq_some_iff.1 (show ((impl_SeedSeal.f k a0 a1 a2).bind fun r => K (impl_SeedSeal.enc r)) = some r from h)
  exact ⟨⟨Try.f77, Try.func77, by kernel_rfl, by kernel_rfl⟩, impl_SeedSeal.enc x, impl_SeedSeal.con k a0 a1 a2 h1, h2⟩

def impl_copyOf.sig : Sig := ⟨[24], [24], [.bor], .own⟩
def impl_copyOf.live : List (Nat × List Nat) := []
def impl_copyOf.pk : List DK := [.l .lent (.ints .i64)]
def impl_copyOf.rk : List DK := [.l .own (.ints .i64)]
def impl_copyOf.enc (r : List Int) : List DV := dvs impl_copyOf.rk (r, ())
def impl_copyOf.dec (ds : List DV) : Option (List Int) := tellD impl_copyOf.rk ds (fun u0 => some u0)
theorem impl_copyOf.dec_some {ds : List DV} {r : List Int} (h0 : impl_copyOf.dec ds = some r) : ds = impl_copyOf.enc r := by
  obtain ⟨⟨u0, _⟩, rfl, h⟩ := tellD_some h0
  cases h
  rfl
def impl_copyOf.phi {R : Type} (k : Nat) (ds : List DV) (K : List DV → Option R) : Option R := tellD impl_copyOf.pk ds (fun a0 => (impl_copyOf.f k a0).bind fun r => K (impl_copyOf.enc r))
def impl_copyOf.G {R : Type} (k : Nat) : Glob R := mkG tt [] 6
theorem impl_copyOf.gok {R : Type} (k : Nat) : GOK Try.prog (impl_copyOf.G (R := R) k) := GOK_of tok all_nil
def impl_copyOf.tab {R : Type} (k : Nat) : LTab R := fun id K vs hs =>
  none
noncomputable def impl_copyOf.body : Code := (Try.f78.body).getD .skip
theorem impl_copyOf.ev (k : Nat) (a0 : List Int) : evFn (impl_copyOf.G k) impl_copyOf.live (impl_copyOf.tab k) impl_copyOf.sig Try.f78 (dvs impl_copyOf.pk (a0, ())) impl_copyOf.dec = impl_copyOf.f k a0 := by kernel_rfl
theorem impl_copyOf.con (k : Nat) (a0 : List Int) {r : List Int} (h : impl_copyOf.f k a0 = some r) : Contract Try.prog 78 impl_copyOf.sig (dvs impl_copyOf.pk (a0, ())) (impl_copyOf.enc r) :=
  fn_contract (impl_copyOf.gok k) mixed Try.func78 (show _ = some impl_copyOf.body by kernel_rfl) (LoopsOK_of (show loopsOf impl_copyOf.body = [] by kernel_rfl) all_nil) (show 6 = Try.f78.ntmps by kernel_rfl) (Nat.le_of_ble_eq_true (by kernel_rfl)) (by kernel_rfl) (fun _ h => impl_copyOf.dec_some h) ((impl_copyOf.ev k a0).trans h)
theorem impl_copyOf.ok {R : Type} (k : Nat) {ds : List DV} {K : List DV → Option R} {r : R} (h0 : impl_copyOf.phi k ds K = some r) : Enters Try.prog 78 ∧ ∃ rs, Contract Try.prog 78 impl_copyOf.sig ds rs ∧ K rs = some r := by
  obtain ⟨⟨a0, _⟩, rfl, h⟩ := tellD_some h0
  obtain ⟨x, h1, h2⟩ := Option.bind_eq_some_iff.1 (show ((impl_copyOf.f k a0).bind fun r => K (impl_copyOf.enc r)) = some r from h)
  exact ⟨⟨Try.f78, Try.func78, by kernel_rfl, by kernel_rfl⟩, impl_copyOf.enc x, impl_copyOf.con k a0 h1, h2⟩

def impl_DealEvents.sig : Sig := ⟨[54, 24, 3], [37], [.bor, .bor, .bor], .own⟩
def impl_DealEvents.live : List (Nat × List Nat) := [(5, [1, 2, 7, 8, 23, 24, 25]), (100005, [1, 6, 7, 8])]
def impl_DealEvents.pk : List DK := [.agg .lent [(.int .i64), (.int .i64), .bool, .bool, (.ints .i64), (.ints .i64), (.int .i64), (.int .i64)], .l .lent (.ints .i64), .l .lent (.int .i64)]
def impl_DealEvents.rk : List DK := [.l .own (.recs [false, false, true, true])]
def impl_DealEvents.enc (r : List (List Leaf)) : List DV := dvs impl_DealEvents.rk (r, ())
def impl_DealEvents.dec (ds : List DV) : Option (List (List Leaf)) := tellD impl_DealEvents.rk ds (fun u0 => some u0)
theorem impl_DealEvents.dec_some {ds : List DV} {r : List (List Leaf)} (h0 : impl_DealEvents.dec ds = some r) : ds = impl_DealEvents.enc r := by
  obtain ⟨⟨u0, _⟩, rfl, h⟩ := tellD_some h0
  cases h
  rfl
def impl_DealEvents.phi {R : Type} (k : Nat) (ds : List DV) (K : List DV → Option R) : Option R := tellD impl_DealEvents.pk ds (fun a0_0 a0_1 a0_2 a0_3 a0_4 a0_5 a0_6 a0_7 a1 a2 => (impl_DealEvents.f k a0_0 a0_1 a0_2 a0_3 a0_4 a0_5 a0_6 a0_7 a1 a2).bind fun r => K (impl_DealEvents.enc r))
def impl_DealEvents.G {R : Type} (k : Nat) : Glob R := mkG tt [(74, ⟨impl_IsRules.sig, impl_IsRules.phi k⟩), (77, ⟨impl_SeedSeal.sig, impl_SeedSeal.phi k⟩), (78, ⟨impl_copyOf.sig, impl_copyOf.phi k⟩)] 50
theorem impl_DealEvents.gok {R : Type} (k : Nat) : GOK Try.prog (impl_DealEvents.G (R := R) k) := GOK_of tok (all_cons (fun _ _ _ h => impl_IsRules.ok k h) (all_cons (fun _ _ _ h => impl_SeedSeal.ok k h) (all_cons (fun _ _ _ h => impl_copyOf.ok k h) all_nil)))
def impl_DealEvents.x5_0 {R : Type} (K : X → St → Option R) (v5_0 : List Int) (p0 : List (List Leaf)) (p1 : List Int) : Option R := K (.exit 0) (stOf [1, 6, 7, 8] [.one (.l (.val false (.ints .i64 v5_0))), .one (.l (.any)), .one (.l (.own 0)), .one (.l (.own 1))] [some (.row 0 0 (.recs [false, false, true, true] true p0)), some (.row 0 0 (.ints .i64 p1))])
def impl_DealEvents.h5 : Hd := ⟨[.l (.val false false (.ints .i64)), .l (.i .i64), .l (.own 0), .l (.own 1), .l (.val false false (.ints .i64)), .l (.i .i64), .l (.i .i64)], [.row true (.recs [false, false, true, true]), .row false (.ints .i64)]⟩
def impl_DealEvents.tab {R : Type} (k : Nat) : LTab R := fun id K vs hs =>
  bif id == 5 then impl_DealEvents.h5.tell vs hs (fun v5_0 v5_1 v5_2 v5_3 v5_4 v5_5 v5_6 => impl_DealEvents.l5 k v5_1 v5_2 v5_3 (impl_DealEvents.x5_0 K v5_0) k v5_4 v5_5 v5_6) else
  none
noncomputable def impl_DealEvents.body : Code := (Try.f47.body).getD .skip
noncomputable def impl_DealEvents.b5 : Code := ((loopsOf impl_DealEvents.body)[0]?).getD .skip
theorem impl_DealEvents.fit5 {R : Type} (k : Nat) (K : X → St → Option R) (vs : List AV) (hs : List (Option Root)) (r : R) (h : impl_DealEvents.tab k (V.keyOf impl_DealEvents.b5) K vs hs = some r) : LoopFit (impl_DealEvents.G k) impl_DealEvents.live (impl_DealEvents.tab k) impl_DealEvents.b5 K vs hs r := by
  rw [show V.keyOf impl_DealEvents.b5 = 5 by kernel_rfl] at h
  obtain ⟨⟨⟨⟨v5_0, _⟩, ⟨v5_1, _⟩, ⟨_, _⟩, ⟨_, _⟩, ⟨v5_2, _⟩, ⟨v5_3, _⟩, ⟨v5_4, _⟩, _⟩, ⟨v5_5, v5_6, _⟩⟩, e, h⟩ := Hd.tell_some (show impl_DealEvents.h5.tell vs hs (fun v5_0 v5_1 v5_2 v5_3 v5_4 v5_5 v5_6 => impl_DealEvents.l5 k v5_1 v5_2 v5_3 (impl_DealEvents.x5_0 K v5_0) k v5_4 v5_5 v5_6) = some r from h)
  exact ⟨Int × List (List Leaf) × List Int, fun a => impl_DealEvents.h5.enc (((v5_0, ()), (v5_1, ()), ((), ()), ((), ()), (v5_2, ()), (v5_3, ()), (a.1, ()), ()), (a.2.1, a.2.2, ())), fun vs hs => impl_DealEvents.h5.tell vs hs (fun _ _ _ _ v5_4 v5_5 v5_6 => some (v5_4, v5_5, v5_6)), fun rec a => impl_DealEvents.s5 k v5_1 v5_2 v5_3 (impl_DealEvents.x5_0 K v5_0) (fun c0 c1 c2 => rec (c0, c1, c2)) a.1 a.2.1 a.2.2, k, (v5_4, v5_5, v5_6), e, fun _ => rfl, fun Lp a => by kernel_rfl, h⟩
theorem impl_DealEvents.ev (k : Nat) (a0_0 : Int) (a0_1 : Int) (a0_2 : Bool) (a0_3 : Bool) (a0_4 : List Int) (a0_5 : List Int) (a0_6 : Int) (a0_7 : Int) (a1 : List Int) (a2 : Int) : evFn (impl_DealEvents.G k) impl_DealEvents.live (impl_DealEvents.tab k) impl_DealEvents.sig Try.f47 (dvs impl_DealEvents.pk ((a0_0, a0_1, a0_2, a0_3, a0_4, a0_5, a0_6, a0_7, ()), a1, a2, ())) impl_DealEvents.dec = impl_DealEvents.f k a0_0 a0_1 a0_2 a0_3 a0_4 a0_5 a0_6 a0_7 a1 a2 := by kernel_rfl
theorem impl_DealEvents.con (k : Nat) (a0_0 : Int) (a0_1 : Int) (a0_2 : Bool) (a0_3 : Bool) (a0_4 : List Int) (a0_5 : List Int) (a0_6 : Int) (a0_7 : Int) (a1 : List Int) (a2 : Int) {r : List (List Leaf)} (h : impl_DealEvents.f k a0_0 a0_1 a0_2 a0_3 a0_4 a0_5 a0_6 a0_7 a1 a2 = some r) : Contract Try.prog 47 impl_DealEvents.sig (dvs impl_DealEvents.pk ((a0_0, a0_1, a0_2, a0_3, a0_4, a0_5, a0_6, a0_7, ()), a1, a2, ())) (impl_DealEvents.enc r) :=
  fn_contract (impl_DealEvents.gok k) mixed Try.func47 (show _ = some impl_DealEvents.body by kernel_rfl) (LoopsOK_of (show loopsOf impl_DealEvents.body = [impl_DealEvents.b5] by kernel_rfl) (all_cons (impl_DealEvents.fit5 k) all_nil)) (show 50 = Try.f47.ntmps by kernel_rfl) (Nat.le_of_ble_eq_true (by kernel_rfl)) (by kernel_rfl) (fun _ h => impl_DealEvents.dec_some h) ((impl_DealEvents.ev k a0_0 a0_1 a0_2 a0_3 a0_4 a0_5 a0_6 a0_7 a1 a2).trans h)
theorem impl_DealEvents.ok {R : Type} (k : Nat) {ds : List DV} {K : List DV → Option R} {r : R} (h0 : impl_DealEvents.phi k ds K = some r) : Enters Try.prog 47 ∧ ∃ rs, Contract Try.prog 47 impl_DealEvents.sig ds rs ∧ K rs = some r := by
  obtain ⟨⟨⟨a0_0, a0_1, a0_2, a0_3, a0_4, a0_5, a0_6, a0_7, _⟩, a1, a2, _⟩, rfl, h⟩ := tellD_some h0
  obtain ⟨x, h1, h2⟩ := Option.bind_eq_some_iff.1 (show ((impl_DealEvents.f k a0_0 a0_1 a0_2 a0_3 a0_4 a0_5 a0_6 a0_7 a1 a2).bind fun r => K (impl_DealEvents.enc r)) = some r from h)
  exact ⟨⟨Try.f47, Try.func47, by kernel_rfl, by kernel_rfl⟩, impl_DealEvents.enc x, impl_DealEvents.con k a0_0 a0_1 a0_2 a0_3 a0_4 a0_5 a0_6 a0_7 a1 a2 h1, h2⟩

def laws_markIntS.sig : Sig := ⟨[24, 3], [3], [.io, .bor], .own⟩
def laws_markIntS.live : List (Nat × List Nat) := [(2, [0, 1, 5, 19]), (100002, [1, 4, 19])]
def laws_markIntS.pk : List DK := [.l .own (.ints .i64), .l .lent (.int .i64)]
def laws_markIntS.rk : List DK := [.l .own (.int .i64), .l .own (.ints .i64)]
def laws_markIntS.enc (r : Int × List Int) : List DV := dvs laws_markIntS.rk (r.1, r.2, ())
def laws_markIntS.dec (ds : List DV) : Option (Int × List Int) := tellD laws_markIntS.rk ds (fun u0 u1 => some (u0, u1))
theorem laws_markIntS.dec_some {ds : List DV} {r : Int × List Int} (h0 : laws_markIntS.dec ds = some r) : ds = laws_markIntS.enc r := by
  obtain ⟨⟨u0, u1, _⟩, rfl, h⟩ := tellD_some h0
  cases h
  rfl
def laws_markIntS.phi {R : Type} (k : Nat) (ds : List DV) (K : List DV → Option R) : Option R := tellD laws_markIntS.pk ds (fun a0 a1 => (laws_markIntS.f k a0 a1).bind fun r => K (laws_markIntS.enc r))
def laws_markIntS.G {R : Type} (k : Nat) : Glob R := mkG tt [] 19
theorem laws_markIntS.gok {R : Type} (k : Nat) : GOK Try.prog (laws_markIntS.G (R := R) k) := GOK_of tok all_nil
def laws_markIntS.x2_0 {R : Type} (K : X → St → Option R) (p0 : Int) (p1 : List Int) : Option R := K (.exit 0) (stOf [1, 4, 19] [.one (.l (.i .i64 p0)), .one (.l (.any)), .one (.l (.own 0))] [some (.row 0 0 (.ints .i64 p1))])
def laws_markIntS.h2 : Hd := ⟨[.l (.own 0), .l (.i .i64), .l (.i .i64), .l (.own 0)], [.row false (.ints .i64)]⟩
def laws_markIntS.tab {R : Type} (k : Nat) : LTab R := fun id K vs hs =>
  bif id == 2 then laws_markIntS.h2.tell vs hs (fun v2_0 v2_1 v2_2 => laws_markIntS.l2 k (laws_markIntS.x2_0 K) k v2_0 v2_1 v2_2) else
  none
noncomputable def laws_markIntS.body : Code := (Try.f49.body).getD .skip
noncomputable def laws_markIntS.b2 : Code := ((loopsOf laws_markIntS.body)[0]?).getD .skip
theorem laws_markIntS.fit2 {R : Type} (k : Nat) (K : X → St → Option R) (vs : List AV) (hs : List (Option Root)) (r : R) (h : laws_markIntS.tab k (V.keyOf laws_markIntS.b2) K vs hs = some r) : LoopFit (laws_markIntS.G k) laws_markIntS.live (laws_markIntS.tab k) laws_markIntS.b2 K vs hs r := by
  rw [show V.keyOf laws_markIntS.b2 = 2 by kernel_rfl] at h
  obtain ⟨⟨⟨⟨_, _⟩, ⟨v2_0, _⟩, ⟨v2_1, _⟩, ⟨_, _⟩, _⟩, ⟨v2_2, _⟩⟩, e, h⟩ := Hd.tell_some (show laws_markIntS.h2.tell vs hs (fun v2_0 v2_1 v2_2 => laws_markIntS.l2 k (laws_markIntS.x2_0 K) k v2_0 v2_1 v2_2) = some r from h)
  exact ⟨Int × Int × List Int, fun a => laws_markIntS.h2.enc ((((), ()), (a.1, ()), (a.2.1, ()), ((), ()), ()), (a.2.2, ())), fun vs hs => laws_markIntS.h2.tell vs hs (fun v2_0 v2_1 v2_2 => some (v2_0, v2_1, v2_2)), fun rec a => laws_markIntS.s2 k (laws_markIntS.x2_0 K) (fun c0 c1 c2 => rec (c0, c1, c2)) a.1 a.2.1 a.2.2, k, (v2_0, v2_1, v2_2), e, fun _ => rfl, fun Lp a => by kernel_rfl, h⟩
theorem laws_markIntS.ev (k : Nat) (a0 : List Int) (a1 : Int) : evFn (laws_markIntS.G k) laws_markIntS.live (laws_markIntS.tab k) laws_markIntS.sig Try.f49 (dvs laws_markIntS.pk (a0, a1, ())) laws_markIntS.dec = laws_markIntS.f k a0 a1 := by kernel_rfl
theorem laws_markIntS.con (k : Nat) (a0 : List Int) (a1 : Int) {r : Int × List Int} (h : laws_markIntS.f k a0 a1 = some r) : Contract Try.prog 49 laws_markIntS.sig (dvs laws_markIntS.pk (a0, a1, ())) (laws_markIntS.enc r) :=
  fn_contract (laws_markIntS.gok k) mixed Try.func49 (show _ = some laws_markIntS.body by kernel_rfl) (LoopsOK_of (show loopsOf laws_markIntS.body = [laws_markIntS.b2] by kernel_rfl) (all_cons (laws_markIntS.fit2 k) all_nil)) (show 19 = Try.f49.ntmps by kernel_rfl) (Nat.le_of_ble_eq_true (by kernel_rfl)) (by kernel_rfl) (fun _ h => laws_markIntS.dec_some h) ((laws_markIntS.ev k a0 a1).trans h)
theorem laws_markIntS.ok {R : Type} (k : Nat) {ds : List DV} {K : List DV → Option R} {r : R} (h0 : laws_markIntS.phi k ds K = some r) : Enters Try.prog 49 ∧ ∃ rs, Contract Try.prog 49 laws_markIntS.sig ds rs ∧ K rs = some r := by
  obtain ⟨⟨a0, a1, _⟩, rfl, h⟩ := tellD_some h0
  obtain ⟨x, h1, h2⟩ := Option.bind_eq_some_iff.1 (show ((laws_markIntS.f k a0 a1).bind fun r => K (laws_markIntS.enc r)) = some r from h)
  exact ⟨⟨Try.f49, Try.func49, by kernel_rfl, by kernel_rfl⟩, laws_markIntS.enc x, laws_markIntS.con k a0 a1 h1, h2⟩

def laws_markRules.sig : Sig := ⟨[54, 3], [3], [.io, .bor], .own⟩
def laws_markRules.live : List (Nat × List Nat) := []
def laws_markRules.pk : List DK := [.agg .own [(.int .i64), (.int .i64), .bool, .bool, (.ints .i64), (.ints .i64), (.int .i64), (.int .i64)], .l .lent (.int .i64)]
def laws_markRules.rk : List DK := [.l .own (.int .i64), .agg .own [(.int .i64), (.int .i64), .bool, .bool, (.ints .i64), (.ints .i64), (.int .i64), (.int .i64)]]
def laws_markRules.enc (r : Int × Int × Int × Bool × Bool × List Int × List Int × Int × Int) : List DV := dvs laws_markRules.rk (r.1, (r.2.1, r.2.2.1, r.2.2.2.1, r.2.2.2.2.1, r.2.2.2.2.2.1, r.2.2.2.2.2.2.1, r.2.2.2.2.2.2.2.1, r.2.2.2.2.2.2.2.2, ()), ())
def laws_markRules.dec (ds : List DV) : Option (Int × Int × Int × Bool × Bool × List Int × List Int × Int × Int) := tellD laws_markRules.rk ds (fun u0 u1 u2 u3 u4 u5 u6 u7 u8 => some (u0, u1, u2, u3, u4, u5, u6, u7, u8))
theorem laws_markRules.dec_some {ds : List DV} {r : Int × Int × Int × Bool × Bool × List Int × List Int × Int × Int} (h0 : laws_markRules.dec ds = some r) : ds = laws_markRules.enc r := by
  obtain ⟨⟨u0, ⟨u1, u2, u3, u4, u5, u6, u7, u8, _⟩, _⟩, rfl, h⟩ := tellD_some h0
  cases h
  rfl
def laws_markRules.phi {R : Type} (k : Nat) (ds : List DV) (K : List DV → Option R) : Option R := tellD laws_markRules.pk ds (fun a0_0 a0_1 a0_2 a0_3 a0_4 a0_5 a0_6 a0_7 a1 => (laws_markRules.f k a0_0 a0_1 a0_2 a0_3 a0_4 a0_5 a0_6 a0_7 a1).bind fun r => K (laws_markRules.enc r))
def laws_markRules.G {R : Type} (k : Nat) : Glob R := mkG tt [(49, ⟨laws_markIntS.sig, laws_markIntS.phi k⟩)] 14
theorem laws_markRules.gok {R : Type} (k : Nat) : GOK Try.prog (laws_markRules.G (R := R) k) := GOK_of tok (all_cons (fun _ _ _ h => laws_markIntS.ok k h) all_nil)
def laws_markRules.tab {R : Type} (k : Nat) : LTab R := fun id K vs hs =>
  none
noncomputable def laws_markRules.body : Code := (Try.f48.body).getD .skip
theorem laws_markRules.ev (k : Nat) (a0_0 : Int) (a0_1 : Int) (a0_2 : Bool) (a0_3 : Bool) (a0_4 : List Int) (a0_5 : List Int) (a0_6 : Int) (a0_7 : Int) (a1 : Int) : evFn (laws_markRules.G k) laws_markRules.live (laws_markRules.tab k) laws_markRules.sig Try.f48 (dvs laws_markRules.pk ((a0_0, a0_1, a0_2, a0_3, a0_4, a0_5, a0_6, a0_7, ()), a1, ())) laws_markRules.dec = laws_markRules.f k a0_0 a0_1 a0_2 a0_3 a0_4 a0_5 a0_6 a0_7 a1 := by kernel_rfl
theorem laws_markRules.con (k : Nat) (a0_0 : Int) (a0_1 : Int) (a0_2 : Bool) (a0_3 : Bool) (a0_4 : List Int) (a0_5 : List Int) (a0_6 : Int) (a0_7 : Int) (a1 : Int) {r : Int × Int × Int × Bool × Bool × List Int × List Int × Int × Int} (h : laws_markRules.f k a0_0 a0_1 a0_2 a0_3 a0_4 a0_5 a0_6 a0_7 a1 = some r) : Contract Try.prog 48 laws_markRules.sig (dvs laws_markRules.pk ((a0_0, a0_1, a0_2, a0_3, a0_4, a0_5, a0_6, a0_7, ()), a1, ())) (laws_markRules.enc r) :=
  fn_contract (laws_markRules.gok k) mixed Try.func48 (show _ = some laws_markRules.body by kernel_rfl) (LoopsOK_of (show loopsOf laws_markRules.body = [] by kernel_rfl) all_nil) (show 14 = Try.f48.ntmps by kernel_rfl) (Nat.le_of_ble_eq_true (by kernel_rfl)) (by kernel_rfl) (fun _ h => laws_markRules.dec_some h) ((laws_markRules.ev k a0_0 a0_1 a0_2 a0_3 a0_4 a0_5 a0_6 a0_7 a1).trans h)
theorem laws_markRules.ok {R : Type} (k : Nat) {ds : List DV} {K : List DV → Option R} {r : R} (h0 : laws_markRules.phi k ds K = some r) : Enters Try.prog 48 ∧ ∃ rs, Contract Try.prog 48 laws_markRules.sig ds rs ∧ K rs = some r := by
  obtain ⟨⟨⟨a0_0, a0_1, a0_2, a0_3, a0_4, a0_5, a0_6, a0_7, _⟩, a1, _⟩, rfl, h⟩ := tellD_some h0
  obtain ⟨x, h1, h2⟩ := Option.bind_eq_some_iff.1 (show ((laws_markRules.f k a0_0 a0_1 a0_2 a0_3 a0_4 a0_5 a0_6 a0_7 a1).bind fun r => K (laws_markRules.enc r)) = some r from h)
  exact ⟨⟨Try.f48, Try.func48, by kernel_rfl, by kernel_rfl⟩, laws_markRules.enc x, laws_markRules.con k a0_0 a0_1 a0_2 a0_3 a0_4 a0_5 a0_6 a0_7 a1 h1, h2⟩

def laws_markEventS.sig : Sig := ⟨[37, 3], [3], [.io, .bor], .own⟩
def laws_markEventS.live : List (Nat × List Nat) := [(2, [0, 1, 5, 41]), (100002, [1, 4, 41])]
def laws_markEventS.pk : List DK := [.l .own (.recs [false, false, true, true]), .l .lent (.int .i64)]
def laws_markEventS.rk : List DK := [.l .own (.int .i64), .l .own (.recs [false, false, true, true])]
def laws_markEventS.enc (r : Int × List (List Leaf)) : List DV := dvs laws_markEventS.rk (r.1, r.2, ())
def laws_markEventS.dec (ds : List DV) : Option (Int × List (List Leaf)) := tellD laws_markEventS.rk ds (fun u0 u1 => some (u0, u1))
theorem laws_markEventS.dec_some {ds : List DV} {r : Int × List (List Leaf)} (h0 : laws_markEventS.dec ds = some r) : ds = laws_markEventS.enc r := by
  obtain ⟨⟨u0, u1, _⟩, rfl, h⟩ := tellD_some h0
  cases h
  rfl
def laws_markEventS.phi {R : Type} (k : Nat) (ds : List DV) (K : List DV → Option R) : Option R := tellD laws_markEventS.pk ds (fun a0 a1 => (laws_markEventS.f k a0 a1).bind fun r => K (laws_markEventS.enc r))
def laws_markEventS.G {R : Type} (k : Nat) : Glob R := mkG tt [(49, ⟨laws_markIntS.sig, laws_markIntS.phi k⟩)] 41
theorem laws_markEventS.gok {R : Type} (k : Nat) : GOK Try.prog (laws_markEventS.G (R := R) k) := GOK_of tok (all_cons (fun _ _ _ h => laws_markIntS.ok k h) all_nil)
def laws_markEventS.x2_0 {R : Type} (K : X → St → Option R) (p0 : Int) (p1 : List (List Leaf)) : Option R := K (.exit 0) (stOf [1, 4, 41] [.one (.l (.i .i64 p0)), .one (.l (.any)), .one (.l (.own 0))] [some (.row 0 0 (.recs [false, false, true, true] true p1))])
def laws_markEventS.h2 : Hd := ⟨[.l (.own 0), .l (.i .i64), .l (.i .i64), .l (.own 0)], [.row true (.recs [false, false, true, true])]⟩
def laws_markEventS.tab {R : Type} (k : Nat) : LTab R := fun id K vs hs =>
  bif id == 2 then laws_markEventS.h2.tell vs hs (fun v2_0 v2_1 v2_2 => laws_markEventS.l2 k (laws_markEventS.x2_0 K) k v2_0 v2_1 v2_2) else
  none
noncomputable def laws_markEventS.body : Code := (Try.f50.body).getD .skip
noncomputable def laws_markEventS.b2 : Code := ((loopsOf laws_markEventS.body)[0]?).getD .skip
theorem laws_markEventS.fit2 {R : Type} (k : Nat) (K : X → St → Option R) (vs : List AV) (hs : List (Option Root)) (r : R) (h : laws_markEventS.tab k (V.keyOf laws_markEventS.b2) K vs hs = some r) : LoopFit (laws_markEventS.G k) laws_markEventS.live (laws_markEventS.tab k) laws_markEventS.b2 K vs hs r := by
  rw [show V.keyOf laws_markEventS.b2 = 2 by kernel_rfl] at h
  obtain ⟨⟨⟨⟨_, _⟩, ⟨v2_0, _⟩, ⟨v2_1, _⟩, ⟨_, _⟩, _⟩, ⟨v2_2, _⟩⟩, e, h⟩ := Hd.tell_some (show laws_markEventS.h2.tell vs hs (fun v2_0 v2_1 v2_2 => laws_markEventS.l2 k (laws_markEventS.x2_0 K) k v2_0 v2_1 v2_2) = some r from h)
  exact ⟨Int × Int × List (List Leaf), fun a => laws_markEventS.h2.enc ((((), ()), (a.1, ()), (a.2.1, ()), ((), ()), ()), (a.2.2, ())), fun vs hs => laws_markEventS.h2.tell vs hs (fun v2_0 v2_1 v2_2 => some (v2_0, v2_1, v2_2)), fun rec a => laws_markEventS.s2 k (laws_markEventS.x2_0 K) (fun c0 c1 c2 => rec (c0, c1, c2)) a.1 a.2.1 a.2.2, k, (v2_0, v2_1, v2_2), e, fun _ => rfl, fun Lp a => by kernel_rfl, h⟩
theorem laws_markEventS.ev (k : Nat) (a0 : List (List Leaf)) (a1 : Int) : evFn (laws_markEventS.G k) laws_markEventS.live (laws_markEventS.tab k) laws_markEventS.sig Try.f50 (dvs laws_markEventS.pk (a0, a1, ())) laws_markEventS.dec = laws_markEventS.f k a0 a1 := by kernel_rfl
theorem laws_markEventS.con (k : Nat) (a0 : List (List Leaf)) (a1 : Int) {r : Int × List (List Leaf)} (h : laws_markEventS.f k a0 a1 = some r) : Contract Try.prog 50 laws_markEventS.sig (dvs laws_markEventS.pk (a0, a1, ())) (laws_markEventS.enc r) :=
  fn_contract (laws_markEventS.gok k) mixed Try.func50 (show _ = some laws_markEventS.body by kernel_rfl) (LoopsOK_of (show loopsOf laws_markEventS.body = [laws_markEventS.b2] by kernel_rfl) (all_cons (laws_markEventS.fit2 k) all_nil)) (show 41 = Try.f50.ntmps by kernel_rfl) (Nat.le_of_ble_eq_true (by kernel_rfl)) (by kernel_rfl) (fun _ h => laws_markEventS.dec_some h) ((laws_markEventS.ev k a0 a1).trans h)
theorem laws_markEventS.ok {R : Type} (k : Nat) {ds : List DV} {K : List DV → Option R} {r : R} (h0 : laws_markEventS.phi k ds K = some r) : Enters Try.prog 50 ∧ ∃ rs, Contract Try.prog 50 laws_markEventS.sig ds rs ∧ K rs = some r := by
  obtain ⟨⟨a0, a1, _⟩, rfl, h⟩ := tellD_some h0
  obtain ⟨x, h1, h2⟩ := Option.bind_eq_some_iff.1 (show ((laws_markEventS.f k a0 a1).bind fun r => K (laws_markEventS.enc r)) = some r from h)
  exact ⟨⟨Try.f50, Try.func50, by kernel_rfl, by kernel_rfl⟩, laws_markEventS.enc x, laws_markEventS.con k a0 a1 h1, h2⟩

def laws_heldIntS.sig : Sig := ⟨[24, 3], [3], [.bor, .bor], .own⟩
def laws_heldIntS.live : List (Nat × List Nat) := [(2, [0, 1, 5]), (100002, [1, 4])]
def laws_heldIntS.pk : List DK := [.l .lent (.ints .i64), .l .lent (.int .i64)]
def laws_heldIntS.rk : List DK := [.l .own (.int .i64)]
def laws_heldIntS.enc (r : Int) : List DV := dvs laws_heldIntS.rk (r, ())
def laws_heldIntS.dec (ds : List DV) : Option (Int) := tellD laws_heldIntS.rk ds (fun u0 => some u0)
theorem laws_heldIntS.dec_some {ds : List DV} {r : Int} (h0 : laws_heldIntS.dec ds = some r) : ds = laws_heldIntS.enc r := by
  obtain ⟨⟨u0, _⟩, rfl, h⟩ := tellD_some h0
  cases h
  rfl
def laws_heldIntS.phi {R : Type} (k : Nat) (ds : List DV) (K : List DV → Option R) : Option R := tellD laws_heldIntS.pk ds (fun a0 a1 => (laws_heldIntS.f k a0 a1).bind fun r => K (laws_heldIntS.enc r))
def laws_heldIntS.G {R : Type} (k : Nat) : Glob R := mkG tt [] 21
theorem laws_heldIntS.gok {R : Type} (k : Nat) : GOK Try.prog (laws_heldIntS.G (R := R) k) := GOK_of tok all_nil
def laws_heldIntS.x2_0 {R : Type} (K : X → St → Option R) (p0 : Int) : Option R := K .ret (stOf [1, 4] [.one (.l (.i .i64 p0)), .one (.l (.i .i64 (-1 : Int)))] [])
def laws_heldIntS.x2_1 {R : Type} (K : X → St → Option R) (p0 : Int) : Option R := K (.exit 0) (stOf [1, 4] [.one (.l (.i .i64 p0)), .one (.l (.any))] [])
def laws_heldIntS.h2 : Hd := ⟨[.l (.val false false (.ints .i64)), .l (.i .i64), .l (.i .i64)], []⟩
def laws_heldIntS.tab {R : Type} (k : Nat) : LTab R := fun id K vs hs =>
  bif id == 2 then laws_heldIntS.h2.tell vs hs (fun v2_0 v2_1 v2_2 => laws_heldIntS.l2 k v2_0 (laws_heldIntS.x2_0 K) (laws_heldIntS.x2_1 K) k v2_1 v2_2) else
  none
noncomputable def laws_heldIntS.body : Code := (Try.f79.body).getD .skip
noncomputable def laws_heldIntS.b2 : Code := ((loopsOf laws_heldIntS.body)[0]?).getD .skip
theorem laws_heldIntS.fit2 {R : Type} (k : Nat) (K : X → St → Option R) (vs : List AV) (hs : List (Option Root)) (r : R) (h : laws_heldIntS.tab k (V.keyOf laws_heldIntS.b2) K vs hs = some r) : LoopFit (laws_heldIntS.G k) laws_heldIntS.live (laws_heldIntS.tab k) laws_heldIntS.b2 K vs hs r := by
  rw [show V.keyOf laws_heldIntS.b2 = 2 by kernel_rfl] at h
  obtain ⟨⟨⟨⟨v2_0, _⟩, ⟨v2_1, _⟩, ⟨v2_2, _⟩, _⟩, _⟩, e, h⟩ := Hd.tell_some (show laws_heldIntS.h2.tell vs hs (fun v2_0 v2_1 v2_2 => laws_heldIntS.l2 k v2_0 (laws_heldIntS.x2_0 K) (laws_heldIntS.x2_1 K) k v2_1 v2_2) = some r from h)
  exact ⟨Int × Int, fun a => laws_heldIntS.h2.enc (((v2_0, ()), (a.1, ()), (a.2, ()), ()), ()), fun vs hs => laws_heldIntS.h2.tell vs hs (fun _ v2_1 v2_2 => some (v2_1, v2_2)), fun rec a => laws_heldIntS.s2 k v2_0 (laws_heldIntS.x2_0 K) (laws_heldIntS.x2_1 K) (fun c0 c1 => rec (c0, c1)) a.1 a.2, k, (v2_1, v2_2), e, fun _ => rfl, fun Lp a => by kernel_rfl, h⟩
theorem laws_heldIntS.ev (k : Nat) (a0 : List Int) (a1 : Int) : evFn (laws_heldIntS.G k) laws_heldIntS.live (laws_heldIntS.tab k) laws_heldIntS.sig Try.f79 (dvs laws_heldIntS.pk (a0, a1, ())) laws_heldIntS.dec = laws_heldIntS.f k a0 a1 := by kernel_rfl
theorem laws_heldIntS.con (k : Nat) (a0 : List Int) (a1 : Int) {r : Int} (h : laws_heldIntS.f k a0 a1 = some r) : Contract Try.prog 79 laws_heldIntS.sig (dvs laws_heldIntS.pk (a0, a1, ())) (laws_heldIntS.enc r) :=
  fn_contract (laws_heldIntS.gok k) mixed Try.func79 (show _ = some laws_heldIntS.body by kernel_rfl) (LoopsOK_of (show loopsOf laws_heldIntS.body = [laws_heldIntS.b2] by kernel_rfl) (all_cons (laws_heldIntS.fit2 k) all_nil)) (show 21 = Try.f79.ntmps by kernel_rfl) (Nat.le_of_ble_eq_true (by kernel_rfl)) (by kernel_rfl) (fun _ h => laws_heldIntS.dec_some h) ((laws_heldIntS.ev k a0 a1).trans h)
theorem laws_heldIntS.ok {R : Type} (k : Nat) {ds : List DV} {K : List DV → Option R} {r : R} (h0 : laws_heldIntS.phi k ds K = some r) : Enters Try.prog 79 ∧ ∃ rs, Contract Try.prog 79 laws_heldIntS.sig ds rs ∧ K rs = some r := by
  obtain ⟨⟨a0, a1, _⟩, rfl, h⟩ := tellD_some h0
  obtain ⟨x, h1, h2⟩ := Option.bind_eq_some_iff.1 (show ((laws_heldIntS.f k a0 a1).bind fun r => K (laws_heldIntS.enc r)) = some r from h)
  exact ⟨⟨Try.f79, Try.func79, by kernel_rfl, by kernel_rfl⟩, laws_heldIntS.enc x, laws_heldIntS.con k a0 a1 h1, h2⟩

def laws_heldEventS.sig : Sig := ⟨[37, 3], [3], [.bor, .bor], .own⟩
def laws_heldEventS.live : List (Nat × List Nat) := [(2, [0, 1, 5]), (100002, [1, 4])]
def laws_heldEventS.pk : List DK := [.l .lent (.recs [false, false, true, true]), .l .lent (.int .i64)]
def laws_heldEventS.rk : List DK := [.l .own (.int .i64)]
def laws_heldEventS.enc (r : Int) : List DV := dvs laws_heldEventS.rk (r, ())
def laws_heldEventS.dec (ds : List DV) : Option (Int) := tellD laws_heldEventS.rk ds (fun u0 => some u0)
theorem laws_heldEventS.dec_some {ds : List DV} {r : Int} (h0 : laws_heldEventS.dec ds = some r) : ds = laws_heldEventS.enc r := by
  obtain ⟨⟨u0, _⟩, rfl, h⟩ := tellD_some h0
  cases h
  rfl
def laws_heldEventS.phi {R : Type} (k : Nat) (ds : List DV) (K : List DV → Option R) : Option R := tellD laws_heldEventS.pk ds (fun a0 a1 => (laws_heldEventS.f k a0 a1).bind fun r => K (laws_heldEventS.enc r))
def laws_heldEventS.G {R : Type} (k : Nat) : Glob R := mkG tt [(79, ⟨laws_heldIntS.sig, laws_heldIntS.phi k⟩)] 49
theorem laws_heldEventS.gok {R : Type} (k : Nat) : GOK Try.prog (laws_heldEventS.G (R := R) k) := GOK_of tok (all_cons (fun _ _ _ h => laws_heldIntS.ok k h) all_nil)
def laws_heldEventS.x2_0 {R : Type} (K : X → St → Option R) (p0 : Int) : Option R := K .ret (stOf [1, 4] [.one (.l (.i .i64 p0)), .one (.l (.i .i64 (-1 : Int)))] [])
def laws_heldEventS.x2_1 {R : Type} (K : X → St → Option R) (p0 : Int) : Option R := K (.exit 0) (stOf [1, 4] [.one (.l (.i .i64 p0)), .one (.l (.any))] [])
def laws_heldEventS.h2 : Hd := ⟨[.l (.val false false (.recs [false, false, true, true])), .l (.i .i64), .l (.i .i64)], []⟩
def laws_heldEventS.tab {R : Type} (k : Nat) : LTab R := fun id K vs hs =>
  bif id == 2 then laws_heldEventS.h2.tell vs hs (fun v2_0 v2_1 v2_2 => laws_heldEventS.l2 k v2_0 (laws_heldEventS.x2_0 K) (laws_heldEventS.x2_1 K) k v2_1 v2_2) else
  none
noncomputable def laws_heldEventS.body : Code := (Try.f51.body).getD .skip
noncomputable def laws_heldEventS.b2 : Code := ((loopsOf laws_heldEventS.body)[0]?).getD .skip
theorem laws_heldEventS.fit2 {R : Type} (k : Nat) (K : X → St → Option R) (vs : List AV) (hs : List (Option Root)) (r : R) (h : laws_heldEventS.tab k (V.keyOf laws_heldEventS.b2) K vs hs = some r) : LoopFit (laws_heldEventS.G k) laws_heldEventS.live (laws_heldEventS.tab k) laws_heldEventS.b2 K vs hs r := by
  rw [show V.keyOf laws_heldEventS.b2 = 2 by kernel_rfl] at h
  obtain ⟨⟨⟨⟨v2_0, _⟩, ⟨v2_1, _⟩, ⟨v2_2, _⟩, _⟩, _⟩, e, h⟩ := Hd.tell_some (show laws_heldEventS.h2.tell vs hs (fun v2_0 v2_1 v2_2 => laws_heldEventS.l2 k v2_0 (laws_heldEventS.x2_0 K) (laws_heldEventS.x2_1 K) k v2_1 v2_2) = some r from h)
  exact ⟨Int × Int, fun a => laws_heldEventS.h2.enc (((v2_0, ()), (a.1, ()), (a.2, ()), ()), ()), fun vs hs => laws_heldEventS.h2.tell vs hs (fun _ v2_1 v2_2 => some (v2_1, v2_2)), fun rec a => laws_heldEventS.s2 k v2_0 (laws_heldEventS.x2_0 K) (laws_heldEventS.x2_1 K) (fun c0 c1 => rec (c0, c1)) a.1 a.2, k, (v2_1, v2_2), e, fun _ => rfl, fun Lp a => by kernel_rfl, h⟩
theorem laws_heldEventS.ev (k : Nat) (a0 : List (List Leaf)) (a1 : Int) : evFn (laws_heldEventS.G k) laws_heldEventS.live (laws_heldEventS.tab k) laws_heldEventS.sig Try.f51 (dvs laws_heldEventS.pk (a0, a1, ())) laws_heldEventS.dec = laws_heldEventS.f k a0 a1 := by kernel_rfl
theorem laws_heldEventS.con (k : Nat) (a0 : List (List Leaf)) (a1 : Int) {r : Int} (h : laws_heldEventS.f k a0 a1 = some r) : Contract Try.prog 51 laws_heldEventS.sig (dvs laws_heldEventS.pk (a0, a1, ())) (laws_heldEventS.enc r) :=
  fn_contract (laws_heldEventS.gok k) mixed Try.func51 (show _ = some laws_heldEventS.body by kernel_rfl) (LoopsOK_of (show loopsOf laws_heldEventS.body = [laws_heldEventS.b2] by kernel_rfl) (all_cons (laws_heldEventS.fit2 k) all_nil)) (show 49 = Try.f51.ntmps by kernel_rfl) (Nat.le_of_ble_eq_true (by kernel_rfl)) (by kernel_rfl) (fun _ h => laws_heldEventS.dec_some h) ((laws_heldEventS.ev k a0 a1).trans h)
theorem laws_heldEventS.ok {R : Type} (k : Nat) {ds : List DV} {K : List DV → Option R} {r : R} (h0 : laws_heldEventS.phi k ds K = some r) : Enters Try.prog 51 ∧ ∃ rs, Contract Try.prog 51 laws_heldEventS.sig ds rs ∧ K rs = some r := by
  obtain ⟨⟨a0, a1, _⟩, rfl, h⟩ := tellD_some h0
  obtain ⟨x, h1, h2⟩ := Option.bind_eq_some_iff.1 (show ((laws_heldEventS.f k a0 a1).bind fun r => K (laws_heldEventS.enc r)) = some r from h)
  exact ⟨⟨Try.f51, Try.func51, by kernel_rfl, by kernel_rfl⟩, laws_heldEventS.enc x, laws_heldEventS.con k a0 a1 h1, h2⟩

def laws_FnExactDealEvents.sig : Sig := ⟨[47, 24, 3], [4], [.bor, .bor, .bor], .own⟩
def laws_FnExactDealEvents.live : List (Nat × List Nat) := []
def laws_FnExactDealEvents.pk : List DK := [.agg .lent [(.int .i64), (.int .i64), .bool, .bool, (.ints .i64), (.ints .i64), (.int .i64), (.int .i64)], .l .lent (.ints .i64), .l .lent (.int .i64)]
def laws_FnExactDealEvents.rk : List DK := [.l .own .bool]
def laws_FnExactDealEvents.enc (r : Bool) : List DV := dvs laws_FnExactDealEvents.rk (r, ())
def laws_FnExactDealEvents.dec (ds : List DV) : Option (Bool) := tellD laws_FnExactDealEvents.rk ds (fun u0 => some u0)
theorem laws_FnExactDealEvents.dec_some {ds : List DV} {r : Bool} (h0 : laws_FnExactDealEvents.dec ds = some r) : ds = laws_FnExactDealEvents.enc r := by
  obtain ⟨⟨u0, _⟩, rfl, h⟩ := tellD_some h0
  cases h
  rfl
def laws_FnExactDealEvents.phi {R : Type} (k : Nat) (ds : List DV) (K : List DV → Option R) : Option R := tellD laws_FnExactDealEvents.pk ds (fun a0_0 a0_1 a0_2 a0_3 a0_4 a0_5 a0_6 a0_7 a1 a2 => (laws_FnExactDealEvents.f k a0_0 a0_1 a0_2 a0_3 a0_4 a0_5 a0_6 a0_7 a1 a2).bind fun r => K (laws_FnExactDealEvents.enc r))
def laws_FnExactDealEvents.G {R : Type} (k : Nat) : Glob R := mkG tt [(17, ⟨laws_toIntS.sig, laws_toIntS.phi k⟩), (19, ⟨laws_eqIntS.sig, laws_eqIntS.phi k⟩), (29, ⟨laws_eqEventS.sig, laws_eqEventS.phi k⟩), (41, ⟨laws_szRules.sig, laws_szRules.phi k⟩), (43, ⟨laws_toRules.sig, laws_toRules.phi k⟩), (45, ⟨laws_eqRules.sig, laws_eqRules.phi k⟩), (46, ⟨spec_DealEvents.sig, spec_DealEvents.phi k⟩), (47, ⟨impl_DealEvents.sig, impl_DealEvents.phi k⟩), (48, ⟨laws_markRules.sig, laws_markRules.phi k⟩), (49, ⟨laws_markIntS.sig, laws_markIntS.phi k⟩), (50, ⟨laws_markEventS.sig, laws_markEventS.phi k⟩), (51, ⟨laws_heldEventS.sig, laws_heldEventS.phi k⟩)] 95
theorem laws_FnExactDealEvents.gok {R : Type} (k : Nat) : GOK Try.prog (laws_FnExactDealEvents.G (R := R) k) := GOK_of tok (all_cons (fun _ _ _ h => laws_toIntS.ok k h) (all_cons (fun _ _ _ h => laws_eqIntS.ok k h) (all_cons (fun _ _ _ h => laws_eqEventS.ok k h) (all_cons (fun _ _ _ h => laws_szRules.ok k h) (all_cons (fun _ _ _ h => laws_toRules.ok k h) (all_cons (fun _ _ _ h => laws_eqRules.ok k h) (all_cons (fun _ _ _ h => spec_DealEvents.ok k h) (all_cons (fun _ _ _ h => impl_DealEvents.ok k h) (all_cons (fun _ _ _ h => laws_markRules.ok k h) (all_cons (fun _ _ _ h => laws_markIntS.ok k h) (all_cons (fun _ _ _ h => laws_markEventS.ok k h) (all_cons (fun _ _ _ h => laws_heldEventS.ok k h) all_nil))))))))))))
def laws_FnExactDealEvents.tab {R : Type} (k : Nat) : LTab R := fun id K vs hs =>
  none
noncomputable def laws_FnExactDealEvents.body : Code := (Try.f12.body).getD .skip
theorem laws_FnExactDealEvents.ev (k : Nat) (a0_0 : Int) (a0_1 : Int) (a0_2 : Bool) (a0_3 : Bool) (a0_4 : List Int) (a0_5 : List Int) (a0_6 : Int) (a0_7 : Int) (a1 : List Int) (a2 : Int) : evFn (laws_FnExactDealEvents.G k) laws_FnExactDealEvents.live (laws_FnExactDealEvents.tab k) laws_FnExactDealEvents.sig Try.f12 (dvs laws_FnExactDealEvents.pk ((a0_0, a0_1, a0_2, a0_3, a0_4, a0_5, a0_6, a0_7, ()), a1, a2, ())) laws_FnExactDealEvents.dec = laws_FnExactDealEvents.f k a0_0 a0_1 a0_2 a0_3 a0_4 a0_5 a0_6 a0_7 a1 a2 := by kernel_rfl
theorem laws_FnExactDealEvents.con (k : Nat) (a0_0 : Int) (a0_1 : Int) (a0_2 : Bool) (a0_3 : Bool) (a0_4 : List Int) (a0_5 : List Int) (a0_6 : Int) (a0_7 : Int) (a1 : List Int) (a2 : Int) {r : Bool} (h : laws_FnExactDealEvents.f k a0_0 a0_1 a0_2 a0_3 a0_4 a0_5 a0_6 a0_7 a1 a2 = some r) : Contract Try.prog 12 laws_FnExactDealEvents.sig (dvs laws_FnExactDealEvents.pk ((a0_0, a0_1, a0_2, a0_3, a0_4, a0_5, a0_6, a0_7, ()), a1, a2, ())) (laws_FnExactDealEvents.enc r) :=
  fn_contract (laws_FnExactDealEvents.gok k) mixed Try.func12 (show _ = some laws_FnExactDealEvents.body by kernel_rfl) (LoopsOK_of (show loopsOf laws_FnExactDealEvents.body = [] by kernel_rfl) all_nil) (show 95 = Try.f12.ntmps by kernel_rfl) (Nat.le_of_ble_eq_true (by kernel_rfl)) (by kernel_rfl) (fun _ h => laws_FnExactDealEvents.dec_some h) ((laws_FnExactDealEvents.ev k a0_0 a0_1 a0_2 a0_3 a0_4 a0_5 a0_6 a0_7 a1 a2).trans h)
theorem laws_FnExactDealEvents.ok {R : Type} (k : Nat) {ds : List DV} {K : List DV → Option R} {r : R} (h0 : laws_FnExactDealEvents.phi k ds K = some r) : Enters Try.prog 12 ∧ ∃ rs, Contract Try.prog 12 laws_FnExactDealEvents.sig ds rs ∧ K rs = some r := by
  obtain ⟨⟨⟨a0_0, a0_1, a0_2, a0_3, a0_4, a0_5, a0_6, a0_7, _⟩, a1, a2, _⟩, rfl, h⟩ := tellD_some h0
  obtain ⟨x, h1, h2⟩ := Option.bind_eq_some_iff.1 (show ((laws_FnExactDealEvents.f k a0_0 a0_1 a0_2 a0_3 a0_4 a0_5 a0_6 a0_7 a1 a2).bind fun r => K (laws_FnExactDealEvents.enc r)) = some r from h)
  exact ⟨⟨Try.f12, Try.func12, by kernel_rfl, by kernel_rfl⟩, laws_FnExactDealEvents.enc x, laws_FnExactDealEvents.con k a0_0 a0_1 a0_2 a0_3 a0_4 a0_5 a0_6 a0_7 a1 a2 h1, h2⟩
end Go.Proofs.Ytfkejiljabmaaaa
