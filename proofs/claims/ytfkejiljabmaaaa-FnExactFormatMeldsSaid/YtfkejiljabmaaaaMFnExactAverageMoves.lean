/- That the Go functions come to the answers of the plain ones. Printed by a program. -/
import Derived.Test.YtfkejiljabmaaaaT
import Derived.Test.YtfkejiljabmaaaaFFnExactAverageMoves
set_option linter.unusedVariables false
namespace Go.Proofs.Ytfkejiljabmaaaa
open Go Go.Proofs.Ytfkejiljabmaaaa.V Go.Proofs.Ytfkejiljabmaaaa.M

def laws_szIntS.sig : Sig := ⟨[24, 3], [3], [.bor, .bor], .own⟩
def laws_szIntS.live : List (Nat × List Nat) := []
def laws_szIntS.pk : List DK := [.l .lent (.ints .i64), .l .lent (.int .i64)]
def laws_szIntS.rk : List DK := [.l .own (.int .i64)]
def laws_szIntS.enc (r : Int) : List DV := dvs laws_szIntS.rk (r, ())
def laws_szIntS.dec (ds : List DV) : Option (Int) := tellD laws_szIntS.rk ds (fun u0 => some u0)
theorem laws_szIntS.dec_some {ds : List DV} {r : Int} (h0 : laws_szIntS.dec ds = some r) : ds = laws_szIntS.enc r := by
  obtain ⟨⟨u0, _⟩, rfl, h⟩ := tellD_some h0
  cases h
  rfl
def laws_szIntS.phi {R : Type} (k : Nat) (ds : List DV) (K : List DV → Option R) : Option R := tellD laws_szIntS.pk ds (fun a0 a1 => (laws_szIntS.f k a0 a1).bind fun r => K (laws_szIntS.enc r))
def laws_szIntS.G {R : Type} (k : Nat) : Glob R := mkG tt [] 12
theorem laws_szIntS.gok {R : Type} (k : Nat) : GOK Try.prog (laws_szIntS.G (R := R) k) := GOK_of tok all_nil
def laws_szIntS.tab {R : Type} (k : Nat) : LTab R := fun id K vs hs =>
  none
noncomputable def laws_szIntS.body : Code := (Try.f56.body).getD .skip
theorem laws_szIntS.ev (k : Nat) (a0 : List Int) (a1 : Int) : evFn (laws_szIntS.G k) laws_szIntS.live (laws_szIntS.tab k) laws_szIntS.sig Try.f56 (dvs laws_szIntS.pk (a0, a1, ())) laws_szIntS.dec = laws_szIntS.f k a0 a1 := by kernel_rfl
theorem laws_szIntS.con (k : Nat) (a0 : List Int) (a1 : Int) {r : Int} (h : laws_szIntS.f k a0 a1 = some r) : Contract Try.prog 56 laws_szIntS.sig (dvs laws_szIntS.pk (a0, a1, ())) (laws_szIntS.enc r) :=
  fn_contract (laws_szIntS.gok k) mixed Try.func56 (show _ = some laws_szIntS.body by kernel_rfl) (LoopsOK_of (show loopsOf laws_szIntS.body = [] by kernel_rfl) all_nil) (show 12 = Try.f56.ntmps by kernel_rfl) (Nat.le_of_ble_eq_true (by kernel_rfl)) (by kernel_rfl) (fun _ h => laws_szIntS.dec_some h) ((laws_szIntS.ev k a0 a1).trans h)
theorem laws_szIntS.ok {R : Type} (k : Nat) {ds : List DV} {K : List DV → Option R} {r : R} (h0 : laws_szIntS.phi k ds K = some r) : V.Enters Try.prog 56 ∧ ∃ rs, Contract Try.prog 56 laws_szIntS.sig ds rs ∧ K rs = some r := by
  obtain ⟨⟨a0, a1, _⟩, rfl, h⟩ := tellD_some h0
  obtain ⟨x, h1, h2⟩ := Option.bind_eq_some_iff.1 (show ((laws_szIntS.f k a0 a1).bind fun r => K (laws_szIntS.enc r)) = some r from h)
  exact ⟨⟨Try.f56, Try.func56, by kernel_rfl, by kernel_rfl⟩, laws_szIntS.enc x, laws_szIntS.con k a0 a1 h1, h2⟩

def laws_szIntSS.sig : Sig := ⟨[28, 3], [3], [.bor, .bor], .own⟩
def laws_szIntSS.live : List (Nat × List Nat) := [(5, [0, 1, 5]), (100005, [1, 4])]
def laws_szIntSS.pk : List DK := [.l .lent .rows, .l .lent (.int .i64)]
def laws_szIntSS.rk : List DK := [.l .own (.int .i64)]
def laws_szIntSS.enc (r : Int) : List DV := dvs laws_szIntSS.rk (r, ())
def laws_szIntSS.dec (ds : List DV) : Option (Int) := tellD laws_szIntSS.rk ds (fun u0 => some u0)
theorem laws_szIntSS.dec_some {ds : List DV} {r : Int} (h0 : laws_szIntSS.dec ds = some r) : ds = laws_szIntSS.enc r := by
  obtain ⟨⟨u0, _⟩, rfl, h⟩ := tellD_some h0
  cases h
  rfl
def laws_szIntSS.phi {R : Type} (k : Nat) (ds : List DV) (K : List DV → Option R) : Option R := tellD laws_szIntSS.pk ds (fun a0 a1 => (laws_szIntSS.f k a0 a1).bind fun r => K (laws_szIntSS.enc r))
def laws_szIntSS.G {R : Type} (k : Nat) : Glob R := mkG tt [(56, ⟨laws_szIntS.sig, laws_szIntS.phi k⟩)] 27
theorem laws_szIntSS.gok {R : Type} (k : Nat) : GOK Try.prog (laws_szIntSS.G (R := R) k) := GOK_of tok (all_cons (fun _ _ _ h => laws_szIntS.ok k h) all_nil)
def laws_szIntSS.x5_0 {R : Type} (K : X → St → Option R) (p0 : Int) : Option R := K .ret (stOf [1, 4] [.one (.l (.i .i64 p0)), .one (.l (.i .i64 (-1 : Int)))] [])
def laws_szIntSS.x5_1 {R : Type} (K : X → St → Option R) (p0 : Int) : Option R := K (.exit 0) (stOf [1, 4] [.one (.l (.i .i64 p0)), .one (.l (.any))] [])
def laws_szIntSS.h5 : Hd := ⟨[.l (.val false false .rows), .l (.i .i64), .l (.i .i64)], []⟩
def laws_szIntSS.tab {R : Type} (k : Nat) : LTab R := fun id K vs hs =>
  bif id == 5 then laws_szIntSS.h5.tell vs hs (fun v5_0 v5_1 v5_2 => laws_szIntSS.l5 k v5_0 (laws_szIntSS.x5_0 K) (laws_szIntSS.x5_1 K) k v5_1 v5_2) else
  none
noncomputable def laws_szIntSS.body : Code := (Try.f20.body).getD .skip
noncomputable def laws_szIntSS.b5 : Code := ((loopsOf laws_szIntSS.body)[0]?).getD .skip
theorem laws_szIntSS.fit5 {R : Type} (k : Nat) (K : X → St → Option R) (vs : List AV) (hs : List (Option Root)) (r : R) (h : laws_szIntSS.tab k (V.keyOf laws_szIntSS.b5) K vs hs = some r) : LoopFit (laws_szIntSS.G k) laws_szIntSS.live (laws_szIntSS.tab k) laws_szIntSS.b5 K vs hs r := by
  rw [show V.keyOf laws_szIntSS.b5 = 5 by kernel_rfl] at h
  obtain ⟨⟨⟨⟨v5_0, _⟩, ⟨v5_1, _⟩, ⟨v5_2, _⟩, _⟩, _⟩, e, h⟩ := Hd.tell_some (show laws_szIntSS.h5.tell vs hs (fun v5_0 v5_1 v5_2 => laws_szIntSS.l5 k v5_0 (laws_szIntSS.x5_0 K) (laws_szIntSS.x5_1 K) k v5_1 v5_2) = some r from h)
  exact ⟨Int × Int, fun a => laws_szIntSS.h5.enc (((v5_0, ()), (a.1, ()), (a.2, ()), ()), ()), fun vs hs => laws_szIntSS.h5.tell vs hs (fun _ v5_1 v5_2 => some (v5_1, v5_2)), fun rec a => laws_szIntSS.s5 k v5_0 (laws_szIntSS.x5_0 K) (laws_szIntSS.x5_1 K) (fun c0 c1 => rec (c0, c1)) a.1 a.2, k, (v5_1, v5_2), e, fun _ => rfl, fun Lp a => by kernel_rfl, h⟩
theorem laws_szIntSS.ev (k : Nat) (a0 : List (List Int)) (a1 : Int) : evFn (laws_szIntSS.G k) laws_szIntSS.live (laws_szIntSS.tab k) laws_szIntSS.sig Try.f20 (dvs laws_szIntSS.pk (a0, a1, ())) laws_szIntSS.dec = laws_szIntSS.f k a0 a1 := by kernel_rfl
theorem laws_szIntSS.con (k : Nat) (a0 : List (List Int)) (a1 : Int) {r : Int} (h : laws_szIntSS.f k a0 a1 = some r) : Contract Try.prog 20 laws_szIntSS.sig (dvs laws_szIntSS.pk (a0, a1, ())) (laws_szIntSS.enc r) :=
  fn_contract (laws_szIntSS.gok k) mixed Try.func20 (show _ = some laws_szIntSS.body by kernel_rfl) (LoopsOK_of (show loopsOf laws_szIntSS.body = [laws_szIntSS.b5] by kernel_rfl) (all_cons (laws_szIntSS.fit5 k) all_nil)) (show 27 = Try.f20.ntmps by kernel_rfl) (Nat.le_of_ble_eq_true (by kernel_rfl)) (by kernel_rfl) (fun _ h => laws_szIntSS.dec_some h) ((laws_szIntSS.ev k a0 a1).trans h)
theorem laws_szIntSS.ok {R : Type} (k : Nat) {ds : List DV} {K : List DV → Option R} {r : R} (h0 : laws_szIntSS.phi k ds K = some r) : V.Enters Try.prog 20 ∧ ∃ rs, Contract Try.prog 20 laws_szIntSS.sig ds rs ∧ K rs = some r := by
  obtain ⟨⟨a0, a1, _⟩, rfl, h⟩ := tellD_some h0
  obtain ⟨x, h1, h2⟩ := Option.bind_eq_some_iff.1 (show ((laws_szIntSS.f k a0 a1).bind fun r => K (laws_szIntSS.enc r)) = some r from h)
  exact ⟨⟨Try.f20, Try.func20, by kernel_rfl, by kernel_rfl⟩, laws_szIntSS.enc x, laws_szIntSS.con k a0 a1 h1, h2⟩

def spec_AverageMoves.sig : Sig := ⟨[28], [3], [.bor], .own⟩
def spec_AverageMoves.live : List (Nat × List Nat) := [(3, [0, 3, 4]), (100003, [0, 2, 3])]
def spec_AverageMoves.pk : List DK := [.l .lent .rows]
def spec_AverageMoves.rk : List DK := [.l .own (.int .i64)]
def spec_AverageMoves.enc (r : Int) : List DV := dvs spec_AverageMoves.rk (r, ())
def spec_AverageMoves.dec (ds : List DV) : Option (Int) := tellD spec_AverageMoves.rk ds (fun u0 => some u0)
theorem spec_AverageMoves.dec_some {ds : List DV} {r : Int} (h0 : spec_AverageMoves.dec ds = some r) : ds = spec_AverageMoves.enc r := by
  obtain ⟨⟨u0, _⟩, rfl, h⟩ := tellD_some h0
  cases h
  rfl
def spec_AverageMoves.phi {R : Type} (k : Nat) (ds : List DV) (K : List DV → Option R) : Option R := tellD spec_AverageMoves.pk ds (fun a0 => (spec_AverageMoves.f k a0).bind fun r => K (spec_AverageMoves.enc r))
def spec_AverageMoves.G {R : Type} (k : Nat) : Glob R := mkG tt [] 25
theorem spec_AverageMoves.gok {R : Type} (k : Nat) : GOK Try.prog (spec_AverageMoves.G (R := R) k) := GOK_of tok all_nil
def spec_AverageMoves.x3_0 {R : Type} (K : X → St → Option R) (v3_0 : List (List Int)) (p0 : Int) : Option R := K (.exit 0) (stOf [0, 2, 3] [.one (.l (.val false (.rows false v3_0))), .one (.l (.any)), .one (.l (.i .i64 p0))] [])
def spec_AverageMoves.h3 : Hd := ⟨[.l (.val false false .rows), .l (.i .i64), .l (.i .i64)], []⟩
def spec_AverageMoves.tab {R : Type} (k : Nat) : LTab R := fun id K vs hs =>
  bif id == 3 then spec_AverageMoves.h3.tell vs hs (fun v3_0 v3_1 v3_2 => spec_AverageMoves.l3 k v3_0 (spec_AverageMoves.x3_0 K v3_0) k v3_1 v3_2) else
  none
noncomputable def spec_AverageMoves.body : Code := (Try.f21.body).getD .skip
noncomputable def spec_AverageMoves.b3 : Code := ((loopsOf spec_AverageMoves.body)[0]?).getD .skip
theorem spec_AverageMoves.fit3 {R : Type} (k : Nat) (K : X → St → Option R) (vs : List AV) (hs : List (Option Root)) (r : R) (h : spec_AverageMoves.tab k (V.keyOf spec_AverageMoves.b3) K vs hs = some r) : LoopFit (spec_AverageMoves.G k) spec_AverageMoves.live (spec_AverageMoves.tab k) spec_AverageMoves.b3 K vs hs r := by
  rw [show V.keyOf spec_AverageMoves.b3 = 3 by kernel_rfl] at h
  obtain ⟨⟨⟨⟨v3_0, _⟩, ⟨v3_1, _⟩, ⟨v3_2, _⟩, _⟩, _⟩, e, h⟩ := Hd.tell_some (show spec_AverageMoves.h3.tell vs hs (fun v3_0 v3_1 v3_2 => spec_AverageMoves.l3 k v3_0 (spec_AverageMoves.x3_0 K v3_0) k v3_1 v3_2) = some r from h)
  exact ⟨Int × Int, fun a => spec_AverageMoves.h3.enc (((v3_0, ()), (a.1, ()), (a.2, ()), ()), ()), fun vs hs => spec_AverageMoves.h3.tell vs hs (fun _ v3_1 v3_2 => some (v3_1, v3_2)), fun rec a => spec_AverageMoves.s3 k v3_0 (spec_AverageMoves.x3_0 K v3_0) (fun c0 c1 => rec (c0, c1)) a.1 a.2, k, (v3_1, v3_2), e, fun _ => rfl, fun Lp a => by kernel_rfl, h⟩
theorem spec_AverageMoves.ev (k : Nat) (a0 : List (List Int)) : evFn (spec_AverageMoves.G k) spec_AverageMoves.live (spec_AverageMoves.tab k) spec_AverageMoves.sig Try.f21 (dvs spec_AverageMoves.pk (a0, ())) spec_AverageMoves.dec = spec_AverageMoves.f k a0 := by kernel_rfl
theorem spec_AverageMoves.con (k : Nat) (a0 : List (List Int)) {r : Int} (h : spec_AverageMoves.f k a0 = some r) : Contract Try.prog 21 spec_AverageMoves.sig (dvs spec_AverageMoves.pk (a0, ())) (spec_AverageMoves.enc r) :=
  fn_contract (spec_AverageMoves.gok k) mixed Try.func21 (show _ = some spec_AverageMoves.body by kernel_rfl) (LoopsOK_of (show loopsOf spec_AverageMoves.body = [spec_AverageMoves.b3] by kernel_rfl) (all_cons (spec_AverageMoves.fit3 k) all_nil)) (show 25 = Try.f21.ntmps by kernel_rfl) (Nat.le_of_ble_eq_true (by kernel_rfl)) (by kernel_rfl) (fun _ h => spec_AverageMoves.dec_some h) ((spec_AverageMoves.ev k a0).trans h)
theorem spec_AverageMoves.ok {R : Type} (k : Nat) {ds : List DV} {K : List DV → Option R} {r : R} (h0 : spec_AverageMoves.phi k ds K = some r) : V.Enters Try.prog 21 ∧ ∃ rs, Contract Try.prog 21 spec_AverageMoves.sig ds rs ∧ K rs = some r := by
  obtain ⟨⟨a0, _⟩, rfl, h⟩ := tellD_some h0
  obtain ⟨x, h1, h2⟩ := Option.bind_eq_some_iff.1 (show ((spec_AverageMoves.f k a0).bind fun r => K (spec_AverageMoves.enc r)) = some r from h)
  exact ⟨⟨Try.f21, Try.func21, by kernel_rfl, by kernel_rfl⟩, spec_AverageMoves.enc x, spec_AverageMoves.con k a0 h1, h2⟩

def laws_toIntS.sig : Sig := ⟨[24], [24], [.bor], .own⟩
def laws_toIntS.live : List (Nat × List Nat) := [(3, [0, 3, 4]), (100003, [2, 3])]
def laws_toIntS.pk : List DK := [.l .lent (.ints .i64)]
def laws_toIntS.rk : List DK := [.l .own (.ints .i64)]
def laws_toIntS.enc (r : List Int) : List DV := dvs laws_toIntS.rk (r, ())
def laws_toIntS.dec (ds : List DV) : Option (List Int) := tellD laws_toIntS.rk ds (fun u0 => some u0)
theorem laws_toIntS.dec_some {ds : List DV} {r : List Int} (h0 : laws_toIntS.dec ds = some r) : ds = laws_toIntS.enc r := by
  obtain ⟨⟨u0, _⟩, rfl, h⟩ := tellD_some h0
  cases h
  rfl
def laws_toIntS.phi {R : Type} (k : Nat) (ds : List DV) (K : List DV → Option R) : Option R := tellD laws_toIntS.pk ds (fun a0 => (laws_toIntS.f k a0).bind fun r => K (laws_toIntS.enc r))
def laws_toIntS.G {R : Type} (k : Nat) : Glob R := mkG tt [] 22
theorem laws_toIntS.gok {R : Type} (k : Nat) : GOK Try.prog (laws_toIntS.G (R := R) k) := GOK_of tok all_nil
def laws_toIntS.x3_0 {R : Type} (K : X → St → Option R) (p0 : List Int) : Option R := K (.exit 0) (stOf [2, 3] [.one (.l (.any)), .one (.l (.own 0))] [some (.row 0 0 (.ints .i64 p0))])
def laws_toIntS.h3 : Hd := ⟨[.l (.val false false (.ints .i64)), .l (.own 0), .l (.i .i64)], [.row false (.ints .i64)]⟩
def laws_toIntS.tab {R : Type} (k : Nat) : LTab R := fun id K vs hs =>
  bif id == 3 then laws_toIntS.h3.tell vs hs (fun v3_0 v3_1 v3_2 => laws_toIntS.l3 k v3_0 (laws_toIntS.x3_0 K) k v3_1 v3_2) else
  none
noncomputable def laws_toIntS.body : Code := (Try.f17.body).getD .skip
noncomputable def laws_toIntS.b3 : Code := ((loopsOf laws_toIntS.body)[0]?).getD .skip
theorem laws_toIntS.fit3 {R : Type} (k : Nat) (K : X → St → Option R) (vs : List AV) (hs : List (Option Root)) (r : R) (h : laws_toIntS.tab k (V.keyOf laws_toIntS.b3) K vs hs = some r) : LoopFit (laws_toIntS.G k) laws_toIntS.live (laws_toIntS.tab k) laws_toIntS.b3 K vs hs r := by
  rw [show V.keyOf laws_toIntS.b3 = 3 by kernel_rfl] at h
  obtain ⟨⟨⟨⟨v3_0, _⟩, ⟨_, _⟩, ⟨v3_1, _⟩, _⟩, ⟨v3_2, _⟩⟩, e, h⟩ := Hd.tell_some (show laws_toIntS.h3.tell vs hs (fun v3_0 v3_1 v3_2 => laws_toIntS.l3 k v3_0 (laws_toIntS.x3_0 K) k v3_1 v3_2) = some r from h)
  exact ⟨Int × List Int, fun a => laws_toIntS.h3.enc (((v3_0, ()), ((), ()), (a.1, ()), ()), (a.2, ())), fun vs hs => laws_toIntS.h3.tell vs hs (fun _ v3_1 v3_2 => some (v3_1, v3_2)), fun rec a => laws_toIntS.s3 k v3_0 (laws_toIntS.x3_0 K) (fun c0 c1 => rec (c0, c1)) a.1 a.2, k, (v3_1, v3_2), e, fun _ => rfl, fun Lp a => by kernel_rfl, h⟩
theorem laws_toIntS.ev (k : Nat) (a0 : List Int) : evFn (laws_toIntS.G k) laws_toIntS.live (laws_toIntS.tab k) laws_toIntS.sig Try.f17 (dvs laws_toIntS.pk (a0, ())) laws_toIntS.dec = laws_toIntS.f k a0 := by kernel_rfl
theorem laws_toIntS.con (k : Nat) (a0 : List Int) {r : List Int} (h : laws_toIntS.f k a0 = some r) : Contract Try.prog 17 laws_toIntS.sig (dvs laws_toIntS.pk (a0, ())) (laws_toIntS.enc r) :=
  fn_contract (laws_toIntS.gok k) mixed Try.func17 (show _ = some laws_toIntS.body by kernel_rfl) (LoopsOK_of (show loopsOf laws_toIntS.body = [laws_toIntS.b3] by kernel_rfl) (all_cons (laws_toIntS.fit3 k) all_nil)) (show 22 = Try.f17.ntmps by kernel_rfl) (Nat.le_of_ble_eq_true (by kernel_rfl)) (by kernel_rfl) (fun _ h => laws_toIntS.dec_some h) ((laws_toIntS.ev k a0).trans h)
theorem laws_toIntS.ok {R : Type} (k : Nat) {ds : List DV} {K : List DV → Option R} {r : R} (h0 : laws_toIntS.phi k ds K = some r) : V.Enters Try.prog 17 ∧ ∃ rs, Contract Try.prog 17 laws_toIntS.sig ds rs ∧ K rs = some r := by
  obtain ⟨⟨a0, _⟩, rfl, h⟩ := tellD_some h0
  obtain ⟨x, h1, h2⟩ := Option.bind_eq_some_iff.1 (show ((laws_toIntS.f k a0).bind fun r => K (laws_toIntS.enc r)) = some r from h)
  exact ⟨⟨Try.f17, Try.func17, by kernel_rfl, by kernel_rfl⟩, laws_toIntS.enc x, laws_toIntS.con k a0 h1, h2⟩

def laws_toIntSS.sig : Sig := ⟨[28], [28], [.bor], .own⟩
def laws_toIntSS.live : List (Nat × List Nat) := [(3, [0, 3, 4]), (100003, [2, 3])]
def laws_toIntSS.pk : List DK := [.l .lent .rows]
def laws_toIntSS.rk : List DK := [.l .own .rows]
def laws_toIntSS.enc (r : List (List Int)) : List DV := dvs laws_toIntSS.rk (r, ())
def laws_toIntSS.dec (ds : List DV) : Option (List (List Int)) := tellD laws_toIntSS.rk ds (fun u0 => some u0)
theorem laws_toIntSS.dec_some {ds : List DV} {r : List (List Int)} (h0 : laws_toIntSS.dec ds = some r) : ds = laws_toIntSS.enc r := by
  obtain ⟨⟨u0, _⟩, rfl, h⟩ := tellD_some h0
  cases h
  rfl
def laws_toIntSS.phi {R : Type} (k : Nat) (ds : List DV) (K : List DV → Option R) : Option R := tellD laws_toIntSS.pk ds (fun a0 => (laws_toIntSS.f k a0).bind fun r => K (laws_toIntSS.enc r))
def laws_toIntSS.G {R : Type} (k : Nat) : Glob R := mkG tt [(17, ⟨laws_toIntS.sig, laws_toIntS.phi k⟩)] 23
theorem laws_toIntSS.gok {R : Type} (k : Nat) : GOK Try.prog (laws_toIntSS.G (R := R) k) := GOK_of tok (all_cons (fun _ _ _ h => laws_toIntS.ok k h) all_nil)
def laws_toIntSS.x3_0 {R : Type} (K : X → St → Option R) (p0 : List (List Int)) : Option R := K (.exit 0) (stOf [2, 3] [.one (.l (.any)), .one (.l (.own 0))] [some (.row 0 0 (.rows true p0))])
def laws_toIntSS.h3 : Hd := ⟨[.l (.val false false .rows), .l (.own 0), .l (.i .i64)], [.row true .rows]⟩
def laws_toIntSS.tab {R : Type} (k : Nat) : LTab R := fun id K vs hs =>
  bif id == 3 then laws_toIntSS.h3.tell vs hs (fun v3_0 v3_1 v3_2 => laws_toIntSS.l3 k v3_0 (laws_toIntSS.x3_0 K) k v3_1 v3_2) else
  none
noncomputable def laws_toIntSS.body : Code := (Try.f22.body).getD .skip
noncomputable def laws_toIntSS.b3 : Code := ((loopsOf laws_toIntSS.body)[0]?).getD .skip
theorem laws_toIntSS.fit3 {R : Type} (k : Nat) (K : X → St → Option R) (vs : List AV) (hs : List (Option Root)) (r : R) (h : laws_toIntSS.tab k (V.keyOf laws_toIntSS.b3) K vs hs = some r) : LoopFit (laws_toIntSS.G k) laws_toIntSS.live (laws_toIntSS.tab k) laws_toIntSS.b3 K vs hs r := by
  rw [show V.keyOf laws_toIntSS.b3 = 3 by kernel_rfl] at h
  obtain ⟨⟨⟨⟨v3_0, _⟩, ⟨_, _⟩, ⟨v3_1, _⟩, _⟩, ⟨v3_2, _⟩⟩, e, h⟩ := Hd.tell_some (show laws_toIntSS.h3.tell vs hs (fun v3_0 v3_1 v3_2 => laws_toIntSS.l3 k v3_0 (laws_toIntSS.x3_0 K) k v3_1 v3_2) = some r from h)
  exact ⟨Int × List (List Int), fun a => laws_toIntSS.h3.enc (((v3_0, ()), ((), ()), (a.1, ()), ()), (a.2, ())), fun vs hs => laws_toIntSS.h3.tell vs hs (fun _ v3_1 v3_2 => some (v3_1, v3_2)), fun rec a => laws_toIntSS.s3 k v3_0 (laws_toIntSS.x3_0 K) (fun c0 c1 => rec (c0, c1)) a.1 a.2, k, (v3_1, v3_2), e, fun _ => rfl, fun Lp a => by kernel_rfl, h⟩
theorem laws_toIntSS.ev (k : Nat) (a0 : List (List Int)) : evFn (laws_toIntSS.G k) laws_toIntSS.live (laws_toIntSS.tab k) laws_toIntSS.sig Try.f22 (dvs laws_toIntSS.pk (a0, ())) laws_toIntSS.dec = laws_toIntSS.f k a0 := by kernel_rfl
theorem laws_toIntSS.con (k : Nat) (a0 : List (List Int)) {r : List (List Int)} (h : laws_toIntSS.f k a0 = some r) : Contract Try.prog 22 laws_toIntSS.sig (dvs laws_toIntSS.pk (a0, ())) (laws_toIntSS.enc r) :=
  fn_contract (laws_toIntSS.gok k) mixed Try.func22 (show _ = some laws_toIntSS.body by kernel_rfl) (LoopsOK_of (show loopsOf laws_toIntSS.body = [laws_toIntSS.b3] by kernel_rfl) (all_cons (laws_toIntSS.fit3 k) all_nil)) (show 23 = Try.f22.ntmps by kernel_rfl) (Nat.le_of_ble_eq_true (by kernel_rfl)) (by kernel_rfl) (fun _ h => laws_toIntSS.dec_some h) ((laws_toIntSS.ev k a0).trans h)
theorem laws_toIntSS.ok {R : Type} (k : Nat) {ds : List DV} {K : List DV → Option R} {r : R} (h0 : laws_toIntSS.phi k ds K = some r) : V.Enters Try.prog 22 ∧ ∃ rs, Contract Try.prog 22 laws_toIntSS.sig ds rs ∧ K rs = some r := by
  obtain ⟨⟨a0, _⟩, rfl, h⟩ := tellD_some h0
  obtain ⟨x, h1, h2⟩ := Option.bind_eq_some_iff.1 (show ((laws_toIntSS.f k a0).bind fun r => K (laws_toIntSS.enc r)) = some r from h)
  exact ⟨⟨Try.f22, Try.func22, by kernel_rfl, by kernel_rfl⟩, laws_toIntSS.enc x, laws_toIntSS.con k a0 h1, h2⟩

def impl_TotalCards.sig : Sig := ⟨[28], [3], [.bor], .own⟩
def impl_TotalCards.live : List (Nat × List Nat) := [(3, [3, 6, 7, 8]), (100003, [2, 3])]
def impl_TotalCards.pk : List DK := [.l .lent .rows]
def impl_TotalCards.rk : List DK := [.l .own (.int .i64)]
def impl_TotalCards.enc (r : Int) : List DV := dvs impl_TotalCards.rk (r, ())
def impl_TotalCards.dec (ds : List DV) : Option (Int) := tellD impl_TotalCards.rk ds (fun u0 => some u0)
theorem impl_TotalCards.dec_some {ds : List DV} {r : Int} (h0 : impl_TotalCards.dec ds = some r) : ds = impl_TotalCards.enc r := by
  obtain ⟨⟨u0, _⟩, rfl, h⟩ := tellD_some h0
  cases h
  rfl
def impl_TotalCards.phi {R : Type} (k : Nat) (ds : List DV) (K : List DV → Option R) : Option R := tellD impl_TotalCards.pk ds (fun a0 => (impl_TotalCards.f k a0).bind fun r => K (impl_TotalCards.enc r))
def impl_TotalCards.G {R : Type} (k : Nat) : Glob R := mkG tt [] 18
theorem impl_TotalCards.gok {R : Type} (k : Nat) : GOK Try.prog (impl_TotalCards.G (R := R) k) := GOK_of tok all_nil
def impl_TotalCards.x3_0 {R : Type} (K : X → St → Option R) (p0 : Int) : Option R := K (.exit 0) (stOf [2, 3] [.one (.l (.any)), .one (.l (.i .i64 p0))] [])
def impl_TotalCards.h3 : Hd := ⟨[.l (.i .i64), .l (.val false false .rows), .l (.i .i64), .l (.i .i64)], []⟩
def impl_TotalCards.tab {R : Type} (k : Nat) : LTab R := fun id K vs hs =>
  bif id == 3 then impl_TotalCards.h3.tell vs hs (fun v3_0 v3_1 v3_2 v3_3 => impl_TotalCards.l3 k v3_1 v3_2 (impl_TotalCards.x3_0 K) k v3_0 v3_3) else
  none
noncomputable def impl_TotalCards.body : Code := (Try.f57.body).getD .skip
noncomputable def impl_TotalCards.b3 : Code := ((loopsOf impl_TotalCards.body)[0]?).getD .skip
theorem impl_TotalCards.fit3 {R : Type} (k : Nat) (K : X → St → Option R) (vs : List AV) (hs : List (Option Root)) (r : R) (h : impl_TotalCards.tab k (V.keyOf impl_TotalCards.b3) K vs hs = some r) : LoopFit (impl_TotalCards.G k) impl_TotalCards.live (impl_TotalCards.tab k) impl_TotalCards.b3 K vs hs r := by
  rw [show V.keyOf impl_TotalCards.b3 = 3 by kernel_rfl] at h
  obtain ⟨⟨⟨⟨v3_0, _⟩, ⟨v3_1, _⟩, ⟨v3_2, _⟩, ⟨v3_3, _⟩, _⟩, _⟩, e, h⟩ := Hd.tell_some (show impl_TotalCards.h3.tell vs hs (fun v3_0 v3_1 v3_2 v3_3 => impl_TotalCards.l3 k v3_1 v3_2 (impl_TotalCards.x3_0 K) k v3_0 v3_3) = some r from h)
  exact ⟨Int × Int, fun a => impl_TotalCards.h3.enc (((a.1, ()), (v3_1, ()), (v3_2, ()), (a.2, ()), ()), ()), fun vs hs => impl_TotalCards.h3.tell vs hs (fun v3_0 _ _ v3_3 => some (v3_0, v3_3)), fun rec a => impl_TotalCards.s3 k v3_1 v3_2 (impl_TotalCards.x3_0 K) (fun c0 c1 => rec (c0, c1)) a.1 a.2, k, (v3_0, v3_3), e, fun _ => rfl, fun Lp a => by kernel_rfl, h⟩
theorem impl_TotalCards.ev (k : Nat) (a0 : List (List Int)) : evFn (impl_TotalCards.G k) impl_TotalCards.live (impl_TotalCards.tab k) impl_TotalCards.sig Try.f57 (dvs impl_TotalCards.pk (a0, ())) impl_TotalCards.dec = impl_TotalCards.f k a0 := by kernel_rfl
theorem impl_TotalCards.con (k : Nat) (a0 : List (List Int)) {r : Int} (h : impl_TotalCards.f k a0 = some r) : Contract Try.prog 57 impl_TotalCards.sig (dvs impl_TotalCards.pk (a0, ())) (impl_TotalCards.enc r) :=
  fn_contract (impl_TotalCards.gok k) mixed Try.func57 (show _ = some impl_TotalCards.body by kernel_rfl) (LoopsOK_of (show loopsOf impl_TotalCards.body = [impl_TotalCards.b3] by kernel_rfl) (all_cons (impl_TotalCards.fit3 k) all_nil)) (show 18 = Try.f57.ntmps by kernel_rfl) (Nat.le_of_ble_eq_true (by kernel_rfl)) (by kernel_rfl) (fun _ h => impl_TotalCards.dec_some h) ((impl_TotalCards.ev k a0).trans h)
theorem impl_TotalCards.ok {R : Type} (k : Nat) {ds : List DV} {K : List DV → Option R} {r : R} (h0 : impl_TotalCards.phi k ds K = some r) : V.Enters Try.prog 57 ∧ ∃ rs, Contract Try.prog 57 impl_TotalCards.sig ds rs ∧ K rs = some r := by
  obtain ⟨⟨a0, _⟩, rfl, h⟩ := tellD_some h0
  obtain ⟨x, h1, h2⟩ := Option.bind_eq_some_iff.1 (show ((impl_TotalCards.f k a0).bind fun r => K (impl_TotalCards.enc r)) = some r from h)
  exact ⟨⟨Try.f57, Try.func57, by kernel_rfl, by kernel_rfl⟩, impl_TotalCards.enc x, impl_TotalCards.con k a0 h1, h2⟩

def impl_AverageMoves.sig : Sig := ⟨[28], [3], [.bor], .own⟩
def impl_AverageMoves.live : List (Nat × List Nat) := []
def impl_AverageMoves.pk : List DK := [.l .lent .rows]
def impl_AverageMoves.rk : List DK := [.l .own (.int .i64)]
def impl_AverageMoves.enc (r : Int) : List DV := dvs impl_AverageMoves.rk (r, ())
def impl_AverageMoves.dec (ds : List DV) : Option (Int) := tellD impl_AverageMoves.rk ds (fun u0 => some u0)
theorem impl_AverageMoves.dec_some {ds : List DV} {r : Int} (h0 : impl_AverageMoves.dec ds = some r) : ds = impl_AverageMoves.enc r := by
  obtain ⟨⟨u0, _⟩, rfl, h⟩ := tellD_some h0
  cases h
  rfl
def impl_AverageMoves.phi {R : Type} (k : Nat) (ds : List DV) (K : List DV → Option R) : Option R := tellD impl_AverageMoves.pk ds (fun a0 => (impl_AverageMoves.f k a0).bind fun r => K (impl_AverageMoves.enc r))
def impl_AverageMoves.G {R : Type} (k : Nat) : Glob R := mkG tt [(57, ⟨impl_TotalCards.sig, impl_TotalCards.phi k⟩)] 11
theorem impl_AverageMoves.gok {R : Type} (k : Nat) : GOK Try.prog (impl_AverageMoves.G (R := R) k) := GOK_of tok (all_cons (fun _ _ _ h => impl_TotalCards.ok k h) all_nil)
def impl_AverageMoves.tab {R : Type} (k : Nat) : LTab R := fun id K vs hs =>
  none
noncomputable def impl_AverageMoves.body : Code := (Try.f23.body).getD .skip
theorem impl_AverageMoves.ev (k : Nat) (a0 : List (List Int)) : evFn (impl_AverageMoves.G k) impl_AverageMoves.live (impl_AverageMoves.tab k) impl_AverageMoves.sig Try.f23 (dvs impl_AverageMoves.pk (a0, ())) impl_AverageMoves.dec = impl_AverageMoves.f k a0 := by kernel_rfl
theorem impl_AverageMoves.con (k : Nat) (a0 : List (List Int)) {r : Int} (h : impl_AverageMoves.f k a0 = some r) : Contract Try.prog 23 impl_AverageMoves.sig (dvs impl_AverageMoves.pk (a0, ())) (impl_AverageMoves.enc r) :=
  fn_contract (impl_AverageMoves.gok k) mixed Try.func23 (show _ = some impl_AverageMoves.body by kernel_rfl) (LoopsOK_of (show loopsOf impl_AverageMoves.body = [] by kernel_rfl) all_nil) (show 11 = Try.f23.ntmps by kernel_rfl) (Nat.le_of_ble_eq_true (by kernel_rfl)) (by kernel_rfl) (fun _ h => impl_AverageMoves.dec_some h) ((impl_AverageMoves.ev k a0).trans h)
theorem impl_AverageMoves.ok {R : Type} (k : Nat) {ds : List DV} {K : List DV → Option R} {r : R} (h0 : impl_AverageMoves.phi k ds K = some r) : V.Enters Try.prog 23 ∧ ∃ rs, Contract Try.prog 23 impl_AverageMoves.sig ds rs ∧ K rs = some r := by
  obtain ⟨⟨a0, _⟩, rfl, h⟩ := tellD_some h0
  obtain ⟨x, h1, h2⟩ := Option.bind_eq_some_iff.1 (show ((impl_AverageMoves.f k a0).bind fun r => K (impl_AverageMoves.enc r)) = some r from h)
  exact ⟨⟨Try.f23, Try.func23, by kernel_rfl, by kernel_rfl⟩, impl_AverageMoves.enc x, impl_AverageMoves.con k a0 h1, h2⟩

def laws_eqIntS.sig : Sig := ⟨[24, 24], [4], [.bor, .bor], .own⟩
def laws_eqIntS.live : List (Nat × List Nat) := [(4, [0, 1, 5]), (100004, [4])]
def laws_eqIntS.pk : List DK := [.l .lent (.ints .i64), .l .lent (.ints .i64)]
def laws_eqIntS.rk : List DK := [.l .own .bool]
def laws_eqIntS.enc (r : Bool) : List DV := dvs laws_eqIntS.rk (r, ())
def laws_eqIntS.dec (ds : List DV) : Option (Bool) := tellD laws_eqIntS.rk ds (fun u0 => some u0)
theorem laws_eqIntS.dec_some {ds : List DV} {r : Bool} (h0 : laws_eqIntS.dec ds = some r) : ds = laws_eqIntS.enc r := by
  obtain ⟨⟨u0, _⟩, rfl, h⟩ := tellD_some h0
  cases h
  rfl
def laws_eqIntS.phi {R : Type} (k : Nat) (ds : List DV) (K : List DV → Option R) : Option R := tellD laws_eqIntS.pk ds (fun a0 a1 => (laws_eqIntS.f k a0 a1).bind fun r => K (laws_eqIntS.enc r))
def laws_eqIntS.G {R : Type} (k : Nat) : Glob R := mkG tt [] 26
theorem laws_eqIntS.gok {R : Type} (k : Nat) : GOK Try.prog (laws_eqIntS.G (R := R) k) := GOK_of tok all_nil
def laws_eqIntS.x4_0 {R : Type} (K : X → St → Option R) : Option R := K .ret (stOf [4] [.one (.l (.b false))] [])
def laws_eqIntS.x4_1 {R : Type} (K : X → St → Option R) : Option R := K (.exit 0) (stOf [4] [.one (.l (.any))] [])
def laws_eqIntS.h4 : Hd := ⟨[.l (.val false false (.ints .i64)), .l (.val false false (.ints .i64)), .l (.i .i64)], []⟩
def laws_eqIntS.tab {R : Type} (k : Nat) : LTab R := fun id K vs hs =>
  bif id == 4 then laws_eqIntS.h4.tell vs hs (fun v4_0 v4_1 v4_2 => laws_eqIntS.l4 k v4_0 v4_1 (laws_eqIntS.x4_0 K) (laws_eqIntS.x4_1 K) k v4_2) else
  none
noncomputable def laws_eqIntS.body : Code := (Try.f19.body).getD .skip
noncomputable def laws_eqIntS.b4 : Code := ((loopsOf laws_eqIntS.body)[0]?).getD .skip
theorem laws_eqIntS.fit4 {R : Type} (k : Nat) (K : X → St → Option R) (vs : List AV) (hs : List (Option Root)) (r : R) (h : laws_eqIntS.tab k (V.keyOf laws_eqIntS.b4) K vs hs = some r) : LoopFit (laws_eqIntS.G k) laws_eqIntS.live (laws_eqIntS.tab k) laws_eqIntS.b4 K vs hs r := by
  rw [show V.keyOf laws_eqIntS.b4 = 4 by kernel_rfl] at h
  obtain ⟨⟨⟨⟨v4_0, _⟩, ⟨v4_1, _⟩, ⟨v4_2, _⟩, _⟩, _⟩, e, h⟩ := Hd.tell_some (show laws_eqIntS.h4.tell vs hs (fun v4_0 v4_1 v4_2 => laws_eqIntS.l4 k v4_0 v4_1 (laws_eqIntS.x4_0 K) (laws_eqIntS.x4_1 K) k v4_2) = some r from h)
  exact ⟨Int, fun a => laws_eqIntS.h4.enc (((v4_0, ()), (v4_1, ()), (a, ()), ()), ()), fun vs hs => laws_eqIntS.h4.tell vs hs (fun _ _ v4_2 => some v4_2), fun rec a => laws_eqIntS.s4 k v4_0 v4_1 (laws_eqIntS.x4_0 K) (laws_eqIntS.x4_1 K) (fun c0 => rec c0) a, k, v4_2, e, fun _ => rfl, fun Lp a => by kernel_rfl, h⟩
theorem laws_eqIntS.ev (k : Nat) (a0 : List Int) (a1 : List Int) : evFn (laws_eqIntS.G k) laws_eqIntS.live (laws_eqIntS.tab k) laws_eqIntS.sig Try.f19 (dvs laws_eqIntS.pk (a0, a1, ())) laws_eqIntS.dec = laws_eqIntS.f k a0 a1 := by kernel_rfl
theorem laws_eqIntS.con (k : Nat) (a0 : List Int) (a1 : List Int) {r : Bool} (h : laws_eqIntS.f k a0 a1 = some r) : Contract Try.prog 19 laws_eqIntS.sig (dvs laws_eqIntS.pk (a0, a1, ())) (laws_eqIntS.enc r) :=
  fn_contract (laws_eqIntS.gok k) mixed Try.func19 (show _ = some laws_eqIntS.body by kernel_rfl) (LoopsOK_of (show loopsOf laws_eqIntS.body = [laws_eqIntS.b4] by kernel_rfl) (all_cons (laws_eqIntS.fit4 k) all_nil)) (show 26 = Try.f19.ntmps by kernel_rfl) (Nat.le_of_ble_eq_true (by kernel_rfl)) (by kernel_rfl) (fun _ h => laws_eqIntS.dec_some h) ((laws_eqIntS.ev k a0 a1).trans h)
theorem laws_eqIntS.ok {R : Type} (k : Nat) {ds : List DV} {K : List DV → Option R} {r : R} (h0 : laws_eqIntS.phi k ds K = some r) : V.Enters Try.prog 19 ∧ ∃ rs, Contract Try.prog 19 laws_eqIntS.sig ds rs ∧ K rs = some r := by
  obtain ⟨⟨a0, a1, _⟩, rfl, h⟩ := tellD_some h0
  obtain ⟨x, h1, h2⟩ := Option.bind_eq_some_iff.1 (show ((laws_eqIntS.f k a0 a1).bind fun r => K (laws_eqIntS.enc r)) = some r from h)
  exact ⟨⟨Try.f19, Try.func19, by kernel_rfl, by kernel_rfl⟩, laws_eqIntS.enc x, laws_eqIntS.con k a0 a1 h1, h2⟩

def laws_eqIntSS.sig : Sig := ⟨[28, 28], [4], [.bor, .bor], .own⟩
def laws_eqIntSS.live : List (Nat × List Nat) := [(4, [0, 1, 5]), (100004, [4])]
def laws_eqIntSS.pk : List DK := [.l .lent .rows, .l .lent .rows]
def laws_eqIntSS.rk : List DK := [.l .own .bool]
def laws_eqIntSS.enc (r : Bool) : List DV := dvs laws_eqIntSS.rk (r, ())
def laws_eqIntSS.dec (ds : List DV) : Option (Bool) := tellD laws_eqIntSS.rk ds (fun u0 => some u0)
theorem laws_eqIntSS.dec_some {ds : List DV} {r : Bool} (h0 : laws_eqIntSS.dec ds = some r) : ds = laws_eqIntSS.enc r := by
  obtain ⟨⟨u0, _⟩, rfl, h⟩ := tellD_some h0
  cases h
  rfl
def laws_eqIntSS.phi {R : Type} (k : Nat) (ds : List DV) (K : List DV → Option R) : Option R := tellD laws_eqIntSS.pk ds (fun a0 a1 => (laws_eqIntSS.f k a0 a1).bind fun r => K (laws_eqIntSS.enc r))
def laws_eqIntSS.G {R : Type} (k : Nat) : Glob R := mkG tt [(19, ⟨laws_eqIntS.sig, laws_eqIntS.phi k⟩)] 27
theorem laws_eqIntSS.gok {R : Type} (k : Nat) : GOK Try.prog (laws_eqIntSS.G (R := R) k) := GOK_of tok (all_cons (fun _ _ _ h => laws_eqIntS.ok k h) all_nil)
def laws_eqIntSS.x4_0 {R : Type} (K : X → St → Option R) : Option R := K .ret (stOf [4] [.one (.l (.b false))] [])
def laws_eqIntSS.x4_1 {R : Type} (K : X → St → Option R) : Option R := K (.exit 0) (stOf [4] [.one (.l (.any))] [])
def laws_eqIntSS.h4 : Hd := ⟨[.l (.val false false .rows), .l (.val false false .rows), .l (.i .i64)], []⟩
def laws_eqIntSS.tab {R : Type} (k : Nat) : LTab R := fun id K vs hs =>
  bif id == 4 then laws_eqIntSS.h4.tell vs hs (fun v4_0 v4_1 v4_2 => laws_eqIntSS.l4 k v4_0 v4_1 (laws_eqIntSS.x4_0 K) (laws_eqIntSS.x4_1 K) k v4_2) else
  none
noncomputable def laws_eqIntSS.body : Code := (Try.f24.body).getD .skip
noncomputable def laws_eqIntSS.b4 : Code := ((loopsOf laws_eqIntSS.body)[0]?).getD .skip
theorem laws_eqIntSS.fit4 {R : Type} (k : Nat) (K : X → St → Option R) (vs : List AV) (hs : List (Option Root)) (r : R) (h : laws_eqIntSS.tab k (V.keyOf laws_eqIntSS.b4) K vs hs = some r) : LoopFit (laws_eqIntSS.G k) laws_eqIntSS.live (laws_eqIntSS.tab k) laws_eqIntSS.b4 K vs hs r := by
  rw [show V.keyOf laws_eqIntSS.b4 = 4 by kernel_rfl] at h
  obtain ⟨⟨⟨⟨v4_0, _⟩, ⟨v4_1, _⟩, ⟨v4_2, _⟩, _⟩, _⟩, e, h⟩ := Hd.tell_some (show laws_eqIntSS.h4.tell vs hs (fun v4_0 v4_1 v4_2 => laws_eqIntSS.l4 k v4_0 v4_1 (laws_eqIntSS.x4_0 K) (laws_eqIntSS.x4_1 K) k v4_2) = some r from h)
  exact ⟨Int, fun a => laws_eqIntSS.h4.enc (((v4_0, ()), (v4_1, ()), (a, ()), ()), ()), fun vs hs => laws_eqIntSS.h4.tell vs hs (fun _ _ v4_2 => some v4_2), fun rec a => laws_eqIntSS.s4 k v4_0 v4_1 (laws_eqIntSS.x4_0 K) (laws_eqIntSS.x4_1 K) (fun c0 => rec c0) a, k, v4_2, e, fun _ => rfl, fun Lp a => by kernel_rfl, h⟩
theorem laws_eqIntSS.ev (k : Nat) (a0 : List (List Int)) (a1 : List (List Int)) : evFn (laws_eqIntSS.G k) laws_eqIntSS.live (laws_eqIntSS.tab k) laws_eqIntSS.sig Try.f24 (dvs laws_eqIntSS.pk (a0, a1, ())) laws_eqIntSS.dec = laws_eqIntSS.f k a0 a1 := by kernel_rfl
theorem laws_eqIntSS.con (k : Nat) (a0 : List (List Int)) (a1 : List (List Int)) {r : Bool} (h : laws_eqIntSS.f k a0 a1 = some r) : Contract Try.prog 24 laws_eqIntSS.sig (dvs laws_eqIntSS.pk (a0, a1, ())) (laws_eqIntSS.enc r) :=
  fn_contract (laws_eqIntSS.gok k) mixed Try.func24 (show _ = some laws_eqIntSS.body by kernel_rfl) (LoopsOK_of (show loopsOf laws_eqIntSS.body = [laws_eqIntSS.b4] by kernel_rfl) (all_cons (laws_eqIntSS.fit4 k) all_nil)) (show 27 = Try.f24.ntmps by kernel_rfl) (Nat.le_of_ble_eq_true (by kernel_rfl)) (by kernel_rfl) (fun _ h => laws_eqIntSS.dec_some h) ((laws_eqIntSS.ev k a0 a1).trans h)
theorem laws_eqIntSS.ok {R : Type} (k : Nat) {ds : List DV} {K : List DV → Option R} {r : R} (h0 : laws_eqIntSS.phi k ds K = some r) : V.Enters Try.prog 24 ∧ ∃ rs, Contract Try.prog 24 laws_eqIntSS.sig ds rs ∧ K rs = some r := by
  obtain ⟨⟨a0, a1, _⟩, rfl, h⟩ := tellD_some h0
  obtain ⟨x, h1, h2⟩ := Option.bind_eq_some_iff.1 (show ((laws_eqIntSS.f k a0 a1).bind fun r => K (laws_eqIntSS.enc r)) = some r from h)
  exact ⟨⟨Try.f24, Try.func24, by kernel_rfl, by kernel_rfl⟩, laws_eqIntSS.enc x, laws_eqIntSS.con k a0 a1 h1, h2⟩

def laws_FnExactAverageMoves.sig : Sig := ⟨[28], [4], [.bor], .own⟩
def laws_FnExactAverageMoves.live : List (Nat × List Nat) := []
def laws_FnExactAverageMoves.pk : List DK := [.l .lent .rows]
def laws_FnExactAverageMoves.rk : List DK := [.l .own .bool]
def laws_FnExactAverageMoves.enc (r : Bool) : List DV := dvs laws_FnExactAverageMoves.rk (r, ())
def laws_FnExactAverageMoves.dec (ds : List DV) : Option (Bool) := tellD laws_FnExactAverageMoves.rk ds (fun u0 => some u0)
theorem laws_FnExactAverageMoves.dec_some {ds : List DV} {r : Bool} (h0 : laws_FnExactAverageMoves.dec ds = some r) : ds = laws_FnExactAverageMoves.enc r := by
  obtain ⟨⟨u0, _⟩, rfl, h⟩ := tellD_some h0
  cases h
  rfl
def laws_FnExactAverageMoves.phi {R : Type} (k : Nat) (ds : List DV) (K : List DV → Option R) : Option R := tellD laws_FnExactAverageMoves.pk ds (fun a0 => (laws_FnExactAverageMoves.f k a0).bind fun r => K (laws_FnExactAverageMoves.enc r))
def laws_FnExactAverageMoves.G {R : Type} (k : Nat) : Glob R := mkG tt [(20, ⟨laws_szIntSS.sig, laws_szIntSS.phi k⟩), (21, ⟨spec_AverageMoves.sig, spec_AverageMoves.phi k⟩), (22, ⟨laws_toIntSS.sig, laws_toIntSS.phi k⟩), (23, ⟨impl_AverageMoves.sig, impl_AverageMoves.phi k⟩), (24, ⟨laws_eqIntSS.sig, laws_eqIntSS.phi k⟩)] 27
theorem laws_FnExactAverageMoves.gok {R : Type} (k : Nat) : GOK Try.prog (laws_FnExactAverageMoves.G (R := R) k) := GOK_of tok (all_cons (fun _ _ _ h => laws_szIntSS.ok k h) (all_cons (fun _ _ _ h => spec_AverageMoves.ok k h) (all_cons (fun _ _ _ h => laws_toIntSS.ok k h) (all_cons (fun _ _ _ h => impl_AverageMoves.ok k h) (all_cons (fun _ _ _ h => laws_eqIntSS.ok k h) all_nil)))))
def laws_FnExactAverageMoves.tab {R : Type} (k : Nat) : LTab R := fun id K vs hs =>
  none
noncomputable def laws_FnExactAverageMoves.body : Code := (Try.f5.body).getD .skip
theorem laws_FnExactAverageMoves.ev (k : Nat) (a0 : List (List Int)) : evFn (laws_FnExactAverageMoves.G k) laws_FnExactAverageMoves.live (laws_FnExactAverageMoves.tab k) laws_FnExactAverageMoves.sig Try.f5 (dvs laws_FnExactAverageMoves.pk (a0, ())) laws_FnExactAverageMoves.dec = laws_FnExactAverageMoves.f k a0 := by kernel_rfl
theorem laws_FnExactAverageMoves.con (k : Nat) (a0 : List (List Int)) {r : Bool} (h : laws_FnExactAverageMoves.f k a0 = some r) : Contract Try.prog 5 laws_FnExactAverageMoves.sig (dvs laws_FnExactAverageMoves.pk (a0, ())) (laws_FnExactAverageMoves.enc r) :=
  fn_contract (laws_FnExactAverageMoves.gok k) mixed Try.func5 (show _ = some laws_FnExactAverageMoves.body by kernel_rfl) (LoopsOK_of (show loopsOf laws_FnExactAverageMoves.body = [] by kernel_rfl) all_nil) (show 27 = Try.f5.ntmps by kernel_rfl) (Nat.le_of_ble_eq_true (by kernel_rfl)) (by kernel_rfl) (fun _ h => laws_FnExactAverageMoves.dec_some h) ((laws_FnExactAverageMoves.ev k a0).trans h)
theorem laws_FnExactAverageMoves.ok {R : Type} (k : Nat) {ds : List DV} {K : List DV → Option R} {r : R} (h0 : laws_FnExactAverageMoves.phi k ds K = some r) : V.Enters Try.prog 5 ∧ ∃ rs, Contract Try.prog 5 laws_FnExactAverageMoves.sig ds rs ∧ K rs = some r := by
  obtain ⟨⟨a0, _⟩, rfl, h⟩ := tellD_some h0
  obtain ⟨x, h1, h2⟩ := Option.bind_eq_some_iff.1 (show ((laws_FnExactAverageMoves.f k a0).bind fun r => K (laws_FnExactAverageMoves.enc r)) = some r from h)
  exact ⟨⟨Try.f5, Try.func5, by kernel_rfl, by kernel_rfl⟩, laws_FnExactAverageMoves.enc x, laws_FnExactAverageMoves.con k a0 h1, h2⟩
end Go.Proofs.Ytfkejiljabmaaaa
