/- That the Go functions come to the answers of the plain ones. Printed by a program. -/
import Derived.Test.YtfkejiljabmaaaaT
import Derived.Test.YtfkejiljabmaaaaMFnExactAverageMoves
import Derived.Test.YtfkejiljabmaaaaFFnExactCountEvents
set_option linter.unusedVariables false
namespace Go.Proofs.Ytfkejiljabmaaaa
open Go Go.Proofs.Ytfkejiljabmaaaa.V Go.Proofs.Ytfkejiljabmaaaa.M

def laws_szEvent.sig : Sig := ⟨[75, 3], [3], [.bor, .bor], .own⟩
def laws_szEvent.live : List (Nat × List Nat) := []
def laws_szEvent.pk : List DK := [.agg .lent [(.int .i64), (.int .i64), (.ints .i64), (.ints .i64)], .l .lent (.int .i64)]
def laws_szEvent.rk : List DK := [.l .own (.int .i64)]
def laws_szEvent.enc (r : Int) : List DV := dvs laws_szEvent.rk (r, ())
def laws_szEvent.dec (ds : List DV) : Option (Int) := tellD laws_szEvent.rk ds (fun u0 => some u0)
theorem laws_szEvent.dec_some {ds : List DV} {r : Int} (h0 : laws_szEvent.dec ds = some r) : ds = laws_szEvent.enc r := by
  obtain ⟨⟨u0, _⟩, rfl, h⟩ := tellD_some h0
  cases h
  rfl
def laws_szEvent.phi {R : Type} (k : Nat) (ds : List DV) (K : List DV → Option R) : Option R := tellD laws_szEvent.pk ds (fun a0_0 a0_1 a0_2 a0_3 a1 => (laws_szEvent.f k a0_0 a0_1 a0_2 a0_3 a1).bind fun r => K (laws_szEvent.enc r))
def laws_szEvent.G {R : Type} (k : Nat) : Glob R := mkG tt [(56, ⟨laws_szIntS.sig, laws_szIntS.phi k⟩)] 18
theorem laws_szEvent.gok {R : Type} (k : Nat) : GOK Try.prog (laws_szEvent.G (R := R) k) := GOK_of tok (all_cons (fun _ _ _ h => laws_szIntS.ok k h) all_nil)
def laws_szEvent.tab {R : Type} (k : Nat) : LTab R := fun id K vs hs =>
  none
noncomputable def laws_szEvent.body : Code := (Try.f58.body).getD .skip
theorem laws_szEvent.ev (k : Nat) (a0_0 : Int) (a0_1 : Int) (a0_2 : List Int) (a0_3 : List Int) (a1 : Int) : evFn (laws_szEvent.G k) laws_szEvent.live (laws_szEvent.tab k) laws_szEvent.sig Try.f58 (dvs laws_szEvent.pk ((a0_0, a0_1, a0_2, a0_3, ()), a1, ())) laws_szEvent.dec = laws_szEvent.f k a0_0 a0_1 a0_2 a0_3 a1 := by kernel_rfl
theorem laws_szEvent.con (k : Nat) (a0_0 : Int) (a0_1 : Int) (a0_2 : List Int) (a0_3 : List Int) (a1 : Int) {r : Int} (h : laws_szEvent.f k a0_0 a0_1 a0_2 a0_3 a1 = some r) : Contract Try.prog 58 laws_szEvent.sig (dvs laws_szEvent.pk ((a0_0, a0_1, a0_2, a0_3, ()), a1, ())) (laws_szEvent.enc r) :=
  fn_contract (laws_szEvent.gok k) mixed Try.func58 (show _ = some laws_szEvent.body by kernel_rfl) (LoopsOK_of (show loopsOf laws_szEvent.body = [] by kernel_rfl) all_nil) (show 18 = Try.f58.ntmps by kernel_rfl) (Nat.le_of_ble_eq_true (by kernel_rfl)) (by kernel_rfl) (fun _ h => laws_szEvent.dec_some h) ((laws_szEvent.ev k a0_0 a0_1 a0_2 a0_3 a1).trans h)
theorem laws_szEvent.ok {R : Type} (k : Nat) {ds : List DV} {K : List DV → Option R} {r : R} (h0 : laws_szEvent.phi k ds K = some r) : Enters Try.prog 58 ∧ ∃ rs, Contract Try.prog 58 laws_szEvent.sig ds rs ∧ K rs = some r := by
  obtain ⟨⟨⟨a0_0, a0_1, a0_2, a0_3, _⟩, a1, _⟩, rfl, h⟩ := tellD_some h0
  obtain ⟨x, h1, h2⟩ := Option.bind_eq_some_iff.1 (show ((laws_szEvent.f k a0_0 a0_1 a0_2 a0_3 a1).bind fun r => K (laws_szEvent.enc r)) = some r from h)
  exact ⟨⟨Try.f58, Try.func58, by kernel_rfl, by kernel_rfl⟩, laws_szEvent.enc x, laws_szEvent.con k a0_0 a0_1 a0_2 a0_3 a1 h1, h2⟩

def laws_szEventS.sig : Sig := ⟨[34, 3], [3], [.bor, .bor], .own⟩
def laws_szEventS.live : List (Nat × List Nat) := [(5, [0, 1, 5]), (100005, [1, 4])]
def laws_szEventS.pk : List DK := [.l .lent (.recs [false, false, true, true]), .l .lent (.int .i64)]
def laws_szEventS.rk : List DK := [.l .own (.int .i64)]
def laws_szEventS.enc (r : Int) : List DV := dvs laws_szEventS.rk (r, ())
def laws_szEventS.dec (ds : List DV) : Option (Int) := tellD laws_szEventS.rk ds (fun u0 => some u0)
theorem laws_szEventS.dec_some {ds : List DV} {r : Int} (h0 : laws_szEventS.dec ds = some r) : ds = laws_szEventS.enc r := by
  obtain ⟨⟨u0, _⟩, rfl, h⟩ := tellD_some h0
  cases h
  rfl
def laws_szEventS.phi {R : Type} (k : Nat) (ds : List DV) (K : List DV → Option R) : Option R := tellD laws_szEventS.pk ds (fun a0 a1 => (laws_szEventS.f k a0 a1).bind fun r => K (laws_szEventS.enc r))
def laws_szEventS.G {R : Type} (k : Nat) : Glob R := mkG tt [(58, ⟨laws_szEvent.sig, laws_szEvent.phi k⟩)] 27
theorem laws_szEventS.gok {R : Type} (k : Nat) : GOK Try.prog (laws_szEventS.G (R := R) k) := GOK_of tok (all_cons (fun _ _ _ h => laws_szEvent.ok k h) all_nil)
def laws_szEventS.x5_0 {R : Type} (K : X → St → Option R) (p0 : Int) : Option R := K .ret (stOf [1, 4] [.one (.l (.i .i64 p0)), .one (.l (.i .i64 (-1 : Int)))] [])
def laws_szEventS.x5_1 {R : Type} (K : X → St → Option R) (p0 : Int) : Option R := K (.exit 0) (stOf [1, 4] [.one (.l (.i .i64 p0)), .one (.l (.any))] [])
def laws_szEventS.h5 : Hd := ⟨[.l (.val false false (.recs [false, false, true, true])), .l (.i .i64), .l (.i .i64)], []⟩
def laws_szEventS.tab {R : Type} (k : Nat) : LTab R := fun id K vs hs =>
  bif id == 5 then laws_szEventS.h5.tell vs hs (fun v5_0 v5_1 v5_2 => laws_szEventS.l5 k v5_0 (laws_szEventS.x5_0 K) (laws_szEventS.x5_1 K) k v5_1 v5_2) else
  none
noncomputable def laws_szEventS.body : Code := (Try.f25.body).getD .skip
noncomputable def laws_szEventS.b5 : Code := ((loopsOf laws_szEventS.body)[0]?).getD .skip
theorem laws_szEventS.fit5 {R : Type} (k : Nat) (K : X → St → Option R) (vs : List AV) (hs : List (Option Root)) (r : R) (h : laws_szEventS.tab k (V.keyOf laws_szEventS.b5) K vs hs = some r) : LoopFit (laws_szEventS.G k) laws_szEventS.live (laws_szEventS.tab k) laws_szEventS.b5 K vs hs r := by
  rw [show V.keyOf laws_szEventS.b5 = 5 by kernel_rfl] at h
  obtain ⟨⟨⟨⟨v5_0, _⟩, ⟨v5_1, _⟩, ⟨v5_2, _⟩, _⟩, _⟩, e, h⟩ := Hd.tell_some (show laws_szEventS.h5.tell vs hs (fun v5_0 v5_1 v5_2 => laws_szEventS.l5 k v5_0 (laws_szEventS.x5_0 K) (laws_szEventS.x5_1 K) k v5_1 v5_2) = some r from h)
  exact ⟨Int × Int, fun a => laws_szEventS.h5.enc (((v5_0, ()), (a.1, ()), (a.2, ()), ()), ()), fun vs hs => laws_szEventS.h5.tell vs hs (fun _ v5_1 v5_2 => some (v5_1, v5_2)), fun rec a => laws_szEventS.s5 k v5_0 (laws_szEventS.x5_0 K) (laws_szEventS.x5_1 K) (fun c0 c1 => rec (c0, c1)) a.1 a.2, k, (v5_1, v5_2), e, fun _ => rfl, fun Lp a => by kernel_rfl, h⟩
theorem laws_szEventS.ev (k : Nat) (a0 : List (List Leaf)) (a1 : Int) : evFn (laws_szEventS.G k) laws_szEventS.live (laws_szEventS.tab k) laws_szEventS.sig Try.f25 (dvs laws_szEventS.pk (a0, a1, ())) laws_szEventS.dec = laws_szEventS.f k a0 a1 := by kernel_rfl
theorem laws_szEventS.con (k : Nat) (a0 : List (List Leaf)) (a1 : Int) {r : Int} (h : laws_szEventS.f k a0 a1 = some r) : Contract Try.prog 25 laws_szEventS.sig (dvs laws_szEventS.pk (a0, a1, ())) (laws_szEventS.enc r) :=
  fn_contract (laws_szEventS.gok k) mixed Try.func25 (show _ = some laws_szEventS.body by kernel_rfl) (LoopsOK_of (show loopsOf laws_szEventS.body = [laws_szEventS.b5] by kernel_rfl) (all_cons (laws_szEventS.fit5 k) all_nil)) (show 27 = Try.f25.ntmps by kernel_rfl) (Nat.le_of_ble_eq_true (by kernel_rfl)) (by kernel_rfl) (fun _ h => laws_szEventS.dec_some h) ((laws_szEventS.ev k a0 a1).trans h)
theorem laws_szEventS.ok {R : Type} (k : Nat) {ds : List DV} {K : List DV → Option R} {r : R} (h0 : laws_szEventS.phi k ds K = some r) : Enters Try.prog 25 ∧ ∃ rs, Contract Try.prog 25 laws_szEventS.sig ds rs ∧ K rs = some r := by
  obtain ⟨⟨a0, a1, _⟩, rfl, h⟩ := tellD_some h0
  obtain ⟨x, h1, h2⟩ := Option.bind_eq_some_iff.1 (show ((laws_szEventS.f k a0 a1).bind fun r => K (laws_szEventS.enc r)) = some r from h)
  exact ⟨⟨Try.f25, Try.func25, by kernel_rfl, by kernel_rfl⟩, laws_szEventS.enc x, laws_szEventS.con k a0 a1 h1, h2⟩

def spec_CountEvents.sig : Sig := ⟨[37, 3], [3], [.bor, .bor], .own⟩
def spec_CountEvents.live : List (Nat × List Nat) := [(3, [0, 1, 5, 6]), (100003, [4, 5])]
def spec_CountEvents.pk : List DK := [.l .lent (.recs [false, false, true, true]), .l .lent (.int .i64)]
def spec_CountEvents.rk : List DK := [.l .own (.int .i64)]
def spec_CountEvents.enc (r : Int) : List DV := dvs spec_CountEvents.rk (r, ())
def spec_CountEvents.dec (ds : List DV) : Option (Int) := tellD spec_CountEvents.rk ds (fun u0 => some u0)
theorem spec_CountEvents.dec_some {ds : List DV} {r : Int} (h0 : spec_CountEvents.dec ds = some r) : ds = spec_CountEvents.enc r := by
  obtain ⟨⟨u0, _⟩, rfl, h⟩ := tellD_some h0
  cases h
  rfl
def spec_CountEvents.phi {R : Type} (k : Nat) (ds : List DV) (K : List DV → Option R) : Option R := tellD spec_CountEvents.pk ds (fun a0 a1 => (spec_CountEvents.f k a0 a1).bind fun r => K (spec_CountEvents.enc r))
def spec_CountEvents.G {R : Type} (k : Nat) : Glob R := mkG tt [] 23
theorem spec_CountEvents.gok {R : Type} (k : Nat) : GOK Try.prog (spec_CountEvents.G (R := R) k) := GOK_of tok all_nil
def spec_CountEvents.x3_0 {R : Type} (K : X → St → Option R) (p0 : Int) : Option R := K (.exit 0) (stOf [4, 5] [.one (.l (.any)), .one (.l (.i .i64 p0))] [])
def spec_CountEvents.h3 : Hd := ⟨[.l (.val false false (.recs [false, false, true, true])), .l (.i .i64), .l (.i .i64), .l (.i .i64)], []⟩
def spec_CountEvents.tab {R : Type} (k : Nat) : LTab R := fun id K vs hs =>
  bif id == 3 then spec_CountEvents.h3.tell vs hs (fun v3_0 v3_1 v3_2 v3_3 => spec_CountEvents.l3 k v3_0 v3_1 (spec_CountEvents.x3_0 K) k v3_2 v3_3) else
  none
noncomputable def spec_CountEvents.body : Code := (Try.f26.body).getD .skip
noncomputable def spec_CountEvents.b3 : Code := ((loopsOf spec_CountEvents.body)[0]?).getD .skip
theorem spec_CountEvents.fit3 {R : Type} (k : Nat) (K : X → St → Option R) (vs : List AV) (hs : List (Option Root)) (r : R) (h : spec_CountEvents.tab k (V.keyOf spec_CountEvents.b3) K vs hs = some r) : LoopFit (spec_CountEvents.G k) spec_CountEvents.live (spec_CountEvents.tab k) spec_CountEvents.b3 K vs hs r := by
  rw [show V.keyOf spec_CountEvents.b3 = 3 by kernel_rfl] at h
  obtain ⟨⟨⟨⟨v3_0, _⟩, ⟨v3_1, _⟩, ⟨v3_2, _⟩, ⟨v3_3, _⟩, _⟩, _⟩, e, h⟩ := Hd.tell_some (show spec_CountEvents.h3.tell vs hs (fun v3_0 v3_1 v3_2 v3_3 => spec_CountEvents.l3 k v3_0 v3_1 (spec_CountEvents.x3_0 K) k v3_2 v3_3) = some r from h)
  exact ⟨Int × Int, fun a => spec_CountEvents.h3.enc (((v3_0, ()), (v3_1, ()), (a.1, ()), (a.2, ()), ()), ()), fun vs hs => spec_CountEvents.h3.tell vs hs (fun _ _ v3_2 v3_3 => some (v3_2, v3_3)), fun rec a => spec_CountEvents.s3 k v3_0 v3_1 (spec_CountEvents.x3_0 K) (fun c0 c1 => rec (c0, c1)) a.1 a.2, k, (v3_2, v3_3), e, fun _ => rfl, fun Lp a => by kernel_rfl, h⟩
theorem spec_CountEvents.ev (k : Nat) (a0 : List (List Leaf)) (a1 : Int) : evFn (spec_CountEvents.G k) spec_CountEvents.live (spec_CountEvents.tab k) spec_CountEvents.sig Try.f26 (dvs spec_CountEvents.pk (a0, a1, ())) spec_CountEvents.dec = spec_CountEvents.f k a0 a1 := by kernel_rfl
theorem spec_CountEvents.con (k : Nat) (a0 : List (List Leaf)) (a1 : Int) {r : Int} (h : spec_CountEvents.f k a0 a1 = some r) : Contract Try.prog 26 spec_CountEvents.sig (dvs spec_CountEvents.pk (a0, a1, ())) (spec_CountEvents.enc r) :=
  fn_contract (spec_CountEvents.gok k) mixed Try.func26 (show _ = some spec_CountEvents.body by kernel_rfl) (LoopsOK_of (show loopsOf spec_CountEvents.body = [spec_CountEvents.b3] by kernel_rfl) (all_cons (spec_CountEvents.fit3 k) all_nil)) (show 23 = Try.f26.ntmps by kernel_rfl) (Nat.le_of_ble_eq_true (by kernel_rfl)) (by kernel_rfl) (fun _ h => spec_CountEvents.dec_some h) ((spec_CountEvents.ev k a0 a1).trans h)
theorem spec_CountEvents.ok {R : Type} (k : Nat) {ds : List DV} {K : List DV → Option R} {r : R} (h0 : spec_CountEvents.phi k ds K = some r) : Enters Try.prog 26 ∧ ∃ rs, Contract Try.prog 26 spec_CountEvents.sig ds rs ∧ K rs = some r := by
  obtain ⟨⟨a0, a1, _⟩, rfl, h⟩ := tellD_some h0
  obtain ⟨x, h1, h2⟩ := Option.bind_eq_some_iff.1 (show ((spec_CountEvents.f k a0 a1).bind fun r => K (spec_CountEvents.enc r)) = some r from h)
  exact ⟨⟨Try.f26, Try.func26, by kernel_rfl, by kernel_rfl⟩, spec_CountEvents.enc x, spec_CountEvents.con k a0 a1 h1, h2⟩

def laws_toEvent.sig : Sig := ⟨[75], [76], [.bor], .own⟩
def laws_toEvent.live : List (Nat × List Nat) := []
def laws_toEvent.pk : List DK := [.agg .lent [(.int .i64), (.int .i64), (.ints .i64), (.ints .i64)]]
def laws_toEvent.rk : List DK := [.agg .own [(.int .i64), (.int .i64), (.ints .i64), (.ints .i64)]]
def laws_toEvent.enc (r : Int × Int × List Int × List Int) : List DV := dvs laws_toEvent.rk ((r.1, r.2.1, r.2.2.1, r.2.2.2, ()), ())
def laws_toEvent.dec (ds : List DV) : Option (Int × Int × List Int × List Int) := tellD laws_toEvent.rk ds (fun u0 u1 u2 u3 => some (u0, u1, u2, u3))
theorem laws_toEvent.dec_some {ds : List DV} {r : Int × Int × List Int × List Int} (h0 : laws_toEvent.dec ds = some r) : ds = laws_toEvent.enc r := by
  obtain ⟨⟨⟨u0, u1, u2, u3, _⟩, _⟩, rfl, h⟩ := tellD_some h0
  cases h
  rfl
def laws_toEvent.phi {R : Type} (k : Nat) (ds : List DV) (K : List DV → Option R) : Option R := tellD laws_toEvent.pk ds (fun a0_0 a0_1 a0_2 a0_3 => (laws_toEvent.f k a0_0 a0_1 a0_2 a0_3).bind fun r => K (laws_toEvent.enc r))
def laws_toEvent.G {R : Type} (k : Nat) : Glob R := mkG tt [(17, ⟨laws_toIntS.sig, laws_toIntS.phi k⟩)] 19
theorem laws_toEvent.gok {R : Type} (k : Nat) : GOK Try.prog (laws_toEvent.G (R := R) k) := GOK_of tok (all_cons (fun _ _ _ h => laws_toIntS.ok k h) all_nil)
def laws_toEvent.tab {R : Type} (k : Nat) : LTab R := fun id K vs hs =>
  none
noncomputable def laws_toEvent.body : Code := (Try.f59.body).getD .skip
theorem laws_toEvent.ev (k : Nat) (a0_0 : Int) (a0_1 : Int) (a0_2 : List Int) (a0_3 : List Int) : evFn (laws_toEvent.G k) laws_toEvent.live (laws_toEvent.tab k) laws_toEvent.sig Try.f59 (dvs laws_toEvent.pk ((a0_0, a0_1, a0_2, a0_3, ()), ())) laws_toEvent.dec = laws_toEvent.f k a0_0 a0_1 a0_2 a0_3 := by kernel_rfl
theorem laws_toEvent.con (k : Nat) (a0_0 : Int) (a0_1 : Int) (a0_2 : List Int) (a0_3 : List Int) {r : Int × Int × List Int × List Int} (h : laws_toEvent.f k a0_0 a0_1 a0_2 a0_3 = some r) : Contract Try.prog 59 laws_toEvent.sig (dvs laws_toEvent.pk ((a0_0, a0_1, a0_2, a0_3, ()), ())) (laws_toEvent.enc r) :=
  fn_contract (laws_toEvent.gok k) mixed Try.func59 (show _ = some laws_toEvent.body by kernel_rfl) (LoopsOK_of (show loopsOf laws_toEvent.body = [] by kernel_rfl) all_nil) (show 19 = Try.f59.ntmps by kernel_rfl) (Nat.le_of_ble_eq_true (by kernel_rfl)) (by kernel_rfl) (fun _ h => laws_toEvent.dec_some h) ((laws_toEvent.ev k a0_0 a0_1 a0_2 a0_3).trans h)
theorem laws_toEvent.ok {R : Type} (k : Nat) {ds : List DV} {K : List DV → Option R} {r : R} (h0 : laws_toEvent.phi k ds K = some r) : Enters Try.prog 59 ∧ ∃ rs, Contract Try.prog 59 laws_toEvent.sig ds rs ∧ K rs = some r := by
  obtain ⟨⟨⟨a0_0, a0_1, a0_2, a0_3, _⟩, _⟩, rfl, h⟩ := tellD_some h0
  obtain ⟨x, h1, h2⟩ := Option.bind_eq_some_iff.1 (show ((laws_toEvent.f k a0_0 a0_1 a0_2 a0_3).bind fun r => K (laws_toEvent.enc r)) = some r from h)
  exact ⟨⟨Try.f59, Try.func59, by kernel_rfl, by kernel_rfl⟩, laws_toEvent.enc x, laws_toEvent.con k a0_0 a0_1 a0_2 a0_3 h1, h2⟩

def laws_toEventS.sig : Sig := ⟨[34], [37], [.bor], .own⟩
def laws_toEventS.live : List (Nat × List Nat) := [(3, [0, 3, 4]), (100003, [2, 3])]
def laws_toEventS.pk : List DK := [.l .lent (.recs [false, false, true, true])]
def laws_toEventS.rk : List DK := [.l .own (.recs [false, false, true, true])]
def laws_toEventS.enc (r : List (List Leaf)) : List DV := dvs laws_toEventS.rk (r, ())
def laws_toEventS.dec (ds : List DV) : Option (List (List Leaf)) := tellD laws_toEventS.rk ds (fun u0 => some u0)
theorem laws_toEventS.dec_some {ds : List DV} {r : List (List Leaf)} (h0 : laws_toEventS.dec ds = some r) : ds = laws_toEventS.enc r := by
  obtain ⟨⟨u0, _⟩, rfl, h⟩ := tellD_some h0
  cases h
  rfl
def laws_toEventS.phi {R : Type} (k : Nat) (ds : List DV) (K : List DV → Option R) : Option R := tellD laws_toEventS.pk ds (fun a0 => (laws_toEventS.f k a0).bind fun r => K (laws_toEventS.enc r))
def laws_toEventS.G {R : Type} (k : Nat) : Glob R := mkG tt [(59, ⟨laws_toEvent.sig, laws_toEvent.phi k⟩)] 23
theorem laws_toEventS.gok {R : Type} (k : Nat) : GOK Try.prog (laws_toEventS.G (R := R) k) := GOK_of tok (all_cons (fun _ _ _ h => laws_toEvent.ok k h) all_nil)
def laws_toEventS.x3_0 {R : Type} (K : X → St → Option R) (p0 : List (List Leaf)) : Option R := K (.exit 0) (stOf [2, 3] [.one (.l (.any)), .one (.l (.own 0))] [some (.row 0 0 (.recs [false, false, true, true] true p0))])
def laws_toEventS.h3 : Hd := ⟨[.l (.val false false (.recs [false, false, true, true])), .l (.own 0), .l (.i .i64)], [.row true (.recs [false, false, true, true])]⟩
def laws_toEventS.tab {R : Type} (k : Nat) : LTab R := fun id K vs hs =>
  bif id == 3 then laws_toEventS.h3.tell vs hs (fun v3_0 v3_1 v3_2 => laws_toEventS.l3 k v3_0 (laws_toEventS.x3_0 K) k v3_1 v3_2) else
  none
noncomputable def laws_toEventS.body : Code := (Try.f27.body).getD .skip
noncomputable def laws_toEventS.b3 : Code := ((loopsOf laws_toEventS.body)[0]?).getD .skip
theorem laws_toEventS.fit3 {R : Type} (k : Nat) (K : X → St → Option R) (vs : List AV) (hs : List (Option Root)) (r : R) (h : laws_toEventS.tab k (V.keyOf laws_toEventS.b3) K vs hs = some r) : LoopFit (laws_toEventS.G k) laws_toEventS.live (laws_toEventS.tab k) laws_toEventS.b3 K vs hs r := by
  rw [show V.keyOf laws_toEventS.b3 = 3 by kernel_rfl] at h
  obtain ⟨⟨⟨⟨v3_0, _⟩, ⟨_, _⟩, ⟨v3_1, _⟩, _⟩, ⟨v3_2, _⟩⟩, e, h⟩ := Hd.tell_some (show laws_toEventS.h3.tell vs hs (fun v3_0 v3_1 v3_2 => laws_toEventS.l3 k v3_0 (laws_toEventS.x3_0 K) k v3_1 v3_2) = some r from h)
  exact ⟨Int × List (List Leaf), fun a => laws_toEventS.h3.enc (((v3_0, ()), ((), ()), (a.1, ()), ()), (a.2, ())), fun vs hs => laws_toEventS.h3.tell vs hs (fun _ v3_1 v3_2 => some (v3_1, v3_2)), fun rec a => laws_toEventS.s3 k v3_0 (laws_toEventS.x3_0 K) (fun c0 c1 => rec (c0, c1)) a.1 a.2, k, (v3_1, v3_2), e, fun _ => rfl, fun Lp a => by kernel_rfl, h⟩
theorem laws_toEventS.ev (k : Nat) (a0 : List (List Leaf)) : evFn (laws_toEventS.G k) laws_toEventS.live (laws_toEventS.tab k) laws_toEventS.sig Try.f27 (dvs laws_toEventS.pk (a0, ())) laws_toEventS.dec = laws_toEventS.f k a0 := by kernel_rfl
theorem laws_toEventS.con (k : Nat) (a0 : List (List Leaf)) {r : List (List Leaf)} (h : laws_toEventS.f k a0 = some r) : Contract Try.prog 27 laws_toEventS.sig (dvs laws_toEventS.pk (a0, ())) (laws_toEventS.enc r) :=
  fn_contract (laws_toEventS.gok k) mixed Try.func27 (show _ = some laws_toEventS.body by kernel_rfl) (LoopsOK_of (show loopsOf laws_toEventS.body = [laws_toEventS.b3] by kernel_rfl) (all_cons (laws_toEventS.fit3 k) all_nil)) (show 23 = Try.f27.ntmps by kernel_rfl) (Nat.le_of_ble_eq_true (by kernel_rfl)) (by kernel_rfl) (fun _ h => laws_toEventS.dec_some h) ((laws_toEventS.ev k a0).trans h)
theorem laws_toEventS.ok {R : Type} (k : Nat) {ds : List DV} {K : List DV → Option R} {r : R} (h0 : laws_toEventS.phi k ds K = some r) : Enters Try.prog 27 ∧ ∃ rs, Contract Try.prog 27 laws_toEventS.sig ds rs ∧ K rs = some r := by
  obtain ⟨⟨a0, _⟩, rfl, h⟩ := tellD_some h0
  obtain ⟨x, h1, h2⟩ := Option.bind_eq_some_iff.1 (show ((laws_toEventS.f k a0).bind fun r => K (laws_toEventS.enc r)) = some r from h)
  exact ⟨⟨Try.f27, Try.func27, by kernel_rfl, by kernel_rfl⟩, laws_toEventS.enc x, laws_toEventS.con k a0 h1, h2⟩

def impl_CountEvents.sig : Sig := ⟨[37, 3], [3], [.bor, .bor], .own⟩
def impl_CountEvents.live : List (Nat × List Nat) := [(3, [1, 5, 8, 9, 10]), (100003, [4, 5])]
def impl_CountEvents.pk : List DK := [.l .lent (.recs [false, false, true, true]), .l .lent (.int .i64)]
def impl_CountEvents.rk : List DK := [.l .own (.int .i64)]
def impl_CountEvents.enc (r : Int) : List DV := dvs impl_CountEvents.rk (r, ())
def impl_CountEvents.dec (ds : List DV) : Option (Int) := tellD impl_CountEvents.rk ds (fun u0 => some u0)
theorem impl_CountEvents.dec_some {ds : List DV} {r : Int} (h0 : impl_CountEvents.dec ds = some r) : ds = impl_CountEvents.enc r := by
  obtain ⟨⟨u0, _⟩, rfl, h⟩ := tellD_some h0
  cases h
  rfl
def impl_CountEvents.phi {R : Type} (k : Nat) (ds : List DV) (K : List DV → Option R) : Option R := tellD impl_CountEvents.pk ds (fun a0 a1 => (impl_CountEvents.f k a0 a1).bind fun r => K (impl_CountEvents.enc r))
def impl_CountEvents.G {R : Type} (k : Nat) : Glob R := mkG tt [] 22
theorem impl_CountEvents.gok {R : Type} (k : Nat) : GOK Try.prog (impl_CountEvents.G (R := R) k) := GOK_of tok all_nil
def impl_CountEvents.x3_0 {R : Type} (K : X → St → Option R) (p0 : Int) : Option R := K (.exit 0) (stOf [4, 5] [.one (.l (.any)), .one (.l (.i .i64 p0))] [])
def impl_CountEvents.h3 : Hd := ⟨[.l (.i .i64), .l (.i .i64), .l (.val false false (.recs [false, false, true, true])), .l (.i .i64), .l (.i .i64)], []⟩
def impl_CountEvents.tab {R : Type} (k : Nat) : LTab R := fun id K vs hs =>
  bif id == 3 then impl_CountEvents.h3.tell vs hs (fun v3_0 v3_1 v3_2 v3_3 v3_4 => impl_CountEvents.l3 k v3_0 v3_2 v3_3 (impl_CountEvents.x3_0 K) k v3_1 v3_4) else
  none
noncomputable def impl_CountEvents.body : Code := (Try.f28.body).getD .skip
noncomputable def impl_CountEvents.b3 : Code := ((loopsOf impl_CountEvents.body)[0]?).getD .skip
theorem impl_CountEvents.fit3 {R : Type} (k : Nat) (K : X → St → Option R) (vs : List AV) (hs : List (Option Root)) (r : R) (h : impl_CountEvents.tab k (V.keyOf impl_CountEvents.b3) K vs hs = some r) : LoopFit (impl_CountEvents.G k) impl_CountEvents.live (impl_CountEvents.tab k) impl_CountEvents.b3 K vs hs r := by
  rw [show V.keyOf impl_CountEvents.b3 = 3 by kernel_rfl] at h
  obtain ⟨⟨⟨⟨v3_0, _⟩, ⟨v3_1, _⟩, ⟨v3_2, _⟩, ⟨v3_3, _⟩, ⟨v3_4, _⟩, _⟩, _⟩, e, h⟩ := Hd.tell_some (show impl_CountEvents.h3.tell vs hs (fun v3_0 v3_1 v3_2 v3_3 v3_4 => impl_CountEvents.l3 k v3_0 v3_2 v3_3 (impl_CountEvents.x3_0 K) k v3_1 v3_4) = some r from h)
  exact ⟨Int × Int, fun a => impl_CountEvents.h3.enc (((v3_0, ()), (a.1, ()), (v3_2, ()), (v3_3, ()), (a.2, ()), ()), ()), fun vs hs => impl_CountEvents.h3.tell vs hs (fun _ v3_1 _ _ v3_4 => some (v3_1, v3_4)), fun rec a => impl_CountEvents.s3 k v3_0 v3_2 v3_3 (impl_CountEvents.x3_0 K) (fun c0 c1 => rec (c0, c1)) a.1 a.2, k, (v3_1, v3_4), e, fun _ => rfl, fun Lp a => by kernel_rfl, h⟩
theorem impl_CountEvents.ev (k : Nat) (a0 : List (List Leaf)) (a1 : Int) : evFn (impl_CountEvents.G k) impl_CountEvents.live (impl_CountEvents.tab k) impl_CountEvents.sig Try.f28 (dvs impl_CountEvents.pk (a0, a1, ())) impl_CountEvents.dec = impl_CountEvents.f k a0 a1 := by kernel_rfl
theorem impl_CountEvents.con (k : Nat) (a0 : List (List Leaf)) (a1 : Int) {r : Int} (h : impl_CountEvents.f k a0 a1 = some r) : Contract Try.prog 28 impl_CountEvents.sig (dvs impl_CountEvents.pk (a0, a1, ())) (impl_CountEvents.enc r) :=
  fn_contract (impl_CountEvents.gok k) mixed Try.func28 (show _ = some impl_CountEvents.body by kernel_rfl) (LoopsOK_of (show loopsOf impl_CountEvents.body = [impl_CountEvents.b3] by kernel_rfl) (all_cons (impl_CountEvents.fit3 k) all_nil)) (show 22 = Try.f28.ntmps by kernel_rfl) (Nat.le_of_ble_eq_true (by kernel_rfl)) (by kernel_rfl) (fun _ h => impl_CountEvents.dec_some h) ((impl_CountEvents.ev k a0 a1).trans h)
theorem impl_CountEvents.ok {R : Type} (k : Nat) {ds : List DV} {K : List DV → Option R} {r : R} (h0 : impl_CountEvents.phi k ds K = some r) : Enters Try.prog 28 ∧ ∃ rs, Contract Try.prog 28 impl_CountEvents.sig ds rs ∧ K rs = some r := by
  obtain ⟨⟨a0, a1, _⟩, rfl, h⟩ := tellD_some h0
  obtain ⟨x, h1, h2⟩ := Option.bind_eq_some_iff.1 (show ((impl_CountEvents.f k a0 a1).bind fun r => K (impl_CountEvents.enc r)) = some r from h)
  exact ⟨⟨Try.f28, Try.func28, by kernel_rfl, by kernel_rfl⟩, impl_CountEvents.enc x, impl_CountEvents.con k a0 a1 h1, h2⟩

def laws_eqEvent.sig : Sig := ⟨[76, 76], [4], [.bor, .bor], .own⟩
def laws_eqEvent.live : List (Nat × List Nat) := []
def laws_eqEvent.pk : List DK := [.agg .lent [(.int .i64), (.int .i64), (.ints .i64), (.ints .i64)], .agg .lent [(.int .i64), (.int .i64), (.ints .i64), (.ints .i64)]]
def laws_eqEvent.rk : List DK := [.l .own .bool]
def laws_eqEvent.enc (r : Bool) : List DV := dvs laws_eqEvent.rk (r, ())
def laws_eqEvent.dec (ds : List DV) : Option (Bool) := tellD laws_eqEvent.rk ds (fun u0 => some u0)
theorem laws_eqEvent.dec_some {ds : List DV} {r : Bool} (h0 : laws_eqEvent.dec ds = some r) : ds = laws_eqEvent.enc r := by
  obtain ⟨⟨u0, _⟩, rfl, h⟩ := tellD_some h0
  cases h
  rfl
def laws_eqEvent.phi {R : Type} (k : Nat) (ds : List DV) (K : List DV → Option R) : Option R := tellD laws_eqEvent.pk ds (fun a0_0 a0_1 a0_2 a0_3 a1_0 a1_1 a1_2 a1_3 => (laws_eqEvent.f k a0_0 a0_1 a0_2 a0_3 a1_0 a1_1 a1_2 a1_3).bind fun r => K (laws_eqEvent.enc r))
def laws_eqEvent.G {R : Type} (k : Nat) : Glob R := mkG tt [(19, ⟨laws_eqIntS.sig, laws_eqIntS.phi k⟩)] 27
theorem laws_eqEvent.gok {R : Type} (k : Nat) : GOK Try.prog (laws_eqEvent.G (R := R) k) := GOK_of tok (all_cons (fun _ _ _ h => laws_eqIntS.ok k h) all_nil)
def laws_eqEvent.tab {R : Type} (k : Nat) : LTab R := fun id K vs hs =>
  none
noncomputable def laws_eqEvent.body : Code := (Try.f60.body).getD .skip
theorem laws_eqEvent.ev (k : Nat) (a0_0 : Int) (a0_1 : Int) (a0_2 : List Int) (a0_3 : List Int) (a1_0 : Int) (a1_1 : Int) (a1_2 : List Int) (a1_3 : List Int) : evFn (laws_eqEvent.G k) laws_eqEvent.live (laws_eqEvent.tab k) laws_eqEvent.sig Try.f60 (dvs laws_eqEvent.pk ((a0_0, a0_1, a0_2, a0_3, ()), (a1_0, a1_1, a1_2, a1_3, ()), ())) laws_eqEvent.dec = laws_eqEvent.f k a0_0 a0_1 a0_2 a0_3 a1_0 a1_1 a1_2 a1_3 := by kernel_rfl
theorem laws_eqEvent.con (k : Nat) (a0_0 : Int) (a0_1 : Int) (a0_2 : List Int) (a0_3 : List Int) (a1_0 : Int) (a1_1 : Int) (a1_2 : List Int) (a1_3 : List Int) {r : Bool} (h : laws_eqEvent.f k a0_0 a0_1 a0_2 a0_3 a1_0 a1_1 a1_2 a1_3 = some r) : Contract Try.prog 60 laws_eqEvent.sig (dvs laws_eqEvent.pk ((a0_0, a0_1, a0_2, a0_3, ()), (a1_0, a1_1, a1_2, a1_3, ()), ())) (laws_eqEvent.enc r) :=
  fn_contract (laws_eqEvent.gok k) mixed Try.func60 (show _ = some laws_eqEvent.body by kernel_rfl) (LoopsOK_of (show loopsOf laws_eqEvent.body = [] by kernel_rfl) all_nil) (show 27 = Try.f60.ntmps by kernel_rfl) (Nat.le_of_ble_eq_true (by kernel_rfl)) (by kernel_rfl) (fun _ h => laws_eqEvent.dec_some h) ((laws_eqEvent.ev k a0_0 a0_1 a0_2 a0_3 a1_0 a1_1 a1_2 a1_3).trans h)
theorem laws_eqEvent.ok {R : Type} (k : Nat) {ds : List DV} {K : List DV → Option R} {r : R} (h0 : laws_eqEvent.phi k ds K = some r) : Enters Try.prog 60 ∧ ∃ rs, Contract Try.prog 60 laws_eqEvent.sig ds rs ∧ K rs = some r := by
  obtain ⟨⟨⟨a0_0, a0_1, a0_2, a0_3, _⟩, ⟨a1_0, a1_1, a1_2, a1_3, _⟩, _⟩, rfl, h⟩ := tellD_some h0
  obtain ⟨x, h1, h2⟩ := Option.bind_eq_some_iff.1 (show ((laws_eqEvent.f k a0_0 a0_1 a0_2 a0_3 a1_0 a1_1 a1_2 a1_3).bind fun r => K (laws_eqEvent.enc r)) = some r from h)
  exact ⟨⟨Try.f60, Try.func60, by kernel_rfl, by kernel_rfl⟩, laws_eqEvent.enc x, laws_eqEvent.con k a0_0 a0_1 a0_2 a0_3 a1_0 a1_1 a1_2 a1_3 h1, h2⟩

def laws_eqEventS.sig : Sig := ⟨[37, 37], [4], [.bor, .bor], .own⟩
def laws_eqEventS.live : List (Nat × List Nat) := [(4, [0, 1, 5]), (100004, [4])]
def laws_eqEventS.pk : List DK := [.l .lent (.recs [false, false, true, true]), .l .lent (.recs [false, false, true, true])]
def laws_eqEventS.rk : List DK := [.l .own .bool]
def laws_eqEventS.enc (r : Bool) : List DV := dvs laws_eqEventS.rk (r, ())
def laws_eqEventS.dec (ds : List DV) : Option (Bool) := tellD laws_eqEventS.rk ds (fun u0 => some u0)
theorem laws_eqEventS.dec_some {ds : List DV} {r : Bool} (h0 : laws_eqEventS.dec ds = some r) : ds = laws_eqEventS.enc r := by
  obtain ⟨⟨u0, _⟩, rfl, h⟩ := tellD_some h0
  cases h
  rfl
def laws_eqEventS.phi {R : Type} (k : Nat) (ds : List DV) (K : List DV → Option R) : Option R := tellD laws_eqEventS.pk ds (fun a0 a1 => (laws_eqEventS.f k a0 a1).bind fun r => K (laws_eqEventS.enc r))
def laws_eqEventS.G {R : Type} (k : Nat) : Glob R := mkG tt [(60, ⟨laws_eqEvent.sig, laws_eqEvent.phi k⟩)] 27
theorem laws_eqEventS.gok {R : Type} (k : Nat) : GOK Try.prog (laws_eqEventS.G (R := R) k) := GOK_of tok (all_cons (fun _ _ _ h => laws_eqEvent.ok k h) all_nil)
def laws_eqEventS.x4_0 {R : Type} (K : X → St → Option R) : Option R := K .ret (stOf [4] [.one (.l (.b false))] [])
def laws_eqEventS.x4_1 {R : Type} (K : X → St → Option R) : Option R := K (.exit 0) (stOf [4] [.one (.l (.any))] [])
def laws_eqEventS.h4 : Hd := ⟨[.l (.val false false (.recs [false, false, true, true])), .l (.val false false (.recs [false, false, true, true])), .l (.i .i64)], []⟩
def laws_eqEventS.tab {R : Type} (k : Nat) : LTab R := fun id K vs hs =>
  bif id == 4 then laws_eqEventS.h4.tell vs hs (fun v4_0 v4_1 v4_2 => laws_eqEventS.l4 k v4_0 v4_1 (laws_eqEventS.x4_0 K) (laws_eqEventS.x4_1 K) k v4_2) else
  none
noncomputable def laws_eqEventS.body : Code := (Try.f29.body).getD .skip
noncomputable def laws_eqEventS.b4 : Code := ((loopsOf laws_eqEventS.body)[0]?).getD .skip
theorem laws_eqEventS.fit4 {R : Type} (k : Nat) (K : X → St → Option R) (vs : List AV) (hs : List (Option Root)) (r : R) (h : laws_eqEventS.tab k (V.keyOf laws_eqEventS.b4) K vs hs = some r) : LoopFit (laws_eqEventS.G k) laws_eqEventS.live (laws_eqEventS.tab k) laws_eqEventS.b4 K vs hs r := by
  rw [show V.keyOf laws_eqEventS.b4 = 4 by kernel_rfl] at h
  obtain ⟨⟨⟨⟨v4_0, _⟩, ⟨v4_1, _⟩, ⟨v4_2, _⟩, _⟩, _⟩, e, h⟩ := Hd.tell_some (show laws_eqEventS.h4.tell vs hs (fun v4_0 v4_1 v4_2 => laws_eqEventS.l4 k v4_0 v4_1 (laws_eqEventS.x4_0 K) (laws_eqEventS.x4_1 K) k v4_2) = some r from h)
  exact ⟨Int, fun a => laws_eqEventS.h4.enc (((v4_0, ()), (v4_1, ()), (a, ()), ()), ()), fun vs hs => laws_eqEventS.h4.tell vs hs (fun _ _ v4_2 => some v4_2), fun rec a => laws_eqEventS.s4 k v4_0 v4_1 (laws_eqEventS.x4_0 K) (laws_eqEventS.x4_1 K) (fun c0 => rec c0) a, k, v4_2, e, fun _ => rfl, fun Lp a => by kernel_rfl, h⟩
theorem laws_eqEventS.ev (k : Nat) (a0 : List (List Leaf)) (a1 : List (List Leaf)) : evFn (laws_eqEventS.G k) laws_eqEventS.live (laws_eqEventS.tab k) laws_eqEventS.sig Try.f29 (dvs laws_eqEventS.pk (a0, a1, ())) laws_eqEventS.dec = laws_eqEventS.f k a0 a1 := by kernel_rfl
theorem laws_eqEventS.con (k : Nat) (a0 : List (List Leaf)) (a1 : List (List Leaf)) {r : Bool} (h : laws_eqEventS.f k a0 a1 = some r) : Contract Try.prog 29 laws_eqEventS.sig (dvs laws_eqEventS.pk (a0, a1, ())) (laws_eqEventS.enc r) :=
  fn_contract (laws_eqEventS.gok k) mixed Try.func29 (show _ = some laws_eqEventS.body by kernel_rfl) (LoopsOK_of (show loopsOf laws_eqEventS.body = [laws_eqEventS.b4] by kernel_rfl) (all_cons (laws_eqEventS.fit4 k) all_nil)) (show 27 = Try.f29.ntmps by kernel_rfl) (Nat.le_of_ble_eq_true (by kernel_rfl)) (by kernel_rfl) (fun _ h => laws_eqEventS.dec_some h) ((laws_eqEventS.ev k a0 a1).trans h)
theorem laws_eqEventS.ok {R : Type} (k : Nat) {ds : List DV} {K : List DV → Option R} {r : R} (h0 : laws_eqEventS.phi k ds K = some r) : Enters Try.prog 29 ∧ ∃ rs, Contract Try.prog 29 laws_eqEventS.sig ds rs ∧ K rs = some r := by
  obtain ⟨⟨a0, a1, _⟩, rfl, h⟩ := tellD_some h0
  obtain ⟨x, h1, h2⟩ := Option.bind_eq_some_iff.1 (show ((laws_eqEventS.f k a0 a1).bind fun r => K (laws_eqEventS.enc r)) = some r from h)
  exact ⟨⟨Try.f29, Try.func29, by kernel_rfl, by kernel_rfl⟩, laws_eqEventS.enc x, laws_eqEventS.con k a0 a1 h1, h2⟩

def laws_FnExactCountEvents.sig : Sig := ⟨[34, 3], [4], [.bor, .bor], .own⟩
def laws_FnExactCountEvents.live : List (Nat × List Nat) := []
def laws_FnExactCountEvents.pk : List DK := [.l .lent (.recs [false, false, true, true]), .l .lent (.int .i64)]
def laws_FnExactCountEvents.rk : List DK := [.l .own .bool]
def laws_FnExactCountEvents.enc (r : Bool) : List DV := dvs laws_FnExactCountEvents.rk (r, ())
def laws_FnExactCountEvents.dec (ds : List DV) : Option (Bool) := tellD laws_FnExactCountEvents.rk ds (fun u0 => some u0)
theorem laws_FnExactCountEvents.dec_some {ds : List DV} {r : Bool} (h0 : laws_FnExactCountEvents.dec ds = some r) : ds = laws_FnExactCountEvents.enc r := by
  obtain ⟨⟨u0, _⟩, rfl, h⟩ := tellD_some h0
  cases h
  rfl
def laws_FnExactCountEvents.phi {R : Type} (k : Nat) (ds : List DV) (K : List DV → Option R) : Option R := tellD laws_FnExactCountEvents.pk ds (fun a0 a1 => (laws_FnExactCountEvents.f k a0 a1).bind fun r => K (laws_FnExactCountEvents.enc r))
def laws_FnExactCountEvents.G {R : Type} (k : Nat) : Glob R := mkG tt [(25, ⟨laws_szEventS.sig, laws_szEventS.phi k⟩), (26, ⟨spec_CountEvents.sig, spec_CountEvents.phi k⟩), (27, ⟨laws_toEventS.sig, laws_toEventS.phi k⟩), (28, ⟨impl_CountEvents.sig, impl_CountEvents.phi k⟩), (29, ⟨laws_eqEventS.sig, laws_eqEventS.phi k⟩)] 31
theorem laws_FnExactCountEvents.gok {R : Type} (k : Nat) : GOK Try.prog (laws_FnExactCountEvents.G (R := R) k) := GOK_of tok (all_cons (fun _ _ _ h => laws_szEventS.ok k h) (all_cons (fun _ _ _ h => spec_CountEvents.ok k h) (all_cons (fun _ _ _ h => laws_toEventS.ok k h) (all_cons (fun _ _ _ h => impl_CountEvents.ok k h) (all_cons (fun _ _ _ h => laws_eqEventS.ok k h) all_nil)))))
def laws_FnExactCountEvents.tab {R : Type} (k : Nat) : LTab R := fun id K vs hs =>
  none
noncomputable def laws_FnExactCountEvents.body : Code := (Try.f6.body).getD .skip
theorem laws_FnExactCountEvents.ev (k : Nat) (a0 : List (List Leaf)) (a1 : Int) : evFn (laws_FnExactCountEvents.G k) laws_FnExactCountEvents.live (laws_FnExactCountEvents.tab k) laws_FnExactCountEvents.sig Try.f6 (dvs laws_FnExactCountEvents.pk (a0, a1, ())) laws_FnExactCountEvents.dec = laws_FnExactCountEvents.f k a0 a1 := by kernel_rfl
theorem laws_FnExactCountEvents.con (k : Nat) (a0 : List (List Leaf)) (a1 : Int) {r : Bool} (h : laws_FnExactCountEvents.f k a0 a1 = some r) : Contract Try.prog 6 laws_FnExactCountEvents.sig (dvs laws_FnExactCountEvents.pk (a0, a1, ())) (laws_FnExactCountEvents.enc r) :=
  fn_contract (laws_FnExactCountEvents.gok k) mixed Try.func6 (show _ = some laws_FnExactCountEvents.body by kernel_rfl) (LoopsOK_of (show loopsOf laws_FnExactCountEvents.body = [] by kernel_rfl) all_nil) (show 31 = Try.f6.ntmps by kernel_rfl) (Nat.le_of_ble_eq_true (by kernel_rfl)) (by kernel_rfl) (fun _ h => laws_FnExactCountEvents.dec_some h) ((laws_FnExactCountEvents.ev k a0 a1).trans h)
theorem laws_FnExactCountEvents.ok {R : Type} (k : Nat) {ds : List DV} {K : List DV → Option R} {r : R} (h0 : laws_FnExactCountEvents.phi k ds K = some r) : Enters Try.prog 6 ∧ ∃ rs, Contract Try.prog 6 laws_FnExactCountEvents.sig ds rs ∧ K rs = some r := by
  obtain ⟨⟨a0, a1, _⟩, rfl, h⟩ := tellD_some h0
  obtain ⟨x, h1, h2⟩ := Option.bind_eq_some_iff.1 (show ((laws_FnExactCountEvents.f k a0 a1).bind fun r => K (laws_FnExactCountEvents.enc r)) = some r from h)
  exact ⟨⟨Try.f6, Try.func6, by kernel_rfl, by kernel_rfl⟩, laws_FnExactCountEvents.enc x, laws_FnExactCountEvents.con k a0 a1 h1, h2⟩
end Go.Proofs.Ytfkejiljabmaaaa
