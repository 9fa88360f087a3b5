/- That the Go functions come to the answers of the plain ones. Printed by a program. -/
import Derived.Test.YtfkejiljabmaaaaT
import Derived.Test.YtfkejiljabmaaaaMFnExactAverageMoves
import Derived.Test.YtfkejiljabmaaaaFFnExactWinsOf
set_option linter.unusedVariables false
namespace Go.Proofs.Ytfkejiljabmaaaa
open Go Go.Proofs.Ytfkejiljabmaaaa.V Go.Proofs.Ytfkejiljabmaaaa.M

def spec_l1In.sig : Sig := ⟨[3, 3, 3], [4], [.bor, .bor, .bor], .own⟩
def spec_l1In.live : List (Nat × List Nat) := []
def spec_l1In.pk : List DK := [.l .lent (.int .i64), .l .lent (.int .i64), .l .lent (.int .i64)]
def spec_l1In.rk : List DK := [.l .own .bool]
def spec_l1In.enc (r : Bool) : List DV := dvs spec_l1In.rk (r, ())
def spec_l1In.dec (ds : List DV) : Option (Bool) := tellD spec_l1In.rk ds (fun u0 => some u0)
theorem spec_l1In.dec_some {ds : List DV} {r : Bool} (h0 : spec_l1In.dec ds = some r) : ds = spec_l1In.enc r := by
  obtain ⟨⟨u0, _⟩, rfl, h⟩ := tellD_some h0
  cases h
  rfl
def spec_l1In.phi {R : Type} (k : Nat) (ds : List DV) (K : List DV → Option R) : Option R := tellD spec_l1In.pk ds (fun a0 a1 a2 => (spec_l1In.f k a0 a1 a2).bind fun r => K (spec_l1In.enc r))
def spec_l1In.G {R : Type} (k : Nat) : Glob R := mkG tt [] 15
theorem spec_l1In.gok {R : Type} (k : Nat) : GOK Try.prog (spec_l1In.G (R := R) k) := GOK_of tok all_nil
def spec_l1In.tab {R : Type} (k : Nat) : LTab R := fun id K vs hs =>
  none
noncomputable def spec_l1In.body : Code := (Try.f54.body).getD .skip
theorem spec_l1In.ev (k : Nat) (a0 : Int) (a1 : Int) (a2 : Int) : evFn (spec_l1In.G k) spec_l1In.live (spec_l1In.tab k) spec_l1In.sig Try.f54 (dvs spec_l1In.pk (a0, a1, a2, ())) spec_l1In.dec = spec_l1In.f k a0 a1 a2 := by kernel_rfl
theorem spec_l1In.con (k : Nat) (a0 : Int) (a1 : Int) (a2 : Int) {r : Bool} (h : spec_l1In.f k a0 a1 a2 = some r) : Contract Try.prog 54 spec_l1In.sig (dvs spec_l1In.pk (a0, a1, a2, ())) (spec_l1In.enc r) :=
  fn_contract (spec_l1In.gok k) mixed Try.func54 (show _ = some spec_l1In.body by kernel_rfl) (LoopsOK_of (show loopsOf spec_l1In.body = [] by kernel_rfl) all_nil) (show 15 = Try.f54.ntmps by kernel_rfl) (Nat.le_of_ble_eq_true (by kernel_rfl)) (by kernel_rfl) (fun _ h => spec_l1In.dec_some h) ((spec_l1In.ev k a0 a1 a2).trans h)
theorem spec_l1In.ok {R : Type} (k : Nat) {ds : List DV} {K : List DV → Option R} {r : R} (h0 : spec_l1In.phi k ds K = some r) : V.Enters Try.prog 54 ∧ ∃ rs, Contract Try.prog 54 spec_l1In.sig ds rs ∧ K rs = some r := by
  obtain ⟨⟨a0, a1, a2, _⟩, rfl, h⟩ := tellD_some h0
  obtain ⟨x, h1, h2⟩ := Option.bind_eq_some_iff.1 (show ((spec_l1In.f k a0 a1 a2).bind fun r => K (spec_l1In.enc r)) = some r from h)
  exact ⟨⟨Try.f54, Try.func54, by kernel_rfl, by kernel_rfl⟩, spec_l1In.enc x, spec_l1In.con k a0 a1 a2 h1, h2⟩

def spec_IsRound.sig : Sig := ⟨[3, 24], [4], [.bor, .bor], .own⟩
def spec_IsRound.live : List (Nat × List Nat) := [(3, [0, 1, 5, 6]), (100003, [0, 1, 4, 5])]
def spec_IsRound.pk : List DK := [.l .lent (.int .i64), .l .lent (.ints .i64)]
def spec_IsRound.rk : List DK := [.l .own .bool]
def spec_IsRound.enc (r : Bool) : List DV := dvs spec_IsRound.rk (r, ())
def spec_IsRound.dec (ds : List DV) : Option (Bool) := tellD spec_IsRound.rk ds (fun u0 => some u0)
theorem spec_IsRound.dec_some {ds : List DV} {r : Bool} (h0 : spec_IsRound.dec ds = some r) : ds = spec_IsRound.enc r := by
  obtain ⟨⟨u0, _⟩, rfl, h⟩ := tellD_some h0
  cases h
  rfl
def spec_IsRound.phi {R : Type} (k : Nat) (ds : List DV) (K : List DV → Option R) : Option R := tellD spec_IsRound.pk ds (fun a0 a1 => (spec_IsRound.f k a0 a1).bind fun r => K (spec_IsRound.enc r))
def spec_IsRound.G {R : Type} (k : Nat) : Glob R := mkG tt [(54, ⟨spec_l1In.sig, spec_l1In.phi k⟩)] 37
theorem spec_IsRound.gok {R : Type} (k : Nat) : GOK Try.prog (spec_IsRound.G (R := R) k) := GOK_of tok (all_cons (fun _ _ _ h => spec_l1In.ok k h) all_nil)
def spec_IsRound.x3_0 {R : Type} (K : X → St → Option R) (v3_0 : Int) (v3_1 : List Int) (p0 : Int) : Option R := K .ret (stOf [0, 1, 4, 5] [.one (.l (.i .i64 v3_0)), .one (.l (.val false (.ints .i64 v3_1))), .one (.l (.b false)), .one (.l (.i .i64 p0))] [])
def spec_IsRound.x3_1 {R : Type} (K : X → St → Option R) (v3_0 : Int) (v3_1 : List Int) (p0 : Int) : Option R := K (.exit 0) (stOf [0, 1, 4, 5] [.one (.l (.i .i64 v3_0)), .one (.l (.val false (.ints .i64 v3_1))), .one (.l (.any)), .one (.l (.i .i64 p0))] [])
def spec_IsRound.h3 : Hd := ⟨[.l (.i .i64), .l (.val false false (.ints .i64)), .l (.i .i64), .l (.i .i64)], []⟩
def spec_IsRound.tab {R : Type} (k : Nat) : LTab R := fun id K vs hs =>
  bif id == 3 then spec_IsRound.h3.tell vs hs (fun v3_0 v3_1 v3_2 v3_3 => spec_IsRound.l3 k v3_1 (spec_IsRound.x3_0 K v3_0 v3_1) (spec_IsRound.x3_1 K v3_0 v3_1) k v3_2 v3_3) else
  none
noncomputable def spec_IsRound.body : Code := (Try.f80.body).getD .skip
noncomputable def spec_IsRound.b3 : Code := ((loopsOf spec_IsRound.body)[0]?).getD .skip
theorem spec_IsRound.fit3 {R : Type} (k : Nat) (K : X → St → Option R) (vs : List AV) (hs : List (Option Root)) (r : R) (h : spec_IsRound.tab k (V.keyOf spec_IsRound.b3) K vs hs = some r) : LoopFit (spec_IsRound.G k) spec_IsRound.live (spec_IsRound.tab k) spec_IsRound.b3 K vs hs r := by
  rw [show V.keyOf spec_IsRound.b3 = 3 by kernel_rfl] at h
  obtain ⟨⟨⟨⟨v3_0, _⟩, ⟨v3_1, _⟩, ⟨v3_2, _⟩, ⟨v3_3, _⟩, _⟩, _⟩, e, h⟩ := Hd.tell_some (show spec_IsRound.h3.tell vs hs (fun v3_0 v3_1 v3_2 v3_3 => spec_IsRound.l3 k v3_1 (spec_IsRound.x3_0 K v3_0 v3_1) (spec_IsRound.x3_1 K v3_0 v3_1) k v3_2 v3_3) = some r from h)
  exact ⟨Int × Int, fun a => spec_IsRound.h3.enc (((v3_0, ()), (v3_1, ()), (a.1, ()), (a.2, ()), ()), ()), fun vs hs => spec_IsRound.h3.tell vs hs (fun _ _ v3_2 v3_3 => some (v3_2, v3_3)), fun rec a => spec_IsRound.s3 k v3_1 (spec_IsRound.x3_0 K v3_0 v3_1) (spec_IsRound.x3_1 K v3_0 v3_1) (fun c0 c1 => rec (c0, c1)) a.1 a.2, k, (v3_2, v3_3), e, fun _ => rfl, fun Lp a => by kernel_rfl, h⟩
theorem spec_IsRound.ev (k : Nat) (a0 : Int) (a1 : List Int) : evFn (spec_IsRound.G k) spec_IsRound.live (spec_IsRound.tab k) spec_IsRound.sig Try.f80 (dvs spec_IsRound.pk (a0, a1, ())) spec_IsRound.dec = spec_IsRound.f k a0 a1 := by kernel_rfl
theorem spec_IsRound.con (k : Nat) (a0 : Int) (a1 : List Int) {r : Bool} (h : spec_IsRound.f k a0 a1 = some r) : Contract Try.prog 80 spec_IsRound.sig (dvs spec_IsRound.pk (a0, a1, ())) (spec_IsRound.enc r) :=
  fn_contract (spec_IsRound.gok k) mixed Try.func80 (show _ = some spec_IsRound.body by kernel_rfl) (LoopsOK_of (show loopsOf spec_IsRound.body = [spec_IsRound.b3] by kernel_rfl) (all_cons (spec_IsRound.fit3 k) all_nil)) (show 37 = Try.f80.ntmps by kernel_rfl) (Nat.le_of_ble_eq_true (by kernel_rfl)) (by kernel_rfl) (fun _ h => spec_IsRound.dec_some h) ((spec_IsRound.ev k a0 a1).trans h)
theorem spec_IsRound.ok {R : Type} (k : Nat) {ds : List DV} {K : List DV → Option R} {r : R} (h0 : spec_IsRound.phi k ds K = some r) : V.Enters Try.prog 80 ∧ ∃ rs, Contract Try.prog 80 spec_IsRound.sig ds rs ∧ K rs = some r := by
  obtain ⟨⟨a0, a1, _⟩, rfl, h⟩ := tellD_some h0
  obtain ⟨x, h1, h2⟩ := Option.bind_eq_some_iff.1 (show ((spec_IsRound.f k a0 a1).bind fun r => K (spec_IsRound.enc r)) = some r from h)
  exact ⟨⟨Try.f80, Try.func80, by kernel_rfl, by kernel_rfl⟩, spec_IsRound.enc x, spec_IsRound.con k a0 a1 h1, h2⟩

def spec_IsSheet.sig : Sig := ⟨[3, 28], [4], [.bor, .bor], .own⟩
def spec_IsSheet.live : List (Nat × List Nat) := [(2, [0, 1, 5]), (100002, [0, 1, 4])]
def spec_IsSheet.pk : List DK := [.l .lent (.int .i64), .l .lent .rows]
def spec_IsSheet.rk : List DK := [.l .own .bool]
def spec_IsSheet.enc (r : Bool) : List DV := dvs spec_IsSheet.rk (r, ())
def spec_IsSheet.dec (ds : List DV) : Option (Bool) := tellD spec_IsSheet.rk ds (fun u0 => some u0)
theorem spec_IsSheet.dec_some {ds : List DV} {r : Bool} (h0 : spec_IsSheet.dec ds = some r) : ds = spec_IsSheet.enc r := by
  obtain ⟨⟨u0, _⟩, rfl, h⟩ := tellD_some h0
  cases h
  rfl
def spec_IsSheet.phi {R : Type} (k : Nat) (ds : List DV) (K : List DV → Option R) : Option R := tellD spec_IsSheet.pk ds (fun a0 a1 => (spec_IsSheet.f k a0 a1).bind fun r => K (spec_IsSheet.enc r))
def spec_IsSheet.G {R : Type} (k : Nat) : Glob R := mkG tt [(54, ⟨spec_l1In.sig, spec_l1In.phi k⟩), (80, ⟨spec_IsRound.sig, spec_IsRound.phi k⟩)] 26
theorem spec_IsSheet.gok {R : Type} (k : Nat) : GOK Try.prog (spec_IsSheet.G (R := R) k) := GOK_of tok (all_cons (fun _ _ _ h => spec_l1In.ok k h) (all_cons (fun _ _ _ h => spec_IsRound.ok k h) all_nil))
def spec_IsSheet.x2_0 {R : Type} (K : X → St → Option R) (v2_0 : Int) (v2_1 : List (List Int)) : Option R := K .ret (stOf [0, 1, 4] [.one (.l (.i .i64 v2_0)), .one (.l (.val false (.rows false v2_1))), .one (.l (.b false))] [])
def spec_IsSheet.x2_1 {R : Type} (K : X → St → Option R) (v2_0 : Int) (v2_1 : List (List Int)) : Option R := K (.exit 0) (stOf [0, 1, 4] [.one (.l (.i .i64 v2_0)), .one (.l (.val false (.rows false v2_1))), .one (.l (.any))] [])
def spec_IsSheet.h2 : Hd := ⟨[.l (.i .i64), .l (.val false false .rows), .l (.i .i64)], []⟩
def spec_IsSheet.tab {R : Type} (k : Nat) : LTab R := fun id K vs hs =>
  bif id == 2 then spec_IsSheet.h2.tell vs hs (fun v2_0 v2_1 v2_2 => spec_IsSheet.l2 k v2_0 v2_1 (spec_IsSheet.x2_0 K v2_0 v2_1) (spec_IsSheet.x2_1 K v2_0 v2_1) k v2_2) else
  none
noncomputable def spec_IsSheet.body : Code := (Try.f61.body).getD .skip
noncomputable def spec_IsSheet.b2 : Code := ((loopsOf spec_IsSheet.body)[0]?).getD .skip
theorem spec_IsSheet.fit2 {R : Type} (k : Nat) (K : X → St → Option R) (vs : List AV) (hs : List (Option Root)) (r : R) (h : spec_IsSheet.tab k (V.keyOf spec_IsSheet.b2) K vs hs = some r) : LoopFit (spec_IsSheet.G k) spec_IsSheet.live (spec_IsSheet.tab k) spec_IsSheet.b2 K vs hs r := by
  rw [show V.keyOf spec_IsSheet.b2 = 2 by kernel_rfl] at h
  obtain ⟨⟨⟨⟨v2_0, _⟩, ⟨v2_1, _⟩, ⟨v2_2, _⟩, _⟩, _⟩, e, h⟩ := Hd.tell_some (show spec_IsSheet.h2.tell vs hs (fun v2_0 v2_1 v2_2 => spec_IsSheet.l2 k v2_0 v2_1 (spec_IsSheet.x2_0 K v2_0 v2_1) (spec_IsSheet.x2_1 K v2_0 v2_1) k v2_2) = some r from h)
  exact ⟨Int, fun a => spec_IsSheet.h2.enc (((v2_0, ()), (v2_1, ()), (a, ()), ()), ()), fun vs hs => spec_IsSheet.h2.tell vs hs (fun _ _ v2_2 => some v2_2), fun rec a => spec_IsSheet.s2 k v2_0 v2_1 (spec_IsSheet.x2_0 K v2_0 v2_1) (spec_IsSheet.x2_1 K v2_0 v2_1) (fun c0 => rec c0) a, k, v2_2, e, fun _ => rfl, fun Lp a => by kernel_rfl, h⟩
theorem spec_IsSheet.ev (k : Nat) (a0 : Int) (a1 : List (List Int)) : evFn (spec_IsSheet.G k) spec_IsSheet.live (spec_IsSheet.tab k) spec_IsSheet.sig Try.f61 (dvs spec_IsSheet.pk (a0, a1, ())) spec_IsSheet.dec = spec_IsSheet.f k a0 a1 := by kernel_rfl
theorem spec_IsSheet.con (k : Nat) (a0 : Int) (a1 : List (List Int)) {r : Bool} (h : spec_IsSheet.f k a0 a1 = some r) : Contract Try.prog 61 spec_IsSheet.sig (dvs spec_IsSheet.pk (a0, a1, ())) (spec_IsSheet.enc r) :=
  fn_contract (spec_IsSheet.gok k) mixed Try.func61 (show _ = some spec_IsSheet.body by kernel_rfl) (LoopsOK_of (show loopsOf spec_IsSheet.body = [spec_IsSheet.b2] by kernel_rfl) (all_cons (spec_IsSheet.fit2 k) all_nil)) (show 26 = Try.f61.ntmps by kernel_rfl) (Nat.le_of_ble_eq_true (by kernel_rfl)) (by kernel_rfl) (fun _ h => spec_IsSheet.dec_some h) ((spec_IsSheet.ev k a0 a1).trans h)
theorem spec_IsSheet.ok {R : Type} (k : Nat) {ds : List DV} {K : List DV → Option R} {r : R} (h0 : spec_IsSheet.phi k ds K = some r) : V.Enters Try.prog 61 ∧ ∃ rs, Contract Try.prog 61 spec_IsSheet.sig ds rs ∧ K rs = some r := by
  obtain ⟨⟨a0, a1, _⟩, rfl, h⟩ := tellD_some h0
  obtain ⟨x, h1, h2⟩ := Option.bind_eq_some_iff.1 (show ((spec_IsSheet.f k a0 a1).bind fun r => K (spec_IsSheet.enc r)) = some r from h)
  exact ⟨⟨Try.f61, Try.func61, by kernel_rfl, by kernel_rfl⟩, spec_IsSheet.enc x, spec_IsSheet.con k a0 a1 h1, h2⟩

def spec_WinsOf.sig : Sig := ⟨[3, 28, 3], [3], [.bor, .bor, .bor], .own⟩
def spec_WinsOf.live : List (Nat × List Nat) := [(3, [0, 1, 2, 7, 8]), (100003, [6, 7])]
def spec_WinsOf.pk : List DK := [.l .lent (.int .i64), .l .lent .rows, .l .lent (.int .i64)]
def spec_WinsOf.rk : List DK := [.l .own (.int .i64)]
def spec_WinsOf.enc (r : Int) : List DV := dvs spec_WinsOf.rk (r, ())
def spec_WinsOf.dec (ds : List DV) : Option (Int) := tellD spec_WinsOf.rk ds (fun u0 => some u0)
theorem spec_WinsOf.dec_some {ds : List DV} {r : Int} (h0 : spec_WinsOf.dec ds = some r) : ds = spec_WinsOf.enc r := by
  obtain ⟨⟨u0, _⟩, rfl, h⟩ := tellD_some h0
  cases h
  rfl
def spec_WinsOf.phi {R : Type} (k : Nat) (ds : List DV) (K : List DV → Option R) : Option R := tellD spec_WinsOf.pk ds (fun a0 a1 a2 => (spec_WinsOf.f k a0 a1 a2).bind fun r => K (spec_WinsOf.enc r))
def spec_WinsOf.G {R : Type} (k : Nat) : Glob R := mkG tt [(54, ⟨spec_l1In.sig, spec_l1In.phi k⟩), (61, ⟨spec_IsSheet.sig, spec_IsSheet.phi k⟩)] 37
theorem spec_WinsOf.gok {R : Type} (k : Nat) : GOK Try.prog (spec_WinsOf.G (R := R) k) := GOK_of tok (all_cons (fun _ _ _ h => spec_l1In.ok k h) (all_cons (fun _ _ _ h => spec_IsSheet.ok k h) all_nil))
def spec_WinsOf.x3_0 {R : Type} (K : X → St → Option R) (p0 : Int) : Option R := K (.exit 0) (stOf [6, 7] [.one (.l (.any)), .one (.l (.i .i64 p0))] [])
def spec_WinsOf.h3 : Hd := ⟨[.l (.i .i64), .l (.val false false .rows), .l (.i .i64), .l (.i .i64), .l (.i .i64)], []⟩
def spec_WinsOf.tab {R : Type} (k : Nat) : LTab R := fun id K vs hs =>
  bif id == 3 then spec_WinsOf.h3.tell vs hs (fun v3_0 v3_1 v3_2 v3_3 v3_4 => spec_WinsOf.l3 k v3_0 v3_1 v3_2 (spec_WinsOf.x3_0 K) k v3_3 v3_4) else
  none
noncomputable def spec_WinsOf.body : Code := (Try.f30.body).getD .skip
noncomputable def spec_WinsOf.b3 : Code := ((loopsOf spec_WinsOf.body)[0]?).getD .skip
theorem spec_WinsOf.fit3 {R : Type} (k : Nat) (K : X → St → Option R) (vs : List AV) (hs : List (Option Root)) (r : R) (h : spec_WinsOf.tab k (V.keyOf spec_WinsOf.b3) K vs hs = some r) : LoopFit (spec_WinsOf.G k) spec_WinsOf.live (spec_WinsOf.tab k) spec_WinsOf.b3 K vs hs r := by
  rw [show V.keyOf spec_WinsOf.b3 = 3 by kernel_rfl] at h
  obtain ⟨⟨⟨⟨v3_0, _⟩, ⟨v3_1, _⟩, ⟨v3_2, _⟩, ⟨v3_3, _⟩, ⟨v3_4, _⟩, _⟩, _⟩, e, h⟩ := Hd.tell_some (show spec_WinsOf.h3.tell vs hs (fun v3_0 v3_1 v3_2 v3_3 v3_4 => spec_WinsOf.l3 k v3_0 v3_1 v3_2 (spec_WinsOf.x3_0 K) k v3_3 v3_4) = some r from h)
  exact ⟨Int × Int, fun a => spec_WinsOf.h3.enc (((v3_0, ()), (v3_1, ()), (v3_2, ()), (a.1, ()), (a.2, ()), ()), ()), fun vs hs => spec_WinsOf.h3.tell vs hs (fun _ _ _ v3_3 v3_4 => some (v3_3, v3_4)), fun rec a => spec_WinsOf.s3 k v3_0 v3_1 v3_2 (spec_WinsOf.x3_0 K) (fun c0 c1 => rec (c0, c1)) a.1 a.2, k, (v3_3, v3_4), e, fun _ => rfl, fun Lp a => by kernel_rfl, h⟩
theorem spec_WinsOf.ev (k : Nat) (a0 : Int) (a1 : List (List Int)) (a2 : Int) : evFn (spec_WinsOf.G k) spec_WinsOf.live (spec_WinsOf.tab k) spec_WinsOf.sig Try.f30 (dvs spec_WinsOf.pk (a0, a1, a2, ())) spec_WinsOf.dec = spec_WinsOf.f k a0 a1 a2 := by kernel_rfl
theorem spec_WinsOf.con (k : Nat) (a0 : Int) (a1 : List (List Int)) (a2 : Int) {r : Int} (h : spec_WinsOf.f k a0 a1 a2 = some r) : Contract Try.prog 30 spec_WinsOf.sig (dvs spec_WinsOf.pk (a0, a1, a2, ())) (spec_WinsOf.enc r) :=
  fn_contract (spec_WinsOf.gok k) mixed Try.func30 (show _ = some spec_WinsOf.body by kernel_rfl) (LoopsOK_of (show loopsOf spec_WinsOf.body = [spec_WinsOf.b3] by kernel_rfl) (all_cons (spec_WinsOf.fit3 k) all_nil)) (show 37 = Try.f30.ntmps by kernel_rfl) (Nat.le_of_ble_eq_true (by kernel_rfl)) (by kernel_rfl) (fun _ h => spec_WinsOf.dec_some h) ((spec_WinsOf.ev k a0 a1 a2).trans h)
theorem spec_WinsOf.ok {R : Type} (k : Nat) {ds : List DV} {K : List DV → Option R} {r : R} (h0 : spec_WinsOf.phi k ds K = some r) : V.Enters Try.prog 30 ∧ ∃ rs, Contract Try.prog 30 spec_WinsOf.sig ds rs ∧ K rs = some r := by
  obtain ⟨⟨a0, a1, a2, _⟩, rfl, h⟩ := tellD_some h0
  obtain ⟨x, h1, h2⟩ := Option.bind_eq_some_iff.1 (show ((spec_WinsOf.f k a0 a1 a2).bind fun r => K (spec_WinsOf.enc r)) = some r from h)
  exact ⟨⟨Try.f30, Try.func30, by kernel_rfl, by kernel_rfl⟩, spec_WinsOf.enc x, spec_WinsOf.con k a0 a1 a2 h1, h2⟩

def impl_InRange.sig : Sig := ⟨[3, 3, 3], [4], [.bor, .bor, .bor], .own⟩
def impl_InRange.live : List (Nat × List Nat) := []
def impl_InRange.pk : List DK := [.l .lent (.int .i64), .l .lent (.int .i64), .l .lent (.int .i64)]
def impl_InRange.rk : List DK := [.l .own .bool]
def impl_InRange.enc (r : Bool) : List DV := dvs impl_InRange.rk (r, ())
def impl_InRange.dec (ds : List DV) : Option (Bool) := tellD impl_InRange.rk ds (fun u0 => some u0)
theorem impl_InRange.dec_some {ds : List DV} {r : Bool} (h0 : impl_InRange.dec ds = some r) : ds = impl_InRange.enc r := by
  obtain ⟨⟨u0, _⟩, rfl, h⟩ := tellD_some h0
  cases h
  rfl
def impl_InRange.phi {R : Type} (k : Nat) (ds : List DV) (K : List DV → Option R) : Option R := tellD impl_InRange.pk ds (fun a0 a1 a2 => (impl_InRange.f k a0 a1 a2).bind fun r => K (impl_InRange.enc r))
def impl_InRange.G {R : Type} (k : Nat) : Glob R := mkG tt [] 15
theorem impl_InRange.gok {R : Type} (k : Nat) : GOK Try.prog (impl_InRange.G (R := R) k) := GOK_of tok all_nil
def impl_InRange.tab {R : Type} (k : Nat) : LTab R := fun id K vs hs =>
  none
noncomputable def impl_InRange.body : Code := (Try.f55.body).getD .skip
theorem impl_InRange.ev (k : Nat) (a0 : Int) (a1 : Int) (a2 : Int) : evFn (impl_InRange.G k) impl_InRange.live (impl_InRange.tab k) impl_InRange.sig Try.f55 (dvs impl_InRange.pk (a0, a1, a2, ())) impl_InRange.dec = impl_InRange.f k a0 a1 a2 := by kernel_rfl
theorem impl_InRange.con (k : Nat) (a0 : Int) (a1 : Int) (a2 : Int) {r : Bool} (h : impl_InRange.f k a0 a1 a2 = some r) : Contract Try.prog 55 impl_InRange.sig (dvs impl_InRange.pk (a0, a1, a2, ())) (impl_InRange.enc r) :=
  fn_contract (impl_InRange.gok k) mixed Try.func55 (show _ = some impl_InRange.body by kernel_rfl) (LoopsOK_of (show loopsOf impl_InRange.body = [] by kernel_rfl) all_nil) (show 15 = Try.f55.ntmps by kernel_rfl) (Nat.le_of_ble_eq_true (by kernel_rfl)) (by kernel_rfl) (fun _ h => impl_InRange.dec_some h) ((impl_InRange.ev k a0 a1 a2).trans h)
theorem impl_InRange.ok {R : Type} (k : Nat) {ds : List DV} {K : List DV → Option R} {r : R} (h0 : impl_InRange.phi k ds K = some r) : V.Enters Try.prog 55 ∧ ∃ rs, Contract Try.prog 55 impl_InRange.sig ds rs ∧ K rs = some r := by
  obtain ⟨⟨a0, a1, a2, _⟩, rfl, h⟩ := tellD_some h0
  obtain ⟨x, h1, h2⟩ := Option.bind_eq_some_iff.1 (show ((impl_InRange.f k a0 a1 a2).bind fun r => K (impl_InRange.enc r)) = some r from h)
  exact ⟨⟨Try.f55, Try.func55, by kernel_rfl, by kernel_rfl⟩, impl_InRange.enc x, impl_InRange.con k a0 a1 a2 h1, h2⟩

def impl_allIn.sig : Sig := ⟨[24, 3, 3], [4], [.bor, .bor, .bor], .own⟩
def impl_allIn.live : List (Nat × List Nat) := [(2, [1, 2, 9, 10, 11]), (100002, [6])]
def impl_allIn.pk : List DK := [.l .lent (.ints .i64), .l .lent (.int .i64), .l .lent (.int .i64)]
def impl_allIn.rk : List DK := [.l .own .bool]
def impl_allIn.enc (r : Bool) : List DV := dvs impl_allIn.rk (r, ())
def impl_allIn.dec (ds : List DV) : Option (Bool) := tellD impl_allIn.rk ds (fun u0 => some u0)
theorem impl_allIn.dec_some {ds : List DV} {r : Bool} (h0 : impl_allIn.dec ds = some r) : ds = impl_allIn.enc r := by
  obtain ⟨⟨u0, _⟩, rfl, h⟩ := tellD_some h0
  cases h
  rfl
def impl_allIn.phi {R : Type} (k : Nat) (ds : List DV) (K : List DV → Option R) : Option R := tellD impl_allIn.pk ds (fun a0 a1 a2 => (impl_allIn.f k a0 a1 a2).bind fun r => K (impl_allIn.enc r))
def impl_allIn.G {R : Type} (k : Nat) : Glob R := mkG tt [(55, ⟨impl_InRange.sig, impl_InRange.phi k⟩)] 21
theorem impl_allIn.gok {R : Type} (k : Nat) : GOK Try.prog (impl_allIn.G (R := R) k) := GOK_of tok (all_cons (fun _ _ _ h => impl_InRange.ok k h) all_nil)
def impl_allIn.x2_0 {R : Type} (K : X → St → Option R) : Option R := K .ret (stOf [6] [.one (.l (.b false))] [])
def impl_allIn.x2_1 {R : Type} (K : X → St → Option R) : Option R := K (.exit 0) (stOf [6] [.one (.l (.any))] [])
def impl_allIn.h2 : Hd := ⟨[.l (.i .i64), .l (.i .i64), .l (.val false false (.ints .i64)), .l (.i .i64), .l (.i .i64)], []⟩
def impl_allIn.tab {R : Type} (k : Nat) : LTab R := fun id K vs hs =>
  bif id == 2 then impl_allIn.h2.tell vs hs (fun v2_0 v2_1 v2_2 v2_3 v2_4 => impl_allIn.l2 k v2_0 v2_1 v2_2 v2_3 (impl_allIn.x2_0 K) (impl_allIn.x2_1 K) k v2_4) else
  none
noncomputable def impl_allIn.body : Code := (Try.f104.body).getD .skip
noncomputable def impl_allIn.b2 : Code := ((loopsOf impl_allIn.body)[0]?).getD .skip
theorem impl_allIn.fit2 {R : Type} (k : Nat) (K : X → St → Option R) (vs : List AV) (hs : List (Option Root)) (r : R) (h : impl_allIn.tab k (V.keyOf impl_allIn.b2) K vs hs = some r) : LoopFit (impl_allIn.G k) impl_allIn.live (impl_allIn.tab k) impl_allIn.b2 K vs hs r := by
  rw [show V.keyOf impl_allIn.b2 = 2 by kernel_rfl] at h
  obtain ⟨⟨⟨⟨v2_0, _⟩, ⟨v2_1, _⟩, ⟨v2_2, _⟩, ⟨v2_3, _⟩, ⟨v2_4, _⟩, _⟩, _⟩, e, h⟩ := Hd.tell_some (show impl_allIn.h2.tell vs hs (fun v2_0 v2_1 v2_2 v2_3 v2_4 => impl_allIn.l2 k v2_0 v2_1 v2_2 v2_3 (impl_allIn.x2_0 K) (impl_allIn.x2_1 K) k v2_4) = some r from h)
  exact ⟨Int, fun a => impl_allIn.h2.enc (((v2_0, ()), (v2_1, ()), (v2_2, ()), (v2_3, ()), (a, ()), ()), ()), fun vs hs => impl_allIn.h2.tell vs hs (fun _ _ _ _ v2_4 => some v2_4), fun rec a => impl_allIn.s2 k v2_0 v2_1 v2_2 v2_3 (impl_allIn.x2_0 K) (impl_allIn.x2_1 K) (fun c0 => rec c0) a, k, v2_4, e, fun _ => rfl, fun Lp a => by kernel_rfl, h⟩
theorem impl_allIn.ev (k : Nat) (a0 : List Int) (a1 : Int) (a2 : Int) : evFn (impl_allIn.G k) impl_allIn.live (impl_allIn.tab k) impl_allIn.sig Try.f104 (dvs impl_allIn.pk (a0, a1, a2, ())) impl_allIn.dec = impl_allIn.f k a0 a1 a2 := by kernel_rfl
theorem impl_allIn.con (k : Nat) (a0 : List Int) (a1 : Int) (a2 : Int) {r : Bool} (h : impl_allIn.f k a0 a1 a2 = some r) : Contract Try.prog 104 impl_allIn.sig (dvs impl_allIn.pk (a0, a1, a2, ())) (impl_allIn.enc r) :=
  fn_contract (impl_allIn.gok k) mixed Try.func104 (show _ = some impl_allIn.body by kernel_rfl) (LoopsOK_of (show loopsOf impl_allIn.body = [impl_allIn.b2] by kernel_rfl) (all_cons (impl_allIn.fit2 k) all_nil)) (show 21 = Try.f104.ntmps by kernel_rfl) (Nat.le_of_ble_eq_true (by kernel_rfl)) (by kernel_rfl) (fun _ h => impl_allIn.dec_some h) ((impl_allIn.ev k a0 a1 a2).trans h)
theorem impl_allIn.ok {R : Type} (k : Nat) {ds : List DV} {K : List DV → Option R} {r : R} (h0 : impl_allIn.phi k ds K = some r) : V.Enters Try.prog 104 ∧ ∃ rs, Contract Try.prog 104 impl_allIn.sig ds rs ∧ K rs = some r := by
  obtain ⟨⟨a0, a1, a2, _⟩, rfl, h⟩ := tellD_some h0
  obtain ⟨x, h1, h2⟩ := Option.bind_eq_some_iff.1 (show ((impl_allIn.f k a0 a1 a2).bind fun r => K (impl_allIn.enc r)) = some r from h)
  exact ⟨⟨Try.f104, Try.func104, by kernel_rfl, by kernel_rfl⟩, impl_allIn.enc x, impl_allIn.con k a0 a1 a2 h1, h2⟩

def impl_sum.sig : Sig := ⟨[24], [3], [.bor], .own⟩
def impl_sum.live : List (Nat × List Nat) := [(3, [3, 6, 7, 8]), (100003, [2, 3])]
def impl_sum.pk : List DK := [.l .lent (.ints .i64)]
def impl_sum.rk : List DK := [.l .own (.int .i64)]
def impl_sum.enc (r : Int) : List DV := dvs impl_sum.rk (r, ())
def impl_sum.dec (ds : List DV) : Option (Int) := tellD impl_sum.rk ds (fun u0 => some u0)
theorem impl_sum.dec_some {ds : List DV} {r : Int} (h0 : impl_sum.dec ds = some r) : ds = impl_sum.enc r := by
  obtain ⟨⟨u0, _⟩, rfl, h⟩ := tellD_some h0
  cases h
  rfl
def impl_sum.phi {R : Type} (k : Nat) (ds : List DV) (K : List DV → Option R) : Option R := tellD impl_sum.pk ds (fun a0 => (impl_sum.f k a0).bind fun r => K (impl_sum.enc r))
def impl_sum.G {R : Type} (k : Nat) : Glob R := mkG tt [] 17
theorem impl_sum.gok {R : Type} (k : Nat) : GOK Try.prog (impl_sum.G (R := R) k) := GOK_of tok all_nil
def impl_sum.x3_0 {R : Type} (K : X → St → Option R) (p0 : Int) : Option R := K (.exit 0) (stOf [2, 3] [.one (.l (.any)), .one (.l (.i .i64 p0))] [])
def impl_sum.h3 : Hd := ⟨[.l (.i .i64), .l (.val false false (.ints .i64)), .l (.i .i64), .l (.i .i64)], []⟩
def impl_sum.tab {R : Type} (k : Nat) : LTab R := fun id K vs hs =>
  bif id == 3 then impl_sum.h3.tell vs hs (fun v3_0 v3_1 v3_2 v3_3 => impl_sum.l3 k v3_1 v3_2 (impl_sum.x3_0 K) k v3_0 v3_3) else
  none
noncomputable def impl_sum.body : Code := (Try.f105.body).getD .skip
noncomputable def impl_sum.b3 : Code := ((loopsOf impl_sum.body)[0]?).getD .skip
theorem impl_sum.fit3 {R : Type} (k : Nat) (K : X → St → Option R) (vs : List AV) (hs : List (Option Root)) (r : R) (h : impl_sum.tab k (V.keyOf impl_sum.b3) K vs hs = some r) : LoopFit (impl_sum.G k) impl_sum.live (impl_sum.tab k) impl_sum.b3 K vs hs r := by
  rw [show V.keyOf impl_sum.b3 = 3 by kernel_rfl] at h
  obtain ⟨⟨⟨⟨v3_0, _⟩, ⟨v3_1, _⟩, ⟨v3_2, _⟩, ⟨v3_3, _⟩, _⟩, _⟩, e, h⟩ := Hd.tell_some (show impl_sum.h3.tell vs hs (fun v3_0 v3_1 v3_2 v3_3 => impl_sum.l3 k v3_1 v3_2 (impl_sum.x3_0 K) k v3_0 v3_3) = some r from h)
  exact ⟨Int × Int, fun a => impl_sum.h3.enc (((a.1, ()), (v3_1, ()), (v3_2, ()), (a.2, ()), ()), ()), fun vs hs => impl_sum.h3.tell vs hs (fun v3_0 _ _ v3_3 => some (v3_0, v3_3)), fun rec a => impl_sum.s3 k v3_1 v3_2 (impl_sum.x3_0 K) (fun c0 c1 => rec (c0, c1)) a.1 a.2, k, (v3_0, v3_3), e, fun _ => rfl, fun Lp a => by kernel_rfl, h⟩
theorem impl_sum.ev (k : Nat) (a0 : List Int) : evFn (impl_sum.G k) impl_sum.live (impl_sum.tab k) impl_sum.sig Try.f105 (dvs impl_sum.pk (a0, ())) impl_sum.dec = impl_sum.f k a0 := by kernel_rfl
theorem impl_sum.con (k : Nat) (a0 : List Int) {r : Int} (h : impl_sum.f k a0 = some r) : Contract Try.prog 105 impl_sum.sig (dvs impl_sum.pk (a0, ())) (impl_sum.enc r) :=
  fn_contract (impl_sum.gok k) mixed Try.func105 (show _ = some impl_sum.body by kernel_rfl) (LoopsOK_of (show loopsOf impl_sum.body = [impl_sum.b3] by kernel_rfl) (all_cons (impl_sum.fit3 k) all_nil)) (show 17 = Try.f105.ntmps by kernel_rfl) (Nat.le_of_ble_eq_true (by kernel_rfl)) (by kernel_rfl) (fun _ h => impl_sum.dec_some h) ((impl_sum.ev k a0).trans h)
theorem impl_sum.ok {R : Type} (k : Nat) {ds : List DV} {K : List DV → Option R} {r : R} (h0 : impl_sum.phi k ds K = some r) : V.Enters Try.prog 105 ∧ ∃ rs, Contract Try.prog 105 impl_sum.sig ds rs ∧ K rs = some r := by
  obtain ⟨⟨a0, _⟩, rfl, h⟩ := tellD_some h0
  obtain ⟨x, h1, h2⟩ := Option.bind_eq_some_iff.1 (show ((impl_sum.f k a0).bind fun r => K (impl_sum.enc r)) = some r from h)
  exact ⟨⟨Try.f105, Try.func105, by kernel_rfl, by kernel_rfl⟩, impl_sum.enc x, impl_sum.con k a0 h1, h2⟩

def impl_IsRound.sig : Sig := ⟨[3, 24], [4], [.bor, .bor], .own⟩
def impl_IsRound.live : List (Nat × List Nat) := []
def impl_IsRound.pk : List DK := [.l .lent (.int .i64), .l .lent (.ints .i64)]
def impl_IsRound.rk : List DK := [.l .own .bool]
def impl_IsRound.enc (r : Bool) : List DV := dvs impl_IsRound.rk (r, ())
def impl_IsRound.dec (ds : List DV) : Option (Bool) := tellD impl_IsRound.rk ds (fun u0 => some u0)
theorem impl_IsRound.dec_some {ds : List DV} {r : Bool} (h0 : impl_IsRound.dec ds = some r) : ds = impl_IsRound.enc r := by
  obtain ⟨⟨u0, _⟩, rfl, h⟩ := tellD_some h0
  cases h
  rfl
def impl_IsRound.phi {R : Type} (k : Nat) (ds : List DV) (K : List DV → Option R) : Option R := tellD impl_IsRound.pk ds (fun a0 a1 => (impl_IsRound.f k a0 a1).bind fun r => K (impl_IsRound.enc r))
def impl_IsRound.G {R : Type} (k : Nat) : Glob R := mkG tt [(55, ⟨impl_InRange.sig, impl_InRange.phi k⟩), (104, ⟨impl_allIn.sig, impl_allIn.phi k⟩), (105, ⟨impl_sum.sig, impl_sum.phi k⟩)] 22
theorem impl_IsRound.gok {R : Type} (k : Nat) : GOK Try.prog (impl_IsRound.G (R := R) k) := GOK_of tok (all_cons (fun _ _ _ h => impl_InRange.ok k h) (all_cons (fun _ _ _ h => impl_allIn.ok k h) (all_cons (fun _ _ _ h => impl_sum.ok k h) all_nil)))
def impl_IsRound.tab {R : Type} (k : Nat) : LTab R := fun id K vs hs =>
  none
noncomputable def impl_IsRound.body : Code := (Try.f81.body).getD .skip
theorem impl_IsRound.ev (k : Nat) (a0 : Int) (a1 : List Int) : evFn (impl_IsRound.G k) impl_IsRound.live (impl_IsRound.tab k) impl_IsRound.sig Try.f81 (dvs impl_IsRound.pk (a0, a1, ())) impl_IsRound.dec = impl_IsRound.f k a0 a1 := by kernel_rfl
theorem impl_IsRound.con (k : Nat) (a0 : Int) (a1 : List Int) {r : Bool} (h : impl_IsRound.f k a0 a1 = some r) : Contract Try.prog 81 impl_IsRound.sig (dvs impl_IsRound.pk (a0, a1, ())) (impl_IsRound.enc r) :=
  fn_contract (impl_IsRound.gok k) mixed Try.func81 (show _ = some impl_IsRound.body by kernel_rfl) (LoopsOK_of (show loopsOf impl_IsRound.body = [] by kernel_rfl) all_nil) (show 22 = Try.f81.ntmps by kernel_rfl) (Nat.le_of_ble_eq_true (by kernel_rfl)) (by kernel_rfl) (fun _ h => impl_IsRound.dec_some h) ((impl_IsRound.ev k a0 a1).trans h)
theorem impl_IsRound.ok {R : Type} (k : Nat) {ds : List DV} {K : List DV → Option R} {r : R} (h0 : impl_IsRound.phi k ds K = some r) : V.Enters Try.prog 81 ∧ ∃ rs, Contract Try.prog 81 impl_IsRound.sig ds rs ∧ K rs = some r := by
  obtain ⟨⟨a0, a1, _⟩, rfl, h⟩ := tellD_some h0
  obtain ⟨x, h1, h2⟩ := Option.bind_eq_some_iff.1 (show ((impl_IsRound.f k a0 a1).bind fun r => K (impl_IsRound.enc r)) = some r from h)
  exact ⟨⟨Try.f81, Try.func81, by kernel_rfl, by kernel_rfl⟩, impl_IsRound.enc x, impl_IsRound.con k a0 a1 h1, h2⟩

def impl_IsSheet.sig : Sig := ⟨[3, 28], [4], [.bor, .bor], .own⟩
def impl_IsSheet.live : List (Nat × List Nat) := [(2, [0, 1, 7, 8, 9]), (100002, [0, 1, 4])]
def impl_IsSheet.pk : List DK := [.l .lent (.int .i64), .l .lent .rows]
def impl_IsSheet.rk : List DK := [.l .own .bool]
def impl_IsSheet.enc (r : Bool) : List DV := dvs impl_IsSheet.rk (r, ())
def impl_IsSheet.dec (ds : List DV) : Option (Bool) := tellD impl_IsSheet.rk ds (fun u0 => some u0)
theorem impl_IsSheet.dec_some {ds : List DV} {r : Bool} (h0 : impl_IsSheet.dec ds = some r) : ds = impl_IsSheet.enc r := by
  obtain ⟨⟨u0, _⟩, rfl, h⟩ := tellD_some h0
  cases h
  rfl
def impl_IsSheet.phi {R : Type} (k : Nat) (ds : List DV) (K : List DV → Option R) : Option R := tellD impl_IsSheet.pk ds (fun a0 a1 => (impl_IsSheet.f k a0 a1).bind fun r => K (impl_IsSheet.enc r))
def impl_IsSheet.G {R : Type} (k : Nat) : Glob R := mkG tt [(55, ⟨impl_InRange.sig, impl_InRange.phi k⟩), (81, ⟨impl_IsRound.sig, impl_IsRound.phi k⟩)] 25
theorem impl_IsSheet.gok {R : Type} (k : Nat) : GOK Try.prog (impl_IsSheet.G (R := R) k) := GOK_of tok (all_cons (fun _ _ _ h => impl_InRange.ok k h) (all_cons (fun _ _ _ h => impl_IsRound.ok k h) all_nil))
def impl_IsSheet.x2_0 {R : Type} (K : X → St → Option R) (v2_0 : Int) (v2_1 : List (List Int)) : Option R := K .ret (stOf [0, 1, 4] [.one (.l (.i .i64 v2_0)), .one (.l (.val false (.rows false v2_1))), .one (.l (.b false))] [])
def impl_IsSheet.x2_1 {R : Type} (K : X → St → Option R) (v2_0 : Int) (v2_1 : List (List Int)) : Option R := K (.exit 0) (stOf [0, 1, 4] [.one (.l (.i .i64 v2_0)), .one (.l (.val false (.rows false v2_1))), .one (.l (.any))] [])
def impl_IsSheet.h2 : Hd := ⟨[.l (.i .i64), .l (.val false false .rows), .l (.val false false .rows), .l (.i .i64), .l (.i .i64)], []⟩
def impl_IsSheet.tab {R : Type} (k : Nat) : LTab R := fun id K vs hs =>
  bif id == 2 then impl_IsSheet.h2.tell vs hs (fun v2_0 v2_1 v2_2 v2_3 v2_4 => impl_IsSheet.l2 k v2_0 v2_2 v2_3 (impl_IsSheet.x2_0 K v2_0 v2_1) (impl_IsSheet.x2_1 K v2_0 v2_1) k v2_4) else
  none
noncomputable def impl_IsSheet.body : Code := (Try.f62.body).getD .skip
noncomputable def impl_IsSheet.b2 : Code := ((loopsOf impl_IsSheet.body)[0]?).getD .skip
theorem impl_IsSheet.fit2 {R : Type} (k : Nat) (K : X → St → Option R) (vs : List AV) (hs : List (Option Root)) (r : R) (h : impl_IsSheet.tab k (V.keyOf impl_IsSheet.b2) K vs hs = some r) : LoopFit (impl_IsSheet.G k) impl_IsSheet.live (impl_IsSheet.tab k) impl_IsSheet.b2 K vs hs r := by
  rw [show V.keyOf impl_IsSheet.b2 = 2 by kernel_rfl] at h
  obtain ⟨⟨⟨⟨v2_0, _⟩, ⟨v2_1, _⟩, ⟨v2_2, _⟩, ⟨v2_3, _⟩, ⟨v2_4, _⟩, _⟩, _⟩, e, h⟩ := Hd.tell_some (show impl_IsSheet.h2.tell vs hs (fun v2_0 v2_1 v2_2 v2_3 v2_4 => impl_IsSheet.l2 k v2_0 v2_2 v2_3 (impl_IsSheet.x2_0 K v2_0 v2_1) (impl_IsSheet.x2_1 K v2_0 v2_1) k v2_4) = some r from h)
  exact ⟨Int, fun a => impl_IsSheet.h2.enc (((v2_0, ()), (v2_1, ()), (v2_2, ()), (v2_3, ()), (a, ()), ()), ()), fun vs hs => impl_IsSheet.h2.tell vs hs (fun _ _ _ _ v2_4 => some v2_4), fun rec a => impl_IsSheet.s2 k v2_0 v2_2 v2_3 (impl_IsSheet.x2_0 K v2_0 v2_1) (impl_IsSheet.x2_1 K v2_0 v2_1) (fun c0 => rec c0) a, k, v2_4, e, fun _ => rfl, fun Lp a => by kernel_rfl, h⟩
theorem impl_IsSheet.ev (k : Nat) (a0 : Int) (a1 : List (List Int)) : evFn (impl_IsSheet.G k) impl_IsSheet.live (impl_IsSheet.tab k) impl_IsSheet.sig Try.f62 (dvs impl_IsSheet.pk (a0, a1, ())) impl_IsSheet.dec = impl_IsSheet.f k a0 a1 := by kernel_rfl
theorem impl_IsSheet.con (k : Nat) (a0 : Int) (a1 : List (List Int)) {r : Bool} (h : impl_IsSheet.f k a0 a1 = some r) : Contract Try.prog 62 impl_IsSheet.sig (dvs impl_IsSheet.pk (a0, a1, ())) (impl_IsSheet.enc r) :=
  fn_contract (impl_IsSheet.gok k) mixed Try.func62 (show _ = some impl_IsSheet.body by kernel_rfl) (LoopsOK_of (show loopsOf impl_IsSheet.body = [impl_IsSheet.b2] by kernel_rfl) (all_cons (impl_IsSheet.fit2 k) all_nil)) (show 25 = Try.f62.ntmps by kernel_rfl) (Nat.le_of_ble_eq_true (by kernel_rfl)) (by kernel_rfl) (fun _ h => impl_IsSheet.dec_some h) ((impl_IsSheet.ev k a0 a1).trans h)
theorem impl_IsSheet.ok {R : Type} (k : Nat) {ds : List DV} {K : List DV → Option R} {r : R} (h0 : impl_IsSheet.phi k ds K = some r) : V.Enters Try.prog 62 ∧ ∃ rs, Contract Try.prog 62 impl_IsSheet.sig ds rs ∧ K rs = some r := by
  obtain ⟨⟨a0, a1, _⟩, rfl, h⟩ := tellD_some h0
  obtain ⟨x, h1, h2⟩ := Option.bind_eq_some_iff.1 (show ((impl_IsSheet.f k a0 a1).bind fun r => K (impl_IsSheet.enc r)) = some r from h)
  exact ⟨⟨Try.f62, Try.func62, by kernel_rfl, by kernel_rfl⟩, impl_IsSheet.enc x, impl_IsSheet.con k a0 a1 h1, h2⟩

def impl_WinsOf.sig : Sig := ⟨[3, 28, 3], [3], [.bor, .bor, .bor], .own⟩
def impl_WinsOf.live : List (Nat × List Nat) := [(5, [2, 7, 21, 22, 23]), (100005, [6, 7])]
def impl_WinsOf.pk : List DK := [.l .lent (.int .i64), .l .lent .rows, .l .lent (.int .i64)]
def impl_WinsOf.rk : List DK := [.l .own (.int .i64)]
def impl_WinsOf.enc (r : Int) : List DV := dvs impl_WinsOf.rk (r, ())
def impl_WinsOf.dec (ds : List DV) : Option (Int) := tellD impl_WinsOf.rk ds (fun u0 => some u0)
theorem impl_WinsOf.dec_some {ds : List DV} {r : Int} (h0 : impl_WinsOf.dec ds = some r) : ds = impl_WinsOf.enc r := by
  obtain ⟨⟨u0, _⟩, rfl, h⟩ := tellD_some h0
  cases h
  rfl
def impl_WinsOf.phi {R : Type} (k : Nat) (ds : List DV) (K : List DV → Option R) : Option R := tellD impl_WinsOf.pk ds (fun a0 a1 a2 => (impl_WinsOf.f k a0 a1 a2).bind fun r => K (impl_WinsOf.enc r))
def impl_WinsOf.G {R : Type} (k : Nat) : Glob R := mkG tt [(55, ⟨impl_InRange.sig, impl_InRange.phi k⟩), (62, ⟨impl_IsSheet.sig, impl_IsSheet.phi k⟩)] 36
theorem impl_WinsOf.gok {R : Type} (k : Nat) : GOK Try.prog (impl_WinsOf.G (R := R) k) := GOK_of tok (all_cons (fun _ _ _ h => impl_InRange.ok k h) (all_cons (fun _ _ _ h => impl_IsSheet.ok k h) all_nil))
def impl_WinsOf.x5_0 {R : Type} (K : X → St → Option R) (p0 : Int) : Option R := K (.exit 0) (stOf [6, 7] [.one (.l (.any)), .one (.l (.i .i64 p0))] [])
def impl_WinsOf.h5 : Hd := ⟨[.l (.i .i64), .l (.i .i64), .l (.val false false .rows), .l (.i .i64), .l (.i .i64)], []⟩
def impl_WinsOf.tab {R : Type} (k : Nat) : LTab R := fun id K vs hs =>
  bif id == 5 then impl_WinsOf.h5.tell vs hs (fun v5_0 v5_1 v5_2 v5_3 v5_4 => impl_WinsOf.l5 k v5_0 v5_2 v5_3 (impl_WinsOf.x5_0 K) k v5_1 v5_4) else
  none
noncomputable def impl_WinsOf.body : Code := (Try.f31.body).getD .skip
noncomputable def impl_WinsOf.b5 : Code := ((loopsOf impl_WinsOf.body)[0]?).getD .skip
theorem impl_WinsOf.fit5 {R : Type} (k : Nat) (K : X → St → Option R) (vs : List AV) (hs : List (Option Root)) (r : R) (h : impl_WinsOf.tab k (V.keyOf impl_WinsOf.b5) K vs hs = some r) : LoopFit (impl_WinsOf.G k) impl_WinsOf.live (impl_WinsOf.tab k) impl_WinsOf.b5 K vs hs r := by
  rw [show V.keyOf impl_WinsOf.b5 = 5 by kernel_rfl] at h
  obtain ⟨⟨⟨⟨v5_0, _⟩, ⟨v5_1, _⟩, ⟨v5_2, _⟩, ⟨v5_3, _⟩, ⟨v5_4, _⟩, _⟩, _⟩, e, h⟩ := Hd.tell_some (show impl_WinsOf.h5.tell vs hs (fun v5_0 v5_1 v5_2 v5_3 v5_4 => impl_WinsOf.l5 k v5_0 v5_2 v5_3 (impl_WinsOf.x5_0 K) k v5_1 v5_4) = some r from h)
  exact ⟨Int × Int, fun a => impl_WinsOf.h5.enc (((v5_0, ()), (a.1, ()), (v5_2, ()), (v5_3, ()), (a.2, ()), ()), ()), fun vs hs => impl_WinsOf.h5.tell vs hs (fun _ v5_1 _ _ v5_4 => some (v5_1, v5_4)), fun rec a => impl_WinsOf.s5 k v5_0 v5_2 v5_3 (impl_WinsOf.x5_0 K) (fun c0 c1 => rec (c0, c1)) a.1 a.2, k, (v5_1, v5_4), e, fun _ => rfl, fun Lp a => by kernel_rfl, h⟩
theorem impl_WinsOf.ev (k : Nat) (a0 : Int) (a1 : List (List Int)) (a2 : Int) : evFn (impl_WinsOf.G k) impl_WinsOf.live (impl_WinsOf.tab k) impl_WinsOf.sig Try.f31 (dvs impl_WinsOf.pk (a0, a1, a2, ())) impl_WinsOf.dec = impl_WinsOf.f k a0 a1 a2 := by kernel_rfl
theorem impl_WinsOf.con (k : Nat) (a0 : Int) (a1 : List (List Int)) (a2 : Int) {r : Int} (h : impl_WinsOf.f k a0 a1 a2 = some r) : Contract Try.prog 31 impl_WinsOf.sig (dvs impl_WinsOf.pk (a0, a1, a2, ())) (impl_WinsOf.enc r) :=
  fn_contract (impl_WinsOf.gok k) mixed Try.func31 (show _ = some impl_WinsOf.body by kernel_rfl) (LoopsOK_of (show loopsOf impl_WinsOf.body = [impl_WinsOf.b5] by kernel_rfl) (all_cons (impl_WinsOf.fit5 k) all_nil)) (show 36 = Try.f31.ntmps by kernel_rfl) (Nat.le_of_ble_eq_true (by kernel_rfl)) (by kernel_rfl) (fun _ h => impl_WinsOf.dec_some h) ((impl_WinsOf.ev k a0 a1 a2).trans h)
theorem impl_WinsOf.ok {R : Type} (k : Nat) {ds : List DV} {K : List DV → Option R} {r : R} (h0 : impl_WinsOf.phi k ds K = some r) : V.Enters Try.prog 31 ∧ ∃ rs, Contract Try.prog 31 impl_WinsOf.sig ds rs ∧ K rs = some r := by
  obtain ⟨⟨a0, a1, a2, _⟩, rfl, h⟩ := tellD_some h0
  obtain ⟨x, h1, h2⟩ := Option.bind_eq_some_iff.1 (show ((impl_WinsOf.f k a0 a1 a2).bind fun r => K (impl_WinsOf.enc r)) = some r from h)
  exact ⟨⟨Try.f31, Try.func31, by kernel_rfl, by kernel_rfl⟩, impl_WinsOf.enc x, impl_WinsOf.con k a0 a1 a2 h1, h2⟩

def laws_FnExactWinsOf.sig : Sig := ⟨[3, 28, 3], [4], [.bor, .bor, .bor], .own⟩
def laws_FnExactWinsOf.live : List (Nat × List Nat) := []
def laws_FnExactWinsOf.pk : List DK := [.l .lent (.int .i64), .l .lent .rows, .l .lent (.int .i64)]
def laws_FnExactWinsOf.rk : List DK := [.l .own .bool]
def laws_FnExactWinsOf.enc (r : Bool) : List DV := dvs laws_FnExactWinsOf.rk (r, ())
def laws_FnExactWinsOf.dec (ds : List DV) : Option (Bool) := tellD laws_FnExactWinsOf.rk ds (fun u0 => some u0)
theorem laws_FnExactWinsOf.dec_some {ds : List DV} {r : Bool} (h0 : laws_FnExactWinsOf.dec ds = some r) : ds = laws_FnExactWinsOf.enc r := by
  obtain ⟨⟨u0, _⟩, rfl, h⟩ := tellD_some h0
  cases h
  rfl
def laws_FnExactWinsOf.phi {R : Type} (k : Nat) (ds : List DV) (K : List DV → Option R) : Option R := tellD laws_FnExactWinsOf.pk ds (fun a0 a1 a2 => (laws_FnExactWinsOf.f k a0 a1 a2).bind fun r => K (laws_FnExactWinsOf.enc r))
def laws_FnExactWinsOf.G {R : Type} (k : Nat) : Glob R := mkG tt [(20, ⟨laws_szIntSS.sig, laws_szIntSS.phi k⟩), (22, ⟨laws_toIntSS.sig, laws_toIntSS.phi k⟩), (24, ⟨laws_eqIntSS.sig, laws_eqIntSS.phi k⟩), (30, ⟨spec_WinsOf.sig, spec_WinsOf.phi k⟩), (31, ⟨impl_WinsOf.sig, impl_WinsOf.phi k⟩)] 35
theorem laws_FnExactWinsOf.gok {R : Type} (k : Nat) : GOK Try.prog (laws_FnExactWinsOf.G (R := R) k) := GOK_of tok (all_cons (fun _ _ _ h => laws_szIntSS.ok k h) (all_cons (fun _ _ _ h => laws_toIntSS.ok k h) (all_cons (fun _ _ _ h => laws_eqIntSS.ok k h) (all_cons (fun _ _ _ h => spec_WinsOf.ok k h) (all_cons (fun _ _ _ h => impl_WinsOf.ok k h) all_nil)))))
def laws_FnExactWinsOf.tab {R : Type} (k : Nat) : LTab R := fun id K vs hs =>
  none
noncomputable def laws_FnExactWinsOf.body : Code := (Try.f7.body).getD .skip
theorem laws_FnExactWinsOf.ev (k : Nat) (a0 : Int) (a1 : List (List Int)) (a2 : Int) : evFn (laws_FnExactWinsOf.G k) laws_FnExactWinsOf.live (laws_FnExactWinsOf.tab k) laws_FnExactWinsOf.sig Try.f7 (dvs laws_FnExactWinsOf.pk (a0, a1, a2, ())) laws_FnExactWinsOf.dec = laws_FnExactWinsOf.f k a0 a1 a2 := by kernel_rfl
theorem laws_FnExactWinsOf.con (k : Nat) (a0 : Int) (a1 : List (List Int)) (a2 : Int) {r : Bool} (h : laws_FnExactWinsOf.f k a0 a1 a2 = some r) : Contract Try.prog 7 laws_FnExactWinsOf.sig (dvs laws_FnExactWinsOf.pk (a0, a1, a2, ())) (laws_FnExactWinsOf.enc r) :=
  fn_contract (laws_FnExactWinsOf.gok k) mixed Try.func7 (show _ = some laws_FnExactWinsOf.body by kernel_rfl) (LoopsOK_of (show loopsOf laws_FnExactWinsOf.body = [] by kernel_rfl) all_nil) (show 35 = Try.f7.ntmps by kernel_rfl) (Nat.le_of_ble_eq_true (by kernel_rfl)) (by kernel_rfl) (fun _ h => laws_FnExactWinsOf.dec_some h) ((laws_FnExactWinsOf.ev k a0 a1 a2).trans h)
theorem laws_FnExactWinsOf.ok {R : Type} (k : Nat) {ds : List DV} {K : List DV → Option R} {r : R} (h0 : laws_FnExactWinsOf.phi k ds K = some r) : V.Enters Try.prog 7 ∧ ∃ rs, Contract Try.prog 7 laws_FnExactWinsOf.sig ds rs ∧ K rs = some r := by
  obtain ⟨⟨a0, a1, a2, _⟩, rfl, h⟩ := tellD_some h0
  obtain ⟨x, h1, h2⟩ := Option.bind_eq_some_iff.1 (show ((laws_FnExactWinsOf.f k a0 a1 a2).bind fun r => K (laws_FnExactWinsOf.enc r)) = some r from h)
  exact ⟨⟨Try.f7, Try.func7, by kernel_rfl, by kernel_rfl⟩, laws_FnExactWinsOf.enc x, laws_FnExactWinsOf.con k a0 a1 a2 h1, h2⟩
end Go.Proofs.Ytfkejiljabmaaaa
