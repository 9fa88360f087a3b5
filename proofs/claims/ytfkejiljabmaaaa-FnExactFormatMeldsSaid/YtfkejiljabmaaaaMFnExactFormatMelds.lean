/- That the Go functions come to the answers of the plain ones. Printed by a program. -/
import Derived.Test.YtfkejiljabmaaaaT
import Derived.Test.YtfkejiljabmaaaaMFnExactWinsOf
import Derived.Test.YtfkejiljabmaaaaMFnExactAverageMoves
import Derived.Test.YtfkejiljabmaaaaFFnExactFormatMelds
import Derived.Test.YtfkejiljabmaaaaShelf
set_option linter.unusedVariables false
namespace Go.Proofs.Ytfkejiljabmaaaa
open Go Go.Proofs.Ytfkejiljabmaaaa.V Go.Proofs.Ytfkejiljabmaaaa.M

def spec_IsCard.sig : Sig := ⟨[3], [4], [.bor], .own⟩
def spec_IsCard.live : List (Nat × List Nat) := []
def spec_IsCard.pk : List DK := [.l .lent (.int .i64)]
def spec_IsCard.rk : List DK := [.l .own .bool]
def spec_IsCard.enc (r : Bool) : List DV := dvs spec_IsCard.rk (r, ())
def spec_IsCard.dec (ds : List DV) : Option (Bool) := tellD spec_IsCard.rk ds (fun u0 => some u0)
theorem spec_IsCard.dec_some {ds : List DV} {r : Bool} (h0 : spec_IsCard.dec ds = some r) : ds = spec_IsCard.enc r := by
  obtain ⟨⟨u0, _⟩, rfl, h⟩ := tellD_some h0
  cases h
  rfl
def spec_IsCard.phi {R : Type} (k : Nat) (ds : List DV) (K : List DV → Option R) : Option R := tellD spec_IsCard.pk ds (fun a0 => (spec_IsCard.f k a0).bind fun r => K (spec_IsCard.enc r))
def spec_IsCard.G {R : Type} (k : Nat) : Glob R := mkG tt [(54, ⟨spec_l1In.sig, spec_l1In.phi k⟩)] 5
theorem spec_IsCard.gok {R : Type} (k : Nat) : GOK Try.prog (spec_IsCard.G (R := R) k) := GOK_of tok (all_cons (fun _ _ _ h => spec_l1In.ok k h) all_nil)
def spec_IsCard.tab {R : Type} (k : Nat) : LTab R := fun id K vs hs =>
  none
noncomputable def spec_IsCard.body : Code := (Try.f92.body).getD .skip
theorem spec_IsCard.ev (k : Nat) (a0 : Int) : evFn (spec_IsCard.G k) spec_IsCard.live (spec_IsCard.tab k) spec_IsCard.sig Try.f92 (dvs spec_IsCard.pk (a0, ())) spec_IsCard.dec = spec_IsCard.f k a0 := by kernel_rfl
theorem spec_IsCard.con (k : Nat) (a0 : Int) {r : Bool} (h : spec_IsCard.f k a0 = some r) : Contract Try.prog 92 spec_IsCard.sig (dvs spec_IsCard.pk (a0, ())) (spec_IsCard.enc r) :=
  fn_contract (spec_IsCard.gok k) mixed Try.func92 (show _ = some spec_IsCard.body by kernel_rfl) (LoopsOK_of (show loopsOf spec_IsCard.body = [] by kernel_rfl) all_nil) (show 5 = Try.f92.ntmps by kernel_rfl) (Nat.le_of_ble_eq_true (by kernel_rfl)) (by kernel_rfl) (fun _ h => spec_IsCard.dec_some h) ((spec_IsCard.ev k a0).trans h)
theorem spec_IsCard.ok {R : Type} (k : Nat) {ds : List DV} {K : List DV → Option R} {r : R} (h0 : spec_IsCard.phi k ds K = some r) : V.Enters Try.prog 92 ∧ ∃ rs, Contract Try.prog 92 spec_IsCard.sig ds rs ∧ K rs = some r := by
  obtain ⟨⟨a0, _⟩, rfl, h⟩ := tellD_some h0
  obtain ⟨x, h1, h2⟩ := Option.bind_eq_some_iff.1 (show ((spec_IsCard.f k a0).bind fun r => K (spec_IsCard.enc r)) = some r from h)
  exact ⟨⟨Try.f92, Try.func92, by kernel_rfl, by kernel_rfl⟩, spec_IsCard.enc x, spec_IsCard.con k a0 h1, h2⟩

def spec_SuitOf.sig : Sig := ⟨[3], [3], [.bor], .own⟩
def spec_SuitOf.live : List (Nat × List Nat) := []
def spec_SuitOf.pk : List DK := [.l .lent (.int .i64)]
def spec_SuitOf.rk : List DK := [.l .own (.int .i64)]
def spec_SuitOf.enc (r : Int) : List DV := dvs spec_SuitOf.rk (r, ())
def spec_SuitOf.dec (ds : List DV) : Option (Int) := tellD spec_SuitOf.rk ds (fun u0 => some u0)
theorem spec_SuitOf.dec_some {ds : List DV} {r : Int} (h0 : spec_SuitOf.dec ds = some r) : ds = spec_SuitOf.enc r := by
  obtain ⟨⟨u0, _⟩, rfl, h⟩ := tellD_some h0
  cases h
  rfl
def spec_SuitOf.phi {R : Type} (k : Nat) (ds : List DV) (K : List DV → Option R) : Option R := tellD spec_SuitOf.pk ds (fun a0 => (spec_SuitOf.f k a0).bind fun r => K (spec_SuitOf.enc r))
def spec_SuitOf.G {R : Type} (k : Nat) : Glob R := mkG tt [(92, ⟨spec_IsCard.sig, spec_IsCard.phi k⟩)] 8
theorem spec_SuitOf.gok {R : Type} (k : Nat) : GOK Try.prog (spec_SuitOf.G (R := R) k) := GOK_of tok (all_cons (fun _ _ _ h => spec_IsCard.ok k h) all_nil)
def spec_SuitOf.tab {R : Type} (k : Nat) : LTab R := fun id K vs hs =>
  none
noncomputable def spec_SuitOf.body : Code := (Try.f86.body).getD .skip
theorem spec_SuitOf.ev (k : Nat) (a0 : Int) : evFn (spec_SuitOf.G k) spec_SuitOf.live (spec_SuitOf.tab k) spec_SuitOf.sig Try.f86 (dvs spec_SuitOf.pk (a0, ())) spec_SuitOf.dec = spec_SuitOf.f k a0 := by kernel_rfl
theorem spec_SuitOf.con (k : Nat) (a0 : Int) {r : Int} (h : spec_SuitOf.f k a0 = some r) : Contract Try.prog 86 spec_SuitOf.sig (dvs spec_SuitOf.pk (a0, ())) (spec_SuitOf.enc r) :=
  fn_contract (spec_SuitOf.gok k) mixed Try.func86 (show _ = some spec_SuitOf.body by kernel_rfl) (LoopsOK_of (show loopsOf spec_SuitOf.body = [] by kernel_rfl) all_nil) (show 8 = Try.f86.ntmps by kernel_rfl) (Nat.le_of_ble_eq_true (by kernel_rfl)) (by kernel_rfl) (fun _ h => spec_SuitOf.dec_some h) ((spec_SuitOf.ev k a0).trans h)
theorem spec_SuitOf.ok {R : Type} (k : Nat) {ds : List DV} {K : List DV → Option R} {r : R} (h0 : spec_SuitOf.phi k ds K = some r) : V.Enters Try.prog 86 ∧ ∃ rs, Contract Try.prog 86 spec_SuitOf.sig ds rs ∧ K rs = some r := by
  obtain ⟨⟨a0, _⟩, rfl, h⟩ := tellD_some h0
  obtain ⟨x, h1, h2⟩ := Option.bind_eq_some_iff.1 (show ((spec_SuitOf.f k a0).bind fun r => K (spec_SuitOf.enc r)) = some r from h)
  exact ⟨⟨Try.f86, Try.func86, by kernel_rfl, by kernel_rfl⟩, spec_SuitOf.enc x, spec_SuitOf.con k a0 h1, h2⟩

def spec_RankOf.sig : Sig := ⟨[3], [3], [.bor], .own⟩
def spec_RankOf.live : List (Nat × List Nat) := []
def spec_RankOf.pk : List DK := [.l .lent (.int .i64)]
def spec_RankOf.rk : List DK := [.l .own (.int .i64)]
def spec_RankOf.enc (r : Int) : List DV := dvs spec_RankOf.rk (r, ())
def spec_RankOf.dec (ds : List DV) : Option (Int) := tellD spec_RankOf.rk ds (fun u0 => some u0)
theorem spec_RankOf.dec_some {ds : List DV} {r : Int} (h0 : spec_RankOf.dec ds = some r) : ds = spec_RankOf.enc r := by
  obtain ⟨⟨u0, _⟩, rfl, h⟩ := tellD_some h0
  cases h
  rfl
def spec_RankOf.phi {R : Type} (k : Nat) (ds : List DV) (K : List DV → Option R) : Option R := tellD spec_RankOf.pk ds (fun a0 => (spec_RankOf.f k a0).bind fun r => K (spec_RankOf.enc r))
def spec_RankOf.G {R : Type} (k : Nat) : Glob R := mkG tt [(92, ⟨spec_IsCard.sig, spec_IsCard.phi k⟩)] 8
theorem spec_RankOf.gok {R : Type} (k : Nat) : GOK Try.prog (spec_RankOf.G (R := R) k) := GOK_of tok (all_cons (fun _ _ _ h => spec_IsCard.ok k h) all_nil)
def spec_RankOf.tab {R : Type} (k : Nat) : LTab R := fun id K vs hs =>
  none
noncomputable def spec_RankOf.body : Code := (Try.f111.body).getD .skip
theorem spec_RankOf.ev (k : Nat) (a0 : Int) : evFn (spec_RankOf.G k) spec_RankOf.live (spec_RankOf.tab k) spec_RankOf.sig Try.f111 (dvs spec_RankOf.pk (a0, ())) spec_RankOf.dec = spec_RankOf.f k a0 := by kernel_rfl
theorem spec_RankOf.con (k : Nat) (a0 : Int) {r : Int} (h : spec_RankOf.f k a0 = some r) : Contract Try.prog 111 spec_RankOf.sig (dvs spec_RankOf.pk (a0, ())) (spec_RankOf.enc r) :=
  fn_contract (spec_RankOf.gok k) mixed Try.func111 (show _ = some spec_RankOf.body by kernel_rfl) (LoopsOK_of (show loopsOf spec_RankOf.body = [] by kernel_rfl) all_nil) (show 8 = Try.f111.ntmps by kernel_rfl) (Nat.le_of_ble_eq_true (by kernel_rfl)) (by kernel_rfl) (fun _ h => spec_RankOf.dec_some h) ((spec_RankOf.ev k a0).trans h)
theorem spec_RankOf.ok {R : Type} (k : Nat) {ds : List DV} {K : List DV → Option R} {r : R} (h0 : spec_RankOf.phi k ds K = some r) : V.Enters Try.prog 111 ∧ ∃ rs, Contract Try.prog 111 spec_RankOf.sig ds rs ∧ K rs = some r := by
  obtain ⟨⟨a0, _⟩, rfl, h⟩ := tellD_some h0
  obtain ⟨x, h1, h2⟩ := Option.bind_eq_some_iff.1 (show ((spec_RankOf.f k a0).bind fun r => K (spec_RankOf.enc r)) = some r from h)
  exact ⟨⟨Try.f111, Try.func111, by kernel_rfl, by kernel_rfl⟩, spec_RankOf.enc x, spec_RankOf.con k a0 h1, h2⟩

def spec_CardText.sig : Sig := ⟨[3], [9], [.bor], .own⟩
def spec_CardText.live : List (Nat × List Nat) := []
def spec_CardText.pk : List DK := [.l .lent (.int .i64)]
def spec_CardText.rk : List DK := [.l .own .str]
def spec_CardText.enc (r : ByteArray) : List DV := dvs spec_CardText.rk (r, ())
def spec_CardText.dec (ds : List DV) : Option (ByteArray) := tellD spec_CardText.rk ds (fun u0 => some u0)
theorem spec_CardText.dec_some {ds : List DV} {r : ByteArray} (h0 : spec_CardText.dec ds = some r) : ds = spec_CardText.enc r := by
  obtain ⟨⟨u0, _⟩, rfl, h⟩ := tellD_some h0
  cases h
  rfl
def spec_CardText.phi {R : Type} (k : Nat) (ds : List DV) (K : List DV → Option R) : Option R := tellD spec_CardText.pk ds (fun a0 => (spec_CardText.f k a0).bind fun r => K (spec_CardText.enc r))
def spec_CardText.G {R : Type} (k : Nat) : Glob R := mkG tt [(86, ⟨spec_SuitOf.sig, spec_SuitOf.phi k⟩), (92, ⟨spec_IsCard.sig, spec_IsCard.phi k⟩), (111, ⟨spec_RankOf.sig, spec_RankOf.phi k⟩)] 21
theorem spec_CardText.gok {R : Type} (k : Nat) : GOK Try.prog (spec_CardText.G (R := R) k) := GOK_of tok (all_cons (fun _ _ _ h => spec_SuitOf.ok k h) (all_cons (fun _ _ _ h => spec_IsCard.ok k h) (all_cons (fun _ _ _ h => spec_RankOf.ok k h) all_nil)))
def spec_CardText.tab {R : Type} (k : Nat) : LTab R := fun id K vs hs =>
  none
noncomputable def spec_CardText.body : Code := (Try.f93.body).getD .skip
theorem spec_CardText.ev (k : Nat) (a0 : Int) : evFn (spec_CardText.G k) spec_CardText.live (spec_CardText.tab k) spec_CardText.sig Try.f93 (dvs spec_CardText.pk (a0, ())) spec_CardText.dec = spec_CardText.f k a0 := by kernel_rfl
theorem spec_CardText.con (k : Nat) (a0 : Int) {r : ByteArray} (h : spec_CardText.f k a0 = some r) : Contract Try.prog 93 spec_CardText.sig (dvs spec_CardText.pk (a0, ())) (spec_CardText.enc r) :=
  fn_contract (spec_CardText.gok k) mixed Try.func93 (show _ = some spec_CardText.body by kernel_rfl) (LoopsOK_of (show loopsOf spec_CardText.body = [] by kernel_rfl) all_nil) (show 21 = Try.f93.ntmps by kernel_rfl) (Nat.le_of_ble_eq_true (by kernel_rfl)) (by kernel_rfl) (fun _ h => spec_CardText.dec_some h) ((spec_CardText.ev k a0).trans h)
theorem spec_CardText.ok {R : Type} (k : Nat) {ds : List DV} {K : List DV → Option R} {r : R} (h0 : spec_CardText.phi k ds K = some r) : V.Enters Try.prog 93 ∧ ∃ rs, Contract Try.prog 93 spec_CardText.sig ds rs ∧ K rs = some r := by
  obtain ⟨⟨a0, _⟩, rfl, h⟩ := tellD_some h0
  obtain ⟨x, h1, h2⟩ := Option.bind_eq_some_iff.1 (show ((spec_CardText.f k a0).bind fun r => K (spec_CardText.enc r)) = some r from h)
  exact ⟨⟨Try.f93, Try.func93, by kernel_rfl, by kernel_rfl⟩, spec_CardText.enc x, spec_CardText.con k a0 h1, h2⟩

def spec_HandText.sig : Sig := ⟨[24], [9], [.bor], .own⟩
def spec_HandText.live : List (Nat × List Nat) := [(3, [0, 3, 4]), (100003, [0, 2, 3])]
def spec_HandText.pk : List DK := [.l .lent (.ints .i64)]
def spec_HandText.rk : List DK := [.l .own .str]
def spec_HandText.enc (r : ByteArray) : List DV := dvs spec_HandText.rk (r, ())
def spec_HandText.dec (ds : List DV) : Option (ByteArray) := tellD spec_HandText.rk ds (fun u0 => some u0)
theorem spec_HandText.dec_some {ds : List DV} {r : ByteArray} (h0 : spec_HandText.dec ds = some r) : ds = spec_HandText.enc r := by
  obtain ⟨⟨u0, _⟩, rfl, h⟩ := tellD_some h0
  cases h
  rfl
def spec_HandText.phi {R : Type} (k : Nat) (ds : List DV) (K : List DV → Option R) : Option R := tellD spec_HandText.pk ds (fun a0 => (spec_HandText.f k a0).bind fun r => K (spec_HandText.enc r))
def spec_HandText.G {R : Type} (k : Nat) : Glob R := mkG tt [(92, ⟨spec_IsCard.sig, spec_IsCard.phi k⟩), (93, ⟨spec_CardText.sig, spec_CardText.phi k⟩)] 30
theorem spec_HandText.gok {R : Type} (k : Nat) : GOK Try.prog (spec_HandText.G (R := R) k) := GOK_of tok (all_cons (fun _ _ _ h => spec_IsCard.ok k h) (all_cons (fun _ _ _ h => spec_CardText.ok k h) all_nil))
def spec_HandText.x3_0 {R : Type} (K : X → St → Option R) (v3_0 : List Int) (p0 : ByteArray) : Option R := K (.exit 0) (stOf [0, 2, 3] [.one (.l (.val false (.ints .i64 v3_0))), .one (.l (.any)), .one (.l (.s p0))] [])
def spec_HandText.h3 : Hd := ⟨[.l (.val false false (.ints .i64)), .l (.s), .l (.i .i64)], []⟩
def spec_HandText.tab {R : Type} (k : Nat) : LTab R := fun id K vs hs =>
  bif id == 3 then spec_HandText.h3.tell vs hs (fun v3_0 v3_1 v3_2 => spec_HandText.l3 k v3_0 (spec_HandText.x3_0 K v3_0) k v3_1 v3_2) else
  none
noncomputable def spec_HandText.body : Code := (Try.f65.body).getD .skip
noncomputable def spec_HandText.b3 : Code := ((loopsOf spec_HandText.body)[0]?).getD .skip
theorem spec_HandText.fit3 {R : Type} (k : Nat) (K : X → St → Option R) (vs : List AV) (hs : List (Option Root)) (r : R) (h : spec_HandText.tab k (V.keyOf spec_HandText.b3) K vs hs = some r) : LoopFit (spec_HandText.G k) spec_HandText.live (spec_HandText.tab k) spec_HandText.b3 K vs hs r := by
  rw [show V.keyOf spec_HandText.b3 = 3 by kernel_rfl] at h
  obtain ⟨⟨⟨⟨v3_0, _⟩, ⟨v3_1, _⟩, ⟨v3_2, _⟩, _⟩, _⟩, e, h⟩ := Hd.tell_some (show spec_HandText.h3.tell vs hs (fun v3_0 v3_1 v3_2 => spec_HandText.l3 k v3_0 (spec_HandText.x3_0 K v3_0) k v3_1 v3_2) = some r from h)
  exact ⟨ByteArray × Int, fun a => spec_HandText.h3.enc (((v3_0, ()), (a.1, ()), (a.2, ()), ()), ()), fun vs hs => spec_HandText.h3.tell vs hs (fun _ v3_1 v3_2 => some (v3_1, v3_2)), fun rec a => spec_HandText.s3 k v3_0 (spec_HandText.x3_0 K v3_0) (fun c0 c1 => rec (c0, c1)) a.1 a.2, k, (v3_1, v3_2), e, fun _ => rfl, fun Lp a => by kernel_rfl, h⟩
theorem spec_HandText.ev (k : Nat) (a0 : List Int) : evFn (spec_HandText.G k) spec_HandText.live (spec_HandText.tab k) spec_HandText.sig Try.f65 (dvs spec_HandText.pk (a0, ())) spec_HandText.dec = spec_HandText.f k a0 := by kernel_rfl
theorem spec_HandText.con (k : Nat) (a0 : List Int) {r : ByteArray} (h : spec_HandText.f k a0 = some r) : Contract Try.prog 65 spec_HandText.sig (dvs spec_HandText.pk (a0, ())) (spec_HandText.enc r) :=
  fn_contract (spec_HandText.gok k) mixed Try.func65 (show _ = some spec_HandText.body by kernel_rfl) (LoopsOK_of (show loopsOf spec_HandText.body = [spec_HandText.b3] by kernel_rfl) (all_cons (spec_HandText.fit3 k) all_nil)) (show 30 = Try.f65.ntmps by kernel_rfl) (Nat.le_of_ble_eq_true (by kernel_rfl)) (by kernel_rfl) (fun _ h => spec_HandText.dec_some h) ((spec_HandText.ev k a0).trans h)
theorem spec_HandText.ok {R : Type} (k : Nat) {ds : List DV} {K : List DV → Option R} {r : R} (h0 : spec_HandText.phi k ds K = some r) : V.Enters Try.prog 65 ∧ ∃ rs, Contract Try.prog 65 spec_HandText.sig ds rs ∧ K rs = some r := by
  obtain ⟨⟨a0, _⟩, rfl, h⟩ := tellD_some h0
  obtain ⟨x, h1, h2⟩ := Option.bind_eq_some_iff.1 (show ((spec_HandText.f k a0).bind fun r => K (spec_HandText.enc r)) = some r from h)
  exact ⟨⟨Try.f65, Try.func65, by kernel_rfl, by kernel_rfl⟩, spec_HandText.enc x, spec_HandText.con k a0 h1, h2⟩

def spec_l39Join.sig : Sig := ⟨[72, 9], [9], [.bor, .bor], .own⟩
def spec_l39Join.live : List (Nat × List Nat) := [(3, [0, 1, 5, 6]), (100003, [0, 4, 5])]
def spec_l39Join.pk : List DK := [.l .lent .strs, .l .lent .str]
def spec_l39Join.rk : List DK := [.l .own .str]
def spec_l39Join.enc (r : ByteArray) : List DV := dvs spec_l39Join.rk (r, ())
def spec_l39Join.dec (ds : List DV) : Option (ByteArray) := tellD spec_l39Join.rk ds (fun u0 => some u0)
theorem spec_l39Join.dec_some {ds : List DV} {r : ByteArray} (h0 : spec_l39Join.dec ds = some r) : ds = spec_l39Join.enc r := by
  obtain ⟨⟨u0, _⟩, rfl, h⟩ := tellD_some h0
  cases h
  rfl
def spec_l39Join.phi {R : Type} (k : Nat) (ds : List DV) (K : List DV → Option R) : Option R := tellD spec_l39Join.pk ds (fun a0 a1 => (spec_l39Join.f k a0 a1).bind fun r => K (spec_l39Join.enc r))
def spec_l39Join.G {R : Type} (k : Nat) : Glob R := mkG tt [] 28
theorem spec_l39Join.gok {R : Type} (k : Nat) : GOK Try.prog (spec_l39Join.G (R := R) k) := GOK_of tok all_nil
def spec_l39Join.x3_0 {R : Type} (K : X → St → Option R) (v3_0 : List ByteArray) (p0 : ByteArray) : Option R := K (.exit 0) (stOf [0, 4, 5] [.one (.l (.val false (.strs v3_0))), .one (.l (.any)), .one (.l (.s p0))] [])
def spec_l39Join.h3 : Hd := ⟨[.l (.val false false .strs), .l (.s), .l (.s), .l (.i .i64)], []⟩
def spec_l39Join.tab {R : Type} (k : Nat) : LTab R := fun id K vs hs =>
  bif id == 3 then spec_l39Join.h3.tell vs hs (fun v3_0 v3_1 v3_2 v3_3 => spec_l39Join.l3 k v3_0 v3_1 (spec_l39Join.x3_0 K v3_0) k v3_2 v3_3) else
  none
noncomputable def spec_l39Join.body : Code := (Try.f66.body).getD .skip
noncomputable def spec_l39Join.b3 : Code := ((loopsOf spec_l39Join.body)[0]?).getD .skip
theorem spec_l39Join.fit3 {R : Type} (k : Nat) (K : X → St → Option R) (vs : List AV) (hs : List (Option Root)) (r : R) (h : spec_l39Join.tab k (V.keyOf spec_l39Join.b3) K vs hs = some r) : LoopFit (spec_l39Join.G k) spec_l39Join.live (spec_l39Join.tab k) spec_l39Join.b3 K vs hs r := by
  rw [show V.keyOf spec_l39Join.b3 = 3 by kernel_rfl] at h
  obtain ⟨⟨⟨⟨v3_0, _⟩, ⟨v3_1, _⟩, ⟨v3_2, _⟩, ⟨v3_3, _⟩, _⟩, _⟩, e, h⟩ := Hd.tell_some (show spec_l39Join.h3.tell vs hs (fun v3_0 v3_1 v3_2 v3_3 => spec_l39Join.l3 k v3_0 v3_1 (spec_l39Join.x3_0 K v3_0) k v3_2 v3_3) = some r from h)
  exact ⟨ByteArray × Int, fun a => spec_l39Join.h3.enc (((v3_0, ()), (v3_1, ()), (a.1, ()), (a.2, ()), ()), ()), fun vs hs => spec_l39Join.h3.tell vs hs (fun _ _ v3_2 v3_3 => some (v3_2, v3_3)), fun rec a => spec_l39Join.s3 k v3_0 v3_1 (spec_l39Join.x3_0 K v3_0) (fun c0 c1 => rec (c0, c1)) a.1 a.2, k, (v3_2, v3_3), e, fun _ => rfl, fun Lp a => by kernel_rfl, h⟩
theorem spec_l39Join.ev (k : Nat) (a0 : List ByteArray) (a1 : ByteArray) : evFn (spec_l39Join.G k) spec_l39Join.live (spec_l39Join.tab k) spec_l39Join.sig Try.f66 (dvs spec_l39Join.pk (a0, a1, ())) spec_l39Join.dec = spec_l39Join.f k a0 a1 := by kernel_rfl
theorem spec_l39Join.con (k : Nat) (a0 : List ByteArray) (a1 : ByteArray) {r : ByteArray} (h : spec_l39Join.f k a0 a1 = some r) : Contract Try.prog 66 spec_l39Join.sig (dvs spec_l39Join.pk (a0, a1, ())) (spec_l39Join.enc r) :=
  fn_contract (spec_l39Join.gok k) mixed Try.func66 (show _ = some spec_l39Join.body by kernel_rfl) (LoopsOK_of (show loopsOf spec_l39Join.body = [spec_l39Join.b3] by kernel_rfl) (all_cons (spec_l39Join.fit3 k) all_nil)) (show 28 = Try.f66.ntmps by kernel_rfl) (Nat.le_of_ble_eq_true (by kernel_rfl)) (by kernel_rfl) (fun _ h => spec_l39Join.dec_some h) ((spec_l39Join.ev k a0 a1).trans h)
theorem spec_l39Join.ok {R : Type} (k : Nat) {ds : List DV} {K : List DV → Option R} {r : R} (h0 : spec_l39Join.phi k ds K = some r) : V.Enters Try.prog 66 ∧ ∃ rs, Contract Try.prog 66 spec_l39Join.sig ds rs ∧ K rs = some r := by
  obtain ⟨⟨a0, a1, _⟩, rfl, h⟩ := tellD_some h0
  obtain ⟨x, h1, h2⟩ := Option.bind_eq_some_iff.1 (show ((spec_l39Join.f k a0 a1).bind fun r => K (spec_l39Join.enc r)) = some r from h)
  exact ⟨⟨Try.f66, Try.func66, by kernel_rfl, by kernel_rfl⟩, spec_l39Join.enc x, spec_l39Join.con k a0 a1 h1, h2⟩

def spec_FormatMelds.sig : Sig := ⟨[28], [9], [.bor], .own⟩
def spec_FormatMelds.live : List (Nat × List Nat) := [(3, [0, 3, 4]), (100003, [2, 3])]
def spec_FormatMelds.pk : List DK := [.l .lent .rows]
def spec_FormatMelds.rk : List DK := [.l .own .str]
def spec_FormatMelds.enc (r : ByteArray) : List DV := dvs spec_FormatMelds.rk (r, ())
def spec_FormatMelds.dec (ds : List DV) : Option (ByteArray) := tellD spec_FormatMelds.rk ds (fun u0 => some u0)
theorem spec_FormatMelds.dec_some {ds : List DV} {r : ByteArray} (h0 : spec_FormatMelds.dec ds = some r) : ds = spec_FormatMelds.enc r := by
  obtain ⟨⟨u0, _⟩, rfl, h⟩ := tellD_some h0
  cases h
  rfl
def spec_FormatMelds.phi {R : Type} (k : Nat) (ds : List DV) (K : List DV → Option R) : Option R := tellD spec_FormatMelds.pk ds (fun a0 => (spec_FormatMelds.f k a0).bind fun r => K (spec_FormatMelds.enc r))
def spec_FormatMelds.G {R : Type} (k : Nat) : Glob R := mkG tt [(65, ⟨spec_HandText.sig, spec_HandText.phi k⟩), (66, ⟨spec_l39Join.sig, spec_l39Join.phi k⟩)] 22
theorem spec_FormatMelds.gok {R : Type} (k : Nat) : GOK Try.prog (spec_FormatMelds.G (R := R) k) := GOK_of tok (all_cons (fun _ _ _ h => spec_HandText.ok k h) (all_cons (fun _ _ _ h => spec_l39Join.ok k h) all_nil))
def spec_FormatMelds.x3_0 {R : Type} (K : X → St → Option R) (p0 : List ByteArray) : Option R := K (.exit 0) (stOf [2, 3] [.one (.l (.any)), .one (.l (.own 0))] [some (.row 0 0 (.strs p0))])
def spec_FormatMelds.h3 : Hd := ⟨[.l (.val false false .rows), .l (.own 0), .l (.i .i64)], [.row false .strs]⟩
def spec_FormatMelds.tab {R : Type} (k : Nat) : LTab R := fun id K vs hs =>
  bif id == 3 then spec_FormatMelds.h3.tell vs hs (fun v3_0 v3_1 v3_2 => spec_FormatMelds.l3 k v3_0 (spec_FormatMelds.x3_0 K) k v3_1 v3_2) else
  none
noncomputable def spec_FormatMelds.body : Code := (Try.f34.body).getD .skip
noncomputable def spec_FormatMelds.b3 : Code := ((loopsOf spec_FormatMelds.body)[0]?).getD .skip
theorem spec_FormatMelds.fit3 {R : Type} (k : Nat) (K : X → St → Option R) (vs : List AV) (hs : List (Option Root)) (r : R) (h : spec_FormatMelds.tab k (V.keyOf spec_FormatMelds.b3) K vs hs = some r) : LoopFit (spec_FormatMelds.G k) spec_FormatMelds.live (spec_FormatMelds.tab k) spec_FormatMelds.b3 K vs hs r := by
  rw [show V.keyOf spec_FormatMelds.b3 = 3 by kernel_rfl] at h
  obtain ⟨⟨⟨⟨v3_0, _⟩, ⟨_, _⟩, ⟨v3_1, _⟩, _⟩, ⟨v3_2, _⟩⟩, e, h⟩ := Hd.tell_some (show spec_FormatMelds.h3.tell vs hs (fun v3_0 v3_1 v3_2 => spec_FormatMelds.l3 k v3_0 (spec_FormatMelds.x3_0 K) k v3_1 v3_2) = some r from h)
  exact ⟨Int × List ByteArray, fun a => spec_FormatMelds.h3.enc (((v3_0, ()), ((), ()), (a.1, ()), ()), (a.2, ())), fun vs hs => spec_FormatMelds.h3.tell vs hs (fun _ v3_1 v3_2 => some (v3_1, v3_2)), fun rec a => spec_FormatMelds.s3 k v3_0 (spec_FormatMelds.x3_0 K) (fun c0 c1 => rec (c0, c1)) a.1 a.2, k, (v3_1, v3_2), e, fun _ => rfl, fun Lp a => by kernel_rfl, h⟩
theorem spec_FormatMelds.ev (k : Nat) (a0 : List (List Int)) : evFn (spec_FormatMelds.G k) spec_FormatMelds.live (spec_FormatMelds.tab k) spec_FormatMelds.sig Try.f34 (dvs spec_FormatMelds.pk (a0, ())) spec_FormatMelds.dec = spec_FormatMelds.f k a0 := by kernel_rfl
theorem spec_FormatMelds.con (k : Nat) (a0 : List (List Int)) {r : ByteArray} (h : spec_FormatMelds.f k a0 = some r) : Contract Try.prog 34 spec_FormatMelds.sig (dvs spec_FormatMelds.pk (a0, ())) (spec_FormatMelds.enc r) :=
  fn_contract (spec_FormatMelds.gok k) mixed Try.func34 (show _ = some spec_FormatMelds.body by kernel_rfl) (LoopsOK_of (show loopsOf spec_FormatMelds.body = [spec_FormatMelds.b3] by kernel_rfl) (all_cons (spec_FormatMelds.fit3 k) all_nil)) (show 22 = Try.f34.ntmps by kernel_rfl) (Nat.le_of_ble_eq_true (by kernel_rfl)) (by kernel_rfl) (fun _ h => spec_FormatMelds.dec_some h) ((spec_FormatMelds.ev k a0).trans h)
theorem spec_FormatMelds.ok {R : Type} (k : Nat) {ds : List DV} {K : List DV → Option R} {r : R} (h0 : spec_FormatMelds.phi k ds K = some r) : V.Enters Try.prog 34 ∧ ∃ rs, Contract Try.prog 34 spec_FormatMelds.sig ds rs ∧ K rs = some r := by
  obtain ⟨⟨a0, _⟩, rfl, h⟩ := tellD_some h0
  obtain ⟨x, h1, h2⟩ := Option.bind_eq_some_iff.1 (show ((spec_FormatMelds.f k a0).bind fun r => K (spec_FormatMelds.enc r)) = some r from h)
  exact ⟨⟨Try.f34, Try.func34, by kernel_rfl, by kernel_rfl⟩, spec_FormatMelds.enc x, spec_FormatMelds.con k a0 h1, h2⟩

def impl_IsCard.sig : Sig := ⟨[3], [4], [.bor], .own⟩
def impl_IsCard.live : List (Nat × List Nat) := []
def impl_IsCard.pk : List DK := [.l .lent (.int .i64)]
def impl_IsCard.rk : List DK := [.l .own .bool]
def impl_IsCard.enc (r : Bool) : List DV := dvs impl_IsCard.rk (r, ())
def impl_IsCard.dec (ds : List DV) : Option (Bool) := tellD impl_IsCard.rk ds (fun u0 => some u0)
theorem impl_IsCard.dec_some {ds : List DV} {r : Bool} (h0 : impl_IsCard.dec ds = some r) : ds = impl_IsCard.enc r := by
  obtain ⟨⟨u0, _⟩, rfl, h⟩ := tellD_some h0
  cases h
  rfl
def impl_IsCard.phi {R : Type} (k : Nat) (ds : List DV) (K : List DV → Option R) : Option R := tellD impl_IsCard.pk ds (fun a0 => (impl_IsCard.f k a0).bind fun r => K (impl_IsCard.enc r))
def impl_IsCard.G {R : Type} (k : Nat) : Glob R := mkG tt [(55, ⟨impl_InRange.sig, impl_InRange.phi k⟩)] 5
theorem impl_IsCard.gok {R : Type} (k : Nat) : GOK Try.prog (impl_IsCard.G (R := R) k) := GOK_of tok (all_cons (fun _ _ _ h => impl_InRange.ok k h) all_nil)
def impl_IsCard.tab {R : Type} (k : Nat) : LTab R := fun id K vs hs =>
  none
noncomputable def impl_IsCard.body : Code := (Try.f108.body).getD .skip
theorem impl_IsCard.ev (k : Nat) (a0 : Int) : evFn (impl_IsCard.G k) impl_IsCard.live (impl_IsCard.tab k) impl_IsCard.sig Try.f108 (dvs impl_IsCard.pk (a0, ())) impl_IsCard.dec = impl_IsCard.f k a0 := by kernel_rfl
theorem impl_IsCard.con (k : Nat) (a0 : Int) {r : Bool} (h : impl_IsCard.f k a0 = some r) : Contract Try.prog 108 impl_IsCard.sig (dvs impl_IsCard.pk (a0, ())) (impl_IsCard.enc r) :=
  fn_contract (impl_IsCard.gok k) mixed Try.func108 (show _ = some impl_IsCard.body by kernel_rfl) (LoopsOK_of (show loopsOf impl_IsCard.body = [] by kernel_rfl) all_nil) (show 5 = Try.f108.ntmps by kernel_rfl) (Nat.le_of_ble_eq_true (by kernel_rfl)) (by kernel_rfl) (fun _ h => impl_IsCard.dec_some h) ((impl_IsCard.ev k a0).trans h)
theorem impl_IsCard.ok {R : Type} (k : Nat) {ds : List DV} {K : List DV → Option R} {r : R} (h0 : impl_IsCard.phi k ds K = some r) : V.Enters Try.prog 108 ∧ ∃ rs, Contract Try.prog 108 impl_IsCard.sig ds rs ∧ K rs = some r := by
  obtain ⟨⟨a0, _⟩, rfl, h⟩ := tellD_some h0
  obtain ⟨x, h1, h2⟩ := Option.bind_eq_some_iff.1 (show ((impl_IsCard.f k a0).bind fun r => K (impl_IsCard.enc r)) = some r from h)
  exact ⟨⟨Try.f108, Try.func108, by kernel_rfl, by kernel_rfl⟩, impl_IsCard.enc x, impl_IsCard.con k a0 h1, h2⟩

def impl_CardText.sig : Sig := ⟨[3], [9], [.bor], .own⟩
def impl_CardText.live : List (Nat × List Nat) := []
def impl_CardText.pk : List DK := [.l .lent (.int .i64)]
def impl_CardText.rk : List DK := [.l .own .str]
def impl_CardText.enc (r : ByteArray) : List DV := dvs impl_CardText.rk (r, ())
def impl_CardText.dec (ds : List DV) : Option (ByteArray) := tellD impl_CardText.rk ds (fun u0 => some u0)
theorem impl_CardText.dec_some {ds : List DV} {r : ByteArray} (h0 : impl_CardText.dec ds = some r) : ds = impl_CardText.enc r := by
  obtain ⟨⟨u0, _⟩, rfl, h⟩ := tellD_some h0
  cases h
  rfl
def impl_CardText.phi {R : Type} (k : Nat) (ds : List DV) (K : List DV → Option R) : Option R := tellD impl_CardText.pk ds (fun a0 => (impl_CardText.f k a0).bind fun r => K (impl_CardText.enc r))
def impl_CardText.G {R : Type} (k : Nat) : Glob R := mkG tt [(108, ⟨impl_IsCard.sig, impl_IsCard.phi k⟩)] 19
theorem impl_CardText.gok {R : Type} (k : Nat) : GOK Try.prog (impl_CardText.G (R := R) k) := GOK_of tok (all_cons (fun _ _ _ h => impl_IsCard.ok k h) all_nil)
def impl_CardText.tab {R : Type} (k : Nat) : LTab R := fun id K vs hs =>
  none
noncomputable def impl_CardText.body : Code := (Try.f112.body).getD .skip
theorem impl_CardText.ev (k : Nat) (a0 : Int) : evFn (impl_CardText.G k) impl_CardText.live (impl_CardText.tab k) impl_CardText.sig Try.f112 (dvs impl_CardText.pk (a0, ())) impl_CardText.dec = impl_CardText.f k a0 := by kernel_rfl
theorem impl_CardText.con (k : Nat) (a0 : Int) {r : ByteArray} (h : impl_CardText.f k a0 = some r) : Contract Try.prog 112 impl_CardText.sig (dvs impl_CardText.pk (a0, ())) (impl_CardText.enc r) :=
  fn_contract (impl_CardText.gok k) mixed Try.func112 (show _ = some impl_CardText.body by kernel_rfl) (LoopsOK_of (show loopsOf impl_CardText.body = [] by kernel_rfl) all_nil) (show 19 = Try.f112.ntmps by kernel_rfl) (Nat.le_of_ble_eq_true (by kernel_rfl)) (by kernel_rfl) (fun _ h => impl_CardText.dec_some h) ((impl_CardText.ev k a0).trans h)
theorem impl_CardText.ok {R : Type} (k : Nat) {ds : List DV} {K : List DV → Option R} {r : R} (h0 : impl_CardText.phi k ds K = some r) : V.Enters Try.prog 112 ∧ ∃ rs, Contract Try.prog 112 impl_CardText.sig ds rs ∧ K rs = some r := by
  obtain ⟨⟨a0, _⟩, rfl, h⟩ := tellD_some h0
  obtain ⟨x, h1, h2⟩ := Option.bind_eq_some_iff.1 (show ((impl_CardText.f k a0).bind fun r => K (impl_CardText.enc r)) = some r from h)
  exact ⟨⟨Try.f112, Try.func112, by kernel_rfl, by kernel_rfl⟩, impl_CardText.enc x, impl_CardText.con k a0 h1, h2⟩

def impl_listText.sig : Sig := ⟨[24, 3, 9], [9], [.bor, .bor, .bor], .own⟩
def impl_listText.live : List (Nat × List Nat) := [(5, [1, 2, 7, 13, 14, 15]), (100005, [6, 7])]
def impl_listText.pk : List DK := [.l .lent (.ints .i64), .l .lent (.int .i64), .l .lent .str]
def impl_listText.rk : List DK := [.l .own .str]
def impl_listText.enc (r : ByteArray) : List DV := dvs impl_listText.rk (r, ())
def impl_listText.dec (ds : List DV) : Option (ByteArray) := tellD impl_listText.rk ds (fun u0 => some u0)
theorem impl_listText.dec_some {ds : List DV} {r : ByteArray} (h0 : impl_listText.dec ds = some r) : ds = impl_listText.enc r := by
  obtain ⟨⟨u0, _⟩, rfl, h⟩ := tellD_some h0
  cases h
  rfl
def impl_listText.phi {R : Type} (k : Nat) (ds : List DV) (K : List DV → Option R) : Option R := tellD impl_listText.pk ds (fun a0 a1 a2 => (impl_listText.f k a0 a1 a2).bind fun r => K (impl_listText.enc r))
def impl_listText.G {R : Type} (k : Nat) : Glob R := mkG tt [(108, ⟨impl_IsCard.sig, impl_IsCard.phi k⟩), (112, ⟨impl_CardText.sig, impl_CardText.phi k⟩)] 37
theorem impl_listText.gok {R : Type} (k : Nat) : GOK Try.prog (impl_listText.G (R := R) k) := GOK_of tok (all_cons (fun _ _ _ h => impl_IsCard.ok k h) (all_cons (fun _ _ _ h => impl_CardText.ok k h) all_nil))
def impl_listText.x5_0 {R : Type} (K : X → St → Option R) (p0 : ByteArray) : Option R := K (.exit 0) (stOf [6, 7] [.one (.l (.any)), .one (.l (.s p0))] [])
def impl_listText.h5 : Hd := ⟨[.l (.i .i64), .l (.s), .l (.s), .l (.val false false (.ints .i64)), .l (.i .i64), .l (.i .i64)], []⟩
def impl_listText.tab {R : Type} (k : Nat) : LTab R := fun id K vs hs =>
  bif id == 5 then impl_listText.h5.tell vs hs (fun v5_0 v5_1 v5_2 v5_3 v5_4 v5_5 => impl_listText.l5 k v5_0 v5_1 v5_3 v5_4 (impl_listText.x5_0 K) k v5_2 v5_5) else
  none
noncomputable def impl_listText.body : Code := (Try.f94.body).getD .skip
noncomputable def impl_listText.b5 : Code := ((loopsOf impl_listText.body)[0]?).getD .skip
theorem impl_listText.fit5 {R : Type} (k : Nat) (K : X → St → Option R) (vs : List AV) (hs : List (Option Root)) (r : R) (h : impl_listText.tab k (V.keyOf impl_listText.b5) K vs hs = some r) : LoopFit (impl_listText.G k) impl_listText.live (impl_listText.tab k) impl_listText.b5 K vs hs r := by
  rw [show V.keyOf impl_listText.b5 = 5 by kernel_rfl] at h
  obtain ⟨⟨⟨⟨v5_0, _⟩, ⟨v5_1, _⟩, ⟨v5_2, _⟩, ⟨v5_3, _⟩, ⟨v5_4, _⟩, ⟨v5_5, _⟩, _⟩, _⟩, e, h⟩ := Hd.tell_some (show impl_listText.h5.tell vs hs (fun v5_0 v5_1 v5_2 v5_3 v5_4 v5_5 => impl_listText.l5 k v5_0 v5_1 v5_3 v5_4 (impl_listText.x5_0 K) k v5_2 v5_5) = some r from h)
  exact ⟨ByteArray × Int, fun a => impl_listText.h5.enc (((v5_0, ()), (v5_1, ()), (a.1, ()), (v5_3, ()), (v5_4, ()), (a.2, ()), ()), ()), fun vs hs => impl_listText.h5.tell vs hs (fun _ _ v5_2 _ _ v5_5 => some (v5_2, v5_5)), fun rec a => impl_listText.s5 k v5_0 v5_1 v5_3 v5_4 (impl_listText.x5_0 K) (fun c0 c1 => rec (c0, c1)) a.1 a.2, k, (v5_2, v5_5), e, fun _ => rfl, fun Lp a => by kernel_rfl, h⟩
theorem impl_listText.ev (k : Nat) (a0 : List Int) (a1 : Int) (a2 : ByteArray) : evFn (impl_listText.G k) impl_listText.live (impl_listText.tab k) impl_listText.sig Try.f94 (dvs impl_listText.pk (a0, a1, a2, ())) impl_listText.dec = impl_listText.f k a0 a1 a2 := by kernel_rfl
theorem impl_listText.con (k : Nat) (a0 : List Int) (a1 : Int) (a2 : ByteArray) {r : ByteArray} (h : impl_listText.f k a0 a1 a2 = some r) : Contract Try.prog 94 impl_listText.sig (dvs impl_listText.pk (a0, a1, a2, ())) (impl_listText.enc r) :=
  fn_contract (impl_listText.gok k) mixed Try.func94 (show _ = some impl_listText.body by kernel_rfl) (LoopsOK_of (show loopsOf impl_listText.body = [impl_listText.b5] by kernel_rfl) (all_cons (impl_listText.fit5 k) all_nil)) (show 37 = Try.f94.ntmps by kernel_rfl) (Nat.le_of_ble_eq_true (by kernel_rfl)) (by kernel_rfl) (fun _ h => impl_listText.dec_some h) ((impl_listText.ev k a0 a1 a2).trans h)
theorem impl_listText.ok {R : Type} (k : Nat) {ds : List DV} {K : List DV → Option R} {r : R} (h0 : impl_listText.phi k ds K = some r) : V.Enters Try.prog 94 ∧ ∃ rs, Contract Try.prog 94 impl_listText.sig ds rs ∧ K rs = some r := by
  obtain ⟨⟨a0, a1, a2, _⟩, rfl, h⟩ := tellD_some h0
  obtain ⟨x, h1, h2⟩ := Option.bind_eq_some_iff.1 (show ((impl_listText.f k a0 a1 a2).bind fun r => K (impl_listText.enc r)) = some r from h)
  exact ⟨⟨Try.f94, Try.func94, by kernel_rfl, by kernel_rfl⟩, impl_listText.enc x, impl_listText.con k a0 a1 a2 h1, h2⟩

def impl_HandText.sig : Sig := ⟨[24], [9], [.bor], .own⟩
def impl_HandText.live : List (Nat × List Nat) := []
def impl_HandText.pk : List DK := [.l .lent (.ints .i64)]
def impl_HandText.rk : List DK := [.l .own .str]
def impl_HandText.enc (r : ByteArray) : List DV := dvs impl_HandText.rk (r, ())
def impl_HandText.dec (ds : List DV) : Option (ByteArray) := tellD impl_HandText.rk ds (fun u0 => some u0)
theorem impl_HandText.dec_some {ds : List DV} {r : ByteArray} (h0 : impl_HandText.dec ds = some r) : ds = impl_HandText.enc r := by
  obtain ⟨⟨u0, _⟩, rfl, h⟩ := tellD_some h0
  cases h
  rfl
def impl_HandText.phi {R : Type} (k : Nat) (ds : List DV) (K : List DV → Option R) : Option R := tellD impl_HandText.pk ds (fun a0 => (impl_HandText.f k a0).bind fun r => K (impl_HandText.enc r))
def impl_HandText.G {R : Type} (k : Nat) : Glob R := mkG tt [(94, ⟨impl_listText.sig, impl_listText.phi k⟩)] 5
theorem impl_HandText.gok {R : Type} (k : Nat) : GOK Try.prog (impl_HandText.G (R := R) k) := GOK_of tok (all_cons (fun _ _ _ h => impl_listText.ok k h) all_nil)
def impl_HandText.tab {R : Type} (k : Nat) : LTab R := fun id K vs hs =>
  none
noncomputable def impl_HandText.body : Code := (Try.f67.body).getD .skip
theorem impl_HandText.ev (k : Nat) (a0 : List Int) : evFn (impl_HandText.G k) impl_HandText.live (impl_HandText.tab k) impl_HandText.sig Try.f67 (dvs impl_HandText.pk (a0, ())) impl_HandText.dec = impl_HandText.f k a0 := by kernel_rfl
theorem impl_HandText.con (k : Nat) (a0 : List Int) {r : ByteArray} (h : impl_HandText.f k a0 = some r) : Contract Try.prog 67 impl_HandText.sig (dvs impl_HandText.pk (a0, ())) (impl_HandText.enc r) :=
  fn_contract (impl_HandText.gok k) mixed Try.func67 (show _ = some impl_HandText.body by kernel_rfl) (LoopsOK_of (show loopsOf impl_HandText.body = [] by kernel_rfl) all_nil) (show 5 = Try.f67.ntmps by kernel_rfl) (Nat.le_of_ble_eq_true (by kernel_rfl)) (by kernel_rfl) (fun _ h => impl_HandText.dec_some h) ((impl_HandText.ev k a0).trans h)
theorem impl_HandText.ok {R : Type} (k : Nat) {ds : List DV} {K : List DV → Option R} {r : R} (h0 : impl_HandText.phi k ds K = some r) : V.Enters Try.prog 67 ∧ ∃ rs, Contract Try.prog 67 impl_HandText.sig ds rs ∧ K rs = some r := by
  obtain ⟨⟨a0, _⟩, rfl, h⟩ := tellD_some h0
  obtain ⟨x, h1, h2⟩ := Option.bind_eq_some_iff.1 (show ((impl_HandText.f k a0).bind fun r => K (impl_HandText.enc r)) = some r from h)
  exact ⟨⟨Try.f67, Try.func67, by kernel_rfl, by kernel_rfl⟩, impl_HandText.enc x, impl_HandText.con k a0 h1, h2⟩

def strings_Join.sig : Sig := ⟨[72, 9], [9], [.bor, .bor], .own⟩
def strings_Join.live : List (Nat × List Nat) := []
def strings_Join.pk : List DK := [.l .lent .strs, .l .lent .str]
def strings_Join.rk : List DK := [.l .own .str]
def strings_Join.enc (r : ByteArray) : List DV := dvs strings_Join.rk (r, ())
def strings_Join.dec (ds : List DV) : Option (ByteArray) := tellD strings_Join.rk ds (fun u0 => some u0)
theorem strings_Join.dec_some {ds : List DV} {r : ByteArray} (h0 : strings_Join.dec ds = some r) : ds = strings_Join.enc r := by
  obtain ⟨⟨u0, _⟩, rfl, h⟩ := tellD_some h0
  cases h
  rfl
def strings_Join.phi {R : Type} (k : Nat) (ds : List DV) (K : List DV → Option R) : Option R := tellD strings_Join.pk ds (fun a0 a1 => (strings_Join.f k a0 a1).bind fun r => K (strings_Join.enc r))
theorem strings_Join.con (k : Nat) (a0 : List ByteArray) (a1 : ByteArray) {r : ByteArray} (h : strings_Join.f k a0 a1 = some r) : Contract Try.prog 68 strings_Join.sig (dvs strings_Join.pk (a0, a1, ())) (strings_Join.enc r) := by
  obtain ⟨h1, h2⟩ := bif_some h
  obtain ⟨g1, g2⟩ := and_bool h1
  cases h2
  exact join_contract (fun bk o c xs sep w a b c' d e => Try.strings_Join bk o c xs sep w a b c' d e) (fun a c sep w => Try.strings_Join_none a c sep w) (Nat.le_of_ble_eq_true g1) (Nat.le_of_ble_eq_true g2)
theorem strings_Join.ok {R : Type} (k : Nat) {ds : List DV} {K : List DV → Option R} {r : R} (h0 : strings_Join.phi k ds K = some r) : V.Enters Try.prog 68 ∧ ∃ rs, Contract Try.prog 68 strings_Join.sig ds rs ∧ K rs = some r := by
  obtain ⟨⟨a0, a1, _⟩, rfl, h⟩ := tellD_some h0
  obtain ⟨x, h1, h2⟩ := Option.bind_eq_some_iff.1 (show ((strings_Join.f k a0 a1).bind fun r => K (strings_Join.enc r)) = some r from h)
  exact ⟨⟨Try.f68, Try.func68, by kernel_rfl, by kernel_rfl⟩, strings_Join.enc x, strings_Join.con k a0 a1 h1, h2⟩

def impl_FormatMelds.sig : Sig := ⟨[28], [9], [.bor], .own⟩
def impl_FormatMelds.live : List (Nat × List Nat) := [(5, [3, 10, 11, 12]), (100005, [2, 3])]
def impl_FormatMelds.pk : List DK := [.l .lent .rows]
def impl_FormatMelds.rk : List DK := [.l .own .str]
def impl_FormatMelds.enc (r : ByteArray) : List DV := dvs impl_FormatMelds.rk (r, ())
def impl_FormatMelds.dec (ds : List DV) : Option (ByteArray) := tellD impl_FormatMelds.rk ds (fun u0 => some u0)
theorem impl_FormatMelds.dec_some {ds : List DV} {r : ByteArray} (h0 : impl_FormatMelds.dec ds = some r) : ds = impl_FormatMelds.enc r := by
  obtain ⟨⟨u0, _⟩, rfl, h⟩ := tellD_some h0
  cases h
  rfl
def impl_FormatMelds.phi {R : Type} (k : Nat) (ds : List DV) (K : List DV → Option R) : Option R := tellD impl_FormatMelds.pk ds (fun a0 => (impl_FormatMelds.f k a0).bind fun r => K (impl_FormatMelds.enc r))
def impl_FormatMelds.G {R : Type} (k : Nat) : Glob R := mkG tt [(67, ⟨impl_HandText.sig, impl_HandText.phi k⟩), (68, ⟨strings_Join.sig, strings_Join.phi k⟩)] 24
theorem impl_FormatMelds.gok {R : Type} (k : Nat) : GOK Try.prog (impl_FormatMelds.G (R := R) k) := GOK_of tok (all_cons (fun _ _ _ h => impl_HandText.ok k h) (all_cons (fun _ _ _ h => strings_Join.ok k h) all_nil))
def impl_FormatMelds.x5_0 {R : Type} (K : X → St → Option R) (p0 : List ByteArray) : Option R := K (.exit 0) (stOf [2, 3] [.one (.l (.any)), .one (.l (.own 0))] [some (.row 0 0 (.strs p0))])
def impl_FormatMelds.h5 : Hd := ⟨[.l (.own 0), .l (.val false false .rows), .l (.i .i64), .l (.i .i64)], [.row false .strs]⟩
def impl_FormatMelds.tab {R : Type} (k : Nat) : LTab R := fun id K vs hs =>
  bif id == 5 then impl_FormatMelds.h5.tell vs hs (fun v5_0 v5_1 v5_2 v5_3 => impl_FormatMelds.l5 k v5_0 v5_1 (impl_FormatMelds.x5_0 K) k v5_2 v5_3) else
  none
noncomputable def impl_FormatMelds.body : Code := (Try.f35.body).getD .skip
noncomputable def impl_FormatMelds.b5 : Code := ((loopsOf impl_FormatMelds.body)[0]?).getD .skip
theorem impl_FormatMelds.fit5 {R : Type} (k : Nat) (K : X → St → Option R) (vs : List AV) (hs : List (Option Root)) (r : R) (h : impl_FormatMelds.tab k (V.keyOf impl_FormatMelds.b5) K vs hs = some r) : LoopFit (impl_FormatMelds.G k) impl_FormatMelds.live (impl_FormatMelds.tab k) impl_FormatMelds.b5 K vs hs r := by
  rw [show V.keyOf impl_FormatMelds.b5 = 5 by kernel_rfl] at h
  obtain ⟨⟨⟨⟨_, _⟩, ⟨v5_0, _⟩, ⟨v5_1, _⟩, ⟨v5_2, _⟩, _⟩, ⟨v5_3, _⟩⟩, e, h⟩ := Hd.tell_some (show impl_FormatMelds.h5.tell vs hs (fun v5_0 v5_1 v5_2 v5_3 => impl_FormatMelds.l5 k v5_0 v5_1 (impl_FormatMelds.x5_0 K) k v5_2 v5_3) = some r from h)
  exact ⟨Int × List ByteArray, fun a => impl_FormatMelds.h5.enc ((((), ()), (v5_0, ()), (v5_1, ()), (a.1, ()), ()), (a.2, ())), fun vs hs => impl_FormatMelds.h5.tell vs hs (fun _ _ v5_2 v5_3 => some (v5_2, v5_3)), fun rec a => impl_FormatMelds.s5 k v5_0 v5_1 (impl_FormatMelds.x5_0 K) (fun c0 c1 => rec (c0, c1)) a.1 a.2, k, (v5_2, v5_3), e, fun _ => rfl, fun Lp a => by kernel_rfl, h⟩
theorem impl_FormatMelds.ev (k : Nat) (a0 : List (List Int)) : evFn (impl_FormatMelds.G k) impl_FormatMelds.live (impl_FormatMelds.tab k) impl_FormatMelds.sig Try.f35 (dvs impl_FormatMelds.pk (a0, ())) impl_FormatMelds.dec = impl_FormatMelds.f k a0 := by kernel_rfl
theorem impl_FormatMelds.con (k : Nat) (a0 : List (List Int)) {r : ByteArray} (h : impl_FormatMelds.f k a0 = some r) : Contract Try.prog 35 impl_FormatMelds.sig (dvs impl_FormatMelds.pk (a0, ())) (impl_FormatMelds.enc r) :=
  fn_contract (impl_FormatMelds.gok k) mixed Try.func35 (show _ = some impl_FormatMelds.body by kernel_rfl) (LoopsOK_of (show loopsOf impl_FormatMelds.body = [impl_FormatMelds.b5] by kernel_rfl) (all_cons (impl_FormatMelds.fit5 k) all_nil)) (show 24 = Try.f35.ntmps by kernel_rfl) (Nat.le_of_ble_eq_true (by kernel_rfl)) (by kernel_rfl) (fun _ h => impl_FormatMelds.dec_some h) ((impl_FormatMelds.ev k a0).trans h)
theorem impl_FormatMelds.ok {R : Type} (k : Nat) {ds : List DV} {K : List DV → Option R} {r : R} (h0 : impl_FormatMelds.phi k ds K = some r) : V.Enters Try.prog 35 ∧ ∃ rs, Contract Try.prog 35 impl_FormatMelds.sig ds rs ∧ K rs = some r := by
  obtain ⟨⟨a0, _⟩, rfl, h⟩ := tellD_some h0
  obtain ⟨x, h1, h2⟩ := Option.bind_eq_some_iff.1 (show ((impl_FormatMelds.f k a0).bind fun r => K (impl_FormatMelds.enc r)) = some r from h)
  exact ⟨⟨Try.f35, Try.func35, by kernel_rfl, by kernel_rfl⟩, impl_FormatMelds.enc x, impl_FormatMelds.con k a0 h1, h2⟩

def laws_FnExactFormatMelds.sig : Sig := ⟨[28], [4], [.bor], .own⟩
def laws_FnExactFormatMelds.live : List (Nat × List Nat) := []
def laws_FnExactFormatMelds.pk : List DK := [.l .lent .rows]
def laws_FnExactFormatMelds.rk : List DK := [.l .own .bool]
def laws_FnExactFormatMelds.enc (r : Bool) : List DV := dvs laws_FnExactFormatMelds.rk (r, ())
def laws_FnExactFormatMelds.dec (ds : List DV) : Option (Bool) := tellD laws_FnExactFormatMelds.rk ds (fun u0 => some u0)
theorem laws_FnExactFormatMelds.dec_some {ds : List DV} {r : Bool} (h0 : laws_FnExactFormatMelds.dec ds = some r) : ds = laws_FnExactFormatMelds.enc r := by
  obtain ⟨⟨u0, _⟩, rfl, h⟩ := tellD_some h0
  cases h
  rfl
def laws_FnExactFormatMelds.phi {R : Type} (k : Nat) (ds : List DV) (K : List DV → Option R) : Option R := tellD laws_FnExactFormatMelds.pk ds (fun a0 => (laws_FnExactFormatMelds.f k a0).bind fun r => K (laws_FnExactFormatMelds.enc r))
def laws_FnExactFormatMelds.G {R : Type} (k : Nat) : Glob R := mkG tt [(20, ⟨laws_szIntSS.sig, laws_szIntSS.phi k⟩), (22, ⟨laws_toIntSS.sig, laws_toIntSS.phi k⟩), (24, ⟨laws_eqIntSS.sig, laws_eqIntSS.phi k⟩), (34, ⟨spec_FormatMelds.sig, spec_FormatMelds.phi k⟩), (35, ⟨impl_FormatMelds.sig, impl_FormatMelds.phi k⟩)] 27
theorem laws_FnExactFormatMelds.gok {R : Type} (k : Nat) : GOK Try.prog (laws_FnExactFormatMelds.G (R := R) k) := GOK_of tok (all_cons (fun _ _ _ h => laws_szIntSS.ok k h) (all_cons (fun _ _ _ h => laws_toIntSS.ok k h) (all_cons (fun _ _ _ h => laws_eqIntSS.ok k h) (all_cons (fun _ _ _ h => spec_FormatMelds.ok k h) (all_cons (fun _ _ _ h => impl_FormatMelds.ok k h) all_nil)))))
def laws_FnExactFormatMelds.tab {R : Type} (k : Nat) : LTab R := fun id K vs hs =>
  none
noncomputable def laws_FnExactFormatMelds.body : Code := (Try.f9.body).getD .skip
theorem laws_FnExactFormatMelds.ev (k : Nat) (a0 : List (List Int)) : evFn (laws_FnExactFormatMelds.G k) laws_FnExactFormatMelds.live (laws_FnExactFormatMelds.tab k) laws_FnExactFormatMelds.sig Try.f9 (dvs laws_FnExactFormatMelds.pk (a0, ())) laws_FnExactFormatMelds.dec = laws_FnExactFormatMelds.f k a0 := by kernel_rfl
theorem laws_FnExactFormatMelds.con (k : Nat) (a0 : List (List Int)) {r : Bool} (h : laws_FnExactFormatMelds.f k a0 = some r) : Contract Try.prog 9 laws_FnExactFormatMelds.sig (dvs laws_FnExactFormatMelds.pk (a0, ())) (laws_FnExactFormatMelds.enc r) :=
  fn_contract (laws_FnExactFormatMelds.gok k) mixed Try.func9 (show _ = some laws_FnExactFormatMelds.body by kernel_rfl) (LoopsOK_of (show loopsOf laws_FnExactFormatMelds.body = [] by kernel_rfl) all_nil) (show 27 = Try.f9.ntmps by kernel_rfl) (Nat.le_of_ble_eq_true (by kernel_rfl)) (by kernel_rfl) (fun _ h => laws_FnExactFormatMelds.dec_some h) ((laws_FnExactFormatMelds.ev k a0).trans h)
theorem laws_FnExactFormatMelds.ok {R : Type} (k : Nat) {ds : List DV} {K : List DV → Option R} {r : R} (h0 : laws_FnExactFormatMelds.phi k ds K = some r) : V.Enters Try.prog 9 ∧ ∃ rs, Contract Try.prog 9 laws_FnExactFormatMelds.sig ds rs ∧ K rs = some r := by
  obtain ⟨⟨a0, _⟩, rfl, h⟩ := tellD_some h0
  obtain ⟨x, h1, h2⟩ := Option.bind_eq_some_iff.1 (show ((laws_FnExactFormatMelds.f k a0).bind fun r => K (laws_FnExactFormatMelds.enc r)) = some r from h)
  exact ⟨⟨Try.f9, Try.func9, by kernel_rfl, by kernel_rfl⟩, laws_FnExactFormatMelds.enc x, laws_FnExactFormatMelds.con k a0 h1, h2⟩
end Go.Proofs.Ytfkejiljabmaaaa
