/- Drawn hands, in plain Lean. Conditions: enough rounds, a code of at most 2^20 bytes. -/
import Derived.Test.YtfbafmeeejmgoaaGreatKit
import Derived.Test.YtfbafmeeejmgoaaGreatFFnMeasured
import Derived.Test.YtfbafmeeejmgoaaGreatPChoosing
set_option linter.unusedVariables false
set_option linter.unusedSimpArgs false
namespace Go.Proofs.YtfbafmeeejmgoaaGreat
open Go Go.Proofs.YtfbafmeeejmgoaaGreat.V
theorem spec_l10Draw.inner {R : Type} {k : Nat} (hk : BIG ≤ k) {b : List Int} (e0 : LI → Int → Int → LI → Option R) : ∀ (m n : Nat) (x i h : Int) (l : List Int), 0 ≤ x → x < 52 → Cur b i → m < n → l.length ≤ 11 → m ≤ 100 → ∃ l' i' h', spec_l10Draw.l7 k e0 n x (m : Int) b i h l = e0 b i' h' l' ∧ Cur b i' ∧ l'.length ≤ 11 := by
  intro m
  induction m with
  | zero =>
    intro n x i h l hx0 hx1 hc hn hl hm
    obtain ⟨n, rfl⟩ : ∃ n', n = n' + 1 := ⟨n - 1, by omega⟩
    exact ⟨l, i, h, (spec_l10Draw.l7_succ ..).trans (bif_f rfl), hc, hl⟩
  | succ m ih =>
    intro n x i h l hx0 hx1 hc hn hl hm
    obtain ⟨n, rfl⟩ : ∃ n', n = n' + 1 := ⟨n - 1, by omega⟩
    obtain ⟨y, i1, h1, e1, c1, hy⟩ := spec_l1Int.ok k h (l := [1, 1, 13]) (by simp) hc
    have hy : y = 1 ∨ y = 13 := by simpa using hy
    have ew : IntKind.wrap .i64 (x + y) = x + y := wrap_i64 (by omega) (by omega)
    have em : IntKind.wrap .i64 (((m + 1 : Nat) : Int) - 1) = (m : Int) := by rw [wrap_i64 (by omega) (by omega)]; omega
    have hb := tmodN_bd (x := x + y) (n := 52) (by omega) (by omega)
    have start := (spec_l10Draw.l7_succ k e0 n x ((m + 1 : Nat) : Int) b i h l).trans ((bif_t (dec_t (by omega))).trans (bind_s (spec_HasCard.eq hk x (by omega))))
    have go : ∀ u : List Int, u.length ≤ 11 → ∃ l' i' h', ((spec_l1Int.f k b i h [1, 1, 13]).bind fun r5 => spec_l10Draw.l7 k e0 n ((IntKind.wrap .i64 (x + r5.1)).tmod 52) (IntKind.wrap .i64 (((m + 1 : Nat) : Int) - 1)) r5.2.1 (t2 r5).1 (t3 r5) u) = e0 b i' h' l' ∧ Cur b i' ∧ l'.length ≤ 11 := fun u hu => by
      obtain ⟨l', i', h', e, c', hl'⟩ := ih n ((x + y).tmod 52) i1 h1 u hb.1 hb.2 c1 (by omega) hu (by omega)
      refine ⟨l', i', h', (bind_s e1).trans ?_, c', hl'⟩
      show spec_l10Draw.l7 k e0 n ((IntKind.wrap .i64 (x + y)).tmod 52) _ b i1 h1 u = _
      rw [ew, em]; exact e
    cases hq : hasCard l x with
    | true =>
      obtain ⟨l', i', h', e, c', hl'⟩ := go l hl
      exact ⟨l', i', h', start.trans ((bif_f (by rw [hq]; rfl)).trans e), c', hl'⟩
    | false =>
      by_cases h11 : (l.length : Int) < 11
      · obtain ⟨l', i', h', e, c', hl'⟩ := go (l ++ [x]) (by simp; omega)
        exact ⟨l', i', h', start.trans ((bif_t (by rw [hq]; rfl)).trans ((bif_t (dec_t h11)).trans ((chk_t (rm8 (by omega))).trans e))), c', hl'⟩
      · obtain ⟨l', i', h', e, c', hl'⟩ := go l hl
        exact ⟨l', i', h', start.trans ((bif_t (by rw [hq]; rfl)).trans ((bif_f (dec_f h11)).trans e)), c', hl'⟩
theorem spec_l10Draw.ok {k : Nat} (hk : BIG ≤ k) {b : List Int} {i : Int} (h : Int) (hc : Cur b i) : ∃ l i' h', spec_l10Draw.f k b i h = some (l, b, i', h') ∧ Cur b i' ∧ l.length ≤ 11 := by
  have hkk : 100 < k := by simp [BIG] at hk; omega
  have key : ∀ (m n : Nat) (i h : Int) (l : List Int), Cur b i → m < n → l.length ≤ 11 → m ≤ 100 → ∃ l' i' h', spec_l10Draw.l3 k (fun x12 x13 x14 x15 => some (x12, x13, x14, x15)) n (m : Int) b i h l = some (l', b, i', h') ∧ Cur b i' ∧ l'.length ≤ 11 := by
    intro m
    induction m with
    | zero =>
      intro n i h l c hn hl hm
      obtain ⟨n, rfl⟩ : ∃ n', n = n' + 1 := ⟨n - 1, by omega⟩
      exact ⟨l, i, h, (spec_l10Draw.l3_succ ..).trans (bif_f rfl), c, hl⟩
    | succ m ih =>
      intro n i h l c hn hl hm
      obtain ⟨n, rfl⟩ : ∃ n', n = n' + 1 := ⟨n - 1, by omega⟩
      obtain ⟨x, i1, h1, e1, c1, p1, q1, _⟩ := spec_l1Below.ok k h 52 c
      obtain ⟨y, i2, h2, e2, c2, p2, q2, _⟩ := spec_l1Below.ok k h1 2 c1
      have q1 := q1 (by omega)
      have q2 := q2 (by omega)
      have em : IntKind.wrap .i64 (((m + 1 : Nat) : Int) - 1) = (m : Int) := by rw [wrap_i64 (by omega) (by omega)]; omega
      obtain ⟨l1, i3, h3, e3, c3, hl3⟩ := spec_l10Draw.inner hk (b := b) (fun x8 x9 x10 x11 => spec_l10Draw.l3 k (fun x12 x13 x14 x15 => some (x12, x13, x14, x15)) n (IntKind.wrap .i64 (((m + 1 : Nat) : Int) - 1)) x8 x9 x10 x11) (3 + y).toNat k x i2 h2 l p1 q1 c2 (by omega) hl (by omega)
      obtain ⟨l', i', h', e, c', hl'⟩ := ih n i3 h3 l1 c3 (by omega) hl3 (by omega)
      refine ⟨l', i', h', (spec_l10Draw.l3_succ ..).trans ((bif_t (dec_t (by omega))).trans ((bind_s e1).trans ((bind_s e2).trans ?_))), c', hl'⟩
      show spec_l10Draw.l7 k _ k x (IntKind.wrap .i64 (3 + y)) b i2 h2 l = _
      rw [wrap_i64 (n := 3 + y) (by omega) (by omega), show 3 + y = (((3 + y).toNat : Nat) : Int) by omega]
      refine e3.trans ?_
      show spec_l10Draw.l3 k _ n (IntKind.wrap .i64 (((m + 1 : Nat) : Int) - 1)) b i3 h3 l1 = _
      rw [em]; exact e
  obtain ⟨x, i1, h1, e1, c1, p1, q1, _⟩ := spec_l1Below.ok k h 4 hc
  have q1 := q1 (by omega)
  obtain ⟨l, i2, h2, e2, c2, hl⟩ := key x.toNat k i1 h1 [] c1 (by omega) (by simp) (by omega)
  rw [show ((x.toNat : Nat) : Int) = x by omega] at e2
  exact ⟨l, i2, h2, (bind_s e1).trans e2, c2, hl⟩
theorem spec_DrawMeldsIn.ok {k : Nat} (hk : BIG ≤ k) {a : List Int} (ha : a.length < 1048577) : ∃ l, spec_DrawMeldsIn.f k a = some l ∧ l.length ≤ 11 := by
  obtain ⟨h0, e0, c0⟩ := spec_l1New.ok hk ha
  obtain ⟨t, i1, h1, e1, c1⟩ := spec_l1Once.ok k h0 9 c0
  cases t with
  | true =>
    obtain ⟨l, i2, h2, e2, c2, hl⟩ := spec_l5Any.ok hk h1 c1
    exact ⟨l, (bind_s e0).trans ((bind_s e1).trans ((bif_t rfl).trans (bind_s e2))), by omega⟩
  | false =>
    obtain ⟨l, i2, h2, e2, c2, hl⟩ := spec_l10Draw.ok hk h1 c1
    exact ⟨l, (bind_s e0).trans ((bind_s e1).trans ((bif_f rfl).trans (bind_s e2))), hl⟩
/-! ### Hands of five -/
def step5 : Nat → Int → Int
  | 0, x => x
  | j + 1, x => step5 j ((x + 5).tmod 52)
def chain5 (x : Int) : List Int := [step5 0 x, step5 1 x, step5 2 x, step5 3 x, step5 4 x]
theorem chain5_nodup {x : Int} (h0 : 0 ≤ x) (h1 : x < 52) : (chain5 x).Nodup := by
  have all : (List.range 52).all (fun n => nodupB (chain5 (n : Int))) = true := by decide +kernel
  have := List.all_eq_true.1 all x.toNat (List.mem_range.2 (by omega))
  rw [show ((x.toNat : Nat) : Int) = x by omega] at this
  exact nodupB_of _ this
theorem free5 {h : List Int} (hl : h.length ≤ 4) {x : Int} (h0 : 0 ≤ x) (h1 : x < 52) : ∃ j ≤ 4, step5 j x ∉ h := by
  refine Classical.byContradiction fun hno => ?_
  have all : ∀ y ∈ chain5 x, y ∈ h := fun y hy => Classical.byContradiction fun hy' => hno (by
    simp only [chain5, List.mem_cons, List.not_mem_nil, or_false] at hy
    rcases hy with rfl | rfl | rfl | rfl | rfl
    · exact ⟨0, by omega, hy'⟩
    · exact ⟨1, by omega, hy'⟩
    · exact ⟨2, by omega, hy'⟩
    · exact ⟨3, by omega, hy'⟩
    · exact ⟨4, by omega, hy'⟩)
  have := sub_len _ _ (chain5_nodup h0 h1) all
  simp only [chain5, List.length_cons, List.length_nil] at this
  omega
end Go.Proofs.YtfbafmeeejmgoaaGreat
