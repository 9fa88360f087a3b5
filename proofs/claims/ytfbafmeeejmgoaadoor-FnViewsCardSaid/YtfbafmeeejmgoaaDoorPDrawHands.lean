/- Drawn hands, in plain Lean. Conditions: enough rounds, a code of at most 2^20 bytes. -/
import Derived.Test.YtfbafmeeejmgoaaDoorKit
import Derived.Test.YtfbafmeeejmgoaaDoorFFnViews
import Derived.Test.YtfbafmeeejmgoaaDoorPChoosing
set_option linter.unusedVariables false
set_option linter.unusedSimpArgs false
namespace Go.Proofs.YtfbafmeeejmgoaaDoor
open Go Go.Proofs.YtfbafmeeejmgoaaDoor.V
theorem spec_l10Draw.inner {R : Type} {k : Nat} (hk : BIG ≤ k) {b : List Int} (e0 : LI → Int → Int → LI → Option R) : ∀ (m n : Nat) (x i h : Int) (l : List Int), 0 ≤ x → x < 52 → Cur b i → m < n → l.length ≤ 11 → m ≤ 100 → ∃ l' i' h', spec_l10Draw.l7 k e0 n x (m : Int) b i h l = e0 b i' h' l' ∧ Cur b i' ∧ l'.length ≤ 11 := by
  intro m
  induction m with
  | zero =>
    intro n x i h l hx0 hx1 hc hn hl hm
    obtain ⟨n, rfl⟩ : ∃ n', n = n' + 1 := ⟨n - 1, by omega⟩
    exact ⟨l, i, h, (spec_l10Draw.l7_succ ..).trans (bif_f rfl), hc, hl⟩
  | succ m ih =>
    intro n x i h l hx0 hx1 hc hn hl hm
    obtain ⟨n, rfl⟩ : ∃ n', n = n' + 1 := ⟨n - 1, by omega⟩
    obtain ⟨y, i1, h1, e1, c1, hy⟩ := spec_l1Int.ok k h (l := [1, 1, 13]) (by simp) hc
    have hy : y = 1 ∨ y = 13 := by simpa using hy
    have ew : IntKind.wrap .i64 (x + y) = x + y := wrap_i64 (by omega) (by omega)
    have em : IntKind.wrap .i64 (((m + 1 : Nat) : Int) - 1) = (m : Int) := by rw [wrap_i64 (by omega) (by omega)]; omega
    have hb := tmodN_bd (x := x + y) (n := 52) (by omega) (by omega)
    have start := (spec_l10Draw.l7_succ k e0 n x ((m + 1 : Nat) : Int) b i h l).trans ((bif_t (dec_t (by omega))).trans (bind_s (spec_HasCard.eq hk x (by omega))))
    have go : ∀ u : List Int, u.length ≤ 11 → ∃ l' i' h', ((spec_l1Int.f k b i h [1, 1, 13]).bind fun r5 => spec_l10Draw.l7 k e0 n ((IntKind.wrap .i64 (x + r5.1)).tmod 52) (IntKind.wrap .i64 (((m + 1 : Nat) : Int) - 1)) r5.2.1 (t2 r5).1 (t3 r5) u) = e0 b i' h' l' ∧ Cur b i' ∧ l'.length ≤ 11 := fun u hu => by
      obtain ⟨l', i', h', e, c', hl'⟩ := ih n ((x + y).tmod 52) i1 h1 u hb.1 hb.2 c1 (by omega) hu (by omega)
      refine ⟨l', i', h', (bind_s e1).trans ?_, c', hl'⟩
      show spec_l10Draw.l7 k e0 n ((IntKind.wrap .i64 (x + y)).tmod 52) _ b i1 h1 u = _
      rw [ew, em]; exact e
    cases hq : hasCard l x with
    | true =>
      obtain ⟨l', i', h', e, c', hl'⟩ := go l hl
      exact ⟨l', i', h', start.trans ((bif_f (by rw [hq]; rfl)).trans e), c', hl'⟩
    | false =>
      by_cases h11 : (l.length : Int) < 11
      · obtain ⟨l', i', h', e, c', hl'⟩ := go (l ++ [x]) (by simp; omega)
        exact ⟨l', i', h', start.trans ((bif_t (by rw [hq]; rfl)).trans ((bif_t (dec_t h11)).trans ((chk_t (rm8 (by omega))).trans e))), c', hl'⟩
      · obtain ⟨l', i', h', e, c', hl'⟩ := go l hl
        exact ⟨l', i', h', start.trans ((bif_t (by rw [hq]; rfl)).trans ((bif_f (dec_f h11)).trans e)), c', hl'⟩
theorem spec_l10Draw.ok {k : Nat} (hk : BIG ≤ k) {b : List Int} {i : Int} (h : Int) (hc : Cur b i) : ∃ l i' h', spec_l10Draw.f k b i h = some (l, b, i', h') ∧ Cur b i' ∧ l.length ≤ 11 := by
  have hkk : 100 < k := by simp [BIG] at hk; omega
  have key : ∀ (m n : Nat) (i h : Int) (l : List Int), Cur b i → m < n → l.length ≤ 11 → m ≤ 100 → ∃ l' i' h', spec_l10Draw.l3 k (fun x12 x13 x14 x15 => some (x12, x13, x14, x15)) n (m : Int) b i h l = some (l', b, i', h') ∧ Cur b i' ∧ l'.length ≤ 11 := by
    intro m
    induction m with
    | zero =>
      intro n i h l c hn hl hm
      obtain ⟨n, rfl⟩ : ∃ n', n = n' + 1 := ⟨n - 1, by omega⟩
      exact ⟨l, i, h, (spec_l10Draw.l3_succ ..).trans (bif_f rfl), c, hl⟩
    | succ m ih =>
      intro n i h l c hn hl hm
      obtain ⟨n, rfl⟩ : ∃ n', n = n' + 1 := ⟨n - 1, by omega⟩
      obtain ⟨x, i1, h1, e1, c1, p1, q1, _⟩ := spec_l1Below.ok k h 52 c
      obtain ⟨y, i2, h2, e2, c2, p2, q2, _⟩ := spec_l1Below.ok k h1 2 c1
      have q1 := q1 (by omega)
      have q2 := q2 (by omega)
      have em : IntKind.wrap .i64 (((m + 1 : Nat) : Int) - 1) = (m : Int) := by rw [wrap_i64 (by omega) (by omega)]; omega
      obtain ⟨l1, i3, h3, e3, c3, hl3⟩ := spec_l10Draw.inner hk (b := b) (fun x8 x9 x10 x11 => spec_l10Draw.l3 k (fun x12 x13 x14 x15 => some (x12, x13, x14, x15)) n (IntKind.wrap .i64 (((m + 1 : Nat) : Int) - 1)) x8 x9 x10 x11) (3 + y).toNat k x i2 h2 l p1 q1 c2 (by omega) hl (by omega)
      obtain ⟨l', i', h', e, c', hl'⟩ := ih n i3 h3 l1 c3 (by omega) hl3 (by omega)
      refine ⟨l', i', h', (spec_l10Draw.l3_succ ..).trans ((bif_t (dec_t (by omega))).trans ((bind_s e1).trans ((bind_s e2).trans ?_))), c', hl'⟩
      show spec_l10Draw.l7 k _ k x (IntKind.wrap .i64 (3 + y)) b i2 h2 l = _
      rw [wrap_i64 (n := 3 + y) (by omega) (by omega), show 3 + y = (((3 + y).toNat : Nat) : Int) by omega]
      refine e3.trans ?_
      show spec_l10Draw.l3 k _ n (IntKind.wrap .i64 (((m + 1 : Nat) : Int) - 1)) b i3 h3 l1 = _
      rw [em]; exact e
  obtain ⟨x, i1, h1, e1, c1, p1, q1, _⟩ := spec_l1Below.ok k h 4 hc
  have q1 := q1 (by omega)
  obtain ⟨l, i2, h2, e2, c2, hl⟩ := key x.toNat k i1 h1 [] c1 (by omega) (by simp) (by omega)
  rw [show ((x.toNat : Nat) : Int) = x by omega] at e2
  exact ⟨l, i2, h2, (bind_s e1).trans e2, c2, hl⟩
theorem spec_DrawMeldsIn.ok {k : Nat} (hk : BIG ≤ k) {a : List Int} (ha : a.length < 1048577) : ∃ l, spec_DrawMeldsIn.f k a = some l ∧ l.length ≤ 11 := by
  obtain ⟨h0, e0, c0⟩ := spec_l1New.ok hk ha
  obtain ⟨t, i1, h1, e1, c1⟩ := spec_l1Once.ok k h0 9 c0
  cases t with
  | true =>
    obtain ⟨l, i2, h2, e2, c2, hl⟩ := spec_l5Any.ok hk h1 c1
    exact ⟨l, (bind_s e0).trans ((bind_s e1).trans ((bif_t rfl).trans (bind_s e2))), by omega⟩
  | false =>
    obtain ⟨l, i2, h2, e2, c2, hl⟩ := spec_l10Draw.ok hk h1 c1
    exact ⟨l, (bind_s e0).trans ((bind_s e1).trans ((bif_f rfl).trans (bind_s e2))), hl⟩
/-! ### Hands of five -/
def step5 : Nat → Int → Int
  | 0, x => x
  | j + 1, x => step5 j ((x + 5).tmod 52)
def chain5 (x : Int) : List Int := [step5 0 x, step5 1 x, step5 2 x, step5 3 x, step5 4 x]
theorem chain5_nodup {x : Int} (h0 : 0 ≤ x) (h1 : x < 52) : (chain5 x).Nodup := by
  have all : (List.range 52).all (fun n => nodupB (chain5 (n : Int))) = true := by decide +kernel
  have := List.all_eq_true.1 all x.toNat (List.mem_range.2 (by omega))
  rw [show ((x.toNat : Nat) : Int) = x by omega] at this
  exact nodupB_of _ this
theorem free5 {h : List Int} (hl : h.length ≤ 4) {x : Int} (h0 : 0 ≤ x) (h1 : x < 52) : ∃ j ≤ 4, step5 j x ∉ h := by
  refine Classical.byContradiction fun hno => ?_
  have all : ∀ y ∈ chain5 x, y ∈ h := fun y hy => Classical.byContradiction fun hy' => hno (by
    simp only [chain5, List.mem_cons, List.not_mem_nil, or_false] at hy
    rcases hy with rfl | rfl | rfl | rfl | rfl
    · exact ⟨0, by omega, hy'⟩
    · exact ⟨1, by omega, hy'⟩
    · exact ⟨2, by omega, hy'⟩
    · exact ⟨3, by omega, hy'⟩
    · exact ⟨4, by omega, hy'⟩)
  have := sub_len _ _ (chain5_nodup h0 h1) all
  simp only [chain5, List.length_cons, List.length_nil] at this
  omega
theorem spec_l14Five.find {R : Type} {k : Nat} (hk : BIG ≤ k) {l : List Int} (hl : l.length ≤ 8) (e0 : Int → Option R) : ∀ (j n : Nat) (x : Int), 0 ≤ x → x < 52 → j < n → step5 j x ∉ l → ∃ y, spec_l14Five.l6 k l e0 n x = e0 y ∧ 0 ≤ y ∧ y < 52
  | j, 0, x, _, _, hn, _ => absurd hn (by omega)
  | j, n + 1, x, h0, h1, hn, hj => by
    have step := (spec_l14Five.l6_succ (R := R) k l e0 n x).trans (bind_s (spec_HasCard.eq hk x (by omega)))
    cases hc : hasCard l x with
    | false => exact ⟨x, step.trans (bif_f hc), h0, h1⟩
    | true =>
      cases j with
      | zero => exact absurd (hasCard_iff.1 hc) hj
      | succ j =>
        have hb := tmodN_bd (x := x + 5) (n := 52) (by omega) (by omega)
        obtain ⟨y, e, y0, y1⟩ := spec_l14Five.find hk hl e0 j n ((x + 5).tmod 52) hb.1 hb.2 (by omega) hj
        refine ⟨y, step.trans ((bif_t hc).trans ?_), y0, y1⟩
        rw [wrap_i64 (by omega) (by omega)]
        exact e
theorem spec_l14Five.ok {k : Nat} (hk : BIG ≤ k) {b : List Int} {i : Int} (h : Int) (hc : Cur b i) : ∃ l i' h', spec_l14Five.f k b i h = some (l, b, i', h') ∧ Cur b i' ∧ l.length ≤ 8 := by
  obtain ⟨x, i1, h1, e1, c1, p1, q1, _⟩ := spec_l1Below.ok k h 52 hc
  have q1 := q1 (by omega)
  obtain ⟨y, i2, h2, e2, c2, hy⟩ := spec_l1Int.ok k h1 (l := [1, 1, 13, 14, 3, 7]) (by simp) c1
  have hy : 1 ≤ y ∧ y ≤ 14 := by
    simp only [List.mem_cons, List.not_mem_nil, or_false] at hy
    omega
  have key : ∀ (e0 : LI → Option (LI × LI × Int × Int)) (m n : Nat) (x : Int) (l : List Int), 0 ≤ x → x < 52 → m + l.length = 5 → m < n → ∃ l', spec_l14Five.l4 k y e0 n x l = e0 l' ∧ l'.length = 5 := by
    intro e0 m
    induction m with
    | zero =>
      intro n x l x0 x1 hl hn
      obtain ⟨n, rfl⟩ : ∃ n', n = n' + 1 := ⟨n - 1, by omega⟩
      exact ⟨l, (spec_l14Five.l4_succ ..).trans (bif_f (dec_f (by omega))), by omega⟩
    | succ m ih =>
      intro n x l x0 x1 hl hn
      obtain ⟨n, rfl⟩ : ∃ n', n = n' + 1 := ⟨n - 1, by omega⟩
      have hb := tmodN_bd (x := x + y) (n := 52) (by omega) (by omega)
      obtain ⟨j, hj, hf⟩ := free5 (h := l) (by omega) hb.1 hb.2
      obtain ⟨z, ez, z0, z1⟩ := spec_l14Five.find hk (l := l) (by omega) (fun x4 => chk (decide ((l.length + 1) * 8 ≤ room)) <| spec_l14Five.l4 k y e0 n x4 (l ++ [x4])) j k _ hb.1 hb.2 (by simp [BIG] at hk; omega) hf
      obtain ⟨l', e, hl'⟩ := ih n z (l ++ [z]) z0 z1 (by simp; omega) (by omega)
      refine ⟨l', (spec_l14Five.l4_succ ..).trans ((bif_t (dec_t (by omega))).trans ?_), hl'⟩
      rw [wrap_i64 (n := x + y) (by omega) (by omega)]
      exact ez.trans ((chk_t (rm8 (by omega))).trans e)
  obtain ⟨l', e, hl'⟩ := key (fun x5 =>
    (spec_l1Once.f k b i2 h2 3).bind fun r6 =>
    bif r6.1 then
     (spec_l5Some.f k r6.2.1 (t2 r6).1 (t3 r6) 5).bind fun r7 =>
     some (r7.1, r7.2.1, (t2 r7).1, (t3 r7))
    else
     some (x5, r6.2.1, (t2 r6).1, (t3 r6))) 4 k x [x] p1 q1 (by simp) (by simp [BIG] at hk; omega)
  obtain ⟨t, i3, h3, e3, c3⟩ := spec_l1Once.ok k h2 3 c2
  cases t with
  | true =>
    obtain ⟨u, i4, h4, e4, c4, hu⟩ := spec_l5Some.ok hk h3 c3 (g := 5) (by omega) (by omega)
    exact ⟨u, i4, h4, (bind_s e1).trans ((bind_s e2).trans (e.trans ((bind_s e3).trans ((bif_t rfl).trans (bind_s e4))))), c4, hu⟩
  | false => exact ⟨l', i3, h3, (bind_s e1).trans ((bind_s e2).trans (e.trans ((bind_s e3).trans (bif_f rfl)))), c3, by omega⟩
theorem spec_DrawKindOf.ok {k : Nat} (hk : BIG ≤ k) {a : List Int} (ha : a.length < 1048577) : ∃ l, spec_DrawKindOf.f k a = some l ∧ l.length ≤ 8 := by
  obtain ⟨h0, e0, c0⟩ := spec_l1New.ok hk ha
  obtain ⟨t, i1, h1, e1, c1⟩ := spec_l1Once.ok k h0 9 c0
  cases t with
  | true =>
    obtain ⟨l, i2, h2, e2, c2, hl⟩ := spec_l5Any.ok hk h1 c1
    exact ⟨l, (bind_s e0).trans ((bind_s e1).trans ((bif_t rfl).trans (bind_s e2))), hl⟩
  | false =>
    obtain ⟨l, i2, h2, e2, c2, hl⟩ := spec_l14Five.ok hk h1 c1
    exact ⟨l, (bind_s e0).trans ((bind_s e1).trans ((bif_f rfl).trans (bind_s e2))), hl⟩
end Go.Proofs.YtfbafmeeejmgoaaDoor
