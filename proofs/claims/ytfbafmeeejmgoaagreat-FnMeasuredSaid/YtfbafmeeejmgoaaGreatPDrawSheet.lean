/- Drawn rounds and sheets, in plain Lean. Conditions: enough rounds, a code of at most 2^20 bytes. -/
import Derived.Test.YtfbafmeeejmgoaaGreatKit
import Derived.Test.YtfbafmeeejmgoaaGreatFFnMeasured
import Derived.Test.YtfbafmeeejmgoaaGreatPDraw
set_option linter.unusedVariables false
set_option linter.unusedSimpArgs false
namespace Go.Proofs.YtfbafmeeejmgoaaGreat
open Go Go.Proofs.YtfbafmeeejmgoaaGreat.V
theorem spec_FromTricks.ok {k : Nat} (hk : BIG ≤ k) {l : List Int} (hl : l.length ≤ 6) (hx : ∀ x ∈ l, 0 ≤ x ∧ x ≤ 19) : ∃ r, spec_FromTricks.f k l = some r ∧ r.length ≤ 6 := by
  have second : ∀ (s : Int), 0 ≤ s → s ≤ 200 → ∀ (m i n : Nat) (r : List Int), i + m = l.length → m < n → r.length = i → ∃ r', spec_FromTricks.l10 k l s (fun x6 => some x6) n (i : Int) r = some r' ∧ r'.length ≤ 6 := by
    intro s s0 s1 m
    induction m with
    | zero =>
      intro i n r hi hn hr
      obtain ⟨n, rfl⟩ : ∃ n', n = n' + 1 := ⟨n - 1, by omega⟩
      exact ⟨r, (spec_FromTricks.l10_succ ..).trans (bif_f (dec_f (by omega))), by omega⟩
    | succ m ih =>
      intro i n r hi hn hr
      obtain ⟨n, rfl⟩ : ∃ n', n = n' + 1 := ⟨n - 1, by omega⟩
      have h : i < l.length := by omega
      have hb := hx _ (List.getElem_mem h)
      cases hin : inR (l.length : Int) 2 6 with
      | false => exact ⟨r, (spec_FromTricks.l10_succ ..).trans ((bif_t (dec_t (by omega))).trans ((bind_s (spec_l1In.eq ..)).trans (bif_f hin))), by omega⟩
      | true =>
        obtain ⟨r', e, hr'⟩ := ih (i + 1) n (r ++ [IntKind.wrap .i64 ((IntKind.wrap .i64 ((l.length : Int) * l[i])) - s)]) (by omega) (by omega) (by simp [hr])
        refine ⟨r', (spec_FromTricks.l10_succ ..).trans ((bif_t (dec_t (by omega))).trans ((bind_s (spec_l1In.eq ..)).trans ((bif_t hin).trans ((chk_t (in_t h)).trans ((chk_t (rm8 (by omega))).trans ?_))))), hr'⟩
        rw [Int.toNat_natCast, getD_lt _ h, wrap_up (by omega)]
        exact e
  have first : ∀ (m i n : Nat) (s : Int), i + m = l.length → m < n → 0 ≤ s → s ≤ 20 * (i : Int) → ∃ r, spec_FromTricks.l3 k l (fun x2 x3 => some x3) (fun x4 => spec_FromTricks.l10 k l x4 (fun x6 => some x6) k 0 []) n s (i : Int) = some r ∧ r.length ≤ 6 := by
    intro m
    induction m with
    | zero =>
      intro i n s hi hn s0 s1
      obtain ⟨n, rfl⟩ : ∃ n', n = n' + 1 := ⟨n - 1, by omega⟩
      obtain ⟨r, e, hr⟩ := second s s0 (by omega) l.length 0 k [] (by omega) (by simp [BIG] at hk; omega) rfl
      exact ⟨r, (spec_FromTricks.l3_succ ..).trans ((bif_f (dec_f (by omega))).trans e), hr⟩
    | succ m ih =>
      intro i n s hi hn s0 s1
      obtain ⟨n, rfl⟩ : ∃ n', n = n' + 1 := ⟨n - 1, by omega⟩
      have h : i < l.length := by omega
      have hb := hx _ (List.getElem_mem h)
      obtain ⟨r, e, hr⟩ := ih (i + 1) n (s + l[i]) (by omega) (by omega) (by omega) (by omega)
      have hin : inR l[i] 0 200 = true := inR_iff.2 (by omega)
      refine ⟨r, (spec_FromTricks.l3_succ ..).trans ((bif_t (dec_t (by omega))).trans ((chk_t (in_t h)).trans ?_)), hr⟩
      rw [Int.toNat_natCast, getD_lt _ h, wrap_up (by omega)]
      refine (bind_s (spec_l1In.eq ..)).trans ((bif_f (by rw [hin]; rfl)).trans ((chk_t (in_t h)).trans ?_))
      rw [wrap_i64 (by omega) (by omega)]
      exact e
  exact first l.length 0 k 0 (by omega) (by simp [BIG] at hk; omega) (Int.le_refl _) (Int.le_refl _)
theorem spec_l15Round.ok {k : Nat} (hk : BIG ≤ k) {b : List Int} {i : Int} (h : Int) (hc : Cur b i) {p : Int} (p1 : p ≤ 6) : ∃ l i' h', spec_l15Round.f k b i h p = some (l, b, i', h') ∧ Cur b i' ∧ l.length ≤ 6 := by
  have key : ∀ (m j n : Nat) (i h : Int) (l : List Int), (j + m : Int) = 6 → m < n → Cur b i → l.length = j → (∀ x ∈ l, 0 ≤ x ∧ x ≤ 19) → ∃ l' i' h', spec_l15Round.l3 k p (fun x2 x3 x4 x5 => (spec_FromTricks.f k x2).bind fun r6 => some (r6, x3, x4, x5)) n (j : Int) b i h l = some (l', b, i', h') ∧ Cur b i' ∧ l'.length ≤ 6 := by
    intro m
    have fin : ∀ (j n : Nat) (i h : Int) (l : List Int), ¬ (j : Int) < p → Cur b i → l.length ≤ 6 → (∀ x ∈ l, 0 ≤ x ∧ x ≤ 19) → ∃ l' i' h', spec_l15Round.l3 k p (fun x2 x3 x4 x5 => (spec_FromTricks.f k x2).bind fun r6 => some (r6, x3, x4, x5)) (n + 1) (j : Int) b i h l = some (l', b, i', h') ∧ Cur b i' ∧ l'.length ≤ 6 := fun j n i h l hp c hl hx => by
      obtain ⟨r, e, hr⟩ := spec_FromTricks.ok hk hl hx
      exact ⟨r, i, h, (spec_l15Round.l3_succ ..).trans ((bif_f (dec_f hp)).trans (bind_s e)), c, hr⟩
    induction m with
    | zero =>
      intro j n i h l hj hn c hl hx
      obtain ⟨n, rfl⟩ : ∃ n', n = n' + 1 := ⟨n - 1, by omega⟩
      exact fin j n i h l (by omega) c (by omega) hx
    | succ m ih =>
      intro j n i h l hj hn c hl hx
      obtain ⟨n, rfl⟩ : ∃ n', n = n' + 1 := ⟨n - 1, by omega⟩
      by_cases hp : (j : Int) < p
      · obtain ⟨x, i1, h1, e1, c1, q1, q2, _⟩ := spec_l1Below.ok k h 20 c
        have q2 := q2 (by omega)
        obtain ⟨l', i', h', e, c', hl'⟩ := ih (j + 1) n i1 h1 (l ++ [x]) (by omega) (by omega) c1 (by simp [hl]) (fun y hy => by
          rcases List.mem_append.1 hy with hy | hy
          · exact hx y hy
          · simp at hy; subst hy; omega)
        refine ⟨l', i', h', (spec_l15Round.l3_succ ..).trans ((bif_t (dec_t hp)).trans ((bind_s e1).trans ((chk_t (rm8 (by omega))).trans ?_))), c', hl'⟩
        rw [wrap_up (by omega)]
        exact e
      · exact fin j n i h l hp c (by omega) hx
  exact key 6 0 k i h [] (by omega) (by simp [BIG] at hk; omega) hc rfl (fun x hx => by cases hx)
/-- Rounds of at most ten numbers. -/
def shortRows (l : List (List Int)) : Prop := l.length ≤ 10 ∧ ∀ y ∈ l, y.length ≤ 10
theorem spec_l15Any.ok {k : Nat} (hk : BIG ≤ k) {b : List Int} {i : Int} (h : Int) (hc : Cur b i) : ∃ p l i' h', spec_l15Any.f k b i h = some (p, l, b, i', h') ∧ Cur b i' ∧ shortRows l := by
  obtain ⟨x, i1, h1, e1, c1, p1, p2, _⟩ := spec_l1Below.ok k h 4 hc
  obtain ⟨y, i2, h2, e2, c2, q1, q2, _⟩ := spec_l1Below.ok k h1 6 c1
  have p2 := p2 (by omega)
  have q2 := q2 (by omega)
  have add : ∀ (l : List (List Int)) (z : List Int), l.length ≤ 5 → (∀ y ∈ l, y.length ≤ 10) → z.length ≤ 10 → shortRows (l ++ [z]) := fun l z hl hx hz => ⟨by simp; omega, fun y hy => by
    rcases List.mem_append.1 hy with hy | hy
    · exact hx y hy
    · simp at hy; subst hy; exact hz⟩
  generalize hE : (fun x4 x5 x6 x7 =>
    (spec_l1Below.f k x4 x5 x6 10).bind fun r8 =>
    bif (r8.1 == 0) then
     (spec_l1Int.f k r8.2.1 (t2 r8).1 (t3 r8) [1, 6, 7, (-1)]).bind fun r9 =>
     some (r9.1, x7, r9.2.1, (t2 r9).1, (t3 r9))
    else
     bif (r8.1 == 1) then
      chk (decide ((x7.length + 1) * 24 ≤ room)) <|
      some (IntKind.wrap .i64 (2 + x), x7 ++ ([[1000, (-1000)]]), r8.2.1, (t2 r8).1, (t3 r8))
     else
      bif (r8.1 == 2) then
       chk (decide ((x7.length + 1) * 24 ≤ room)) <|
       some (IntKind.wrap .i64 (2 + x), x7 ++ ([[1, 1]]), r8.2.1, (t2 r8).1, (t3 r8))
      else
       some (IntKind.wrap .i64 (2 + x), x7, r8.2.1, (t2 r8).1, (t3 r8)) : LI → Int → Int → LL → Option (Int × LL × LI × Int × Int)) = E
  have hEok : ∀ (i h : Int) (l : List (List Int)), Cur b i → l.length ≤ 5 → (∀ y ∈ l, y.length ≤ 10) → ∃ p l' i' h', E b i h l = some (p, l', b, i', h') ∧ Cur b i' ∧ shortRows l' := fun i h l c hl hx => by
    subst hE
    obtain ⟨z, i3, h3, e3, c3, _⟩ := spec_l1Below.ok k h 10 c
    have own : shortRows l := ⟨by omega, hx⟩
    cases z0 : (z == 0) with
    | true =>
      obtain ⟨u, i4, h4, e4, c4, _⟩ := spec_l1Int.ok k h3 (l := [1, 6, 7, (-1)]) (by simp) c3
      exact ⟨u, l, i4, h4, (bind_s e3).trans ((bif_t z0).trans (bind_s e4)), c4, own⟩
    | false =>
      cases z1 : (z == 1) with
      | true => exact ⟨_, _, i3, h3, (bind_s e3).trans ((bif_f z0).trans ((bif_t z1).trans (chk_t (rm24 (by omega))))), c3, add l _ hl hx (by simp)⟩
      | false =>
        cases z2 : (z == 2) with
        | true => exact ⟨_, _, i3, h3, (bind_s e3).trans ((bif_f z0).trans ((bif_f z1).trans ((bif_t z2).trans (chk_t (rm24 (by omega)))))), c3, add l _ hl hx (by simp)⟩
        | false => exact ⟨_, l, i3, h3, (bind_s e3).trans ((bif_f z0).trans ((bif_f z1).trans (bif_f z2))), c3, own⟩
  have key : ∀ (m n : Nat) (i h : Int) (l : List (List Int)), m < n → Cur b i → l.length + m ≤ 5 → (∀ y ∈ l, y.length ≤ 10) → ∃ p l' i' h', spec_l15Any.l4 k (IntKind.wrap .i64 (2 + x)) E n (m : Int) b i h l = some (p, l', b, i', h') ∧ Cur b i' ∧ shortRows l' := by
    intro m
    induction m with
    | zero =>
      intro n i h l hn c hl hx
      obtain ⟨n, rfl⟩ : ∃ n', n = n' + 1 := ⟨n - 1, by omega⟩
      obtain ⟨p, l', i', h', e, c', hs⟩ := hEok i h l c (by omega) hx
      exact ⟨p, l', i', h', (spec_l15Any.l4_succ ..).trans ((bif_f rfl).trans e), c', hs⟩
    | succ m ih =>
      intro n i h l hn c hl hx
      obtain ⟨n, rfl⟩ : ∃ n', n = n' + 1 := ⟨n - 1, by omega⟩
      obtain ⟨r, i3, h3, e3, c3, hr⟩ := spec_l15Round.ok hk h c (p := IntKind.wrap .i64 (2 + x)) (by rw [wrap_i64 (by omega) (by omega)]; omega)
      obtain ⟨p, l', i', h', e, c', hs⟩ := ih n i3 h3 (l ++ [r]) (by omega) c3 (by simp; omega) (fun y hy => by
        rcases List.mem_append.1 hy with hy | hy
        · exact hx y hy
        · simp at hy; subst hy; omega)
      refine ⟨p, l', i', h', (spec_l15Any.l4_succ ..).trans ((bif_t (dec_t (by omega))).trans ((bind_s e3).trans ((chk_t (rm24 (by omega))).trans ?_))), c', hs⟩
      rw [wrap_i64 (n := ((m + 1 : Nat) : Int) - 1) (by omega) (by omega), show ((m + 1 : Nat) : Int) - 1 = (m : Int) by omega]
      exact e
  obtain ⟨p, l', i', h', e, c', hs⟩ := key y.toNat k i2 h2 [] (by simp [BIG] at hk; omega) c2 (by simp; omega) (fun y hy => by cases hy)
  rw [show ((y.toNat : Nat) : Int) = y by omega] at e
  subst hE
  exact ⟨p, l', i', h', (bind_s e1).trans ((bind_s e2).trans e), c', hs⟩
theorem spec_DrawIsSheet.ok {k : Nat} (hk : BIG ≤ k) {a : List Int} (ha : a.length < 1048577) : ∃ p l, spec_DrawIsSheet.f k a = some (p, l) ∧ shortRows l := by
  obtain ⟨h0, e0, c0⟩ := spec_l1New.ok hk ha
  obtain ⟨p, l, i1, h1, e1, c1, hs⟩ := spec_l15Any.ok hk h0 c0
  exact ⟨p, l, (bind_s e0).trans (bind_s e1), hs⟩
theorem spec_DrawTotalOf.ok {k : Nat} (hk : BIG ≤ k) {a : List Int} (ha : a.length < 1048577) : ∃ p l w, spec_DrawTotalOf.f k a = some (p, l, w) ∧ shortRows l := by
  obtain ⟨h0, e0, c0⟩ := spec_l1New.ok hk ha
  obtain ⟨p, l, i1, h1, e1, c1, hs⟩ := spec_l15Any.ok hk h0 c0
  obtain ⟨x, i2, h2, e2, c2, _⟩ := spec_l1Below.ok k h1 7 c1
  exact ⟨p, l, _, (bind_s e0).trans ((bind_s e1).trans (bind_s e2)), hs⟩
end Go.Proofs.YtfbafmeeejmgoaaGreat
