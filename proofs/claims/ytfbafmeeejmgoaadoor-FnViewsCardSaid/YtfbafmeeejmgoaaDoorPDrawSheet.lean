/- Drawn rounds and sheets, in plain Lean. Conditions: enough rounds, a code of at most 2^20 bytes. -/
import Derived.Test.YtfbafmeeejmgoaaDoorKit
import Derived.Test.YtfbafmeeejmgoaaDoorFFnViews
import Derived.Test.YtfbafmeeejmgoaaDoorPDraw
set_option linter.unusedVariables false
set_option linter.unusedSimpArgs false
namespace Go.Proofs.YtfbafmeeejmgoaaDoor
open Go Go.Proofs.YtfbafmeeejmgoaaDoor.V
theorem spec_FromTricks.ok {k : Nat} (hk : BIG ≤ k) {l : List Int} (hl : l.length ≤ 6) (hx : ∀ x ∈ l, 0 ≤ x ∧ x ≤ 19) : ∃ r, spec_FromTricks.f k l = some r ∧ r.length ≤ 6 := by
  have second : ∀ (s : Int), 0 ≤ s → s ≤ 200 → ∀ (m i n : Nat) (r : List Int), i + m = l.length → m < n → r.length = i → ∃ r', spec_FromTricks.l10 k l s (fun x6 => some x6) n (i : Int) r = some r' ∧ r'.length ≤ 6 := by
    intro s s0 s1 m
    induction m with
    | zero =>
      intro i n r hi hn hr
      obtain ⟨n, rfl⟩ : ∃ n', n = n' + 1 := ⟨n - 1, by omega⟩
      exact ⟨r, (spec_FromTricks.l10_succ ..).trans (bif_f (dec_f (by omega))), by omega⟩
    | succ m ih =>
      intro i n r hi hn hr
      obtain ⟨n, rfl⟩ : ∃ n', n = n' + 1 := ⟨n - 1, by omega⟩
      have h : i < l.length := by omega
      have hb := hx _ (List.getElem_mem h)
      cases hin : inR (l.length : Int) 2 6 with
      | false => exact ⟨r, (spec_FromTricks.l10_succ ..).trans ((bif_t (dec_t (by omega))).trans ((bind_s (spec_l1In.eq ..)).trans (bif_f hin))), by omega⟩
      | true =>
        obtain ⟨r', e, hr'⟩ := ih (i + 1) n (r ++ [IntKind.wrap .i64 ((IntKind.wrap .i64 ((l.length : Int) * l[i])) - s)]) (by omega) (by omega) (by simp [hr])
        refine ⟨r', (spec_FromTricks.l10_succ ..).trans ((bif_t (dec_t (by omega))).trans ((bind_s (spec_l1In.eq ..)).trans ((bif_t hin).trans ((chk_t (in_t h)).trans ((chk_t (rm8 (by omega))).trans ?_))))), hr'⟩
        rw [Int.toNat_natCast, getD_lt _ h, wrap_up (by omega)]
        exact e
  have first : ∀ (m i n : Nat) (s : Int), i + m = l.length → m < n → 0 ≤ s → s ≤ 20 * (i : Int) → ∃ r, spec_FromTricks.l3 k l (fun x2 x3 => some x3) (fun x4 => spec_FromTricks.l10 k l x4 (fun x6 => some x6) k 0 []) n s (i : Int) = some r ∧ r.length ≤ 6 := by
    intro m
    induction m with
    | zero =>
      intro i n s hi hn s0 s1
      obtain ⟨n, rfl⟩ : ∃ n', n = n' + 1 := ⟨n - 1, by omega⟩
      obtain ⟨r, e, hr⟩ := second s s0 (by omega) l.length 0 k [] (by omega) (by simp [BIG] at hk; omega) rfl
      exact ⟨r, (spec_FromTricks.l3_succ ..).trans ((bif_f (dec_f (by omega))).trans e), hr⟩
    | succ m ih =>
      intro i n s hi hn s0 s1
      obtain ⟨n, rfl⟩ : ∃ n', n = n' + 1 := ⟨n - 1, by omega⟩
      have h : i < l.length := by omega
      have hb := hx _ (List.getElem_mem h)
      obtain ⟨r, e, hr⟩ := ih (i + 1) n (s + l[i]) (by omega) (by omega) (by omega) (by omega)
      have hin : inR l[i] 0 200 = true := inR_iff.2 (by omega)
      refine ⟨r, (spec_FromTricks.l3_succ ..).trans ((bif_t (dec_t (by omega))).trans ((chk_t (in_t h)).trans ?_)), hr⟩
      rw [Int.toNat_natCast, getD_lt _ h, wrap_up (by omega)]
      refine (bind_s (spec_l1In.eq ..)).trans ((bif_f (by rw [hin]; rfl)).trans ((chk_t (in_t h)).trans ?_))
      rw [wrap_i64 (by omega) (by omega)]
      exact e
  exact first l.length 0 k 0 (by omega) (by simp [BIG] at hk; omega) (Int.le_refl _) (Int.le_refl _)
theorem spec_l15Round.ok {k : Nat} (hk : BIG ≤ k) {b : List Int} {i : Int} (h : Int) (hc : Cur b i) {p : Int} (p1 : p ≤ 6) : ∃ l i' h', spec_l15Round.f k b i h p = some (l, b, i', h') ∧ Cur b i' ∧ l.length ≤ 6 := by
  have key : ∀ (m j n : Nat) (i h : Int) (l : List Int), (j + m : Int) = 6 → m < n → Cur b i → l.length = j → (∀ x ∈ l, 0 ≤ x ∧ x ≤ 19) → ∃ l' i' h', spec_l15Round.l3 k p (fun x2 x3 x4 x5 => (spec_FromTricks.f k x2).bind fun r6 => some (r6, x3, x4, x5)) n (j : Int) b i h l = some (l', b, i', h') ∧ Cur b i' ∧ l'.length ≤ 6 := by
    intro m
    have fin : ∀ (j n : Nat) (i h : Int) (l : List Int), ¬ (j : Int) < p → Cur b i → l.length ≤ 6 → (∀ x ∈ l, 0 ≤ x ∧ x ≤ 19) → ∃ l' i' h', spec_l15Round.l3 k p (fun x2 x3 x4 x5 => (spec_FromTricks.f k x2).bind fun r6 => some (r6, x3, x4, x5)) (n + 1) (j : Int) b i h l = some (l', b, i', h') ∧ Cur b i' ∧ l'.length ≤ 6 := fun j n i h l hp c hl hx => by
      obtain ⟨r, e, hr⟩ := spec_FromTricks.ok hk hl hx
      exact ⟨r, i, h, (spec_l15Round.l3_succ ..).trans ((bif_f (dec_f hp)).trans (bind_s e)), c, hr⟩
    induction m with
    | zero =>
      intro j n i h l hj hn c hl hx
      obtain ⟨n, rfl⟩ : ∃ n', n = n' + 1 := ⟨n - 1, by omega⟩
      exact fin j n i h l (by omega) c (by omega) hx
    | succ m ih =>
      intro j n i h l hj hn c hl hx
      obtain ⟨n, rfl⟩ : ∃ n', n = n' + 1 := ⟨n - 1, by omega⟩
      by_cases hp : (j : Int) < p
      · obtain ⟨x, i1, h1, e1, c1, q1, q2, _⟩ := spec_l1Below.ok k h 20 c
        have q2 := q2 (by omega)
        obtain ⟨l', i', h', e, c', hl'⟩ := ih (j + 1) n i1 h1 (l ++ [x]) (by omega) (by omega) c1 (by simp [hl]) (fun y hy => by
          rcases List.mem_append.1 hy with hy | hy
          · exact hx y hy
          · simp at hy; subst hy; omega)
        refine ⟨l', i', h', (spec_l15Round.l3_succ ..).trans ((bif_t (dec_t hp)).trans ((bind_s e1).trans ((chk_t (rm8 (by omega))).trans ?_))), c', hl'⟩
        rw [wrap_up (by omega)]
        exact e
      · exact fin j n i h l hp c (by omega) hx
  exact key 6 0 k i h [] (by omega) (by simp [BIG] at hk; omega) hc rfl (fun x hx => by cases hx)
/-- Rounds of at most ten numbers. -/
def shortRows (l : List (List Int)) : Prop := l.length ≤ 10 ∧ ∀ y ∈ l, y.length ≤ 10
end Go.Proofs.YtfbafmeeejmgoaaDoor
