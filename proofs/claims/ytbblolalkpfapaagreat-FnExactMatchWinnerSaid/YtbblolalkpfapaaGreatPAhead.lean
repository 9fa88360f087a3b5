/- Who is ahead, in plain Lean. Conditions: enough rounds, lists of at most 2^20. -/
import Derived.Test.YtbblolalkpfapaaGreatKit
import Derived.Test.YtbblolalkpfapaaGreatFFnExactMatchWinner
import Derived.Test.YtbblolalkpfapaaGreatPSheet
set_option linter.unusedVariables false
set_option linter.unusedSimpArgs false
namespace Go.Proofs.YtbblolalkpfapaaGreat
open Go Go.Proofs.YtbblolalkpfapaaGreat.V
theorem isSheet_ok {n : Int} {s : List (List Int)} (h : isSheet n s = true) : (2 ≤ n ∧ n ≤ 6) ∧ s.length ≤ 50 ∧ ∀ r ∈ s, (r.length : Int) = n ∧ ∀ x ∈ r, -1000 ≤ x ∧ x ≤ 1000 := by
  unfold isSheet at h
  simp only [Bool.and_eq_true, decide_eq_true_eq] at h
  refine ⟨inR_iff.1 h.1.1, by omega, fun r hr => ?_⟩
  have h2 := List.all_eq_true.1 h.2 r hr
  unfold isRound points at h2
  simp only [Bool.and_eq_true, beq_iff_eq, List.all_eq_true] at h2
  exact ⟨h2.1.1.2, fun x hx => inR_iff.1 (h2.1.2 x hx)⟩
def totalOf (n : Int) (s : List (List Int)) (who : Int) : Int := bif isSheet n s && inR who 0 (n - 1) then (s.map fun r => r.getD who.toNat 0).sum else 0
theorem foldl_at (w : Nat) : ∀ (l : List (List Int)) (b : Int), l.foldl (fun b a => b + a.getD w 0) b = b + (l.map fun r => r.getD w 0).sum
  | [], b => by simp
  | a :: l, b => by rw [List.foldl_cons, foldl_at w l, List.map_cons, List.sum_cons]; omega
theorem impl_TotalOf.eq {k : Nat} (hk : BIG ≤ k) (n : Int) {s : List (List Int)} (who : Int) (hs : s.length < 1048577) (hs2 : ∀ y ∈ s, y.length < 1048577) : impl_TotalOf.f k n s who = some (totalOf n s who) := by
  refine (bind_s (impl_IsSheet.eq hk n hs hs2)).trans ?_
  unfold totalOf
  cases h : isSheet n s with
  | false => rfl
  | true =>
    obtain ⟨h1, h2, h3⟩ := isSheet_ok h
    refine (bif_f rfl).trans ((bind_s (impl_InRange.eq ..)).trans ?_)
    rw [wrap_i64 (by omega) (by omega)]
    cases hw : inR who 0 (n - 1) with
    | false => rfl
    | true =>
      have hw' := inR_iff.1 hw
      refine (bif_f rfl).trans ?_
      have h := scan (B := Int) s (fun m b i => impl_TotalOf.l5 k who s (s.length : Int) (fun x3 => some x3) m b i) (fun _ _ => true) (fun b a => b + a.getD who.toNat 0) (fun x => some x) (fun _ _ => none) (fun i b => -1000 * (i : Int) ≤ b ∧ b ≤ 1000 * (i : Int))
        (fun m b i h hI => by
          obtain ⟨g1, g2⟩ := h3 _ (List.getElem_mem h)
          have g3 := g2 _ (getD_mem (l := s[i]) (i := who.toNat) 0 (by omega))
          refine (impl_TotalOf.l5_succ ..).trans ((bif_t (dec_t (by omega))).trans ((chk_t (in_t h)).trans ?_))
          rw [Int.toNat_natCast, getD_lt (l := s) _ h, wrap_up (by omega), wrap_i64 (by omega) (by omega)]
          exact chk_t (and_t (dec_t (by omega)) (dec_t (by omega))))
        (fun b i h hI _ => by
          obtain ⟨g1, g2⟩ := h3 _ (List.getElem_mem h)
          have g3 := g2 _ (getD_mem (l := s[i]) (i := who.toNat) 0 (by omega))
          omega)
        (fun m b hI => (impl_TotalOf.l5_succ ..).trans (bif_f (dec_f (by omega))))
        s.length 0 k 0 (by omega) (BIG_lt hk hs) (by simp)
      refine h.trans ?_
      rw [List.drop_zero, run_fold, foldl_at, Int.zero_add]
      rfl
theorem spec_TotalOf.eq {k : Nat} (hk : BIG ≤ k) (n : Int) {s : List (List Int)} (who : Int) (hs : s.length < 1048577) (hs2 : ∀ y ∈ s, y.length < 1048577) : spec_TotalOf.f k n s who = some (totalOf n s who) := by
  have hsh := spec_IsSheet.eq hk n hs hs2
  unfold totalOf
  cases h : (isSheet n s && inR who 0 (n - 1)) with
  | false =>
    obtain ⟨k0, hk0⟩ : ∃ n', k = n' + 1 := ⟨k - 1, by simp [BIG] at hk; omega⟩
    have e : spec_TotalOf.f k n s who = spec_TotalOf.l3 k n s who (fun x3 => some x3) (k0 + 1) 0 0 := by rw [← hk0]; rfl
    refine e.trans ((spec_TotalOf.l3_succ ..).trans ?_)
    by_cases hz : (0 : Int) < (s.length : Int)
    · refine (bif_t (dec_t hz)).trans ((bind_s hsh).trans ?_)
      cases h1 : isSheet n s with
      | false => rfl
      | true =>
        have := (isSheet_ok h1).1
        rw [h1, Bool.true_and] at h
        refine (bif_t rfl).trans ((bind_s (spec_l1In.eq ..)).trans ?_)
        rw [wrap_i64 (by omega) (by omega), h]; rfl
    · exact bif_f (dec_f hz)
  | true =>
    obtain ⟨h0, hw⟩ := Bool.and_eq_true_iff.1 h
    obtain ⟨h1, h2, h3⟩ := isSheet_ok h0
    have hw' := inR_iff.1 hw
    rw [h0] at hsh
    have h := scan (B := Int) s (fun m b i => spec_TotalOf.l3 k n s who (fun x3 => some x3) m b i) (fun _ _ => true) (fun b a => b + a.getD who.toNat 0) (fun x => some x) (fun _ _ => none) (fun i b => -1000 * (i : Int) ≤ b ∧ b ≤ 1000 * (i : Int))
      (fun m b i h hI => by
        obtain ⟨g1, g2⟩ := h3 _ (List.getElem_mem h)
        have g3 := g2 _ (getD_mem (l := s[i]) (i := who.toNat) 0 (by omega))
        refine (spec_TotalOf.l3_succ ..).trans ((bif_t (dec_t (by omega))).trans ((bind_s hsh).trans ((bif_t rfl).trans ((bind_s (spec_l1In.eq ..)).trans ?_))))
        rw [wrap_i64 (n := n - 1) (by omega) (by omega), hw]
        refine (bif_t rfl).trans ((chk_t (in_t h)).trans ?_)
        rw [Int.toNat_natCast, getD_lt (l := s) _ h, wrap_up (by omega), wrap_i64 (by omega) (by omega)]
        exact chk_t (and_t (dec_t (by omega)) (dec_t (by omega))))
      (fun b i h hI _ => by
        obtain ⟨g1, g2⟩ := h3 _ (List.getElem_mem h)
        have g3 := g2 _ (getD_mem (l := s[i]) (i := who.toNat) 0 (by omega))
        omega)
      (fun m b hI => (spec_TotalOf.l3_succ ..).trans (bif_f (dec_f (by omega))))
      s.length 0 k 0 (by omega) (BIG_lt hk hs) (by simp)
    refine h.trans ?_
    rw [List.drop_zero, run_fold, foldl_at, Int.zero_add]
    rfl
def aheadS (n : Int) (s : List (List Int)) (p : Nat) (b : Int) : Int := bif decide (totalOf n s (p : Int) > totalOf n s b) then (p : Int) else b
def aheadIn (n : Int) (s : List (List Int)) : Int := bif isSheet n s then upN (aheadS n s) (n.toNat - 1) 1 0 else -1
theorem spec_AheadIn.eq {k : Nat} (hk : BIG ≤ k) (n : Int) {s : List (List Int)} (hs : s.length < 1048577) (hs2 : ∀ y ∈ s, y.length < 1048577) : spec_AheadIn.f k n s = some (aheadIn n s) := by
  refine (bind_s (spec_IsSheet.eq hk n hs hs2)).trans ?_
  unfold aheadIn
  cases h : isSheet n s with
  | false => rfl
  | true =>
    obtain ⟨h1, h2, h3⟩ := isSheet_ok h
    refine (bif_f rfl).trans ?_
    have h := upto (B := Int) n.toNat (fun m b i => spec_AheadIn.l5 k n s (fun x4 => some x4) m b i) (aheadS n s) (fun x => some x) (fun i b => True)
      (fun m b i h hI => by
        refine (spec_AheadIn.l5_succ ..).trans ((bif_t (dec_t (by omega))).trans ((bind_s (spec_TotalOf.eq hk n _ hs hs2)).trans ((bind_s (spec_TotalOf.eq hk n _ hs hs2)).trans ?_)))
        rw [wrap_up (by omega)]
        unfold aheadS
        cases decide (totalOf n s (i : Int) > totalOf n s b) <;> rfl)
      (fun b i h hI => trivial)
      (fun m b hI => (spec_AheadIn.l5_succ ..).trans (bif_f (dec_f (by omega))))
      (n.toNat - 1) 1 k 0 (by omega) (by simp [BIG] at hk; omega) trivial
    exact h
theorem impl_AheadIn.eq {k : Nat} (hk : BIG ≤ k) (n : Int) {s : List (List Int)} (hs : s.length < 1048577) (hs2 : ∀ y ∈ s, y.length < 1048577) : impl_AheadIn.f k n s = some (aheadIn n s) := by
  refine (bind_s (impl_IsSheet.eq hk n hs hs2)).trans ?_
  unfold aheadIn
  cases h : isSheet n s with
  | false => rfl
  | true =>
    obtain ⟨h1, h2, h3⟩ := isSheet_ok h
    refine (bif_f rfl).trans ?_
    have h := upto (B := Int) n.toNat (fun m b i => impl_AheadIn.l5 k n s n (fun x4 => some x4) m b i) (aheadS n s) (fun x => some x) (fun i b => True)
      (fun m b i h hI => by
        refine (impl_AheadIn.l5_succ ..).trans ((bif_t (dec_t (by omega))).trans ((bind_s (impl_TotalOf.eq hk n _ hs hs2)).trans ((bind_s (impl_TotalOf.eq hk n _ hs hs2)).trans ?_)))
        rw [wrap_up (by omega)]
        unfold aheadS
        cases decide (totalOf n s (i : Int) > totalOf n s b) <;> rfl)
      (fun b i h hI => trivial)
      (fun m b hI => (impl_AheadIn.l5_succ ..).trans (bif_f (dec_f (by omega))))
      n.toNat 0 k 0 (by omega) (by simp [BIG] at hk; omega) trivial
    refine h.trans ?_
    obtain ⟨j, hj⟩ : ∃ j, n.toNat = j + 1 := ⟨n.toNat - 1, by omega⟩
    rw [hj]
    show some (upN (aheadS n s) j 1 (aheadS n s 0 0)) = some (upN (aheadS n s) (j + 1 - 1) 1 0)
    have e : aheadS n s 0 0 = 0 := by
      unfold aheadS
      cases decide (totalOf n s ((0 : Nat) : Int) > totalOf n s 0) <;> rfl
    rw [e]; rfl
end Go.Proofs.YtbblolalkpfapaaGreat
