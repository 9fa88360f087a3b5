/- The program's FirstApart and the reference's give the same place for all two lists; condition: none beside the statement's own. -/
import Derived.Test.YtfkejiljabmaaaaPFnExactFirstApartx1
namespace Go.Proofs.Ytfkejiljabmaaaa.Pure
open Go.RowKit Go.Proofs.Ytfkejiljabmaaaa.PFnExactFirstApart Go.Proofs.YtfkejiljabmaaaaW.PrintWords Go.Proofs.YtfkejiljabmaaaaW.PrintLast

theorem wrap64_eq (n : Int) (h0 : 0 ≤ n) (h1 : n < 9223372036854775808) : wrap64 n = n := by
  unfold wrap64; omega

theorem apart_loops (x y : List Int) (hx : x.length ≤ maxLen) (_hy : y.length ≤ maxLen) : ∀ m i : Nat, i + m = max x.length y.length →
    ∃ r, (∀ k, 2 * m + 2 ≤ k → spec_FirstApart.l0 k x y i = some r) ∧ (∀ k, m + 1 ≤ k → impl_FirstApart.l0 k x y (mx (x.length : Int) (y.length : Int)) i = some r) := by
  have hM : maxLen = 9223372036854775807 := by decide
  have hmx : mx (x.length : Int) (y.length : Int) = ((max x.length y.length : Nat) : Int) := by unfold mx; split <;> omega
  intro m
  induction m with
  | zero =>
    intro i hi
    refine ⟨-1, ?_, ?_⟩
    · intro k hk
      obtain ⟨k, rfl⟩ : ∃ j, k = j + 2 := ⟨k - 2, by omega⟩
      simp only [spec_FirstApart.l0, spec_FirstApart.j1]
      rw [if_neg (by omega)]
      have : ¬ (i : Int) < y.length := by omega
      simp [this]
    · intro k hk
      obtain ⟨k, rfl⟩ : ∃ j, k = j + 1 := ⟨k - 1, by omega⟩
      simp only [impl_FirstApart.l0]
      rw [if_neg (by rw [hmx]; omega)]
  | succ m ih =>
    intro i hi
    by_cases h1 : (i : Int) ≥ x.length
    · refine ⟨i, ?_, ?_⟩
      · intro k hk
        obtain ⟨k, rfl⟩ : ∃ j, k = j + 2 := ⟨k - 2, by omega⟩
        have h2 : (i : Int) < y.length := by omega
        simp only [spec_FirstApart.l0, spec_FirstApart.j1]
        rw [if_neg (by omega)]
        simp [h2, h1]
      · intro k hk
        obtain ⟨k, rfl⟩ : ∃ j, k = j + 1 := ⟨k - 1, by omega⟩
        simp only [impl_FirstApart.l0]
        rw [if_pos (by rw [hmx]; omega), if_pos h1]
    · by_cases h2 : (i : Int) ≥ y.length
      · refine ⟨i, ?_, ?_⟩
        · intro k hk
          obtain ⟨k, rfl⟩ : ∃ j, k = j + 2 := ⟨k - 2, by omega⟩
          simp only [spec_FirstApart.l0, spec_FirstApart.j1]
          rw [if_pos (by omega)]
          simp [h2, h1]
        · intro k hk
          obtain ⟨k, rfl⟩ : ∃ j, k = j + 1 := ⟨k - 1, by omega⟩
          simp only [impl_FirstApart.l0]
          rw [if_pos (by rw [hmx]; omega), if_neg h1, if_pos h2]
      · by_cases h3 : rd x i = rd y i
        · obtain ⟨r, hs, hp⟩ := ih (i + 1) (by omega)
          have hw : wrap64 ((i : Int) + 1) = ((i + 1 : Nat) : Int) := by rw [wrap64_eq _ (by omega) (by omega)]; omega
          refine ⟨r, ?_, ?_⟩
          · intro k hk
            obtain ⟨k, rfl⟩ : ∃ j, k = j + 2 := ⟨k - 2, by omega⟩
            simp only [spec_FirstApart.l0, spec_FirstApart.j1]
            rw [if_pos (by omega), if_pos trivial, if_neg h1, if_neg h2, if_pos (by omega), if_pos (by omega), if_pos (by omega), if_pos h3, hw]
            exact hs k (by omega)
          · intro k hk
            obtain ⟨k, rfl⟩ : ∃ j, k = j + 1 := ⟨k - 1, by omega⟩
            simp only [impl_FirstApart.l0]
            rw [if_pos (by rw [hmx]; omega), if_neg h1, if_neg h2, if_pos (by omega), if_pos (by omega), if_pos (by omega), if_pos h3, hw]
            exact hp k (by omega)
        · refine ⟨i, ?_, ?_⟩
          · intro k hk
            obtain ⟨k, rfl⟩ : ∃ j, k = j + 2 := ⟨k - 2, by omega⟩
            simp only [spec_FirstApart.l0, spec_FirstApart.j1]
            rw [if_pos (by omega), if_pos trivial, if_neg h1, if_neg h2, if_pos (by omega), if_pos (by omega), if_pos (by omega), if_neg h3]
          · intro k hk
            obtain ⟨k, rfl⟩ : ∃ j, k = j + 1 := ⟨k - 1, by omega⟩
            simp only [impl_FirstApart.l0]
            rw [if_pos (by rw [hmx]; omega), if_neg h1, if_neg h2, if_pos (by omega), if_pos (by omega), if_pos (by omega), if_neg h3]

theorem toInt_loop (x : List Int) (hx : x.length ≤ maxLen) : ∀ m i : Nat, i + m = x.length → ∀ o : List Int, o.length = x.length → (∀ j, j < i → o.getD j 0 = x.getD j 0) →
    ∀ k, m + 1 ≤ k → laws_toIntS.l0 k x o i = some x := by
  have hM : maxLen = 9223372036854775807 := by decide
  intro m
  induction m with
  | zero =>
    intro i hi o ho hj k hk
    obtain ⟨k, rfl⟩ : ∃ j, k = j + 1 := ⟨k - 1, by omega⟩
    simp only [laws_toIntS.l0]
    rw [if_neg (by omega)]
    congr 1
    apply List.ext_getElem ho
    intro j h1 h2
    have := hj j (by omega)
    simpa [List.getD, List.getElem?_eq_getElem h1, List.getElem?_eq_getElem h2] using this
  | succ m ih =>
    intro i hi o ho hj k hk
    obtain ⟨k, rfl⟩ : ∃ j, k = j + 1 := ⟨k - 1, by omega⟩
    simp only [laws_toIntS.l0]
    have hw : wrap64 ((i : Int) + 1) = ((i + 1 : Nat) : Int) := by rw [wrap64_eq _ (by omega) (by omega)]; omega
    rw [if_pos (by omega), if_pos (by omega), if_pos (by omega), hw]
    refine ih (i + 1) (by omega) _ (by simp [ho]) ?_ k (by omega)
    intro j hjj
    have hi2 : i < o.length := by omega
    simp only [List.getD, Int.toNat_natCast, rd]
    by_cases e : j = i
    · subst e; simp [hi2]
    · rw [List.getElem?_set_ne (by omega)]
      have := hj j (by omega)
      simpa [List.getD] using this

theorem toInt_f (x : List Int) (h8 : (x.length : Int) ≤ 1048576) (k : Nat) (hk : x.length + 1 ≤ k) : laws_toIntS.f k x = some x := by
  have hM : maxLen = 9223372036854775807 := by decide
  unfold laws_toIntS.f
  rw [if_pos (by omega), if_pos (by omega)]
  exact toInt_loop x (by omega) x.length 0 (by omega) _ (by simp) (by intro j hj; omega) k hk

theorem eqInt_loop (x : List Int) (hx : x.length ≤ maxLen) : ∀ m i : Nat, i + m = x.length → ∀ k, m + 1 ≤ k → laws_eqIntS.l0 k x x i = some true := by
  have hM : maxLen = 9223372036854775807 := by decide
  intro m
  induction m with
  | zero =>
    intro i hi k hk
    obtain ⟨k, rfl⟩ : ∃ j, k = j + 1 := ⟨k - 1, by omega⟩
    simp only [laws_eqIntS.l0]
    rw [if_neg (by omega)]
  | succ m ih =>
    intro i hi k hk
    obtain ⟨k, rfl⟩ : ∃ j, k = j + 1 := ⟨k - 1, by omega⟩
    simp only [laws_eqIntS.l0]
    have hw : wrap64 ((i : Int) + 1) = ((i + 1 : Nat) : Int) := by rw [wrap64_eq _ (by omega) (by omega)]; omega
    rw [if_pos (by omega), if_pos (by omega), if_pos (by omega), if_pos trivial, hw]
    exact ih (i + 1) (by omega) k (by omega)

theorem eqInt_f (x : List Int) (hx : x.length ≤ maxLen) (k : Nat) (hk : x.length + 1 ≤ k) : laws_eqIntS.f k x x = some true := by
  unfold laws_eqIntS.f
  rw [if_pos rfl]
  exact eqInt_loop x hx x.length 0 (by omega) k hk

theorem FnExactFirstApart : laws_FnExactFirstApart.Pure := by
  intro x y hx _ _ hy _ _
  refine ⟨2 * max x.length y.length + 2, ?_⟩
  unfold laws_FnExactFirstApart.f
  by_cases h1 : (x.length : Int) > 1048576
  · rw [if_pos h1]
  rw [if_neg h1]
  by_cases h2 : (y.length : Int) > 1048576
  · rw [if_pos h2]
  rw [if_neg h2]
  obtain ⟨r, hs, hp⟩ := apart_loops x y hx hy (max x.length y.length) 0 (by omega)
  have es : spec_FirstApart.f (2 * max x.length y.length + 2) x y = some r := hs _ (by omega)
  have ep : impl_FirstApart.f (2 * max x.length y.length + 2) x y = some r := hp _ (by omega)
  rw [toInt_f x (by omega) _ (by omega), toInt_f y (by omega) _ (by omega)]
  simp only [Option.bind_some, es, ep, if_true, eqInt_f x hx _ (show x.length + 1 ≤ 2 * max x.length y.length + 2 by omega), eqInt_f y hy _ (show y.length + 1 ≤ 2 * max x.length y.length + 2 by omega)]

end Go.Proofs.Ytfkejiljabmaaaa.Pure
