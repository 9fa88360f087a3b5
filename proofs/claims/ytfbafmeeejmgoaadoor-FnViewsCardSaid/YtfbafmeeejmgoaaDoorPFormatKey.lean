/- What a hand is worth, as text, in plain Lean. Conditions: enough rounds, lists of at most 2^20. -/
import Derived.Test.YtfbafmeeejmgoaaDoorKit
import Derived.Test.YtfbafmeeejmgoaaDoorFFnViews
import Derived.Test.YtfbafmeeejmgoaaDoorPKey
import Derived.Test.YtfbafmeeejmgoaaDoorPItoa
set_option linter.unusedVariables false
set_option linter.unusedSimpArgs false
namespace Go.Proofs.YtfbafmeeejmgoaaDoor
open Go Go.Proofs.YtfbafmeeejmgoaaDoor.V
def kindNames : List ByteArray := [(⟨#[104, 105, 103, 104]⟩ : ByteArray), (⟨#[112, 97, 105, 114]⟩ : ByteArray), (⟨#[116, 119, 111]⟩ : ByteArray), (⟨#[116, 104, 114, 101, 101]⟩ : ByteArray), (⟨#[115, 116, 114, 97, 105, 103, 104, 116]⟩ : ByteArray), (⟨#[102, 108, 117, 115, 104]⟩ : ByteArray), (⟨#[102, 117, 108, 108]⟩ : ByteArray), (⟨#[102, 111, 117, 114]⟩ : ByteArray), (⟨#[115, 116, 114, 97, 105, 103, 104, 116, 102, 108, 117, 115, 104]⟩ : ByteArray)]
def kindName (c : Int) : ByteArray := kindNames.getD c.toNat ByteArray.empty
theorem kindName_le (c : Int) : (kindName c).size ≤ 13 := by
  unfold kindName
  rcases Nat.lt_or_ge c.toNat 9 with h | h
  · have : c.toNat = 0 ∨ c.toNat = 1 ∨ c.toNat = 2 ∨ c.toNat = 3 ∨ c.toNat = 4 ∨ c.toNat = 5 ∨ c.toNat = 6 ∨ c.toNat = 7 ∨ c.toNat = 8 := by omega
    rcases this with h | h | h | h | h | h | h | h | h <;> rw [h] <;> decide
  · rw [List.getD_eq_getElem?_getD, List.getElem?_eq_none (by exact h)]
    exact Nat.zero_le _
theorem impl_KindName.eq (k : Nat) {c : Int} (h : 0 ≤ c ∧ c ≤ 8) : impl_KindName.f k c = some (kindName c) := by
  refine (bind_s (impl_InRange.eq ..)).trans ((bif_f ?_).trans (chk_t (and_t (dec_t h.1) (dec_t (by omega)))))
  rw [inR_iff.2 h]; rfl
theorem kind_rng (l : List Int) : 0 ≤ kindOf5 l ∧ kindOf5 l ≤ 8 := by
  unfold kindOf5
  generalize decide (strD (cnt l) 10 ≥ 0) = p
  generalize flushB l = fl
  generalize (has (cnt l) 4 == 1) = h4
  generalize (has (cnt l) 3 == 1) = h3
  generalize (has (cnt l) 2 == 1) = h21
  generalize (has (cnt l) 2 == 2) = h22
  revert p fl h4 h3 h21 h22; decide
theorem strD_le (n : List Int) : ∀ j, strD n j ≤ (j : Int) + 2
  | 0 => by simp [strD]
  | j + 1 => by
    have := strD_le n j
    unfold strD
    cases (str1 n ((j : Int) + 3) 0 && (str1 n ((j : Int) + 3) 1 && (str1 n ((j : Int) + 3) 2 && (str1 n ((j : Int) + 3) 3 && str1 n ((j : Int) + 3) 4)))) <;> simp only [cond_true, cond_false] <;> omega
/-- A key: its kind, and more behind. -/
theorem pokerKey_or (l : List Int) : pokerKey l = [] ∨ ∃ c x r, pokerKey l = c :: x :: r ∧ 0 ≤ c ∧ c ≤ 8 ∧ (∀ y ∈ x :: r, 0 ≤ y ∧ y ≤ 12) ∧ r.length ≤ 51 := by
  unfold pokerKey
  cases h1 : (isHand l && ((l.length : Int) == 5)) with
  | false => exact .inl rfl
  | true =>
    obtain ⟨h1, h2⟩ := Bool.and_eq_true_iff.1 h1
    have h5 : l.length = 5 := by have : (l.length : Int) = 5 := by simpa using h2
                                 omega
    have hF := five_hand h1 h5
    obtain ⟨k0, k8⟩ := kind_rng l
    right
    simp only [cond_true]
    by_cases h4 : strD (cnt l) 10 ≥ 0
    · rw [dec_t h4]
      have := strD_le (cnt l) 10
      refine ⟨kindOf5 l, strD (cnt l) 10, [], rfl, k0, k8, fun y hy => ?_, by simp⟩
      simp only [List.mem_cons, List.not_mem_nil, or_false] at hy
      subst hy; omega
    · rw [dec_f h4]
      have hr := ranks_rng (cnt l)
      have hl := hF.rl
      have hl1 : 1 ≤ (ranks (cnt l)).length := by
        have h := hF.l1
        have e : (ranks (cnt l)).length = (manyOf (cnt l)).length := by
          unfold ranks manyOf
          simp only [List.length_append, downC_rep, List.length_replicate]
        omega
      cases hq : ranks (cnt l) with
      | nil => rw [hq] at hl1; simp at hl1
      | cons x r =>
        rw [hq] at hr hl
        exact ⟨kindOf5 l, x, r, rfl, k0, k8, hr, by simpa using hl⟩
def keyText (l : List Int) : ByteArray := bif ((pokerKey l).length : Int) == 0 then ⟨#[45]⟩ else kindName ((pokerKey l).getD 0 0) ++ (⟨#[58]⟩ : ByteArray) ++ numsB ((pokerKey l).drop 1) ⟨#[44]⟩
theorem keyText_le (l : List Int) : (keyText l).size ≤ 1200 := by
  unfold keyText
  rcases pokerKey_or l with h | ⟨c, x, r, h, _, _, hr, hl⟩
  · rw [h]; decide
  · rw [h]
    have h0 : (((c :: x :: r).length : Int) == 0) = false := by simp; omega
    rw [h0, cond_false]
    have h1 := numsB_le (l := x :: r) (sep := ⟨#[44]⟩) (fun n hn => i64_wf (by have := hr n hn; omega)) (Nat.le_refl 1)
    have h2 := kindName_le ((c :: x :: r).getD 0 0)
    have e : (c :: x :: r).drop 1 = x :: r := rfl
    rw [e]
    have h3 : (⟨#[58]⟩ : ByteArray).size = 1 := rfl
    rw [ByteArray.size_append, ByteArray.size_append]
    simp only [List.length_cons] at h1
    omega
theorem impl_FormatKey.eq {k : Nat} (hk : BIG ≤ k) {l : List Int} (hl : l.length < 1048577) : impl_FormatKey.f k l = some (keyText l) := by
  refine (bind_s (impl_KeyOf.eq hk hl)).trans ?_
  unfold keyText
  rcases pokerKey_or l with h | ⟨c, x, r, h, c0, c8, hr, hrl⟩
  · rw [h]; rfl
  · rw [h]
    have h0 : (((c :: x :: r).length : Int) == 0) = false := by simp; omega
    have hw : ∀ n ∈ x :: r, wfI .i64 n := fun n hn => i64_wf (by have := hr n hn; omega)
    have h1 := numsB_le (l := x :: r) (sep := ⟨#[44]⟩) hw (Nat.le_refl 1)
    have h2 := kindName_le c
    have h3 : (⟨#[58]⟩ : ByteArray).size = 1 := rfl
    simp only [List.length_cons] at h1
    have et : ((c :: x :: r).take (((c :: x :: r).length : Int).toNat)).drop 1 = x :: r := by
      rw [Int.toNat_natCast, List.take_length]; rfl
    have hj := impl_numbersText.eq hk (l := x :: r) (sep := ⟨#[44]⟩) (by simp only [List.length_cons]; omega) hw (Nat.le_refl 1)
    refine Eq.trans ?_ (congrArg some (bif_f h0).symm)
    refine (bif_f h0).trans ((chk_t (dec_t (by simp only [List.length_cons]; omega))).trans ((bind_s (impl_KindName.eq k (c := (c :: x :: r).getD 0 0) ⟨c0, c8⟩)).trans ((chk_t (dec_t (by show (kindName c).size + _ ≤ _; simp only [maxI]; omega))).trans ((chk_t (and_t (dec_t (by omega)) (dec_t (by omega)))).trans ((chk_t (dec_t (by simp only [List.length_cons]; omega))).trans ?_)))))
    rw [et]
    refine (bind_s hj).trans (chk_t (dec_t ?_))
    show (kindName c ++ (⟨#[58]⟩ : ByteArray)).size + _ ≤ _
    rw [ByteArray.size_append]
    simp only [maxI]; omega
end Go.Proofs.YtfbafmeeejmgoaaDoor
