/- What records tell, in plain Lean. Conditions: enough rounds, lists of at most 2^20. -/
import Derived.Test.YtfbafmeeejmgoaaGreatKit
import Derived.Test.YtfbafmeeejmgoaaGreatFFnMeasured
import Derived.Test.YtfbafmeeejmgoaaGreatPLawSum
import Derived.Test.YtfbafmeeejmgoaaGreatPDraw
import Derived.Test.YtfbafmeeejmgoaaGreatPRecordOut
import Derived.Test.YtfbafmeeejmgoaaGreatPReplay
set_option linter.unusedVariables false
set_option linter.unusedSimpArgs false
namespace Go.Proofs.YtfbafmeeejmgoaaGreat
open Go Go.Proofs.YtfbafmeeejmgoaaGreat.V
/-! ### Counts -/
def cntB (p : Int → Bool) (l : List Int) : Nat := (l.filter p).length
theorem cntB_cons (p : Int → Bool) (a : Int) (l : List Int) : cntB p (a :: l) = (p a).toNat + cntB p l := by
  unfold cntB
  rw [List.filter_cons]
  cases p a
  · simp
  · simp; omega
theorem cntB_le {p q : Int → Bool} (h : ∀ x, p x = true → q x = true) : ∀ l : List Int, cntB p l ≤ cntB q l
  | [] => Nat.le_refl _
  | a :: l => by
    have := cntB_le h l
    rw [cntB_cons, cntB_cons]
    cases hp : p a with
    | false => simp; omega
    | true => rw [h a hp]; omega
theorem cntB_two {p q : Int → Bool} (h : ∀ x, p x = true → q x = false) : ∀ l : List Int, cntB p l + cntB q l ≤ l.length
  | [] => Nat.le_refl _
  | a :: l => by
    have := cntB_two h l
    rw [cntB_cons, cntB_cons, List.length_cons]
    cases hp : p a with
    | false => cases q a <;> simp <;> omega
    | true => rw [h a hp]; simp; omega
theorem cntB_len (p : Int → Bool) (l : List Int) : cntB p l ≤ l.length := List.length_filter_le _ _
theorem matchB_card {l : List Int} {c : Int} (h : matchB l c = true) : isCard c = true := by
  unfold matchB at h
  cases hp : isPattern l with
  | false => rw [hp] at h; cases h
  | true =>
    rw [hp] at h
    cases hc : isCard c with
    | true => rfl
    | false => rw [hc] at h; cases h
theorem doesSkip_card {r : Rl} {c : Int} (h : doesSkip r c = true) : isCard c = true := by
  unfold doesSkip at h
  have h := (Bool.and_eq_true_iff.1 h).2
  exact matchB_card h
theorem sum_set : ∀ (l : List Int) (j : Nat) (x : Int) (h : j < l.length), (l.set j x).sum = l.sum - l[j] + x
  | a :: l, 0, x, h => by simp; omega
  | a :: l, j + 1, x, h => by
    have := sum_set l j x (by simpa using h)
    simp only [List.set_cons_succ, List.sum_cons, List.getElem_cons_succ]
    omega
end Go.Proofs.YtfbafmeeejmgoaaGreat
