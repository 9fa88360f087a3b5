/- Rounds, sheets in plain Lean. Conditions: enough rounds, lists of at most 2^20. -/
import Derived.Test.YtfmmdbnkeadieaaKit
import Derived.Test.YtfmmdbnkeadieaaFFnExactOpenShare
import Derived.Test.YtfmmdbnkeadieaaPRange
set_option linter.unusedVariables false
set_option linter.unusedSimpArgs false
namespace Go.Proofs.Ytfmmdbnkeadieaa
open Go Go.Proofs.Ytfmmdbnkeadieaa.V
/-! ### Rounds -/
def points (r : List Int) : Bool := r.all fun x => inR x (-1000) 1000
def isRound (n : Int) (r : List Int) : Bool := inR n 2 6 && ((r.length : Int) == n) && points r && (r.sum == 0)
theorem impl_allIn.eq {k : Nat} (hk : BIG ≤ k) {r : List Int} (lo hi : Int) (hr : r.length < 1048577) : impl_allIn.f k r lo hi = some (r.all fun x => inR x lo hi) := by
  have h := scan (B := Unit) r (fun m b i => impl_allIn.l2 k lo hi r (r.length : Int) (some false) (some true) m i) (fun _ a => inR a lo hi) (fun b a => b) (fun _ => some true) (fun _ _ => some false) (fun i b => True)
    (fun m b i h hI => by
      refine (impl_allIn.l2_succ ..).trans ?_
      refine (bif_t (dec_t (by omega))).trans ?_
      refine (chk_t (in_t h)).trans ?_
      rw [Int.toNat_natCast, getD_lt _ h]
      refine (bind_s (impl_InRange.eq ..)).trans ?_
      rw [wrap_up (by omega)]
      cases inR r[i] lo hi <;> rfl)
    (fun b i h hI hp => trivial)
    (fun m b hI => (impl_allIn.l2_succ ..).trans (bif_f (dec_f (by omega))))
    r.length 0 k () (by omega) (BIG_lt hk hr) trivial
  refine h.trans ?_
  rw [List.drop_zero, run_all]
  cases r.all (fun x => inR x lo hi) <;> rfl
/-! ### Sheets -/
def isSheet (n : Int) (s : List (List Int)) : Bool := inR n 2 6 && decide ((s.length : Int) ≤ 50) && s.all (isRound n)
theorem isSheet_round {n : Int} {s : List (List Int)} (h : isSheet n s = true) {r : List Int} (hr : r ∈ s) : (r.length : Int) = n ∧ 2 ≤ n ∧ n ≤ 6 := by
  unfold isSheet at h
  simp only [Bool.and_eq_true] at h
  have h2 := List.all_eq_true.1 h.2 r hr
  unfold isRound at h2
  simp only [Bool.and_eq_true, beq_iff_eq] at h2
  have := inR_iff.1 h.1.1
  exact ⟨h2.1.1.2, this⟩
end Go.Proofs.Ytfmmdbnkeadieaa
