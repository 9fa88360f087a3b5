/- The cards that a pattern matches, in plain Lean. Conditions: enough rounds, lists of at most 2^20. -/
import Derived.Test.YtfbafmeeejmgoaaGreatKit
import Derived.Test.YtfbafmeeejmgoaaGreatFFnMeasured
import Derived.Test.YtfbafmeeejmgoaaGreatPMatch
set_option linter.unusedVariables false
set_option linter.unusedSimpArgs false
namespace Go.Proofs.YtfbafmeeejmgoaaGreat
open Go Go.Proofs.YtfbafmeeejmgoaaGreat.V
def matchSet (l : List Int) : List Int := upN (fun i b => bif matchB l (i : Int) then b ++ [(i : Int)] else b) 52 0 []
theorem impl_MatchSet.eq {k : Nat} (hk : BIG ≤ k) {l : List Int} (hl : l.length < 1048577) : impl_MatchSet.f k l = some (matchSet l) := by
  have h := upto (B := List Int) 52 (fun m b i => impl_MatchSet.l3 k l (fun x2 => some x2) m i b) (fun i b => bif matchB l (i : Int) then b ++ [(i : Int)] else b) (fun x => some x) (fun i b => b.length ≤ i)
    (fun m b i h hI => by
      refine (impl_MatchSet.l3_succ ..).trans ?_
      refine (bif_t (dec_t (by omega))).trans ((bind_s (impl_Matches.eq hk _ hl)).trans ?_)
      rw [wrap_up (by omega)]
      cases matchB l (i : Int) with
      | false => rfl
      | true => exact (bif_t rfl).trans (chk_t (dec_t (by simp [room]; omega))))
    (fun b i h hI => by cases matchB l (i : Int) <;> simp <;> omega)
    (fun m b hI => (impl_MatchSet.l3_succ ..).trans (bif_f (dec_f (by omega))))
    52 0 k [] (by omega) (by simp [BIG] at hk; omega) (by simp)
  exact h
theorem upN_len (g : Nat → List Int → List Int) (hg : ∀ i b, (g i b).length ≤ b.length + 1) : ∀ (m i : Nat) (b : List Int), (upN g m i b).length ≤ b.length + m
  | 0, i, b => Nat.le_refl _
  | m + 1, i, b => by
    have := upN_len g hg m (i + 1) (g i b)
    have := hg i b
    show (upN g m (i + 1) (g i b)).length ≤ _
    omega
theorem matchSet_len (l : List Int) : (matchSet l).length ≤ 52 := by
  have := upN_len (fun i b => bif matchB l (i : Int) then b ++ [(i : Int)] else b) (fun i b => by cases matchB l (i : Int) <;> simp) 52 0 []
  simpa [matchSet] using this
end Go.Proofs.YtfbafmeeejmgoaaGreat
