/- Within bounds. Conditions: none. -/
import Derived.Test.YtfbafmeeejmgoaaGreatKit
import Derived.Test.YtfbafmeeejmgoaaGreatFFnMeasured
set_option linter.unusedVariables false
set_option linter.unusedSimpArgs false
namespace Go.Proofs.YtfbafmeeejmgoaaGreat
open Go Go.Proofs.YtfbafmeeejmgoaaGreat.V
theorem spec_l1In.eq (k : Nat) (a lo hi : Int) : spec_l1In.f k a lo hi = some (inR a lo hi) := by
  unfold spec_l1In.f inR
  by_cases h : lo ≤ a <;> simp [h]
theorem impl_InRange.eq (k : Nat) (a lo hi : Int) : impl_InRange.f k a lo hi = some (inR a lo hi) := by
  unfold impl_InRange.f inR
  by_cases h : lo ≤ a <;> simp [h]
end Go.Proofs.YtfbafmeeejmgoaaGreat
