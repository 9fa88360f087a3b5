/- Taking cards at a table, in plain Lean. Conditions: enough rounds, lists of at most 2^20. -/
import Derived.Test.YtpdkglbbhfhlfaaGreatKit
import Derived.Test.YtpdkglbbhfhlfaaGreatFFnEvents
import Derived.Test.YtpdkglbbhfhlfaaGreatPStepMove
set_option linter.unusedVariables false
set_option linter.unusedSimpArgs false
namespace Go.Proofs.YtpdkglbbhfhlfaaGreat
open Go Go.Proofs.YtpdkglbbhfhlfaaGreat.V
theorem spec_StepTake.eq {k : Nat} (hk : BIG ≤ k) {t : Tb} (h : t.sm) : t.ap (spec_StepTake.f k) = some ((stepMove t (-1)).1.tpb (stepMove t (-1)).2) := bind_s (spec_l34Move.eq hk h (-1))
theorem impl_StepTake.eq {k : Nat} (hk : BIG ≤ k) {t : Tb} (h : t.sm) : t.ap (impl_StepTake.f k) = some ((stepMove t (-1)).1.tpb (stepMove t (-1)).2) := bind_s (impl_stepMove.eq hk h (-1))
theorem stepTake_all {k : Nat} (hk : BIG ≤ k) {t : Tb} (h : t.sm) : ∃ (u : Tb) (b : Bool), u.sm ∧ t.ap (spec_StepTake.f k) = some (u.tpb b) ∧ t.ap (impl_StepTake.f k) = some (u.tpb b) := ⟨_, _, stepMove_sm h (-1), spec_StepTake.eq hk h, impl_StepTake.eq hk h⟩
end Go.Proofs.YtpdkglbbhfhlfaaGreat
