/- Taking cards at a table, in plain Lean. Conditions: enough rounds, lists of at most 2^20. -/
import Derived.Test.YtpdkglbbhfhlfaaGreatKit
import Derived.Test.YtpdkglbbhfhlfaaGreatFFnAgain
import Derived.Test.YtpdkglbbhfhlfaaGreatPStepMove
set_option linter.unusedVariables false
set_option linter.unusedSimpArgs false
namespace Go.Proofs.YtpdkglbbhfhlfaaGreat
open Go Go.Proofs.YtpdkglbbhfhlfaaGreat.V
theorem spec_StepTake.eq {k : Nat} (hk : BIG ≤ k) {t : Tb} (h : t.sm) : t.ap (spec_StepTake.f k) = some ((stepMove t (-1)).1.tpb (stepMove t (-1)).2) := bind_s (spec_l34Move.eq hk h (-1))
end Go.Proofs.YtpdkglbbhfhlfaaGreat
