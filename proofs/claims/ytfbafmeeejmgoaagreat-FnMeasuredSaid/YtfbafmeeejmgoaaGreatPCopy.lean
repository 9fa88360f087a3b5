/- Copies of lists in plain Lean. Conditions: lists of at most 2^20. -/
import Derived.Test.YtfbafmeeejmgoaaGreatKit
set_option linter.unusedVariables false
set_option linter.unusedSimpArgs false
namespace Go.Proofs.YtfbafmeeejmgoaaGreat
open Go Go.Proofs.YtfbafmeeejmgoaaGreat.V
end Go.Proofs.YtfbafmeeejmgoaaGreat
