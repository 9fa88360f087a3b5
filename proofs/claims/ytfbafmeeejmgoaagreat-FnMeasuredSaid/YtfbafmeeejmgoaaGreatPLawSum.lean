/- Sums, in plain Lean. Conditions: enough rounds, lists of at most 2^20 numbers of at most 2^40. -/
import Derived.Test.YtfbafmeeejmgoaaGreatKit
import Derived.Test.YtfbafmeeejmgoaaGreatPPerm
set_option linter.unusedVariables false
set_option linter.unusedSimpArgs false
namespace Go.Proofs.YtfbafmeeejmgoaaGreat
open Go Go.Proofs.YtfbafmeeejmgoaaGreat.V
end Go.Proofs.YtfbafmeeejmgoaaGreat
