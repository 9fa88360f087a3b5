/- Sums, in plain Lean. Conditions: enough rounds, lists of at most 2^20 numbers of at most 2^40. -/
import Derived.Test.YtfbafmeeejmgoaaDoorKit
import Derived.Test.YtfbafmeeejmgoaaDoorPPerm
set_option linter.unusedVariables false
set_option linter.unusedSimpArgs false
namespace Go.Proofs.YtfbafmeeejmgoaaDoor
open Go Go.Proofs.YtfbafmeeejmgoaaDoor.V
end Go.Proofs.YtfbafmeeejmgoaaDoor
