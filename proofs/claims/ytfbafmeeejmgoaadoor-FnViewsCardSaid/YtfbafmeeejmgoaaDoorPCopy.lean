/- Copies of lists in plain Lean. Conditions: lists of at most 2^20. -/
import Derived.Test.YtfbafmeeejmgoaaDoorKit
set_option linter.unusedVariables false
set_option linter.unusedSimpArgs false
namespace Go.Proofs.YtfbafmeeejmgoaaDoor
open Go Go.Proofs.YtfbafmeeejmgoaaDoor.V
end Go.Proofs.YtfbafmeeejmgoaaDoor
