/- Sizes, copies, comparisons in plain Lean. Conditions: enough rounds, what the statement's guard lets pass. Printed by a program. -/
import Derived.Test.YtfkejiljabmaaaaXFnExactAverageMoves
import Derived.Test.YtfkejiljabmaaaaKit
import Derived.Test.YtfkejiljabmaaaaFFnExactWinsOf
set_option linter.unusedVariables false
set_option linter.unusedSimpArgs false
namespace Go.Proofs.Ytfkejiljabmaaaa
open Go Go.Proofs.Ytfkejiljabmaaaa.V

end Go.Proofs.Ytfkejiljabmaaaa
