/- Sizes, copies, comparisons in plain Lean. Conditions: enough rounds, what the statement's guard lets pass. Printed by a program. -/
import Derived.Test.YtmdfedjdnjaaiaaGreatXFnExactGameAt
import Derived.Test.YtmdfedjdnjaaiaaGreatXFnExactMatchRound
import Derived.Test.YtmdfedjdnjaaiaaGreatKit
import Derived.Test.YtmdfedjdnjaaiaaGreatFFnExactCouldHave
set_option linter.unusedVariables false
set_option linter.unusedSimpArgs false
namespace Go.Proofs.YtmdfedjdnjaaiaaGreat
open Go Go.Proofs.YtmdfedjdnjaaiaaGreat.V

end Go.Proofs.YtmdfedjdnjaaiaaGreat
