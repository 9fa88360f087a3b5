/- Sizes, copies, comparisons in plain Lean. Conditions: enough rounds, what the statement's guard lets pass. Printed by a program. -/
import Derived.Test.YtfmmdbnkeadieaaXFnExactRecordOut
import Derived.Test.YtfmmdbnkeadieaaXFnExactNothingLost
import Derived.Test.YtfmmdbnkeadieaaKit
import Derived.Test.YtfmmdbnkeadieaaFFnExactIsFairDeck
set_option linter.unusedVariables false
set_option linter.unusedSimpArgs false
namespace Go.Proofs.Ytfmmdbnkeadieaa
open Go Go.Proofs.Ytfmmdbnkeadieaa.V

end Go.Proofs.Ytfmmdbnkeadieaa
