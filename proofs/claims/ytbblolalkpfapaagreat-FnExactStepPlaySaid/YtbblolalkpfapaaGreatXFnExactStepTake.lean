/- Sizes, copies, comparisons in plain Lean. Conditions: enough rounds, what the statement's guard lets pass. Printed by a program. -/
import Derived.Test.YtbblolalkpfapaaGreatXFnExactStepSeal
import Derived.Test.YtbblolalkpfapaaGreatXFnExactBranch
import Derived.Test.YtbblolalkpfapaaGreatXFnExactMatchWinner
import Derived.Test.YtbblolalkpfapaaGreatKit
import Derived.Test.YtbblolalkpfapaaGreatFFnExactStepTake
set_option linter.unusedVariables false
set_option linter.unusedSimpArgs false
namespace Go.Proofs.YtbblolalkpfapaaGreat
open Go Go.Proofs.YtbblolalkpfapaaGreat.V

end Go.Proofs.YtbblolalkpfapaaGreat
