/- Rules in plain Lean. Conditions: enough rounds, lists of at most 2^20. -/
import Derived.Test.YtfbafmeeejmgoaaDoorKit
import Derived.Test.YtfbafmeeejmgoaaDoorPPattern
set_option linter.unusedVariables false
set_option linter.unusedSimpArgs false
namespace Go.Proofs.YtfbafmeeejmgoaaDoor
open Go Go.Proofs.YtfbafmeeejmgoaaDoor.V
def isRules (n c : Int) (b1 b2 : Bool) (w f : List Int) (m t : Int) : Bool := inR n 2 6 && inR c 1 8 && (b1 || b2) && maybePat w && maybePat f && inR m 1 4 && inR t 1 400
end Go.Proofs.YtfbafmeeejmgoaaDoor
