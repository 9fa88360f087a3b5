/- Within bounds. Conditions: none. -/
import Derived.Test.YtbmmhdmljajcfaaGreatDoorKit
import Derived.Test.YtbmmhdmljajcfaaGreatDoorFFnExactStepRules
set_option linter.unusedVariables false
set_option linter.unusedSimpArgs false
namespace Go.Proofs.YtbmmhdmljajcfaaGreatDoor
open Go Go.Proofs.YtbmmhdmljajcfaaGreatDoor.V
theorem spec_l1In.eq (k:Nat) (a lo hi:Int):spec_l1In.f k a lo hi=some (inR a lo hi):=by
 unfold spec_l1In.f inR
 by_cases h:lo<=a<;>simp[h]
theorem impl_InRange.eq (k:Nat) (a lo hi:Int):impl_InRange.f k a lo hi=some (inR a lo hi):=by
 unfold impl_InRange.f inR
 by_cases h:lo<=a<;>simp[h]
end Go.Proofs.YtbmmhdmljajcfaaGreatDoor
