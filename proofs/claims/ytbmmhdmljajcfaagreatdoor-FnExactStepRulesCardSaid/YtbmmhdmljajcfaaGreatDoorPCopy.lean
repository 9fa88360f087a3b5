/- Copies of lists in plain Lean. Conditions: lists of at most 2^20. -/
import Derived.Test.YtbmmhdmljajcfaaGreatDoorKit
import Derived.Test.YtbmmhdmljajcfaaGreatDoorFFnExactStepRules
set_option linter.unusedVariables false
set_option linter.unusedSimpArgs false
namespace Go.Proofs.YtbmmhdmljajcfaaGreatDoor
open Go Go.Proofs.YtbmmhdmljajcfaaGreatDoor.V
theorem impl_copyOf.eq (k:Nat) {l:List Int} (hl:l.length<1048577):impl_copyOf.f k l=some l:=(chk_t (dec_t (by simp[room];omega))).trans rfl
end Go.Proofs.YtbmmhdmljajcfaaGreatDoor
