/- Rules in plain Lean. Conditions: enough rounds, lists of at most 2^20. -/
import Derived.Test.YtbmmhdmljajcfaaGreatDoorKit
import Derived.Test.YtbmmhdmljajcfaaGreatDoorFFnExactStepRules
import Derived.Test.YtbmmhdmljajcfaaGreatDoorPPattern
set_option linter.unusedVariables false
set_option linter.unusedSimpArgs false
namespace Go.Proofs.YtbmmhdmljajcfaaGreatDoor
open Go Go.Proofs.YtbmmhdmljajcfaaGreatDoor.V
def isRules (n c:Int) (b1 b2:Bool) (w f:List Int) (m t:Int):Bool:=inR n 2 6&&inR c 1 8&&(b1||b2)&&maybePat w&&maybePat f&&inR m 1 4&&inR t 1 400
theorem spec_IsRules.eq {k:Nat} (hk:BIG<=k) (n c:Int) (b1 b2:Bool) {w f:List Int} (m t:Int) (hw:w.length<1048577) (hf:f.length<1048577):spec_IsRules.f k n c b1 b2 w f m t=some (isRules n c b1 b2 w f m t):=by
 unfold spec_IsRules.f isRules
 simp only[spec_l1In.eq,spec_l22Pattern.eq hk hw,spec_l22Pattern.eq hk hf,Option.bind_some]
 cases inR n 2 6<;>cases inR c 1 8<;>cases b1<;>cases b2<;>cases maybePat w<;>cases maybePat f<;>cases inR m 1 4<;>rfl
theorem impl_IsRules.eq {k:Nat} (hk:BIG<=k) (n c:Int) (b1 b2:Bool) {w f:List Int} (m t:Int) (hw:w.length<1048577) (hf:f.length<1048577):impl_IsRules.f k n c b1 b2 w f m t=some (isRules n c b1 b2 w f m t):=by
 unfold impl_IsRules.f isRules
 simp only[impl_InRange.eq,impl_isMaybe.eq hk hw,impl_isMaybe.eq hk hf,Option.bind_some]
 cases inR n 2 6<;>cases inR c 1 8<;>cases b1<;>cases b2<;>cases maybePat w<;>cases maybePat f<;>cases inR m 1 4<;>rfl
end Go.Proofs.YtbmmhdmljajcfaaGreatDoor
