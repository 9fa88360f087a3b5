/- The moves of a game that plays itself, in plain Lean. Conditions: enough rounds, lists of at most 2^20. -/
import Derived.Test.YtfbafmeeejmgoaaGreatKit
import Derived.Test.YtfbafmeeejmgoaaGreatPPlayOut
set_option linter.unusedVariables false
set_option linter.unusedSimpArgs false
namespace Go.Proofs.YtfbafmeeejmgoaaGreat
open Go Go.Proofs.YtfbafmeeejmgoaaGreat.V
def recordN (kinds : List Int) : Nat → Gm → List Int
  | 0, _ => []
  | m + 1, g => bif isGame g && !overG g then choice g (kindOf kinds g.tn) :: recordN kinds m (autoMove g (kindOf kinds g.tn)).1 else []
def recordOut (g : Gm) (kinds : List Int) : List Int := recordN kinds 401 g
theorem recordN_len (kinds : List Int) : ∀ (m : Nat) (g : Gm), (recordN kinds m g).length ≤ m
  | 0, g => Nat.le_refl _
  | m + 1, g => by
    unfold recordN
    cases (isGame g && !overG g) with
    | false => simp
    | true => have := recordN_len kinds m (autoMove g (kindOf kinds g.tn)).1; simp only [cond_true, List.length_cons]; omega
theorem recordOut_len (g : Gm) (kinds : List Int) : (recordOut g kinds).length ≤ 401 := recordN_len kinds 401 g
end Go.Proofs.YtfbafmeeejmgoaaGreat
