/- What could have been played, in plain Lean. Conditions: enough rounds, lists of at most 2^20. -/
import Derived.Test.YtpdkglbbhfhlfaaGreatKit
import Derived.Test.YtpdkglbbhfhlfaaGreatFFnAgain
import Derived.Test.YtpdkglbbhfhlfaaGreatPGameAt
import Derived.Test.YtpdkglbbhfhlfaaGreatPPlay
set_option linter.unusedVariables false
set_option linter.unusedSimpArgs false
namespace Go.Proofs.YtpdkglbbhfhlfaaGreat
open Go Go.Proofs.YtpdkglbbhfhlfaaGreat.V
def couldHave (t : Tb) (n : Int) : List Int := bif (gameAt t n).2 then playable (gameAt t n).1 else []
theorem couldHave_len (t : Tb) (n : Int) : (couldHave t n).length ≤ 52 := by
  unfold couldHave
  cases (gameAt t n).2 with
  | true => exact playable_len _
  | false => simp
theorem impl_CouldHave.eq {k : Nat} (hk : BIG ≤ k) {t : Tb} (h : t.sm') (n : Int) : t.ap (impl_CouldHave.f k) n = some (couldHave t n) := by
  refine (bind_s (impl_GameAt.eq hk h n)).trans ?_
  unfold couldHave
  show (bif !(gameAt t n).2 then _ else _) = _
  cases (gameAt t n).2 with
  | false => rfl
  | true => exact (bif_f rfl).trans ((bind_s (impl_Playable.eq hk (gameAt_sm h n))).trans rfl)
end Go.Proofs.YtpdkglbbhfhlfaaGreat
