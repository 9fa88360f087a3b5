/- Games that go on from a table's record, in plain Lean. Conditions: enough rounds, lists of at most 2^20. -/
import Derived.Test.YtpdkglbbhfhlfaaGreatKit
import Derived.Test.YtpdkglbbhfhlfaaGreatFFnAgain
import Derived.Test.YtpdkglbbhfhlfaaGreatPGameAt
import Derived.Test.YtpdkglbbhfhlfaaGreatPPlayOut
set_option linter.unusedVariables false
set_option linter.unusedSimpArgs false
namespace Go.Proofs.YtpdkglbbhfhlfaaGreat
open Go Go.Proofs.YtpdkglbbhfhlfaaGreat.V
def branch (t : Tb) (n : Int) (kinds : List Int) : Gm × Bool := bif (gameAt t n).2 then (playOut (gameAt t n).1 kinds, true) else (zeroG, false)
theorem branch_sm {t : Tb} (h : t.sm') (n : Int) (kinds : List Int) : (branch t n kinds).1.sm := by
  unfold branch
  cases (gameAt t n).2 with
  | true => exact playOut_sm kinds (gameAt_sm h n)
  | false => exact zeroG_sm
theorem impl_Branch.eq {k : Nat} (hk : BIG ≤ k) {t : Tb} (h : t.sm') (n : Int) (kinds : List Int) : t.ap (impl_Branch.f k) n kinds = some ((branch t n kinds).1.tpb (branch t n kinds).2) := by
  refine (bind_s (impl_GameAt.eq hk h n)).trans ?_
  unfold branch
  show (bif !(gameAt t n).2 then _ else _) = _
  cases (gameAt t n).2 with
  | false => rfl
  | true => exact (bif_f rfl).trans ((bind_s (impl_PlayOut.eq hk kinds (gameAt_sm h n))).trans rfl)
end Go.Proofs.YtpdkglbbhfhlfaaGreat
