/- Fair decks, in plain Lean. Conditions: enough rounds, lists of at most 2^20. -/
import Derived.Test.YtpdkglbbhfhlfaaGreatKit
import Derived.Test.YtpdkglbbhfhlfaaGreatFFnTop
import Derived.Test.YtpdkglbbhfhlfaaGreatPJointDeck
import Derived.Test.YtpdkglbbhfhlfaaGreatPEqual
import Derived.Test.YtpdkglbbhfhlfaaGreatPTable
set_option linter.unusedVariables false
set_option linter.unusedSimpArgs false
namespace Go.Proofs.YtpdkglbbhfhlfaaGreat
open Go Go.Proofs.YtpdkglbbhfhlfaaGreat.V
def isFairDeck (t : Tb) (ss bs : List Int) : Bool := (jointDeck t.seals ss bs).2 && (t.on && eqI (jointDeck t.seals ss bs).1 t.deck)
theorem impl_IsFairDeck.eq {k : Nat} (hk : BIG ≤ k) {t : Tb} (h : t.sm) (ss bs : List Int) : t.ap (impl_IsFairDeck.f k) ss bs = some (isFairDeck t ss bs) := by
  have hl := jointDeck_len t.seals ss bs
  unfold isFairDeck
  refine (bind_s (impl_JointDeck.eq hk ss bs h.2.1)).trans ?_
  cases t.on with
  | false => cases (jointDeck t.seals ss bs).2 <;> rfl
  | true =>
    refine (bif_t rfl).trans ?_
    cases (jointDeck t.seals ss bs).2 with
    | false => rfl
    | true => exact (bif_t rfl).trans ((bind_s (impl_EqualInts.eq hk t.deck (by omega))).trans rfl)
end Go.Proofs.YtpdkglbbhfhlfaaGreat
