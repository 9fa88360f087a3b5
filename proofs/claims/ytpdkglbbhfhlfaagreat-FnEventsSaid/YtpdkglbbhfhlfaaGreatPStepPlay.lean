/- Playing a card at a table, in plain Lean. Conditions: enough rounds, lists of at most 2^20. -/
import Derived.Test.YtpdkglbbhfhlfaaGreatKit
import Derived.Test.YtpdkglbbhfhlfaaGreatFFnEvents
import Derived.Test.YtpdkglbbhfhlfaaGreatPStepMove
set_option linter.unusedVariables false
set_option linter.unusedSimpArgs false
namespace Go.Proofs.YtpdkglbbhfhlfaaGreat
open Go Go.Proofs.YtpdkglbbhfhlfaaGreat.V
def stepPlay (t : Tb) (c : Int) : Tb × Bool := bif isCard c then stepMove t c else (t, false)
theorem stepPlay_sm {t : Tb} (h : t.sm) (c : Int) : (stepPlay t c).1.sm := by
  unfold stepPlay
  cases isCard c with
  | false => exact h
  | true => exact stepMove_sm h c
theorem spec_StepPlay.eq {k : Nat} (hk : BIG ≤ k) {t : Tb} (h : t.sm) (c : Int) : t.ap (spec_StepPlay.f k) c = some ((stepPlay t c).1.tpb (stepPlay t c).2) := by
  refine (bind_s (spec_IsCard.eq ..)).trans ?_
  unfold stepPlay
  cases isCard c with
  | false => exact (bif_t rfl).trans ((bind_s (spec_l33Copy.eq hk h)).trans rfl)
  | true => exact (bif_f rfl).trans ((bind_s (spec_l34Move.eq hk h c)).trans rfl)
theorem impl_StepPlay.eq {k : Nat} (hk : BIG ≤ k) {t : Tb} (h : t.sm) (c : Int) : t.ap (impl_StepPlay.f k) c = some ((stepPlay t c).1.tpb (stepPlay t c).2) := by
  refine (bind_s (impl_IsCard.eq ..)).trans ?_
  unfold stepPlay
  cases isCard c with
  | false => exact (bif_t rfl).trans ((bind_s (impl_Table_copied.eq hk h)).trans rfl)
  | true => exact (bif_f rfl).trans ((bind_s (impl_stepMove.eq hk h c)).trans rfl)
end Go.Proofs.YtpdkglbbhfhlfaaGreat
