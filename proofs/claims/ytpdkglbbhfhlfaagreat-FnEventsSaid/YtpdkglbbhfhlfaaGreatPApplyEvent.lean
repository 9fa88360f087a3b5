/- Events at a table, in plain Lean. Conditions: enough rounds, lists of at most 2^20. -/
import Derived.Test.YtpdkglbbhfhlfaaGreatKit
import Derived.Test.YtpdkglbbhfhlfaaGreatFFnEvents
import Derived.Test.YtpdkglbbhfhlfaaGreatPStepSeal
import Derived.Test.YtpdkglbbhfhlfaaGreatPStepDeal
import Derived.Test.YtpdkglbbhfhlfaaGreatPStepPlay
import Derived.Test.YtpdkglbbhfhlfaaGreatPStepTake
import Derived.Test.YtpdkglbbhfhlfaaGreatPStepSettle
set_option linter.unusedVariables false
set_option linter.unusedSimpArgs false
namespace Go.Proofs.YtpdkglbbhfhlfaaGreat
open Go Go.Proofs.YtpdkglbbhfhlfaaGreat.V
def applyEvent (t : Tb) (a b : Int) (ss bs : List Int) : Tb × Bool :=
  bif a == 1 then stepSeal t b else bif a == 2 then stepDeal t ss bs else bif a == 3 then stepPlay t b else bif a == 4 then stepMove t (-1) else bif a == 5 then stepSettle t else (t, false)
theorem applyEvent_sm {t : Tb} (h : t.sm) (a b : Int) (ss bs : List Int) : (applyEvent t a b ss bs).1.sm := by
  unfold applyEvent
  cases (a == 1) with
  | true => exact stepSeal_sm h b
  | false =>
    cases (a == 2) with
    | true => exact stepDeal_sm h ss bs
    | false =>
      cases (a == 3) with
      | true => exact stepPlay_sm h b
      | false =>
        cases (a == 4) with
        | true => exact stepMove_sm h (-1)
        | false =>
          cases (a == 5) with
          | true => exact stepSettle_sm h
          | false => exact h
theorem spec_ApplyEvent.eq {k : Nat} (hk : BIG ≤ k) {t : Tb} (h : t.sm) (a b : Int) (ss bs : List Int) : t.ap (spec_ApplyEvent.f k) a b ss bs = some ((applyEvent t a b ss bs).1.tpb (applyEvent t a b ss bs).2) := by
  unfold applyEvent
  show (bif a == 1 then _ else _) = _
  rcases Bool.eq_false_or_eq_true (a == 1) with ha | ha
  · exact (bif_t ha).trans ((bind_s (spec_StepSeal.eq hk h b)).trans (by rw [ha]; rfl))
  rw [ha]
  refine (bif_f rfl).trans ?_
  rcases Bool.eq_false_or_eq_true (a == 2) with ha | ha
  · exact (bif_t ha).trans ((bind_s (spec_StepDeal.eq hk h ss bs)).trans (by rw [ha]; rfl))
  rw [ha]
  refine (bif_f rfl).trans ?_
  rcases Bool.eq_false_or_eq_true (a == 3) with ha | ha
  · exact (bif_t ha).trans ((bind_s (spec_StepPlay.eq hk h b)).trans (by rw [ha]; rfl))
  rw [ha]
  refine (bif_f rfl).trans ?_
  rcases Bool.eq_false_or_eq_true (a == 4) with ha | ha
  · exact (bif_t ha).trans ((bind_s (spec_StepTake.eq hk h)).trans (by rw [ha]; rfl))
  rw [ha]
  refine (bif_f rfl).trans ?_
  rcases Bool.eq_false_or_eq_true (a == 5) with ha | ha
  · exact (bif_t ha).trans ((bind_s (spec_StepSettle.eq hk h)).trans (by rw [ha]; rfl))
  rw [ha]
  exact (bif_f rfl).trans ((bind_s (spec_l33Copy.eq hk h)).trans rfl)
theorem impl_ApplyEvent.eq {k : Nat} (hk : BIG ≤ k) {t : Tb} (h : t.sm) (a b : Int) (ss bs : List Int) : t.ap (impl_ApplyEvent.f k) a b ss bs = some ((applyEvent t a b ss bs).1.tpb (applyEvent t a b ss bs).2) := by
  unfold applyEvent
  show (bif a == 1 then _ else _) = _
  rcases Bool.eq_false_or_eq_true (a == 1) with ha | ha
  · exact (bif_t ha).trans ((bind_s (impl_StepSeal.eq hk h b)).trans (by rw [ha]; rfl))
  rw [ha]
  refine (bif_f rfl).trans ?_
  rcases Bool.eq_false_or_eq_true (a == 2) with ha | ha
  · exact (bif_t ha).trans ((bind_s (impl_StepDeal.eq hk h ss bs)).trans (by rw [ha]; rfl))
  rw [ha]
  refine (bif_f rfl).trans ?_
  rcases Bool.eq_false_or_eq_true (a == 3) with ha | ha
  · exact (bif_t ha).trans ((bind_s (impl_StepPlay.eq hk h b)).trans (by rw [ha]; rfl))
  rw [ha]
  refine (bif_f rfl).trans ?_
  rcases Bool.eq_false_or_eq_true (a == 4) with ha | ha
  · exact (bif_t ha).trans ((bind_s (impl_StepTake.eq hk h)).trans (by rw [ha]; rfl))
  rw [ha]
  refine (bif_f rfl).trans ?_
  rcases Bool.eq_false_or_eq_true (a == 5) with ha | ha
  · exact (bif_t ha).trans ((bind_s (impl_StepSettle.eq hk h)).trans (by rw [ha]; rfl))
  rw [ha]
  exact (bif_f rfl).trans ((bind_s (impl_Table_copied.eq hk h)).trans rfl)
theorem applyEvent_all {k : Nat} (hk : BIG ≤ k) {t : Tb} (h : t.sm) (a b : Int) (ss bs : List Int) : ∃ (u : Tb) (o : Bool), u.sm ∧ t.ap (spec_ApplyEvent.f k) a b ss bs = some (u.tpb o) ∧ t.ap (impl_ApplyEvent.f k) a b ss bs = some (u.tpb o) := ⟨_, _, applyEvent_sm h a b ss bs, spec_ApplyEvent.eq hk h a b ss bs, impl_ApplyEvent.eq hk h a b ss bs⟩
end Go.Proofs.YtpdkglbbhfhlfaaGreat
