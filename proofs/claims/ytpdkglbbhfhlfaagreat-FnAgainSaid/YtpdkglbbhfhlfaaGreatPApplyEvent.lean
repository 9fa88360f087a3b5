/- Events at a table, in plain Lean. Conditions: enough rounds, lists of at most 2^20. -/
import Derived.Test.YtpdkglbbhfhlfaaGreatKit
import Derived.Test.YtpdkglbbhfhlfaaGreatPStepSeal
import Derived.Test.YtpdkglbbhfhlfaaGreatPStepDeal
import Derived.Test.YtpdkglbbhfhlfaaGreatPStepPlay
import Derived.Test.YtpdkglbbhfhlfaaGreatPStepTake
import Derived.Test.YtpdkglbbhfhlfaaGreatPStepSettle
set_option linter.unusedVariables false
set_option linter.unusedSimpArgs false
namespace Go.Proofs.YtpdkglbbhfhlfaaGreat
open Go Go.Proofs.YtpdkglbbhfhlfaaGreat.V
def applyEvent (t : Tb) (a b : Int) (ss bs : List Int) : Tb × Bool :=
  bif a == 1 then stepSeal t b else bif a == 2 then stepDeal t ss bs else bif a == 3 then stepPlay t b else bif a == 4 then stepMove t (-1) else bif a == 5 then stepSettle t else (t, false)
theorem applyEvent_sm {t : Tb} (h : t.sm) (a b : Int) (ss bs : List Int) : (applyEvent t a b ss bs).1.sm := by
  unfold applyEvent
  cases (a == 1) with
  | true => exact stepSeal_sm h b
  | false =>
    cases (a == 2) with
    | true => exact stepDeal_sm h ss bs
    | false =>
      cases (a == 3) with
      | true => exact stepPlay_sm h b
      | false =>
        cases (a == 4) with
        | true => exact stepMove_sm h (-1)
        | false =>
          cases (a == 5) with
          | true => exact stepSettle_sm h
          | false => exact h
end Go.Proofs.YtpdkglbbhfhlfaaGreat
