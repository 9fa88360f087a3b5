/- The program's EventName and the reference's give the same text for every number; condition: none beside the statement's own. -/
import Derived.Test.YtfkejiljabmaaaaPFnExactEventNamex1
namespace Go.Proofs.Ytfkejiljabmaaaa.Pure
open Go.RowKit Go.Proofs.Ytfkejiljabmaaaa.PFnExactEventName Go.Proofs.YtfkejiljabmaaaaW.PrintWords Go.Proofs.YtfkejiljabmaaaaW.PrintLast

theorem FnExactEventName : laws_FnExactEventName.Pure := by
  intro a0 _
  by_cases h : 1 ≤ a0 ∧ a0 ≤ 5
  · have : a0 = 1 ∨ a0 = 2 ∨ a0 = 3 ∨ a0 = 4 ∨ a0 = 5 := by omega
    rcases this with rfl | rfl | rfl | rfl | rfl <;> decide +kernel
  · have e1 : spec_l1In.f a0 1 5 = some false := by
      unfold spec_l1In.f
      split
      · simp; omega
      · rfl
    have e2 : impl_InRange.f a0 1 5 = some false := by
      unfold impl_InRange.f
      split
      · simp; omega
      · rfl
    simp [laws_FnExactEventName.f, spec_EventName.f, impl_EventName.f, e1, e2]

end Go.Proofs.Ytfkejiljabmaaaa.Pure
