/- WildShare in plain Lean: the program's and the reference's answer alike. Conditions: enough rounds, lists of at most 2^20. -/
import Derived.Test.YtfkejiljabmaaaaKit
import Derived.Test.YtfkejiljabmaaaaXFnExactWildShare
import Derived.Test.YtfkejiljabmaaaaFFnExactWildShare
import Derived.Test.YtfkejiljabmaaaaPRules
import Derived.Test.YtfkejiljabmaaaaPMatch
set_option linter.unusedVariables false
namespace Go.Proofs.Ytfkejiljabmaaaa
open Go Go.Proofs.Ytfkejiljabmaaaa.V
theorem FnExactWildShare.same {k : Nat} (hk : BIG ≤ k) (a0_0 : Int) (a0_1 : Int) (a0_2 : Bool) (a0_3 : Bool) (a0_4 : List Int) (a0_5 : List Int) (a0_6 : Int) (a0_7 : Int) (h0 : wfI .i64 a0_0) (h1 : wfI .i64 a0_1) (h2 : a0_4.length < 1048577) (h3 : ∀ n ∈ a0_4, wfI .i64 n) (h4 : a0_5.length < 1048577) (h5 : ∀ n ∈ a0_5, wfI .i64 n) (h6 : wfI .i64 a0_6) (h7 : wfI .i64 a0_7) : ∃ r : Int, spec_WildShare.f k a0_0 a0_1 a0_2 a0_3 a0_4 a0_5 a0_6 a0_7 = some r ∧ impl_WildShare.f k a0_0 a0_1 a0_2 a0_3 a0_4 a0_5 a0_6 a0_7 = some r := by
  unfold spec_WildShare.f impl_WildShare.f
  simp only [spec_IsRules.eq hk _ _ _ _ _ _ h2 h4, impl_IsRules.eq hk _ _ _ _ _ _ h2 h4, spec_MatchSet.eq hk h2, impl_MatchSet.eq hk h2, Option.bind_some]
  cases isRules a0_0 a0_1 a0_2 a0_3 a0_4 a0_5 a0_6 a0_7 with
  | false => exact ⟨_, rfl, rfl⟩
  | true => exact ⟨_, rfl, rfl⟩
end Go.Proofs.Ytfkejiljabmaaaa
