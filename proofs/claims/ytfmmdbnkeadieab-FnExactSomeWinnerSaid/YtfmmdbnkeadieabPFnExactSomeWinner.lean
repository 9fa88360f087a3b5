/- SomeWinner in plain Lean: the program's and the reference's answer alike. Conditions: enough rounds, lists of at most 2^20. -/
import Derived.Test.YtfmmdbnkeadieabKit
import Derived.Test.YtfmmdbnkeadieabXFnExactSomeWinner
import Derived.Test.YtfmmdbnkeadieabFFnExactSomeWinner
import Derived.Test.YtfmmdbnkeadieabPSomeWinner
set_option linter.unusedVariables false
set_option linter.unusedSimpArgs false
namespace Go.Proofs.Ytfmmdbnkeadieab
open Go Go.Proofs.Ytfmmdbnkeadieab.V
theorem FnExactSomeWinner.same {k : Nat} (hk : BIG ≤ k) (a0_0 : Int) (a0_1 : Int) (a0_2 : Bool) (a0_3 : Bool) (a0_4 : List Int) (a0_5 : List Int) (a0_6 : Int) (a0_7 : Int) (a1 : List Int) (a2 : List Int) (h0 : wfI .i64 a0_0) (h1 : wfI .i64 a0_1) (h2 : a0_4.length < 1048577) (h3 : ∀ n ∈ a0_4, wfI .i64 n) (h4 : a0_5.length < 1048577) (h5 : ∀ n ∈ a0_5, wfI .i64 n) (h6 : wfI .i64 a0_6) (h7 : wfI .i64 a0_7) (h8 : a1.length < 1048577) (h9 : ∀ n ∈ a1, wfI .i64 n) (h10 : a2.length < 1048577) (h11 : ∀ n ∈ a2, wfI .i64 n) : ∃ r : List Int, spec_SomeWinner.f k a0_0 a0_1 a0_2 a0_3 a0_4 a0_5 a0_6 a0_7 a1 a2 = some r ∧ impl_SomeWinner.f k a0_0 a0_1 a0_2 a0_3 a0_4 a0_5 a0_6 a0_7 a1 a2 = some r ∧ (r.length < 1048577) := by
  have hr : (⟨a0_0, a0_1, a0_2, a0_3, a0_4, a0_5, a0_6, a0_7⟩ : Rl).sm := ⟨h2, h4⟩
  have hl := someWinner_len (⟨a0_0, a0_1, a0_2, a0_3, a0_4, a0_5, a0_6, a0_7⟩ : Rl) a1 a2
  exact ⟨_, spec_SomeWinner.eq hk hr a1 a2, impl_SomeWinner.eq hk hr a1 a2, by omega⟩
end Go.Proofs.Ytfmmdbnkeadieab
