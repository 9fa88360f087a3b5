/- MeldCount in plain Lean: the program's and the reference's answer alike. Conditions: enough rounds, lists of at most 2^20. -/
import Derived.Test.YtfmmdbnkeadieaaKit
import Derived.Test.YtfmmdbnkeadieaaXFnExactMeldCount
import Derived.Test.YtfmmdbnkeadieaaFFnExactMeldCount
import Derived.Test.YtfmmdbnkeadieaaPMeldCount
set_option linter.unusedVariables false
set_option linter.unusedSimpArgs false
namespace Go.Proofs.Ytfmmdbnkeadieaa
open Go Go.Proofs.Ytfmmdbnkeadieaa.V
theorem FnExactMeldCount.same {k : Nat} (hk : BIG ≤ k) (a0 : List Int) (h0 : a0.length < 1048577) (h1 : ∀ n ∈ a0, wfI .i64 n) : ∃ r : Int, spec_MeldCount.f k a0 = some r ∧ impl_MeldCount.f k a0 = some r := by
  obtain ⟨w, e1, l1⟩ := spec_MeldsIn.ex hk h0
  obtain ⟨w', e2, l2⟩ := impl_MeldsIn.ex hk h0
  exact ⟨_, (bind_s e1).trans (by rw [l1]), (bind_s e2).trans (by rw [l2])⟩
end Go.Proofs.Ytfmmdbnkeadieaa
