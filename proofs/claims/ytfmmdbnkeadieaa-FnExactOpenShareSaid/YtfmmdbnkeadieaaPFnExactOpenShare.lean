/- OpenShare in plain Lean: the program's and the reference's answer alike. Conditions: enough rounds, lists of at most 2^20. -/
import Derived.Test.YtfmmdbnkeadieaaKit
import Derived.Test.YtfmmdbnkeadieaaXFnExactOpenShare
import Derived.Test.YtfmmdbnkeadieaaFFnExactOpenShare
import Derived.Test.YtfmmdbnkeadieaaPOpenShare
set_option linter.unusedVariables false
set_option linter.unusedSimpArgs false
namespace Go.Proofs.Ytfmmdbnkeadieaa
open Go Go.Proofs.Ytfmmdbnkeadieaa.V
theorem FnExactOpenShare.same {k : Nat} (hk : BIG ≤ k) (a0_0 : List (List Leaf)) (a0_1 : List Int) (a0_2 : List Int) (a0_3 : List Int) (h0 : a0_0.length < 1048577) (h1 : ∀ y ∈ a0_0, smRec y) (h2 : ∀ y ∈ a0_0, recWf [true, false] y) (h3 : a0_1.length < 1048577) (h4 : ∀ n ∈ a0_1, wfI .i64 n) (h5 : a0_2.length < 1048577) (h6 : ∀ n ∈ a0_2, wfI .i64 n) (h7 : a0_3.length < 1048577) (h8 : ∀ n ∈ a0_3, wfI .i64 n) : ∃ r : Int, spec_OpenShare.f k a0_0 a0_1 a0_2 a0_3 = some r ∧ impl_OpenShare.f k a0_0 a0_1 a0_2 a0_3 = some r := by
  exact ⟨_, spec_OpenShare.eq hk ⟨by assumption, by assumption⟩ (by assumption) (by assumption) (by assumption), impl_OpenShare.eq hk ⟨by assumption, by assumption⟩ (by assumption) (by assumption) (by assumption)⟩
end Go.Proofs.Ytfmmdbnkeadieaa
