/- AutoMove in plain Lean: the program's and the reference's answer alike. Conditions: enough rounds, lists of at most 2^20. -/
import Derived.Test.YtfmmdbnkeadieaaKit
import Derived.Test.YtfmmdbnkeadieaaXFnExactAutoMove
import Derived.Test.YtfmmdbnkeadieaaFFnExactRecordOut
import Derived.Test.YtfmmdbnkeadieaaFFnExactAutoMove
import Derived.Test.YtfmmdbnkeadieaaPPlayOut
set_option linter.unusedVariables false
set_option linter.unusedSimpArgs false
namespace Go.Proofs.Ytfmmdbnkeadieaa
open Go Go.Proofs.Ytfmmdbnkeadieaa.V
set_option maxRecDepth 100000 in
theorem FnExactAutoMove.same {k : Nat} (hk : BIG ≤ k) (a0_0 : Int) (a0_1 : Int) (a0_2 : Bool) (a0_3 : Bool) (a0_4 : List Int) (a0_5 : List Int) (a0_6 : Int) (a0_7 : Int) (a0_8 : List (List Int)) (a0_9 : List Int) (a0_10 : List Int) (a0_11 : Int) (a0_12 : Int) (a0_13 : Int) (a1 : Int) (h0 : wfI .i64 a0_0) (h1 : wfI .i64 a0_1) (h2 : a0_4.length < 1048577) (h3 : ∀ n ∈ a0_4, wfI .i64 n) (h4 : a0_5.length < 1048577) (h5 : ∀ n ∈ a0_5, wfI .i64 n) (h6 : wfI .i64 a0_6) (h7 : wfI .i64 a0_7) (h8 : a0_8.length < 1048577) (h9 : ∀ y ∈ a0_8, y.length < 1048577) (h10 : ∀ y ∈ a0_8, ∀ n ∈ y, wfI .i64 n) (h11 : a0_9.length < 1048577) (h12 : ∀ n ∈ a0_9, wfI .i64 n) (h13 : a0_10.length < 1048577) (h14 : ∀ n ∈ a0_10, wfI .i64 n) (h15 : wfI .i64 a0_11) (h16 : wfI .i64 a0_12) (h17 : wfI .i64 a0_13) (h18 : wfI .i64 a1) : ∃ r : Int × Int × Bool × Bool × List Int × List Int × Int × Int × List (List Int) × List Int × List Int × Int × Int × Int × Bool, spec_AutoMove.f k a0_0 a0_1 a0_2 a0_3 a0_4 a0_5 a0_6 a0_7 a0_8 a0_9 a0_10 a0_11 a0_12 a0_13 a1 = some r ∧ impl_AutoMove.f k a0_0 a0_1 a0_2 a0_3 a0_4 a0_5 a0_6 a0_7 a0_8 a0_9 a0_10 a0_11 a0_12 a0_13 a1 = some r ∧ (r.2.2.2.2.1.length < 1048577) ∧ (r.2.2.2.2.2.1.length < 1048577) ∧ (r.2.2.2.2.2.2.2.2.1.length < 1048577) ∧ (∀ y ∈ r.2.2.2.2.2.2.2.2.1, y.length < 1048577) ∧ (r.2.2.2.2.2.2.2.2.2.1.length < 1048577) ∧ (r.2.2.2.2.2.2.2.2.2.2.1.length < 1048577) := by
  have hg : (⟨⟨a0_0, a0_1, a0_2, a0_3, a0_4, a0_5, a0_6, a0_7⟩, a0_8, a0_9, a0_10, a0_11, a0_12, a0_13⟩ : Gm).sm := ⟨⟨h2, h4⟩, ⟨h8, h9⟩, h11, h13⟩
  obtain ⟨s1, s2, s3, s4⟩ := autoMove_sm a1 hg
  exact ⟨_, spec_AutoMove.eq hk hg a1, impl_AutoMove.eq hk hg a1, s1.1, s1.2, s2.1, s2.2, s3, s4⟩
end Go.Proofs.Ytfmmdbnkeadieaa
