/- RecordOut in plain Lean: the program's and the reference's answer alike. Conditions: enough rounds, lists of at most 2^20. -/
import Derived.Test.YtfmmdbnkeadieaaKit
import Derived.Test.YtfmmdbnkeadieaaXFnExactRecordOut
import Derived.Test.YtfmmdbnkeadieaaFFnExactRecordOut
import Derived.Test.YtfmmdbnkeadieaaPRecordOut
set_option linter.unusedVariables false
set_option linter.unusedSimpArgs false
namespace Go.Proofs.Ytfmmdbnkeadieaa
open Go Go.Proofs.Ytfmmdbnkeadieaa.V
set_option maxRecDepth 100000 in
theorem FnExactRecordOut.same {k : Nat} (hk : BIG ≤ k) (a0_0 : Int) (a0_1 : Int) (a0_2 : Bool) (a0_3 : Bool) (a0_4 : List Int) (a0_5 : List Int) (a0_6 : Int) (a0_7 : Int) (a0_8 : List (List Int)) (a0_9 : List Int) (a0_10 : List Int) (a0_11 : Int) (a0_12 : Int) (a0_13 : Int) (a1 : List Int) (h0 : wfI .i64 a0_0) (h1 : wfI .i64 a0_1) (h2 : a0_4.length < 1048577) (h3 : ∀ n ∈ a0_4, wfI .i64 n) (h4 : a0_5.length < 1048577) (h5 : ∀ n ∈ a0_5, wfI .i64 n) (h6 : wfI .i64 a0_6) (h7 : wfI .i64 a0_7) (h8 : a0_8.length < 1048577) (h9 : ∀ y ∈ a0_8, y.length < 1048577) (h10 : ∀ y ∈ a0_8, ∀ n ∈ y, wfI .i64 n) (h11 : a0_9.length < 1048577) (h12 : ∀ n ∈ a0_9, wfI .i64 n) (h13 : a0_10.length < 1048577) (h14 : ∀ n ∈ a0_10, wfI .i64 n) (h15 : wfI .i64 a0_11) (h16 : wfI .i64 a0_12) (h17 : wfI .i64 a0_13) (h18 : a1.length < 1048577) (h19 : ∀ n ∈ a1, wfI .i64 n) : ∃ r : List Int, spec_RecordOut.f k a0_0 a0_1 a0_2 a0_3 a0_4 a0_5 a0_6 a0_7 a0_8 a0_9 a0_10 a0_11 a0_12 a0_13 a1 = some r ∧ impl_RecordOut.f k a0_0 a0_1 a0_2 a0_3 a0_4 a0_5 a0_6 a0_7 a0_8 a0_9 a0_10 a0_11 a0_12 a0_13 a1 = some r ∧ (r.length < 1048577) := by
  have hg : (⟨⟨a0_0, a0_1, a0_2, a0_3, a0_4, a0_5, a0_6, a0_7⟩, a0_8, a0_9, a0_10, a0_11, a0_12, a0_13⟩ : Gm).sm := ⟨⟨h2, h4⟩, ⟨h8, h9⟩, h11, h13⟩
  obtain ⟨u, hu, e1, e2⟩ := recordOut_all hk a1 hg
  exact ⟨u, e1, e2, by omega⟩
end Go.Proofs.Ytfmmdbnkeadieaa
