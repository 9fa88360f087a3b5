/- FormatNumbers in plain Lean: the program's and the reference's answer alike. Conditions: enough rounds, lists of at most 2^20. -/
import Derived.Test.YtfmmdbnkeadieaaDoorKit
import Derived.Test.YtfmmdbnkeadieaaDoorXFnExactFormatNumbers
import Derived.Test.YtfmmdbnkeadieaaDoorFFnExactFormatNumbers
import Derived.Test.YtfmmdbnkeadieaaDoorPItoa
set_option linter.unusedVariables false
set_option linter.unusedSimpArgs false
namespace Go.Proofs.YtfmmdbnkeadieaaDoor
open Go Go.Proofs.YtfmmdbnkeadieaaDoor.V
theorem FnExactFormatNumbers.same {k : Nat} (hk : BIG ≤ k) (a0 : List Int) (h0 : a0.length < 1048577) (h1 : ∀ n ∈ a0, wfI .i64 n) : ∃ r : ByteArray, spec_FormatNumbers.f k a0 = some r ∧ impl_FormatNumbers.f k a0 = some r := ⟨_, spec_FormatNumbers.eq hk h0 h1, impl_FormatNumbers.eq hk h0 h1⟩
end Go.Proofs.YtfmmdbnkeadieaaDoor
