/- FormatKey in plain Lean: the program's and the reference's answer alike. Conditions: enough rounds, lists of at most 2^20. -/
import Derived.Test.YtfbafmeeejmgoaaDoorKit
import Derived.Test.YtfbafmeeejmgoaaDoorXFnExactFormatKey
import Derived.Test.YtfbafmeeejmgoaaDoorFFnExactFormatKey
import Derived.Test.YtfbafmeeejmgoaaDoorPFormatKey
set_option linter.unusedVariables false
set_option linter.unusedSimpArgs false
namespace Go.Proofs.YtfbafmeeejmgoaaDoor
open Go Go.Proofs.YtfbafmeeejmgoaaDoor.V
theorem FnExactFormatKey.same {k : Nat} (hk : BIG ≤ k) (a0 : List Int) (h0 : a0.length < 1048577) (h1 : ∀ n ∈ a0, wfI .i64 n) : ∃ r : ByteArray, spec_FormatKey.f k a0 = some r ∧ impl_FormatKey.f k a0 = some r := ⟨keyText a0, spec_FormatKey.eq hk h0, impl_FormatKey.eq hk h0⟩
end Go.Proofs.YtfbafmeeejmgoaaDoor
