/- Copies of lists in plain Lean. Conditions: lists of at most 2^20. -/
import Derived.Test.YtfmmdbnkeadieabGreatKit
import Derived.Test.YtfmmdbnkeadieabGreatFFnExactRunEvents
set_option linter.unusedVariables false
set_option linter.unusedSimpArgs false
namespace Go.Proofs.YtfmmdbnkeadieabGreat
open Go Go.Proofs.YtfmmdbnkeadieabGreat.V
theorem impl_copyOf.eq (k : Nat) {l : List Int} (hl : l.length < 1048577) : impl_copyOf.f k l = some l := (chk_t (dec_t (by simp [room]; omega))).trans rfl
end Go.Proofs.YtfmmdbnkeadieabGreat
