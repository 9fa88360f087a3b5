/- Copies of rules and games in plain Lean. Conditions: enough rounds, lists of at most 2^20. -/
import Derived.Test.YtfbafmeeejmgoaaDoorKit
import Derived.Test.YtfbafmeeejmgoaaDoorFFnViews
import Derived.Test.YtfbafmeeejmgoaaDoorPModel
import Derived.Test.YtfbafmeeejmgoaaDoorPCopy
set_option linter.unusedVariables false
set_option linter.unusedSimpArgs false
namespace Go.Proofs.YtfbafmeeejmgoaaDoor
open Go Go.Proofs.YtfbafmeeejmgoaaDoor.V
theorem spec_l22Copy.eq (k : Nat) {r : Rl} (h : r.sm) : r.ap (spec_l22Copy.f k) = some r.tp := by
  have h1 := h.1
  have h2 := h.2
  exact (chk_t (rm8 (by omega))).trans ((chk_t (rm8 (by omega))).trans rfl)
end Go.Proofs.YtfbafmeeejmgoaaDoor
