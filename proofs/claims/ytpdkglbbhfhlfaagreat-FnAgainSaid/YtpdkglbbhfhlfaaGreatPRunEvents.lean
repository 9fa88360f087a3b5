/- Many events at a table, in plain Lean. Conditions: enough rounds, lists of at most 2^20. -/
import Derived.Test.YtpdkglbbhfhlfaaGreatKit
import Derived.Test.YtpdkglbbhfhlfaaGreatPApplyEvent
set_option linter.unusedVariables false
set_option linter.unusedSimpArgs false
namespace Go.Proofs.YtpdkglbbhfhlfaaGreat
open Go Go.Proofs.YtpdkglbbhfhlfaaGreat.V
/-- A table's parts in the order in which the loops hold them. -/
abbrev Tb.pm {β : Type} (F : Int → Int → Bool → Bool → Int → Int → Bool → Int → Int → Bool → Bool → Int → Int → Int → Int → Int → List Int → List Int → List Int → List Int → List Int → List Int → List (List Int) → List Int → List Int → List Int → List (List Int) → β) (t : Tb) : β := F t.r.n t.r.e t.r.b1 t.r.b2 t.r.t t.r.l t.on t.g.r.n t.g.r.e t.g.r.b1 t.g.r.b2 t.g.r.t t.g.r.l t.g.tn t.g.mv t.g.ps t.r.w t.r.f t.seals t.deck t.g.r.w t.g.r.f t.g.hs t.g.st t.g.hp t.rd t.sheet
def runE : List (List Leaf) → Tb → Tb
  | [], t => t
  | e :: l, t => runE l (applyEvent t (gi e 0) (gi e 1) (gl e 2) (gl e 3)).1
theorem runE_sm : ∀ (l : List (List Leaf)) {t : Tb}, t.sm → (runE l t).sm
  | [], t, h => h
  | e :: l, t, h => runE_sm l (applyEvent_sm h ..)
end Go.Proofs.YtpdkglbbhfhlfaaGreat
