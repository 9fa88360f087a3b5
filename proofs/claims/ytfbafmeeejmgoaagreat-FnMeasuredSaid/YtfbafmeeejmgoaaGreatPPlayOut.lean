/- Games played to their end, in plain Lean. Conditions: enough rounds, lists of at most 2^20. -/
import Derived.Test.YtfbafmeeejmgoaaGreatKit
import Derived.Test.YtfbafmeeejmgoaaGreatPAuto
set_option linter.unusedVariables false
set_option linter.unusedSimpArgs false
namespace Go.Proofs.YtfbafmeeejmgoaaGreat
open Go Go.Proofs.YtfbafmeeejmgoaaGreat.V
theorem autoMove_sm {g : Gm} (k : Int) (h : g.sm) : (autoMove g k).1.sm := replayMove_sm h
abbrev EP (R : Type) := Int → Int → Bool → Bool → Int → Int → Int → Int → Int → List Int → List Int → List (List Int) → List Int → List Int → Option R
abbrev Gm.pe {R : Type} (e0 : EP R) (g : Gm) : Option R := e0 g.r.n g.r.e g.r.b1 g.r.b2 g.r.t g.r.l g.tn g.mv g.ps g.r.w g.r.f g.hs g.st g.hp
theorem playOut_settled (kinds : List Int) (g : Gm) : (isGame (playOut g kinds) && !overG (playOut g kinds)) = false := by
  cases h : isGame g with
  | true =>
    obtain ⟨h1, h2, _⟩ := playOut_end kinds h
    rw [h1, h2]; rfl
  | false =>
    have : playOut g kinds = g := playN_no kinds 401 (by rw [h]; rfl)
    rw [this, h]; rfl
theorem playN_sm (kinds : List Int) : ∀ (m : Nat) {g : Gm}, g.sm → (playN kinds m g).sm
  | 0, g, h => h
  | m + 1, g, h => by
    unfold playN
    cases (isGame g && !overG g) with
    | true => exact playN_sm kinds m (autoMove_sm _ h)
    | false => exact h
theorem playOut_sm (kinds : List Int) {g : Gm} (h : g.sm) : (playOut g kinds).sm := playN_sm kinds 401 h
end Go.Proofs.YtfbafmeeejmgoaaGreat
