/- Moves made again, in plain Lean. Conditions: enough rounds, lists of at most 2^20. -/
import Derived.Test.YtfbafmeeejmgoaaGreatKit
import Derived.Test.YtfbafmeeejmgoaaGreatPTake
set_option linter.unusedVariables false
set_option linter.unusedSimpArgs false
namespace Go.Proofs.YtfbafmeeejmgoaaGreat
open Go Go.Proofs.YtfbafmeeejmgoaaGreat.V
abbrev Gm.tpi (g : Gm) (b : Int) : Int × Int × Bool × Bool × List Int × List Int × Int × Int × List (List Int) × List Int × List Int × Int × Int × Int × Int := (g.r.n, g.r.e, g.r.b1, g.r.b2, g.r.w, g.r.f, g.r.t, g.r.l, g.hs, g.st, g.hp, g.tn, g.mv, g.ps, b)
abbrev E15 := Option (Int × Int × Bool × Bool × List Int × List Int × Int × Int × List (List Int) × List Int × List Int × Int × Int × Int × Int)
theorem replayed_sm : ∀ (l : List Int) (i : Int) {g : Gm}, g.sm → (replayed l i g).1.sm
  | [], i, g, h => h
  | m :: l, i, g, h => by
    unfold replayed
    cases (replayMove g m).2 with
    | true => exact replayed_sm l (i + 1) (replayMove_sm h)
    | false => exact h
/-- If all moves are made: how many there were. -/
theorem replayed_all : ∀ (l : List Int) (i : Int) {g : Gm}, (replayed l i g).2 = i + (l.length : Int) → (replayed l i g).1.mv = g.mv + (l.length : Int) ∧ (replayed l i g).1.r = g.r ∧ (isGame g = true → isGame (replayed l i g).1 = true)
  | [], i, g, _ => ⟨by simp [replayed], rfl, fun h => h⟩
  | m :: l, i, g, h => by
    unfold replayed at h ⊢
    cases hm : (replayMove g m).2 with
    | true =>
      rw [hm] at h
      rw [List.length_cons] at h
      obtain ⟨g1, g2, g3⟩ := replayMove_game hm
      obtain ⟨h1, h2, h3⟩ := replayed_all l (i + 1) (g := (replayMove g m).1) (by simp only [cond_true] at h; omega)
      refine ⟨?_, ?_, fun _ => h3 g1⟩
      · simp only [cond_true]; rw [h1, g2, List.length_cons]; omega
      · simp only [cond_true]; rw [h2, g3]
    | false =>
      rw [hm] at h
      rw [List.length_cons] at h
      simp only [cond_false] at h
      omega
end Go.Proofs.YtfbafmeeejmgoaaGreat
