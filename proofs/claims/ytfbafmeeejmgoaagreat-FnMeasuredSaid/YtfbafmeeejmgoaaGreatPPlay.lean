/- Cards that can be played, and playing them, in plain Lean. Conditions: enough rounds, lists of at most 2^20. -/
import Derived.Test.YtfbafmeeejmgoaaGreatKit
import Derived.Test.YtfbafmeeejmgoaaGreatPGame
import Derived.Test.YtfbafmeeejmgoaaGreatPMatch
set_option linter.unusedVariables false
set_option linter.unusedSimpArgs false
namespace Go.Proofs.YtfbafmeeejmgoaaGreat
open Go Go.Proofs.YtfbafmeeejmgoaaGreat.V
/-! ### Sorting, as the reference has it -/
/-! ### What fits -/
/-! ### Cards of a list -/
theorem run_place (c : Int) {z : Nat → Int → Option Int} (hz : ∀ b a, z b a = some (b : Int)) : ∀ (l : List Int) (b : Nat), ∃ r : Int, run (fun (_ : Nat) (a : Int) => !(a == c)) (fun b _ => b + 1) (fun _ => some (-1)) z l b = some r ∧ decide (r ≥ 0) = hasCard l c
  | [], b => ⟨-1, rfl, rfl⟩
  | a :: l, b => by
    obtain ⟨r, h1, h2⟩ := run_place c hz l (b + 1)
    have e : run (fun (_ : Nat) (a : Int) => !(a == c)) (fun b _ => b + 1) (fun _ => some (-1)) z (a :: l) b = bif !(a == c) then run (fun (_ : Nat) (a : Int) => !(a == c)) (fun b _ => b + 1) (fun _ => some (-1)) z l (b + 1) else z b a := rfl
    unfold hasCard
    rw [List.any_cons]
    cases hac : (a == c) with
    | true => exact ⟨(b : Int), by rw [e, hac, hz]; rfl, by simp⟩
    | false => exact ⟨r, by rw [e, hac]; exact h1, by rw [Bool.false_or]; exact h2⟩
/-! ### What can be played -/
theorem wrap_pred {n : Nat} (h : 0 < n) (h2 : n < 4611686018427387904) : IntKind.wrap .i64 ((n : Int) - 1) = ((n - 1 : Nat) : Int) := by rw [wrap_i64 (by omega) (by omega)]; omega
theorem hand_sm {g : Gm} (h : g.sm) : g.hand.length < 1048577 := by
  unfold Gm.hand
  rw [List.getD_eq_getElem?_getD]
  cases e : g.hs[g.tn.toNat]? with
  | none => simp
  | some x => exact h.2.1.2 x (List.mem_of_getElem? e)
theorem game_turn {g : Gm} (h : isGame g = true) : 0 ≤ g.tn ∧ g.tn < (g.hs.length : Int) := by
  obtain ⟨h1, h2, h3, h4, h5, h6, h7⟩ := isGame_iff.1 h
  omega
theorem isEnded_over {g : Gm} (h : isGame g = true) : isEnded g = overG g := by unfold isEnded; rw [h]; rfl
/-! ### Playing a card -/
end Go.Proofs.YtfbafmeeejmgoaaGreat
