/- What is settled at the end of a game, in plain Lean. Conditions: enough rounds, lists of at most 2^20. -/
import Derived.Test.YtfbafmeeejmgoaaGreatKit
import Derived.Test.YtfbafmeeejmgoaaGreatPGame
set_option linter.unusedVariables false
set_option linter.unusedSimpArgs false
namespace Go.Proofs.YtfbafmeeejmgoaaGreat
open Go Go.Proofs.YtfbafmeeejmgoaaGreat.V
def valueOf (c : Int) : Int := bif decide (rankOf c < 0) then 0 else bif decide (rankOf c ≤ 8) then rankOf c + 2 else bif rankOf c == 12 then 1 else 10
theorem valueOf_bd (c : Int) : 0 ≤ valueOf c ∧ valueOf c ≤ 10 := by
  have := rankOf_le c
  unfold valueOf
  cases h : decide (rankOf c < 0) with
  | true => simp
  | false =>
    have := of_decide_eq_false h
    cases h2 : decide (rankOf c ≤ 8) with
    | true => have := of_decide_eq_true h2; simp only [cond_true, cond_false]; omega
    | false => cases (rankOf c == 12) <;> simp
def handPts (h : List Int) : Int := (h.map valueOf).sum
theorem foldl_pts : ∀ (l : List Int) (b : Int), l.foldl (fun b a => b + valueOf a) b = b + handPts l
  | [], b => by simp [handPts]
  | a :: l, b => by
    rw [List.foldl_cons, foldl_pts l]
    unfold handPts
    rw [List.map_cons, List.sum_cons]; omega
theorem handPts_bd : ∀ (l : List Int), 0 ≤ handPts l ∧ handPts l ≤ 10 * (l.length : Int)
  | [] => by simp [handPts]
  | a :: l => by
    have := handPts_bd l
    have := valueOf_bd a
    unfold handPts at *
    rw [List.map_cons, List.sum_cons, List.length_cons]
    omega
def leftPoints (g : Gm) : List Int := g.hs.map handPts
theorem leftPoints_bd {g : Gm} (h : ∀ y ∈ g.hs, y.length < 1048577) : ∀ x ∈ leftPoints g, 0 ≤ x ∧ x ≤ 10485760 := by
  intro x hx
  obtain ⟨y, hy, rfl⟩ := List.mem_map.1 hx
  have := handPts_bd y
  have := h y hy
  omega
/-! ### Sums -/
/-! ### What each player gets -/
def settled (g : Gm) : List Int := bif isGame g then bif decide (winner g < 0) then List.replicate g.hs.length 0 else ((leftPoints g).map fun x => 0 - x).set (winner g).toNat (leftPoints g).sum else []
theorem set_fold (w : Nat) (S : Int) : ∀ (l b : List Int), l.foldl (fun b a => b ++ [bif ((b.length : Int) == (w : Int)) then S else 0 - a]) b = b ++ (if b.length ≤ w then (l.map fun x => 0 - x).set (w - b.length) S else l.map fun x => 0 - x)
  | [], b => by simp
  | a :: l, b => by
    rw [List.foldl_cons, set_fold w S l, List.length_append, List.length_singleton, List.append_assoc]
    congr 1
    by_cases h : b.length = w
    · rw [if_neg (by omega), if_pos (by omega), show w - b.length = 0 by omega]
      rw [show ((b.length : Int) == (w : Int)) = true by simp [h]]
      rfl
    · rw [show ((b.length : Int) == (w : Int)) = false by simp; omega]
      by_cases h2 : b.length ≤ w
      · rw [if_pos (by omega), if_pos h2, show w - b.length = (w - (b.length + 1)) + 1 by omega]
        rfl
      · rw [if_neg (by omega), if_neg h2]
        rfl
theorem zero_fold : ∀ (l b : List Int), l.foldl (fun b _ => b ++ [(0 : Int)]) b = b ++ List.replicate l.length 0
  | [], b => by simp
  | a :: l, b => by
    rw [List.foldl_cons, zero_fold l, List.length_cons, List.replicate_succ, List.append_assoc]; rfl
theorem winner_lt {g : Gm} (h : 0 ≤ winner g) : winner g < (g.hs.length : Int) := by
  unfold winner at *
  cases hg : isGame g <;> rw [hg] at h
  · simp at h
  · simp only [cond_true] at *
    rcases firstE_le g.hs 0 with h1 | h1 <;> omega
theorem settled_len {g : Gm} (h : isGame g = true) : (settled g).length = g.hs.length := by
  unfold settled
  rw [h]
  cases decide (winner g < 0) with
  | true => simp
  | false => simp [leftPoints]
end Go.Proofs.YtfbafmeeejmgoaaGreat
