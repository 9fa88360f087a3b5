/- Players that choose by themselves, in plain Lean. Conditions: enough rounds, lists of at most 2^20. -/
import Derived.Test.YtfbafmeeejmgoaaGreatKit
import Derived.Test.YtfbafmeeejmgoaaGreatPTake
set_option linter.unusedVariables false
set_option linter.unusedSimpArgs false
namespace Go.Proofs.YtfbafmeeejmgoaaGreat
open Go Go.Proofs.YtfbafmeeejmgoaaGreat.V
theorem suit_dec (c : Int) : decide (suitOf c ≥ 0) = isCard c := by
  cases h : isCard c with
  | false => unfold suitOf; rw [h]; rfl
  | true =>
    have h0 := isCard_iff.1 h
    unfold suitOf
    rw [h, cond_true, Int.tdiv_eq_ediv_of_nonneg h0.1]
    exact dec_t (by omega)
theorem card_suit {c : Int} (h : isCard c = true) : 0 ≤ suitOf c ∧ suitOf c < 4 := by
  have h1 := suit_dec c
  rw [h, decide_eq_true_eq] at h1
  have := suitOf_le c
  omega
/-! ### How many of each suit -/
def scStep (b : List Int) (a : Int) : List Int := bif decide (suitOf a ≥ 0) then b.set (suitOf a).toNat (b.getD (suitOf a).toNat 0 + 1) else b
theorem suitCounts_def (l : List Int) : suitCounts l = l.foldl scStep [0, 0, 0, 0] := rfl
def scInv (i : Nat) (b : List Int) : Prop := b.length = 4 ∧ ∀ x ∈ b, 0 ≤ x ∧ x ≤ (i : Int)
theorem scInv_step {i : Nat} {b : List Int} (h : scInv i b) (a : Int) : scInv (i + 1) (scStep b a) := by
  unfold scStep
  cases hs : decide (suitOf a ≥ 0) with
  | false => exact ⟨h.1, fun x hx => by have := h.2 x hx; omega⟩
  | true =>
    have hs' := of_decide_eq_true hs
    have := suitOf_le a
    have hm := h.2 _ (getD_mem (l := b) (i := (suitOf a).toNat) 0 (by have := h.1; omega))
    refine ⟨by simpa using h.1, fun x hx => ?_⟩
    rcases List.mem_or_eq_of_mem_set hx with hx | rfl
    · have := h.2 x hx; omega
    · omega
theorem scInv_fold : ∀ (l : List Int) (i : Nat) (b : List Int), scInv i b → scInv (i + l.length) (l.foldl scStep b)
  | [], i, b, h => h
  | a :: l, i, b, h => by
    have := scInv_fold l (i + 1) _ (scInv_step h a)
    rw [List.length_cons, show i + (l.length + 1) = i + 1 + l.length by omega]
    exact this
theorem scInv_0 : scInv 0 [0, 0, 0, 0] := ⟨rfl, fun x hx => by
  simp only [List.mem_cons, List.not_mem_nil, or_false, or_self] at hx
  subst hx; simp⟩
theorem suitCounts_len (l : List Int) : (suitCounts l).length = 4 := (scInv_fold l 0 _ scInv_0).1
/-! ### The index of the greatest number -/
def moStep (l : List Int) (b : Int × Nat) (a : Int) : Int × Nat := (bif decide (b.1 < 0) then (b.2 : Int) else bif decide (a > l.getD b.1.toNat 0) then (b.2 : Int) else b.1, b.2 + 1)
def mostOf (l : List Int) : Int := (l.foldl (moStep l) (-1, 0)).1
theorem most_best (n : Int → Int) (p : List Int) : ∀ (rest pre : List Int) (j : Nat), p = pre ++ rest → j < pre.length →
    ∃ j' : Nat, (rest.map n).foldl (moStep (p.map n)) ((j : Int), pre.length) = ((j' : Int), p.length) ∧ j' < p.length ∧ p.getD j' 0 = bestBy n rest (p.getD j 0)
  | [], pre, j, hp, hj => by
    subst hp
    exact ⟨j, by simp, by simpa using hj, rfl⟩
  | c :: rest, pre, j, hp, hj => by
    have hl : p.length = pre.length + (rest.length + 1) := by rw [hp]; simp
    have e1 : (p.map n).getD ((j : Int).toNat) 0 = n (p.getD j 0) := by
      rw [Int.toNat_natCast, getD_lt _ (by rw [List.length_map]; omega), getD_lt _ (by omega), List.getElem_map]
    have ec : p.getD pre.length 0 = c := by
      rw [hp, getD_lt _ (by simp)]; simp
    have hstep : moStep (p.map n) ((j : Int), pre.length) (n c) = (((bif decide (n c > n (p.getD j 0)) then pre.length else j : Nat) : Int), (pre ++ [c]).length) := by
      unfold moStep
      rw [dec_f (p := ((j : Int)) < 0) (by omega), e1]
      cases decide (n c > n (p.getD j 0)) <;> simp
    obtain ⟨j', h1, h2, h3⟩ := most_best n p rest (pre ++ [c]) (bif decide (n c > n (p.getD j 0)) then pre.length else j) (by rw [hp]; simp) (by
      cases decide (n c > n (p.getD j 0)) <;> simp <;> omega)
    refine ⟨j', ?_, h2, ?_⟩
    · rw [List.map_cons, List.foldl_cons, hstep]
      exact h1
    · rw [h3]
      show _ = bestBy n rest (bif decide (n c > n (p.getD j 0)) then c else p.getD j 0)
      cases decide (n c > n (p.getD j 0)) with
      | true => simp only [cond_true]; rw [ec]
      | false => rfl
theorem mostOf_best (n : Int → Int) {p : List Int} (h : 0 < p.length) : 0 ≤ mostOf (p.map n) ∧ mostOf (p.map n) < (p.length : Int) ∧ p.getD (mostOf (p.map n)).toNat 0 = bestBy n p (p.getD 0 0) := by
  cases p with
  | nil => simp at h
  | cons c rest =>
    obtain ⟨j', h1, h2, h3⟩ := most_best n (c :: rest) rest [c] 0 rfl (by simp)
    have e : mostOf ((c :: rest).map n) = (j' : Int) := by
      unfold mostOf
      rw [List.map_cons, List.foldl_cons]
      have hs : moStep (n c :: rest.map n) (-1, 0) (n c) = (((0 : Nat) : Int), [c].length) := rfl
      rw [hs]
      exact congrArg Prod.fst h1
    rw [e, Int.toNat_natCast]
    refine ⟨by omega, by omega, ?_⟩
    rw [h3]
    show _ = bestBy n rest (bif decide (n c > n c) then c else c)
    rw [dec_f (p := n c > n c) (by omega)]
    rfl
/-! ### What a kind of player chooses -/
abbrev cntOf (g : Gm) (c : Int) : Int := (suitCounts g.hand).getD (suitOf c).toNat 0
end Go.Proofs.YtfbafmeeejmgoaaGreat
