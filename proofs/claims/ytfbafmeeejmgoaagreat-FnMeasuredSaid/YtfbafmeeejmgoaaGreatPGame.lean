/- Games in plain Lean: valid, won, over. Conditions: enough rounds, lists of at most 2^20. -/
import Derived.Test.YtfbafmeeejmgoaaGreatKit
import Derived.Test.YtfbafmeeejmgoaaGreatFFnMeasured
import Derived.Test.YtfbafmeeejmgoaaGreatPCopies
import Derived.Test.YtfbafmeeejmgoaaGreatPRules
set_option linter.unusedVariables false
set_option linter.unusedSimpArgs false
namespace Go.Proofs.YtfbafmeeejmgoaaGreat
open Go Go.Proofs.YtfbafmeeejmgoaaGreat.V
theorem impl_rl {k : Nat} (hk : BIG ≤ k) {r : Rl} (h : r.sm) : r.ap (impl_IsRules.f k) = some r.ok := impl_IsRules.eq hk _ _ _ _ _ _ h.1 h.2
theorem inR_dec {a lo hi : Int} (h : ¬ (lo ≤ a ∧ a ≤ hi)) : inR a lo hi = false := by
  cases e : inR a lo hi with
  | false => rfl
  | true => exact absurd (inR_iff.1 e) h
/-! ### The first hand without cards -/
theorem run_first {z : Nat → List Int → Option Int} (hz : ∀ b a, z b a = some (b : Int)) : ∀ (l : List (List Int)) (b : Nat), run (fun (_ : Nat) (a : List Int) => !((a.length : Int) == 0)) (fun b _ => b + 1) (fun _ => some (-1)) z l b = some (firstE (b : Int) l)
  | [], b => rfl
  | a :: l, b => by
    show (bif !((a.length : Int) == 0) then run _ _ _ _ l (b + 1) else z b a) = some (bif ((a.length : Int) == 0) then (b : Int) else firstE ((b : Int) + 1) l)
    rw [run_first hz l (b + 1), hz]
    cases ((a.length : Int) == 0) <;> rfl
/-! ### All cards -/
theorem flat_len_le : ∀ (l : List (List Int)), (∀ y ∈ l, y.length < 1048577) → l.flatten.length ≤ l.length * 1048576
  | [], _ => by simp
  | a :: l, h => by
    have := flat_len_le l (fun y hy => h y (by simp [hy]))
    have := h a (by simp)
    rw [List.flatten_cons, List.length_append, List.length_cons]
    omega
theorem flat_take_succ {v : List (List Int)} {i : Nat} (h : i < v.length) : (v.take (i + 1)).flatten = (v.take i).flatten ++ v[i] := by
  rw [List.take_succ_eq_append_getElem h, List.flatten_append]; simp
theorem flat_take_le {v : List (List Int)} (h : ∀ y ∈ v, y.length < 1048577) (i : Nat) : (v.take i).flatten.length ≤ i * 1048576 := by
  have h1 := flat_len_le (v.take i) (fun y hy => h y (List.mem_of_mem_take hy))
  have h2 : (v.take i).length ≤ i := by rw [List.length_take]; exact Nat.min_le_left _ _
  exact Nat.le_trans h1 (Nat.mul_le_mul_right _ h2)
theorem impl_AllApart.eq {k : Nat} (hk : BIG ≤ k) {l : List (List Int)} (hl : smII l) (hf : l.flatten.length < 1073741824) : impl_AllApart.f k l = some (isHand l.flatten) := by
  have h := scan (B := List Int) l (fun m b i => impl_AllApart.l3 k l (l.length : Int) (fun x1 => (impl_IsHand.f k x1).bind fun r2 => some r2) m i b) (fun _ _ => true) (fun b a => b ++ a) (fun x1 => (impl_IsHand.f k x1).bind fun r2 => some r2) (fun _ _ => none) (fun i b => b.length ≤ i * 1048576)
    (fun m b i h hI => by
      have := hl.1
      have := hl.2 _ (List.getElem_mem h)
      refine (impl_AllApart.l3_succ ..).trans ((bif_t (dec_t (by omega))).trans ((chk_t (in_t h)).trans ?_))
      rw [Int.toNat_natCast, getD_lt _ h, wrap_up (by omega)]
      exact chk_t (rm8 (by omega)))
    (fun b i h hI _ => by
      have := hl.2 _ (List.getElem_mem h)
      rw [List.length_append]; omega)
    (fun m b hI => (impl_AllApart.l3_succ ..).trans (bif_f (dec_f (by omega))))
    l.length 0 k [] (by omega) (BIG_lt hk hl.1) (by simp)
  refine h.trans ?_
  rw [List.drop_zero, run_fold, foldl_app, List.nil_append]
  exact bind_s (impl_IsHand.eq hk hf)
theorem foldl_len : ∀ (l : List (List Int)) (b : Int), l.foldl (fun b a => b + (a.length : Int)) b = b + (l.flatten.length : Int)
  | [], b => by simp
  | a :: l, b => by
    rw [List.foldl_cons, foldl_len l, List.flatten_cons, List.length_append]; omega
theorem impl_TotalCards.eq {k : Nat} (hk : BIG ≤ k) {l : List (List Int)} (hl : smII l) : impl_TotalCards.f k l = some (l.flatten.length : Int) := by
  have h := scan (B := Int) l (fun m b i => impl_TotalCards.l3 k l (l.length : Int) (fun x1 => some x1) m b i) (fun _ _ => true) (fun b a => b + (a.length : Int)) (fun x1 => some x1) (fun _ _ => none) (fun i b => 0 ≤ b ∧ b ≤ (i : Int) * 1048576)
    (fun m b i h hI => by
      have := hl.1
      have := hl.2 _ (List.getElem_mem h)
      refine (impl_TotalCards.l3_succ ..).trans ((bif_t (dec_t (by omega))).trans ((chk_t (in_t h)).trans ?_))
      rw [Int.toNat_natCast, getD_lt _ h, wrap_up (by omega), wrap_i64 (by omega) (by omega)]
      rfl)
    (fun b i h hI _ => by
      have := hl.2 _ (List.getElem_mem h)
      omega)
    (fun m b hI => (impl_TotalCards.l3_succ ..).trans (bif_f (dec_f (by omega))))
    l.length 0 k 0 (by omega) (BIG_lt hk hl.1) (by simp)
  refine h.trans ?_
  rw [List.drop_zero, run_fold, foldl_len, Int.zero_add]
theorem impl_isWhole.eq {k : Nat} (hk : BIG ≤ k) {l : List (List Int)} (hl : smII l) (hf : l.flatten.length < 1073741824) : impl_isWhole.f k l = some (whole l) := by
  refine (bind_s (impl_AllApart.eq hk hl hf)).trans ?_
  unfold whole
  cases isHand l.flatten with
  | false => rfl
  | true => exact (bif_t rfl).trans (bind_s (impl_TotalCards.eq hk hl))
end Go.Proofs.YtfbafmeeejmgoaaGreat
