/- Games in plain Lean: valid, won, over. Conditions: enough rounds, lists of at most 2^20. -/
import Derived.Test.YtfbafmeeejmgoaaDoorKit
import Derived.Test.YtfbafmeeejmgoaaDoorPCopies
import Derived.Test.YtfbafmeeejmgoaaDoorPRules
set_option linter.unusedVariables false
set_option linter.unusedSimpArgs false
namespace Go.Proofs.YtfbafmeeejmgoaaDoor
open Go Go.Proofs.YtfbafmeeejmgoaaDoor.V
theorem spec_rl {k : Nat} (hk : BIG ≤ k) {r : Rl} (h : r.sm) : r.ap (spec_IsRules.f k) = some r.ok := spec_IsRules.eq hk _ _ _ _ _ _ h.1 h.2
theorem inR_dec {a lo hi : Int} (h : ¬ (lo ≤ a ∧ a ≤ hi)) : inR a lo hi = false := by
  cases e : inR a lo hi with
  | false => rfl
  | true => exact absurd (inR_iff.1 e) h
/-! ### The first hand without cards -/
theorem run_first {z : Nat → List Int → Option Int} (hz : ∀ b a, z b a = some (b : Int)) : ∀ (l : List (List Int)) (b : Nat), run (fun (_ : Nat) (a : List Int) => !((a.length : Int) == 0)) (fun b _ => b + 1) (fun _ => some (-1)) z l b = some (firstE (b : Int) l)
  | [], b => rfl
  | a :: l, b => by
    show (bif !((a.length : Int) == 0) then run _ _ _ _ l (b + 1) else z b a) = some (bif ((a.length : Int) == 0) then (b : Int) else firstE ((b : Int) + 1) l)
    rw [run_first hz l (b + 1), hz]
    cases ((a.length : Int) == 0) <;> rfl
/-! ### All cards -/
theorem flat_len_le : ∀ (l : List (List Int)), (∀ y ∈ l, y.length < 1048577) → l.flatten.length ≤ l.length * 1048576
  | [], _ => by simp
  | a :: l, h => by
    have := flat_len_le l (fun y hy => h y (by simp [hy]))
    have := h a (by simp)
    rw [List.flatten_cons, List.length_append, List.length_cons]
    omega
theorem flat_take_succ {v : List (List Int)} {i : Nat} (h : i < v.length) : (v.take (i + 1)).flatten = (v.take i).flatten ++ v[i] := by
  rw [List.take_succ_eq_append_getElem h, List.flatten_append]; simp
theorem flat_take_le {v : List (List Int)} (h : ∀ y ∈ v, y.length < 1048577) (i : Nat) : (v.take i).flatten.length ≤ i * 1048576 := by
  have h1 := flat_len_le (v.take i) (fun y hy => h y (List.mem_of_mem_take hy))
  have h2 : (v.take i).length ≤ i := by rw [List.length_take]; exact Nat.min_le_left _ _
  exact Nat.le_trans h1 (Nat.mul_le_mul_right _ h2)
theorem foldl_len : ∀ (l : List (List Int)) (b : Int), l.foldl (fun b a => b + (a.length : Int)) b = b + (l.flatten.length : Int)
  | [], b => by simp
  | a :: l, b => by
    rw [List.foldl_cons, foldl_len l, List.flatten_cons, List.length_append]; omega
end Go.Proofs.YtfbafmeeejmgoaaDoor
