/- Sorting by insertion. Conditions: enough rounds, lists of at most 2^20. -/
import Derived.Test.YtfbafmeeejmgoaaDoorKit
import Derived.Test.YtfbafmeeejmgoaaDoorPRange
set_option linter.unusedVariables false
set_option linter.unusedSimpArgs false
namespace Go.Proofs.YtfbafmeeejmgoaaDoor
open Go Go.Proofs.YtfbafmeeejmgoaaDoor.V
/-- Where a number goes among the first k. -/
def posF (c : Int) (v : List Int) : Nat → Nat
  | 0 => 0
  | k + 1 => bif decide (v.getD k 0 > c) then posF c v k else k + 1
theorem posF_le (c : Int) (v : List Int) : ∀ k, posF c v k ≤ k
  | 0 => Nat.le_refl _
  | k + 1 => by
    have := posF_le c v k
    unfold posF
    cases decide (v.getD k 0 > c) with
    | true => simp only [cond_true]; omega
    | false => simp only [cond_false]; omega
def insI (v : List Int) (c : Int) : List Int := v.take (posF c v v.length) ++ c :: v.drop (posF c v v.length)
def sortedI (l : List Int) : List Int := l.foldl insI []
theorem insI_len (v : List Int) (c : Int) : (insI v c).length = v.length + 1 := by
  have := posF_le c v v.length
  simp [insI]; omega
/-- Room at the end, the rest moved by one, the number put in. -/
theorem ins_expr {v : List Int} {j : Nat} (d c : Int) (hj : j ≤ v.length) (n : Nat) (hn : n = (v ++ [d]).length) :
    (((v ++ [d]).take (j + 1)) ++ (((((v ++ [d]).take n).drop j).take (n - (j + 1))) ++ ((v ++ [d]).drop ((j + 1) + (min (n - j) (n - (j + 1))))))).set j c = v.take j ++ c :: v.drop j := by
  have hm : n = v.length + 1 := by rw [hn]; simp
  have e1 : (v ++ [d]).take n = v ++ [d] := List.take_of_length_le (by simp; omega)
  have e2 : (v ++ [d]).drop ((j + 1) + (min (n - j) (n - (j + 1)))) = [] := List.drop_eq_nil_of_le (by simp; omega)
  have e3 : ((v ++ [d]).drop j).take (n - (j + 1)) = v.drop j := by
    rw [List.drop_append_of_le_length hj, List.take_append_of_le_length (by simp; omega), List.take_of_length_le (by simp; omega)]
  rw [e1, e2, e3, List.append_nil, List.set_eq_take_append_cons_drop]
  have hl : ((v ++ [d]).take (j + 1)).length = j + 1 := by simp; omega
  rw [if_pos (by rw [List.length_append, hl]; omega)]
  congr 1
  · rw [List.take_append_of_le_length (by omega), List.take_take, show min j (j + 1) = j by omega, List.take_append_of_le_length hj]
  · rw [List.drop_append, hl, Nat.sub_self, List.drop_zero, List.drop_eq_nil_of_le (by omega), List.nil_append]
end Go.Proofs.YtfbafmeeejmgoaaDoor
