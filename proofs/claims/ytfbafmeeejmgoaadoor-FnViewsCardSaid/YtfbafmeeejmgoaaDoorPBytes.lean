/- Bytes of texts, in plain Lean. Conditions: none. -/
import Derived.Test.YtfbafmeeejmgoaaDoorKit
import Derived.Test.YtfbafmeeejmgoaaDoorVExt
set_option linter.unusedVariables false
set_option linter.unusedSimpArgs false
namespace Go.Proofs.YtfbafmeeejmgoaaDoor
open Go Go.Proofs.YtfbafmeeejmgoaaDoor.V
/-! ### Bytes -/
theorem bytes_ext {a b : ByteArray} (h : a.data.toList = b.data.toList) : a = b := by
  cases a; cases b
  congr 1
  exact Array.ext' h
theorem bytes_eq_iff {a b : ByteArray} : (a.toList == b.toList) = decide (a.data.toList = b.data.toList) := by
  rw [Go.Lib.toList_data, Go.Lib.toList_data]
  by_cases h : a.data.toList = b.data.toList
  · rw [h]; simp
  · rw [dec_f h]; simpa using h
theorem bytes_cat (a b : ByteArray) : (a ++ b).data.toList = a.data.toList ++ b.data.toList := by rw [ByteArray.data_append, Array.toList_append]
theorem bytes_len (a : ByteArray) : a.data.toList.length = a.size := by rw [Array.length_toList]; rfl
theorem sb_get {s : ByteArray} {i : Nat} {b : UInt8} {l : List UInt8} (h : s.data.toList.drop i = b :: l) : sb s i = (b.toNat : Int) := by
  have h1 : s.data.toList[i]? = some b := by
    have := congrArg (fun l => l[0]?) h
    simpa using this
  have h2 : s.data[i]? = some b := by rw [← Array.getElem?_toList]; exact h1
  unfold sb
  rw [h2]; rfl
theorem drop_more {s : ByteArray} {i : Nat} {b : UInt8} {l : List UInt8} (h : s.data.toList.drop i = b :: l) : i < s.size ∧ s.data.toList.drop (i + 1) = l := by
  refine ⟨?_, ?_⟩
  · rw [← bytes_len]
    rcases Nat.lt_or_ge i s.data.toList.length with h1 | h1
    · exact h1
    · rw [List.drop_of_length_le h1] at h; cases h
  · have := congrArg (List.drop 1) h
    rw [List.drop_drop] at this
    simpa [Nat.add_comm] using this
theorem drop_none {s : ByteArray} {i : Nat} (hi : i ≤ s.size) (h : s.data.toList.drop i = []) : i = s.size := by
  have := List.drop_eq_nil_iff.1 h
  rw [bytes_len] at this
  omega
end Go.Proofs.YtfbafmeeejmgoaaDoor
