/- FormatTable in plain Lean: the program's and the reference's answer alike. Conditions: enough rounds, lists of at most 2^20. -/
import Derived.Test.YtfmmdbnkeadieaaDoorKit
import Derived.Test.YtfmmdbnkeadieaaDoorXFnExactFormatTable
import Derived.Test.YtfmmdbnkeadieaaDoorFFnExactFormatTable
import Derived.Test.YtfmmdbnkeadieaaDoorPItoa
set_option linter.unusedVariables false
set_option linter.unusedSimpArgs false
namespace Go.Proofs.YtfmmdbnkeadieaaDoor
open Go Go.Proofs.YtfmmdbnkeadieaaDoor.V
theorem wfI_len {n : Nat} (h : n < 1048577) : wfI .i64 (n : Int) := by
  have h1 : -9223372036854775808 ≤ (n : Int) ∧ (n : Int) ≤ 9223372036854775807 := by omega
  simpa [wfI, Lit.wf, IntKind.min, IntKind.max, IntKind.signed, IntKind.bits] using h1
theorem wf_three {a b c : Nat} (ha : a < 1048577) (hb : b < 1048577) (hc : c < 1048577) : ∀ n ∈ [(a : Int), (b : Int), (c : Int)], wfI .i64 n := fun n hn => by
  simp only [List.mem_cons, List.not_mem_nil, or_false] at hn
  rcases hn with rfl | rfl | rfl
  · exact wfI_len ha
  · exact wfI_len hb
  · exact wfI_len hc
def onB (b : Bool) : ByteArray := bif b then ⟨#[32, 111, 110]⟩ else ⟨#[32, 111, 102, 102]⟩
set_option maxRecDepth 100000 in
set_option maxRecDepth 100000 in
theorem FnExactFormatTable.same {k : Nat} (hk : BIG ≤ k) (a0_0 : Int) (a0_1 : Int) (a0_2 : Bool) (a0_3 : Bool) (a0_4 : List Int) (a0_5 : List Int) (a0_6 : Int) (a0_7 : Int) (a0_8 : List Int) (a0_9 : Bool) (a0_10 : List Int) (a0_11 : Int) (a0_12 : Int) (a0_13 : Bool) (a0_14 : Bool) (a0_15 : List Int) (a0_16 : List Int) (a0_17 : Int) (a0_18 : Int) (a0_19 : List (List Int)) (a0_20 : List Int) (a0_21 : List Int) (a0_22 : Int) (a0_23 : Int) (a0_24 : Int) (a0_25 : List Int) (a0_26 : List (List Int)) (h0 : wfI .i64 a0_0) (h1 : wfI .i64 a0_1) (h2 : a0_4.length < 1048577) (h3 : ∀ n ∈ a0_4, wfI .i64 n) (h4 : a0_5.length < 1048577) (h5 : ∀ n ∈ a0_5, wfI .i64 n) (h6 : wfI .i64 a0_6) (h7 : wfI .i64 a0_7) (h8 : a0_8.length < 1048577) (h9 : ∀ n ∈ a0_8, wfI .i64 n) (h10 : a0_10.length < 1048577) (h11 : ∀ n ∈ a0_10, wfI .i64 n) (h12 : wfI .i64 a0_11) (h13 : wfI .i64 a0_12) (h14 : a0_15.length < 1048577) (h15 : ∀ n ∈ a0_15, wfI .i64 n) (h16 : a0_16.length < 1048577) (h17 : ∀ n ∈ a0_16, wfI .i64 n) (h18 : wfI .i64 a0_17) (h19 : wfI .i64 a0_18) (h20 : a0_19.length < 1048577) (h21 : ∀ y ∈ a0_19, y.length < 1048577) (h22 : ∀ y ∈ a0_19, ∀ n ∈ y, wfI .i64 n) (h23 : a0_20.length < 1048577) (h24 : ∀ n ∈ a0_20, wfI .i64 n) (h25 : a0_21.length < 1048577) (h26 : ∀ n ∈ a0_21, wfI .i64 n) (h27 : wfI .i64 a0_22) (h28 : wfI .i64 a0_23) (h29 : wfI .i64 a0_24) (h30 : a0_25.length < 1048577) (h31 : ∀ n ∈ a0_25, wfI .i64 n) (h32 : a0_26.length < 1048577) (h33 : ∀ y ∈ a0_26, y.length < 1048577) (h34 : ∀ y ∈ a0_26, ∀ n ∈ y, wfI .i64 n) : ∃ r : ByteArray, spec_FormatTable.f k a0_0 a0_1 a0_2 a0_3 a0_4 a0_5 a0_6 a0_7 a0_8 a0_9 a0_10 a0_11 a0_12 a0_13 a0_14 a0_15 a0_16 a0_17 a0_18 a0_19 a0_20 a0_21 a0_22 a0_23 a0_24 a0_25 a0_26 = some r ∧ impl_FormatTable.f k a0_0 a0_1 a0_2 a0_3 a0_4 a0_5 a0_6 a0_7 a0_8 a0_9 a0_10 a0_11 a0_12 a0_13 a0_14 a0_15 a0_16 a0_17 a0_18 a0_19 a0_20 a0_21 a0_22 a0_23 a0_24 a0_25 a0_26 = some r := by
  have hw := wf_three h8 h30 h32
  have hl : [(a0_8.length : Int), (a0_25.length : Int), (a0_26.length : Int)].length < 1048577 := by simp
  have hsz := numsB_le (sep := ⟨#[32]⟩) hw (Nat.le_refl 1)
  rw [show [(a0_8.length : Int), (a0_25.length : Int), (a0_26.length : Int)].length = 3 from rfl] at hsz
  refine ⟨numsB [(a0_8.length : Int), (a0_25.length : Int), (a0_26.length : Int)] ⟨#[32]⟩ ++ onB a0_9, ?_, ?_⟩
  · cases a0_9 with
    | true => exact (bif_t rfl).trans ((bind_s (spec_FormatNumbers.eq hk hl hw)).trans (chk_t (dec_t (show (numsB _ _).size + 3 ≤ 9223372036854775807 by omega))))
    | false => exact (bif_f rfl).trans ((bind_s (spec_FormatNumbers.eq hk hl hw)).trans (chk_t (dec_t (show (numsB _ _).size + 4 ≤ 9223372036854775807 by omega))))
  · cases a0_9 with
    | true => exact (bif_t rfl).trans ((bind_s (impl_numbersText.eq (sep := ⟨#[32]⟩) hk hl hw (Nat.le_refl 1))).trans (chk_t (dec_t (show (numsB _ _).size + 3 ≤ 9223372036854775807 by omega))))
    | false => exact (bif_f rfl).trans ((bind_s (impl_numbersText.eq (sep := ⟨#[32]⟩) hk hl hw (Nat.le_refl 1))).trans (chk_t (dec_t (show (numsB _ _).size + 4 ≤ 9223372036854775807 by omega))))
end Go.Proofs.YtfmmdbnkeadieaaDoor
