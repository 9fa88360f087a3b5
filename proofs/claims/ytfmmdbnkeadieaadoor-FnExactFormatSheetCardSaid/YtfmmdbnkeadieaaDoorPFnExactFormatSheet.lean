/- FormatSheet in plain Lean: the program's and the reference's answer alike. Conditions: enough rounds, lists of at most 2^20. -/
import Derived.Test.YtfmmdbnkeadieaaDoorKit
import Derived.Test.YtfmmdbnkeadieaaDoorXFnExactFormatSheet
import Derived.Test.YtfmmdbnkeadieaaDoorFFnExactFormatSheet
import Derived.Test.YtfmmdbnkeadieaaDoorPItoa
set_option linter.unusedVariables false
set_option linter.unusedSimpArgs false
namespace Go.Proofs.YtfmmdbnkeadieaaDoor
open Go Go.Proofs.YtfmmdbnkeadieaaDoor.V
def rowB (l : List Int) : ByteArray := numsB l ⟨#[44]⟩
theorem foldRow (l : List (List Int)) : ∀ (b : List ByteArray), l.foldl (fun b a => b ++ [rowB a]) b = b ++ l.map rowB := by
  induction l with
  | nil => intro b; simp
  | cons a l ih => intro b; rw [List.foldl_cons, ih]; simp
theorem spec_FormatSheet.eq {k : Nat} (hk : BIG ≤ k) {a0 : List (List Int)} (h0 : a0.length < 1048577) (h1 : ∀ y ∈ a0, y.length < 1048577) (h2 : ∀ y ∈ a0, ∀ n ∈ y, wfI .i64 n) : spec_FormatSheet.f k a0 = some (joinOr (a0.map rowB) ⟨#[32]⟩) := by
  have hs : ∀ y ∈ a0.map rowB, y.size ≤ 33554432 := fun y hy => by
    obtain ⟨x, hx, rfl⟩ := List.mem_map.1 hy
    have e1 := h1 x hx
    have e2 : (rowB x).size ≤ 22 * x.length := numsB_le (h2 x hx) (Nat.le_refl 1)
    omega
  have hl : (a0.map rowB).length < 1048577 := by simpa using h0
  have h := scan (B := List ByteArray) a0 (fun m b i => spec_FormatSheet.l3 k a0 (fun x2 => (spec_l39Join.f k x2 (⟨#[32]⟩ : ByteArray)).bind fun r3 => some r3) m i b) (fun _ _ => true) (fun b a => b ++ [rowB a]) (fun x2 => (spec_l39Join.f k x2 (⟨#[32]⟩ : ByteArray)).bind fun r3 => some r3) (fun _ _ => none) (fun i b => b.length = i)
      (fun m b i h hI => by
        have hm := List.getElem_mem h
        have e1 := h1 _ hm
        have e2 := h2 _ hm
        refine (spec_FormatSheet.l3_succ ..).trans ((bif_t (dec_t (by omega))).trans ((chk_t (in_t h)).trans ?_))
        rw [Int.toNat_natCast, getD_lt _ h, wrap_up (by omega)]
        by_cases hp : (a0[i].length : Int) > 0
        · refine (bif_t (dec_t hp)).trans ((chk_t (in_t h)).trans ((bind_s (spec_l39Numbers.eq hk e1 e2)).trans ((bind_s (spec_l39Join.nums (sep := ⟨#[44]⟩) hk e1 e2 (Nat.le_refl 1))).trans ((chk_t (dec_t (by simp [room]; omega))).trans ?_))))
          have : numsOr a0[i] ⟨#[44]⟩ = rowB a0[i] := by
            unfold numsOr
            have : ((a0[i].length : Int) == 0) = false := by simp; intro hh; rw [hh] at hp; simp at hp
            rw [this]; rfl
          show spec_FormatSheet.l3 k a0 _ m _ (b ++ [numsOr a0[i] ⟨#[44]⟩]) = _
          rw [this]; rfl
        · refine (bif_f (dec_f hp)).trans ((chk_t (dec_t (by simp [room]; omega))).trans ?_)
          have hn : a0[i] = [] := List.length_eq_zero_iff.1 (by omega)
          rw [hn]; rfl)
      (fun b i h hI _ => by simp; omega)
      (fun m b hI => (spec_FormatSheet.l3_succ ..).trans (bif_f (dec_f (by omega))))
      a0.length 0 k [] (by omega) (BIG_lt hk h0) rfl
  refine h.trans ?_
  rw [List.drop_zero, run_fold, foldRow, List.nil_append]
  exact bind_s (spec_l39Join.eq hk hl hs (by decide))
theorem impl_FormatSheet.eq {k : Nat} (hk : BIG ≤ k) {a0 : List (List Int)} (h0 : a0.length < 1048577) (h1 : ∀ y ∈ a0, y.length < 1048577) (h2 : ∀ y ∈ a0, ∀ n ∈ y, wfI .i64 n) : impl_FormatSheet.f k a0 = some (joinOr (a0.map rowB) ⟨#[32]⟩) := by
  have hs : ∀ y ∈ a0.map rowB, y.size ≤ 33554432 := fun y hy => by
    obtain ⟨x, hx, rfl⟩ := List.mem_map.1 hy
    have e1 := h1 x hx
    have e2 : (rowB x).size ≤ 22 * x.length := numsB_le (h2 x hx) (Nat.le_refl 1)
    omega
  have hl : (a0.map rowB).length < 1048577 := by simpa using h0
  unfold impl_FormatSheet.f joinOr
  rw [List.length_map]
  cases ((a0.length : Int) == 0) with
  | true => rfl
  | false =>
    refine (bif_f rfl).trans ?_
    have h := scan (B := List ByteArray) a0 (fun m b i => impl_FormatSheet.l5 k a0 (a0.length : Int) (fun x2 => (strings_Join.f k x2 (⟨#[32]⟩ : ByteArray)).bind fun r3 => some r3) m i b) (fun _ _ => true) (fun b a => b ++ [rowB a]) (fun x2 => (strings_Join.f k x2 (⟨#[32]⟩ : ByteArray)).bind fun r3 => some r3) (fun _ _ => none) (fun i b => b.length = i)
      (fun m b i h hI => by
        have hm := List.getElem_mem h
        refine (impl_FormatSheet.l5_succ ..).trans ((bif_t (dec_t (by omega))).trans ((chk_t (in_t h)).trans ?_))
        rw [Int.toNat_natCast, getD_lt _ h, wrap_up (by omega)]
        exact (bind_s (impl_numbersText.eq (sep := ⟨#[44]⟩) hk (h1 _ hm) (h2 _ hm) (Nat.le_refl 1))).trans (chk_t (dec_t (by simp [room]; omega))))
      (fun b i h hI _ => by simp; omega)
      (fun m b hI => (impl_FormatSheet.l5_succ ..).trans (bif_f (dec_f (by omega))))
      a0.length 0 k [] (by omega) (BIG_lt hk h0) rfl
    refine h.trans ?_
    rw [List.drop_zero, run_fold, foldRow, List.nil_append]
    exact bind_s (strings_Join.eq k hl hs (by decide))
theorem FnExactFormatSheet.same {k : Nat} (hk : BIG ≤ k) (a0 : List (List Int)) (h0 : a0.length < 1048577) (h1 : ∀ y ∈ a0, y.length < 1048577) (h2 : ∀ y ∈ a0, ∀ n ∈ y, wfI .i64 n) : ∃ r : ByteArray, spec_FormatSheet.f k a0 = some r ∧ impl_FormatSheet.f k a0 = some r := ⟨_, spec_FormatSheet.eq hk h0 h1 h2, impl_FormatSheet.eq hk h0 h1 h2⟩
end Go.Proofs.YtfmmdbnkeadieaaDoor
