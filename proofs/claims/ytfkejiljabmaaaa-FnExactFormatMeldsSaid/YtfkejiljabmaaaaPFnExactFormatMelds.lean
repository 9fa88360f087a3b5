/- FormatMelds in plain Lean: the program's and the reference's answer alike. Conditions: enough rounds, lists of at most 2^20. -/
import Derived.Test.YtfkejiljabmaaaaKit
import Derived.Test.YtfkejiljabmaaaaXFnExactFormatMelds
import Derived.Test.YtfkejiljabmaaaaFFnExactFormatMelds
import Derived.Test.YtfkejiljabmaaaaPText
import Derived.Test.YtfkejiljabmaaaaPJoin
set_option linter.unusedVariables false
set_option linter.unusedSimpArgs false
namespace Go.Proofs.Ytfkejiljabmaaaa
open Go Go.Proofs.Ytfkejiljabmaaaa.V
theorem foldHand (l : List (List Int)) : ∀ (b : List ByteArray), l.foldl (fun b a => b ++ [handText a]) b = b ++ l.map handText := by
  induction l with
  | nil => intro b; simp
  | cons a l ih => intro b; rw [List.foldl_cons, ih]; simp
theorem FnExactFormatMelds.same {k : Nat} (hk : BIG ≤ k) (a0 : List (List Int)) (h0 : a0.length < 1048577) (h1 : ∀ y ∈ a0, y.length < 1048577) (h2 : ∀ y ∈ a0, ∀ n ∈ y, wfI .i64 n) : ∃ r : ByteArray, spec_FormatMelds.f k a0 = some r ∧ impl_FormatMelds.f k a0 = some r := by
  have hs : ∀ y ∈ a0.map handText, y.size ≤ 33554432 := fun y hy => by
    obtain ⟨x, hx, rfl⟩ := List.mem_map.1 hy
    have := handText_le x
    have := h1 x hx
    omega
  have hl : (a0.map handText).length < 1048577 := by simpa using h0
  refine ⟨joinOr (a0.map handText) ⟨#[32]⟩, ?_, ?_⟩
  · have h := scan (B := List ByteArray) a0 (fun m b i => spec_FormatMelds.l3 k a0 (fun x2 => (spec_l39Join.f k x2 (⟨#[32]⟩ : ByteArray)).bind fun r3 => some r3) m i b) (fun _ _ => true) (fun b a => b ++ [handText a]) (fun x2 => (spec_l39Join.f k x2 (⟨#[32]⟩ : ByteArray)).bind fun r3 => some r3) (fun _ _ => none) (fun i b => b.length = i)
      (fun m b i h hI => by
        refine (spec_FormatMelds.l3_succ ..).trans ((bif_t (dec_t (by omega))).trans ((chk_t (in_t h)).trans ?_))
        rw [Int.toNat_natCast, getD_lt _ h, wrap_up (by omega)]
        exact (bind_s (spec_HandText.eq hk (h1 _ (List.getElem_mem h)))).trans (chk_t (dec_t (by simp [room]; omega))))
      (fun b i h hI _ => by simp; omega)
      (fun m b hI => (spec_FormatMelds.l3_succ ..).trans (bif_f (dec_f (by omega))))
      a0.length 0 k [] (by omega) (BIG_lt hk h0) rfl
    refine h.trans ?_
    rw [List.drop_zero, run_fold, foldHand, List.nil_append]
    exact bind_s (spec_l39Join.eq hk hl hs (by decide))
  · unfold impl_FormatMelds.f joinOr
    rw [List.length_map]
    cases ((a0.length : Int) == 0) with
    | true => rfl
    | false =>
    refine (bif_f rfl).trans ?_
    have h := scan (B := List ByteArray) a0 (fun m b i => impl_FormatMelds.l5 k a0 (a0.length : Int) (fun x2 => (strings_Join.f k x2 (⟨#[32]⟩ : ByteArray)).bind fun r3 => some r3) m i b) (fun _ _ => true) (fun b a => b ++ [handText a]) (fun x2 => (strings_Join.f k x2 (⟨#[32]⟩ : ByteArray)).bind fun r3 => some r3) (fun _ _ => none) (fun i b => b.length = i)
      (fun m b i h hI => by
        refine (impl_FormatMelds.l5_succ ..).trans ((bif_t (dec_t (by omega))).trans ((chk_t (in_t h)).trans ?_))
        rw [Int.toNat_natCast, getD_lt _ h, wrap_up (by omega)]
        exact (bind_s (impl_HandText.eq hk (h1 _ (List.getElem_mem h)))).trans (chk_t (dec_t (by simp [room]; omega))))
      (fun b i h hI _ => by simp; omega)
      (fun m b hI => (impl_FormatMelds.l5_succ ..).trans (bif_f (dec_f (by omega))))
      a0.length 0 k [] (by omega) (BIG_lt hk h0) rfl
    refine h.trans ?_
    rw [List.drop_zero, run_fold, foldHand, List.nil_append]
    exact bind_s (strings_Join.eq k hl hs (by decide))
end Go.Proofs.Ytfkejiljabmaaaa
