/- No card is lost, in plain Lean. Conditions: enough rounds, lists of at most 2^20. -/
import Derived.Test.YtfmmdbnkeadieaaKit
import Derived.Test.YtfmmdbnkeadieaaFFnExactNothingLost
import Derived.Test.YtfmmdbnkeadieaaPTable
import Derived.Test.YtfmmdbnkeadieaaPLong
set_option linter.unusedVariables false
set_option linter.unusedSimpArgs false
namespace Go.Proofs.Ytfmmdbnkeadieaa
open Go Go.Proofs.Ytfmmdbnkeadieaa.V
def nothingLost (t : Tb) : Bool := !t.on || whole (t.g.hs ++ [t.g.st, t.g.hp])
theorem spec_NothingLost.loop {R : Type} {k : Nat} (hk : BIG ≤ k) {hs : List (List Int)} (h2 : smII hs) (e0 : List Int → Option R) (b0 : List Int) (hb : b0.length < 4194304) : spec_NothingLost.l5 k hs e0 k (0 : Int) b0 = e0 (b0 ++ hs.flatten) := by
  have h := scan (B := List Int) hs (fun m b i => spec_NothingLost.l5 k hs e0 m i b) (fun _ _ => true) (fun b a => b ++ a) e0 (fun _ _ => none) (fun i b => b.length ≤ (i + 4) * 1048576)
    (fun m b i h hI => by
      have := h2.2 _ (List.getElem_mem h)
      have := h2.1
      refine (spec_NothingLost.l5_succ ..).trans ((bif_t (dec_t (by omega))).trans ((chk_t (in_t h)).trans ?_))
      rw [Int.toNat_natCast, getD_lt _ h, wrap_up (by omega)]
      exact chk_t (rm8 (by omega)))
    (fun b i h hI _ => by
      have := h2.2 _ (List.getElem_mem h)
      rw [List.length_append]; omega)
    (fun m b hI => (spec_NothingLost.l5_succ ..).trans (bif_f (dec_f (by omega))))
    hs.length 0 k b0 (by omega) (BIG_lt hk h2.1) (by omega)
  refine h.trans ?_
  rw [List.drop_zero, run_fold, foldl_app]
theorem spec_NothingLost.eq {k : Nat} (hk : BIG ≤ k) {t : Tb} (h : t.sm) : t.ap (spec_NothingLost.f k) = some (nothingLost t) := by
  have h2 := h.2.2.2.1.2.1
  have h3 : t.g.st.length < 1048577 := h.2.2.2.1.2.2.1
  have h4 : t.g.hp.length < 1048577 := h.2.2.2.1.2.2.2
  unfold nothingLost
  rcases Bool.eq_false_or_eq_true t.on with ho | ho
  · have e : (!t.on || whole (t.g.hs ++ [t.g.st, t.g.hp])) = whole (t.g.hs ++ [t.g.st, t.g.hp]) := by rw [ho]; rfl
    rw [e]
    refine (bif_f (by rw [ho]; rfl)).trans ((chk_t (rm8 (by omega))).trans ((chk_t (rm8 (by simp only [List.nil_append]; omega))).trans ((spec_NothingLost.loop hk h2 _ _ (by simp only [List.nil_append, List.length_append]; omega)).trans ?_)))
    rw [List.nil_append]
    refine (bind_s (spec_IsHand.any hk _)).trans ?_
    have hp : (t.g.st ++ t.g.hp ++ t.g.hs.flatten).Perm (t.g.hs ++ [t.g.st, t.g.hp]).flatten := by
      rw [isGame_flat]; exact List.perm_append_comm
    unfold whole
    rw [← isHand_perm hp, ← hp.length_eq]
    cases isHand (t.g.st ++ t.g.hp ++ t.g.hs.flatten) <;> rfl
  · have e : (!t.on || whole (t.g.hs ++ [t.g.st, t.g.hp])) = true := by rw [ho]; rfl
    rw [e]
    exact (bif_t (by rw [ho]; rfl)).trans rfl
theorem impl_NothingLost.eq {k : Nat} (hk : BIG ≤ k) {t : Tb} (h : t.sm) : t.ap (impl_NothingLost.f k) = some (nothingLost t) := by
  have h2 := h.2.2.2.1.2.1
  have h2a := h2.1
  have h3 : t.g.st.length < 1048577 := h.2.2.2.1.2.2.1
  have h4 : t.g.hp.length < 1048577 := h.2.2.2.1.2.2.2
  unfold nothingLost
  rcases Bool.eq_false_or_eq_true t.on with ho | ho
  · have e : (!t.on || whole (t.g.hs ++ [t.g.st, t.g.hp])) = whole (t.g.hs ++ [t.g.st, t.g.hp]) := by rw [ho]; rfl
    rw [e]
    refine (bif_f (by rw [ho]; rfl)).trans ((bind_s (impl_copyRows.eq hk h2)).trans ((chk_t (rm24 (by omega))).trans ((bind_s (impl_isWhole.any hk ⟨by simp; omega, fun y hy => ?_⟩)).trans rfl)))
    rcases List.mem_append.1 hy with hy | hy
    · exact h2.2 y hy
    · simp only [List.mem_cons, List.not_mem_nil, or_false] at hy
      rcases hy with rfl | rfl
      · exact h3
      · exact h4
  · have e : (!t.on || whole (t.g.hs ++ [t.g.st, t.g.hp])) = true := by rw [ho]; rfl
    rw [e]
    exact (bif_t (by rw [ho]; rfl)).trans rfl
end Go.Proofs.Ytfmmdbnkeadieaa
