/- Settling a game at a table, in plain Lean. Conditions: enough rounds, lists of at most 2^20. -/
import Derived.Test.YtpdkglbbhfhlfaaGreatKit
import Derived.Test.YtpdkglbbhfhlfaaGreatFFnEvents
import Derived.Test.YtpdkglbbhfhlfaaGreatPStep
import Derived.Test.YtpdkglbbhfhlfaaGreatPSettle
set_option linter.unusedVariables false
set_option linter.unusedSimpArgs false
namespace Go.Proofs.YtpdkglbbhfhlfaaGreat
open Go Go.Proofs.YtpdkglbbhfhlfaaGreat.V
theorem spec_IsEnded.eq {k : Nat} (hk : BIG ≤ k) {g : Gm} (h : g.sm) : g.ap (spec_IsEnded.f k) = some (isEnded g) := by
  refine (bind_s (spec_IsGame.eq hk h)).trans ?_
  unfold isEnded
  cases isGame g with
  | false => rfl
  | true => exact (bif_t rfl).trans (bind_s (spec_l24Over.eq hk g h.2.1.1))
theorem settled_le (g : Gm) : (settled g).length ≤ 6 := by
  cases h : isGame g with
  | true => rw [settled_len h]; exact (isGame_len h).1
  | false => unfold settled; rw [h]; simp
def settledT (t : Tb) : Tb := ⟨t.r, [], false, [], zeroG, [], t.sheet ++ [settled t.g]⟩
def stepSettle (t : Tb) : Tb × Bool := done t (settledT t) (t.on && isEnded t.g)
theorem stepSettle_sm {t : Tb} (h : t.sm) : (stepSettle t).1.sm := done_sm _ h h.1 (by show ([] : List Int).length < _; decide) zeroG_sm
theorem settledT_sm' {t : Tb} (h : t.sm) : (settledT t).sm' := by
  have h6 := h.2.2.2.2.2
  have h6a := h6.1
  refine ⟨h.1, by show ([] : List Int).length < _; decide, zeroG_sm, by show ([] : List Int).length < _; decide, by show (t.sheet ++ [settled t.g]).length < _; rw [List.length_append, List.length_singleton]; omega, fun y hy => ?_⟩
  rcases List.mem_append.1 (show y ∈ t.sheet ++ [settled t.g] from hy) with hy | hy
  · exact h6.2 y hy
  · rw [List.mem_singleton.1 hy]; have := settled_le t.g; omega
theorem spec_StepSettle.eq {k : Nat} (hk : BIG ≤ k) {t : Tb} (h : t.sm) : t.ap (spec_StepSettle.f k) = some ((stepSettle t).1.tpb (stepSettle t).2) := by
  have h2 : t.sheet.length < 1048577 := h.2.2.2.2.2.1
  refine (bind_s (spec_l33Copy.eq hk h)).trans ?_
  rcases Bool.eq_false_or_eq_true t.on with ho | ho
  · refine (bif_f (by rw [ho]; rfl)).trans ((bind_s (spec_IsEnded.eq hk h.2.2.2.1)).trans ?_)
    rcases Bool.eq_false_or_eq_true (isEnded t.g) with he | he
    · have e : stepSettle t = done t (settledT t) true := congrArg (done t _) (by rw [ho, he]; rfl)
      rw [e]
      exact (bif_f (by rw [he]; rfl)).trans ((bind_s (spec_Settled.eq hk h.2.2.2.1)).trans ((chk_t (rm24 (show t.sheet.length + 1 ≤ _ by omega))).trans ((bind_s (spec_l34Done.eq hk true h (settledT_sm' h))).trans rfl)))
    · have e : stepSettle t = (t, false) := (congrArg (done t (settledT t)) (by rw [ho, he]; rfl : (t.on && isEnded t.g) = false)).trans rfl
      rw [e]
      exact (bif_t (by rw [he]; rfl)).trans rfl
  · have e : stepSettle t = (t, false) := (congrArg (done t (settledT t)) (by rw [ho]; rfl : (t.on && isEnded t.g) = false)).trans rfl
    rw [e]
    exact (bif_t (by rw [ho]; rfl)).trans rfl
theorem impl_StepSettle.eq {k : Nat} (hk : BIG ≤ k) {t : Tb} (h : t.sm) : t.ap (impl_StepSettle.f k) = some ((stepSettle t).1.tpb (stepSettle t).2) := by
  have h2 : t.sheet.length < 1048577 := h.2.2.2.2.2.1
  refine (bind_s (impl_Table_copied.eq hk h)).trans ((bind_s (impl_Settled.eq hk h.2.2.2.1)).trans ((chk_t (rm24 (show t.sheet.length + 1 ≤ _ by omega))).trans ?_))
  rcases Bool.eq_false_or_eq_true t.on with ho | ho
  · have e : stepSettle t = done t (settledT t) (isEnded t.g) := congrArg (done t _) (by rw [ho, Bool.true_and])
    rw [e]
    exact (bif_t ho).trans ((bind_s (impl_IsEnded.eq hk h.2.2.2.1)).trans ((bind_s (impl_Table_becomes.eq hk (isEnded t.g) h (settledT_sm' h))).trans rfl))
  · have e : stepSettle t = done t (settledT t) false := congrArg (done t _) (by rw [ho, Bool.false_and])
    rw [e]
    exact (bif_f ho).trans ((bind_s (impl_Table_becomes.eq hk false h (settledT_sm' h))).trans rfl)
theorem stepSettle_all {k : Nat} (hk : BIG ≤ k) {t : Tb} (h : t.sm) : ∃ (u : Tb) (b : Bool), u.sm ∧ t.ap (spec_StepSettle.f k) = some (u.tpb b) ∧ t.ap (impl_StepSettle.f k) = some (u.tpb b) := ⟨_, _, stepSettle_sm h, spec_StepSettle.eq hk h, impl_StepSettle.eq hk h⟩
end Go.Proofs.YtpdkglbbhfhlfaaGreat
