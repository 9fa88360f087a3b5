/- A move at a table, in plain Lean. Conditions: enough rounds, lists of at most 2^20. -/
import Derived.Test.YtpdkglbbhfhlfaaGreatKit
import Derived.Test.YtpdkglbbhfhlfaaGreatFFnEvents
import Derived.Test.YtpdkglbbhfhlfaaGreatPStep
set_option linter.unusedVariables false
set_option linter.unusedSimpArgs false
namespace Go.Proofs.YtpdkglbbhfhlfaaGreat
open Go Go.Proofs.YtpdkglbbhfhlfaaGreat.V
def stepMove (t : Tb) (m : Int) : Tb × Bool := done t { t with g := (replayMove t.g m).1, rd := t.rd ++ [m] } (t.on && (replayMove t.g m).2)
theorem stepMove_sm {t : Tb} (h : t.sm) (m : Int) : (stepMove t m).1.sm := done_sm _ h h.1 h.2.2.1 (replayMove_sm h.2.2.2.1)
theorem stepMove_sm' {t : Tb} (h : t.sm) (m : Int) : ({ t with g := (replayMove t.g m).1, rd := t.rd ++ [m] } : Tb).sm' := by
  obtain ⟨h1, h2, h3, h4, h5, h6⟩ := h
  have h5 : t.rd.length < 1048577 := h5
  have h6a := h6.1
  exact ⟨h1, h3, replayMove_sm h4, by show (t.rd ++ [m]).length < _; rw [List.length_append, List.length_singleton]; omega, by show t.sheet.length < _; omega, h6.2⟩
theorem spec_l34Move.eq {k : Nat} (hk : BIG ≤ k) {t : Tb} (h : t.sm) (m : Int) : t.ap (spec_l34Move.f k) m = some ((stepMove t m).1.tpb (stepMove t m).2) := by
  have h2 : t.rd.length < 1048577 := h.2.2.2.2.1
  refine (bind_s (spec_l33Copy.eq hk h)).trans ((bind_s (spec_ReplayMove.eq hk h.2.2.2.1 m)).trans ((chk_t (rm8 (show t.rd.length + 1 ≤ _ by omega))).trans ?_))
  rcases Bool.eq_false_or_eq_true (replayMove t.g m).2 with ho | ho
  · have e : stepMove t m = done t { t with g := (replayMove t.g m).1, rd := t.rd ++ [m] } t.on := congrArg (done t _) (by rw [ho, Bool.and_true])
    rw [e]
    exact (bif_t ho).trans ((bind_s (spec_l34Done.eq hk t.on h (stepMove_sm' h m))).trans rfl)
  · have e : stepMove t m = done t { t with g := (replayMove t.g m).1, rd := t.rd ++ [m] } false := congrArg (done t _) (by rw [ho, Bool.and_false])
    rw [e]
    exact (bif_f ho).trans ((bind_s (spec_l34Done.eq hk false h (stepMove_sm' h m))).trans rfl)
theorem impl_stepMove.eq {k : Nat} (hk : BIG ≤ k) {t : Tb} (h : t.sm) (m : Int) : t.ap (impl_stepMove.f k) m = some ((stepMove t m).1.tpb (stepMove t m).2) := by
  have h2 : t.rd.length < 1048577 := h.2.2.2.2.1
  refine (bind_s (impl_Table_copied.eq hk h)).trans ((bind_s (impl_ReplayMove.eq hk h.2.2.2.1 m)).trans ((chk_t (rm8 (show t.rd.length + 1 ≤ _ by omega))).trans ?_))
  rcases Bool.eq_false_or_eq_true t.on with ho | ho
  · have e : stepMove t m = done t { t with g := (replayMove t.g m).1, rd := t.rd ++ [m] } (replayMove t.g m).2 := congrArg (done t _) (by rw [ho, Bool.true_and])
    rw [e]
    exact (bif_t ho).trans ((bind_s (impl_Table_becomes.eq hk _ h (stepMove_sm' h m))).trans rfl)
  · have e : stepMove t m = done t { t with g := (replayMove t.g m).1, rd := t.rd ++ [m] } false := congrArg (done t _) (by rw [ho, Bool.false_and])
    rw [e]
    exact (bif_f ho).trans ((bind_s (impl_Table_becomes.eq hk false h (stepMove_sm' h m))).trans rfl)
end Go.Proofs.YtpdkglbbhfhlfaaGreat
