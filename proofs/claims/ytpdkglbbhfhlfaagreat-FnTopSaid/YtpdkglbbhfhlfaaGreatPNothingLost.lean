/- No card is lost, in plain Lean. Conditions: enough rounds, lists of at most 2^20. -/
import Derived.Test.YtpdkglbbhfhlfaaGreatKit
import Derived.Test.YtpdkglbbhfhlfaaGreatFFnTop
import Derived.Test.YtpdkglbbhfhlfaaGreatPTable
import Derived.Test.YtpdkglbbhfhlfaaGreatPLong
set_option linter.unusedVariables false
set_option linter.unusedSimpArgs false
namespace Go.Proofs.YtpdkglbbhfhlfaaGreat
open Go Go.Proofs.YtpdkglbbhfhlfaaGreat.V
def nothingLost (t : Tb) : Bool := !t.on || whole (t.g.hs ++ [t.g.st, t.g.hp])
theorem impl_NothingLost.eq {k : Nat} (hk : BIG ≤ k) {t : Tb} (h : t.sm) : t.ap (impl_NothingLost.f k) = some (nothingLost t) := by
  have h2 := h.2.2.2.1.2.1
  have h2a := h2.1
  have h3 : t.g.st.length < 1048577 := h.2.2.2.1.2.2.1
  have h4 : t.g.hp.length < 1048577 := h.2.2.2.1.2.2.2
  unfold nothingLost
  rcases Bool.eq_false_or_eq_true t.on with ho | ho
  · have e : (!t.on || whole (t.g.hs ++ [t.g.st, t.g.hp])) = whole (t.g.hs ++ [t.g.st, t.g.hp]) := by rw [ho]; rfl
    rw [e]
    refine (bif_f (by rw [ho]; rfl)).trans ((bind_s (impl_copyRows.eq hk h2)).trans ((chk_t (rm24 (by omega))).trans ((bind_s (impl_isWhole.any hk ⟨by simp; omega, fun y hy => ?_⟩)).trans rfl)))
    rcases List.mem_append.1 hy with hy | hy
    · exact h2.2 y hy
    · simp only [List.mem_cons, List.not_mem_nil, or_false] at hy
      rcases hy with rfl | rfl
      · exact h3
      · exact h4
  · have e : (!t.on || whole (t.g.hs ++ [t.g.st, t.g.hp])) = true := by rw [ho]; rfl
    rw [e]
    exact (bif_t (by rw [ho]; rfl)).trans rfl
end Go.Proofs.YtpdkglbbhfhlfaaGreat
