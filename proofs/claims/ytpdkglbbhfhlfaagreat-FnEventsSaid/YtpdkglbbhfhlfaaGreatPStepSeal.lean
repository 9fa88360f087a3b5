/- Telling a seal, in plain Lean. Conditions: enough rounds, lists of at most 2^20. -/
import Derived.Test.YtpdkglbbhfhlfaaGreatKit
import Derived.Test.YtpdkglbbhfhlfaaGreatFFnEvents
import Derived.Test.YtpdkglbbhfhlfaaGreatPStep
set_option linter.unusedVariables false
set_option linter.unusedSimpArgs false
namespace Go.Proofs.YtpdkglbbhfhlfaaGreat
open Go Go.Proofs.YtpdkglbbhfhlfaaGreat.V
def stepSeal (t : Tb) (s : Int) : Tb × Bool := done t { t with seals := t.seals ++ [s] } (!t.on)
theorem stepSeal_sm {t : Tb} (h : t.sm) (s : Int) : (stepSeal t s).1.sm := done_sm _ h h.1 h.2.2.1 h.2.2.2.1
theorem stepSeal_sm' {t : Tb} (h : t.sm) (s : Int) : ({ t with seals := t.seals ++ [s] } : Tb).sm' := by
  obtain ⟨h1, h2, h3, h4, h5, h6⟩ := Tb.sm_sm' h
  exact ⟨h1, h2, h3, h4, h5, h6⟩
theorem spec_StepSeal.eq {k : Nat} (hk : BIG ≤ k) {t : Tb} (h : t.sm) (s : Int) : t.ap (spec_StepSeal.f k) s = some ((stepSeal t s).1.tpb (stepSeal t s).2) := by
  have h2 : t.seals.length < 1048577 := h.2.1
  exact (bind_s (spec_l33Copy.eq hk h)).trans ((chk_t (rm8 (show t.seals.length + 1 ≤ _ by omega))).trans ((bind_s (spec_l34Done.eq hk (!t.on) h (stepSeal_sm' h s))).trans rfl))
theorem stepSeal_e {t u : Tb} (hr : u.r = t.r) (hs : u.seals.length = t.seals.length + 1) : done t u (decide ((t.seals.length : Int) < t.r.n)) = done t u true := by
  by_cases hd : (t.seals.length : Int) < t.r.n
  · rw [dec_t hd]
  · rw [dec_f hd]
    unfold done
    cases hu : isTable u with
    | false => simp
    | true =>
      have := (isTable_ok hu).2.1
      rw [hr, hs] at this
      omega
theorem impl_StepSeal.eq {k : Nat} (hk : BIG ≤ k) {t : Tb} (h : t.sm) (s : Int) : t.ap (impl_StepSeal.f k) s = some ((stepSeal t s).1.tpb (stepSeal t s).2) := by
  have h2 : t.seals.length < 1048577 := h.2.1
  refine (bind_s (impl_Table_copied.eq hk h)).trans ((chk_t (rm8 (show t.seals.length + 1 ≤ _ by omega))).trans ?_)
  rcases Bool.eq_false_or_eq_true t.on with ho | ho
  · have hb := impl_Table_becomes.eq hk false h (stepSeal_sm' h s)
    have e : stepSeal t s = done t { t with seals := t.seals ++ [s] } false := congrArg (done t _) (by rw [ho]; rfl)
    rw [e]
    exact (bif_f (by rw [ho]; rfl)).trans ((bind_s hb).trans rfl)
  · have hb := impl_Table_becomes.eq hk (decide ((t.seals.length : Int) < t.r.n)) h (stepSeal_sm' h s)
    have e : stepSeal t s = done t { t with seals := t.seals ++ [s] } true := congrArg (done t _) (by rw [ho]; rfl)
    rw [stepSeal_e (t := t) (u := { t with seals := t.seals ++ [s] }) rfl (by simp), ← e] at hb
    exact (bif_t (by rw [ho]; rfl)).trans ((bind_s hb).trans rfl)
end Go.Proofs.YtpdkglbbhfhlfaaGreat
