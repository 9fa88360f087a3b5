/- Dealing at a table, in plain Lean. Conditions: enough rounds, lists of at most 2^20. -/
import Derived.Test.YtpdkglbbhfhlfaaGreatKit
import Derived.Test.YtpdkglbbhfhlfaaGreatFFnEvents
import Derived.Test.YtpdkglbbhfhlfaaGreatPStep
import Derived.Test.YtpdkglbbhfhlfaaGreatPJointDeck
set_option linter.unusedVariables false
set_option linter.unusedSimpArgs false
namespace Go.Proofs.YtpdkglbbhfhlfaaGreat
open Go Go.Proofs.YtpdkglbbhfhlfaaGreat.V
def isSealed (t : Tb) : Bool := ((t.seals.length : Int) == t.r.n) && !t.on
theorem spec_IsSealed.eq (k : Nat) (t : Tb) : t.ap (spec_IsSealed.f k) = some (isSealed t) := by
  unfold isSealed
  show (bif ((t.seals.length : Int) == t.r.n) then _ else _) = _
  cases ((t.seals.length : Int) == t.r.n) <;> rfl
theorem impl_IsSealed.eq (k : Nat) (t : Tb) : t.ap (impl_IsSealed.f k) = some (isSealed t) := by
  unfold isSealed
  show (bif ((t.seals.length : Int) == t.r.n) then _ else _) = _
  cases ((t.seals.length : Int) == t.r.n) <;> rfl
def dealtT (t : Tb) (ss bs rd : List Int) : Tb := ⟨t.r, t.seals, true, (jointDeck t.seals ss bs).1, (newGame t.r (jointDeck t.seals ss bs).1).1, rd, t.sheet⟩
def stepDeal (t : Tb) (ss bs : List Int) : Tb × Bool := done t (dealtT t ss bs []) (isSealed t && (jointDeck t.seals ss bs).2 && (newGame t.r (jointDeck t.seals ss bs).1).2)
theorem dealtT_deck (t : Tb) (ss bs : List Int) : smI (jointDeck t.seals ss bs).1 := by have := jointDeck_len t.seals ss bs; show _ < _; omega
theorem stepDeal_sm {t : Tb} (h : t.sm) (ss bs : List Int) : (stepDeal t ss bs).1.sm := done_sm _ h h.1 (dealtT_deck t ss bs) (newGame_sm h.1 _)
theorem dealtT_sm' {t : Tb} (h : t.sm) (ss bs : List Int) {rd : List Int} (hr : rd.length < 1073741824) : (dealtT t ss bs rd).sm' := ⟨h.1, dealtT_deck t ss bs, newGame_sm h.1 _, hr, (Tb.sm_sm' h).2.2.2.2.1, (Tb.sm_sm' h).2.2.2.2.2⟩
/-- A valid table without a game has no record. -/
theorem dealt_rd {t : Tb} (ss bs : List Int) (ok : Bool) (hs : ok = true → isSealed t = true) : done t (dealtT t ss bs t.rd) ok = done t (dealtT t ss bs []) ok := by
  unfold done
  cases ok with
  | false => rfl
  | true =>
    cases hv : isTable t with
    | false => rfl
    | true =>
      have ho : t.on = false := by
        have := hs rfl
        unfold isSealed at this
        simp only [Bool.and_eq_true, Bool.not_eq_true'] at this
        exact this.2
      have : t.rd = [] := by
        unfold isTable at hv
        rw [ho] at hv
        simp only [cond_false, Bool.and_eq_true, beq_iff_eq] at hv
        exact List.length_eq_zero_iff.1 (by have := hv.2.1.2; omega)
      rw [this]
theorem spec_StepDeal.eq {k : Nat} (hk : BIG ≤ k) {t : Tb} (h : t.sm) (ss bs : List Int) : t.ap (spec_StepDeal.f k) ss bs = some ((stepDeal t ss bs).1.tpb (stepDeal t ss bs).2) := by
  have hr : t.rd.length < 1073741824 := (Tb.sm_sm' h).2.2.2.1
  refine (bind_s (spec_l33Copy.eq hk h)).trans ((bind_s (spec_JointDeck.eq hk ss bs h.2.1)).trans ((bind_s (spec_NewGame.eq hk h.1 (dealtT_deck t ss bs))).trans ?_))
  rcases Bool.eq_false_or_eq_true (jointDeck t.seals ss bs).2 with h1 | h1
  · refine (bif_t h1).trans ?_
    rcases Bool.eq_false_or_eq_true (newGame t.r (jointDeck t.seals ss bs).1).2 with h2 | h2
    · have e : stepDeal t ss bs = done t (dealtT t ss bs t.rd) (isSealed t) := (congrArg (done t _) (by rw [h1, h2, Bool.and_true, Bool.and_true])).trans (dealt_rd ss bs (isSealed t) id).symm
      rw [e]
      exact (bif_t h2).trans ((bind_s (spec_IsSealed.eq k t)).trans ((bind_s (spec_l34Done.eq hk (isSealed t) h (dealtT_sm' h ss bs hr))).trans rfl))
    · have e : stepDeal t ss bs = done t (dealtT t ss bs t.rd) false := (congrArg (done t _) (by rw [h2, Bool.and_false])).trans rfl
      rw [e]
      exact (bif_f h2).trans ((bind_s (spec_l34Done.eq hk false h (dealtT_sm' h ss bs hr))).trans rfl)
  · have e : stepDeal t ss bs = done t (dealtT t ss bs t.rd) false := (congrArg (done t _) (by rw [h1, Bool.and_false, Bool.false_and])).trans rfl
    rw [e]
    exact (bif_f h1).trans ((bind_s (spec_l34Done.eq hk false h (dealtT_sm' h ss bs hr))).trans rfl)
theorem impl_StepDeal.eq {k : Nat} (hk : BIG ≤ k) {t : Tb} (h : t.sm) (ss bs : List Int) : t.ap (impl_StepDeal.f k) ss bs = some ((stepDeal t ss bs).1.tpb (stepDeal t ss bs).2) := by
  have hr : ([] : List Int).length < 1073741824 := by decide
  refine (bind_s (impl_Table_copied.eq hk h)).trans ((bind_s (impl_JointDeck.eq hk ss bs h.2.1)).trans ((bind_s (impl_NewGame.eq hk h.1 (dealtT_deck t ss bs))).trans ((bind_s (impl_IsSealed.eq k t)).trans ?_)))
  rcases Bool.eq_false_or_eq_true (isSealed t) with h0 | h0
  · refine (bif_t h0).trans ?_
    rcases Bool.eq_false_or_eq_true (jointDeck t.seals ss bs).2 with h1 | h1
    · have e : stepDeal t ss bs = done t (dealtT t ss bs []) (newGame t.r (jointDeck t.seals ss bs).1).2 := congrArg (done t _) (by rw [h0, h1]; rfl)
      rw [e]
      exact (bif_t h1).trans ((bind_s (impl_Table_becomes.eq hk _ h (dealtT_sm' h ss bs hr))).trans rfl)
    · have e : stepDeal t ss bs = done t (dealtT t ss bs []) false := congrArg (done t _) (by rw [h1, Bool.and_false, Bool.false_and])
      rw [e]
      exact (bif_f h1).trans ((bind_s (impl_Table_becomes.eq hk false h (dealtT_sm' h ss bs hr))).trans rfl)
  · have e : stepDeal t ss bs = done t (dealtT t ss bs []) false := congrArg (done t _) (by rw [h0, Bool.false_and, Bool.false_and])
    rw [e]
    exact (bif_f h0).trans ((bind_s (impl_Table_becomes.eq hk false h (dealtT_sm' h ss bs hr))).trans rfl)
end Go.Proofs.YtpdkglbbhfhlfaaGreat
