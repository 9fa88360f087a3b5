/- Drawn tables and events, in plain Lean. Conditions: enough rounds, a code of at most 2^20 bytes. -/
import Derived.Test.YtpdkglbbhfhlfaaGreatKit
import Derived.Test.YtpdkglbbhfhlfaaGreatFFnAgain
import Derived.Test.YtpdkglbbhfhlfaaGreatPDraw
import Derived.Test.YtpdkglbbhfhlfaaGreatPDealEvents
import Derived.Test.YtpdkglbbhfhlfaaGreatPRunEvents
import Derived.Test.YtpdkglbbhfhlfaaGreatPCopies
import Derived.Test.YtpdkglbbhfhlfaaGreatPDealt
set_option linter.unusedVariables false
set_option linter.unusedSimpArgs false
namespace Go.Proofs.YtpdkglbbhfhlfaaGreat
open Go Go.Proofs.YtpdkglbbhfhlfaaGreat.V
abbrev newTb (r : Rl) : Tb := ⟨r, [], false, [], zeroG, [], []⟩
theorem newTb_sm {r : Rl} (h : r.sm) : (newTb r).sm := ⟨h, by show ([] : List Int).length < _; simp, by show ([] : List Int).length < _; simp, zeroG_sm, by show ([] : List Int).length < _; simp, by show ([] : List (List Int)).length < _; simp, fun y hy => by cases hy⟩
theorem spec_NewTable.made {k : Nat} (hk : BIG ≤ k) {r : Rl} (h : r.sm) (ho : r.ok = true) : r.ap (spec_NewTable.f k) = some ((newTb r).tpb true) := by
  refine (bind_s (spec_rl hk h)).trans ?_
  rw [ho]
  exact (bif_f rfl).trans (bind_s (spec_l22Copy.eq k h))
theorem newTb_table {r : Rl} (ho : r.ok = true) : isTable (newTb r) = true := by
  have hn := (rl_ok ho).1
  unfold isTable isSheet
  rw [ho, dec_f (by show ¬ ((([] : List Int).length : Int) > r.n); simp; omega), inR_iff.2 hn]
  rfl
/-! ### Tables stay tables -/
theorem done_table {t u : Tb} {ok : Bool} (h : isTable t = true) : isTable (done t u ok).1 = true := by
  unfold done
  cases hc : (ok && isTable t && isTable u) with
  | false => exact h
  | true => exact (Bool.and_eq_true_iff.1 hc).2
theorem applyEvent_table {t : Tb} (h : isTable t = true) (a b : Int) (ss bs : List Int) : isTable (applyEvent t a b ss bs).1 = true := by
  unfold applyEvent
  cases (a == 1) with
  | true => exact done_table h
  | false =>
    cases (a == 2) with
    | true => exact done_table h
    | false =>
      cases (a == 3) with
      | true =>
        show isTable (stepPlay t b).1 = true
        unfold stepPlay
        cases isCard b with
        | true => exact done_table h
        | false => exact h
      | false =>
        cases (a == 4) with
        | true => exact done_table h
        | false =>
          cases (a == 5) with
          | true => exact done_table h
          | false => exact h
theorem runE_table : ∀ (l : List (List Leaf)) {t : Tb}, isTable t = true → isTable (runE l t) = true
  | [], t, h => h
  | e :: l, t, h => runE_table l (applyEvent_table h ..)
/-- A table's lists are shorter than they need be. -/
theorem eqGm_eq {g h : Gm} (e : eqGm g h = true) : g = h := by
  unfold eqGm eqRl eqI eqII at e
  simp only [Bool.and_eq_true, beq_iff_eq, decide_eq_true_eq] at e
  obtain ⟨⟨⟨⟨⟨⟨⟨⟨⟨⟨⟨⟨⟨a1, a2⟩, a3⟩, a4⟩, a5⟩, a6⟩, a7⟩, a8⟩, b1⟩, b2⟩, b3⟩, b4⟩, b5⟩, b6⟩ := e
  obtain ⟨⟨_, _, _, _, _, _, _, _⟩, _, _, _, _, _, _⟩ := g
  obtain ⟨⟨_, _, _, _, _, _, _, _⟩, _, _, _, _, _, _⟩ := h
  simp only at a1 a2 a3 a4 a5 a6 a7 a8 b1 b2 b3 b4 b5 b6
  subst a1 a2 a3 a4 a5 a6 a7 a8 b1 b2 b3 b4 b5 b6
  rfl
theorem table_game {t : Tb} (h : isTable t = true) : (t.on = true → isGame t.g = true ∧ t.g.mv = (t.rd.length : Int)) ∧ (t.on = false → t.g = zeroG ∧ t.rd = []) := by
  obtain ⟨h1, h2, h3, h4, h5⟩ := isTable_ok h
  refine ⟨fun ho => ?_, fun ho => ?_⟩
  · have h6 := h5 ho
    unfold tableOn at h6
    simp only [Bool.and_eq_true, beq_iff_eq] at h6
    obtain ⟨⟨⟨m1, m2⟩, m3⟩, m4⟩ := h6
    have eg := eqGm_eq m4
    obtain ⟨r1, r2, r3⟩ := replayed_all t.rd 0 (g := (newGame t.r t.deck).1) (by rw [m3]; omega)
    rw [eg] at r1 r3
    have hg := newGame_game m1
    refine ⟨r3 hg.1, ?_⟩
    have hmv : (newGame t.r t.deck).1.mv = 0 := by
      unfold newGame at m1 ⊢
      cases hq : (t.r.ok && isHand t.deck && ((t.deck.length : Int) == 52)) with
      | true => rfl
      | false => rfl
    rw [r1, hmv]; omega
  · unfold isTable at h
    rw [ho] at h
    simp only [cond_false, Bool.and_eq_true, beq_iff_eq] at h
    exact ⟨eqGm_eq h.2.2, List.length_eq_zero_iff.1 (by have := h.2.1.2; omega)⟩
theorem table_rules {t : Tb} (h : isTable t = true) (ho : t.on = true) : t.g.r = t.r := by
  have h6 := (isTable_ok h).2.2.2.2 ho
  unfold tableOn at h6
  simp only [Bool.and_eq_true, beq_iff_eq] at h6
  obtain ⟨⟨⟨m1, m2⟩, m3⟩, m4⟩ := h6
  have eg := eqGm_eq m4
  obtain ⟨_, r2, _⟩ := replayed_all t.rd 0 (g := (newGame t.r t.deck).1) (by rw [m3]; omega)
  rw [eg] at r2
  exact r2.trans (newGame_game m1).2
theorem table_short {t : Tb} (h : isTable t = true) : t.seals.length ≤ 6 ∧ t.rd.length ≤ 400 ∧ t.sheet.length ≤ 50 ∧ t.g.st.length ≤ 52 := by
  obtain ⟨h1, h2, h3, h4, h5⟩ := isTable_ok h
  have hn := (rl_ok h1).1
  have hg := table_game h
  unfold isSheet at h3
  simp only [Bool.and_eq_true, decide_eq_true_eq] at h3
  refine ⟨by omega, h4, by have := h3.1.2; omega, ?_⟩
  cases ho : t.on with
  | true => exact (isGame_len (hg.1 ho).1).2.2.1
  | false => rw [(hg.2 ho).1]; exact Nat.zero_le _
/-! ### Drawn events -/
abbrev Tb.tpe {E : Type} (t : Tb) (e : E) : Int × Int × Bool × Bool × List Int × List Int × Int × Int × List Int × Bool × List Int × Int × Int × Bool × Bool × List Int × List Int × Int × Int × List (List Int) × List Int × List Int × Int × Int × Int × List Int × List (List Int) × E := (t.r.n, t.r.e, t.r.b1, t.r.b2, t.r.w, t.r.f, t.r.t, t.r.l, t.seals, t.on, t.deck, t.g.r.n, t.g.r.e, t.g.r.b1, t.g.r.b2, t.g.r.w, t.g.r.f, t.g.r.t, t.g.r.l, t.g.hs, t.g.st, t.g.hp, t.g.tn, t.g.mv, t.g.ps, t.rd, t.sheet, e)
abbrev evL (c b : Int) : List Leaf := [.int c, .int b, .ints [], .ints []]
end Go.Proofs.YtpdkglbbhfhlfaaGreat
