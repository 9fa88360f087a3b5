/- Draws of games that are played to their end, and what is sure of such games. Conditions: enough rounds, a code of at most 2^20 bytes. -/
import Derived.Test.YtfbafmeeejmgoaaGreatKit
import Derived.Test.YtfbafmeeejmgoaaGreatFFnRecords
import Derived.Test.YtfbafmeeejmgoaaGreatPDrawGame
import Derived.Test.YtfbafmeeejmgoaaGreatPSomeWinner
import Derived.Test.YtfbafmeeejmgoaaGreatPEqual
import Derived.Test.YtfbafmeeejmgoaaGreatPCopies
import Derived.Test.YtfbafmeeejmgoaaGreatPLawSum
set_option linter.unusedVariables false
set_option linter.unusedSimpArgs false
namespace Go.Proofs.YtfbafmeeejmgoaaGreat
open Go Go.Proofs.YtfbafmeeejmgoaaGreat.V
theorem spec_DrawPlayOut.ok {k : Nat} (hk : BIG ≤ k) {a : List Int} (ha : a.length < 1048577) : ∃ (g : Gm) (l : List Int), spec_DrawPlayOut.f k a = some (g.r.n, g.r.e, g.r.b1, g.r.b2, g.r.w, g.r.f, g.r.t, g.r.l, g.hs, g.st, g.hp, g.tn, g.mv, g.ps, l) ∧ g.sm ∧ l.length ≤ 6 := by
  obtain ⟨h0, e0, c0⟩ := spec_l1New.ok hk ha
  obtain ⟨g, i1, h1, e1, c1, hg, hs, hm⟩ := spec_l24Start.ok hk h0 c0
  obtain ⟨t, i2, h2, e2, c2⟩ := spec_l1Once.ok k h1 6 c1
  cases t with
  | true =>
    obtain ⟨g', i3, h3, e3, c3, hs'⟩ := spec_l24Draw.ok hk h2 c2
    obtain ⟨l, i4, h4, e4, c4, hl, _⟩ := spec_l26Kinds.ok hk h3 c3
    exact ⟨g', l, (bind_s e0).trans ((bind_s e1).trans ((bind_s e2).trans ((bif_t rfl).trans ((bind_s e3).trans (bind_s e4))))), hs', hl⟩
  | false =>
    obtain ⟨l, i4, h4, e4, c4, hl, _⟩ := spec_l26Kinds.ok hk h2 c2
    exact ⟨g, l, (bind_s e0).trans ((bind_s e1).trans ((bind_s e2).trans ((bif_f rfl).trans (bind_s e4)))), hs, hl⟩
abbrev Gm.tp2 (g h : Gm) : Int × Int × Bool × Bool × List Int × List Int × Int × Int × List (List Int) × List Int × List Int × Int × Int × Int × Int × Int × Bool × Bool × List Int × List Int × Int × Int × List (List Int) × List Int × List Int × Int × Int × Int := (g.r.n, g.r.e, g.r.b1, g.r.b2, g.r.w, g.r.f, g.r.t, g.r.l, g.hs, g.st, g.hp, g.tn, g.mv, g.ps, h.r.n, h.r.e, h.r.b1, h.r.b2, h.r.w, h.r.f, h.r.t, h.r.l, h.hs, h.st, h.hp, h.tn, h.mv, h.ps)
/-! ### Games played to their end -/
theorem autoMove_mv (g : Gm) (c : Int) : g.mv ≤ (autoMove g c).1.mv ∧ (autoMove g c).1.r = g.r := by
  unfold autoMove
  cases hm : (replayMove g (choice g c)).2 with
  | true =>
    obtain ⟨_, h2, h3⟩ := replayMove_game hm
    exact ⟨by omega, h3⟩
  | false => rw [replayMove_no hm]; exact ⟨Int.le_refl _, rfl⟩
theorem playN_mv (kinds : List Int) : ∀ (m : Nat) (g : Gm), g.mv ≤ (playN kinds m g).mv ∧ (playN kinds m g).r = g.r
  | 0, g => ⟨Int.le_refl _, rfl⟩
  | m + 1, g => by
    unfold playN
    cases (isGame g && !overG g) with
    | true =>
      obtain ⟨h1, h2⟩ := autoMove_mv g (kindOf kinds g.tn)
      obtain ⟨h3, h4⟩ := playN_mv kinds m (autoMove g (kindOf kinds g.tn)).1
      exact ⟨Int.le_trans h1 h3, h4.trans h2⟩
    | false => exact ⟨Int.le_refl _, rfl⟩
theorem playOut_no (kinds : List Int) {g : Gm} (h : isGame g = false) : playOut g kinds = g := by
  unfold playOut playN
  rw [h]; rfl
/-! ### Comparing -/
theorem dec_comm {α : Type} [DecidableEq α] (x y : α) : decide (x = y) = decide (y = x) := decide_eq_decide.2 ⟨Eq.symm, Eq.symm⟩
theorem eqGm_refl (g : Gm) : eqGm g g = true := by simp [eqGm, eqRl, eqI, eqII]
theorem eqGm_comm (g h : Gm) : eqGm g h = eqGm h g := by
  unfold eqGm eqRl eqI eqII
  rw [BEq.comm (a := g.r.n), BEq.comm (a := g.r.e), BEq.comm (a := g.r.b1), BEq.comm (a := g.r.b2), dec_comm g.r.w, dec_comm g.r.f, BEq.comm (a := g.r.t), BEq.comm (a := g.r.l), dec_comm g.hs, dec_comm g.st, dec_comm g.hp, BEq.comm (a := g.tn), BEq.comm (a := g.mv), BEq.comm (a := g.ps)]
/-! ### Sizes -/
theorem sum_sizes : ∀ l : List (List Int), (l.map fun y => (y.length : Int)).sum = (l.flatten.length : Int)
  | [] => rfl
  | a :: l => by
    have := sum_sizes l
    rw [List.map_cons, List.sum_cons, List.flatten_cons, List.length_append, this]
    omega
/-! ### Winners -/
theorem winner_le (g : Gm) : -1 ≤ winner g ∧ (winner g < g.r.n ∨ winner g = -1) := by
  unfold winner
  cases h : isGame g with
  | false => exact ⟨Int.le_refl (-1), .inr rfl⟩
  | true =>
    obtain ⟨_, h2, _⟩ := isGame_iff.1 h
    rcases firstE_le g.hs 0 with h3 | h3
    · exact ⟨by simp only [cond_true]; omega, .inr (by simpa using h3)⟩
    · exact ⟨by simp only [cond_true]; omega, .inl (by simp only [cond_true]; omega)⟩
theorem someWinner_ok (r : Rl) (seeds kinds : List Int) : ∀ x ∈ someWinner r seeds kinds, -1 ≤ x ∧ x < r.n := fun x hx => by
  unfold someWinner at hx
  cases hr : r.ok with
  | false => rw [hr] at hx; simp at hx
  | true =>
    have hn := (rl_ok hr).1
    rw [hr, Bool.true_and] at hx
    cases hd : decide ((seeds.length : Int) > 20) with
    | true => rw [hd] at hx; simp at hx
    | false =>
      rw [hd] at hx
      obtain ⟨s, _, rfl⟩ := List.mem_map.1 (show x ∈ seeds.map (seedWinner r kinds) from hx)
      unfold seedWinner
      obtain ⟨h1, h2⟩ := winner_le (playOut (newGame r (shuffled fullDeck s)).1 kinds)
      have e : (playOut (newGame r (shuffled fullDeck s)).1 kinds).r = r := (playN_mv kinds 401 _).2.trans (newGame_game (newGame_made hr s)).2
      rw [e] at h2
      exact ⟨h1, by omega⟩
end Go.Proofs.YtfbafmeeejmgoaaGreat
