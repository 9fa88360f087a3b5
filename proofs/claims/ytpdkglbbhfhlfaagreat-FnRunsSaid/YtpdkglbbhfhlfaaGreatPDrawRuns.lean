/- Draws of games that are played to their end, and what is sure of such games. Conditions: enough rounds, a code of at most 2^20 bytes. -/
import Derived.Test.YtpdkglbbhfhlfaaGreatKit
import Derived.Test.YtpdkglbbhfhlfaaGreatFFnRuns
import Derived.Test.YtpdkglbbhfhlfaaGreatPDrawGame
import Derived.Test.YtpdkglbbhfhlfaaGreatPSomeWinner
import Derived.Test.YtpdkglbbhfhlfaaGreatPEqual
import Derived.Test.YtpdkglbbhfhlfaaGreatPCopies
import Derived.Test.YtpdkglbbhfhlfaaGreatPLawSum
set_option linter.unusedVariables false
set_option linter.unusedSimpArgs false
namespace Go.Proofs.YtpdkglbbhfhlfaaGreat
open Go Go.Proofs.YtpdkglbbhfhlfaaGreat.V
theorem spec_DrawPlayOut.ok {k : Nat} (hk : BIG ≤ k) {a : List Int} (ha : a.length < 1048577) : ∃ (g : Gm) (l : List Int), spec_DrawPlayOut.f k a = some (g.r.n, g.r.e, g.r.b1, g.r.b2, g.r.w, g.r.f, g.r.t, g.r.l, g.hs, g.st, g.hp, g.tn, g.mv, g.ps, l) ∧ g.sm ∧ l.length ≤ 6 := by
  obtain ⟨h0, e0, c0⟩ := spec_l1New.ok hk ha
  obtain ⟨g, i1, h1, e1, c1, hg, hs, hm⟩ := spec_l24Start.ok hk h0 c0
  obtain ⟨t, i2, h2, e2, c2⟩ := spec_l1Once.ok k h1 6 c1
  cases t with
  | true =>
    obtain ⟨g', i3, h3, e3, c3, hs'⟩ := spec_l24Draw.ok hk h2 c2
    obtain ⟨l, i4, h4, e4, c4, hl, _⟩ := spec_l26Kinds.ok hk h3 c3
    exact ⟨g', l, (bind_s e0).trans ((bind_s e1).trans ((bind_s e2).trans ((bif_t rfl).trans ((bind_s e3).trans (bind_s e4))))), hs', hl⟩
  | false =>
    obtain ⟨l, i4, h4, e4, c4, hl, _⟩ := spec_l26Kinds.ok hk h2 c2
    exact ⟨g, l, (bind_s e0).trans ((bind_s e1).trans ((bind_s e2).trans ((bif_f rfl).trans (bind_s e4)))), hs, hl⟩
theorem spec_DrawSomeWinner.ok {k : Nat} (hk : BIG ≤ k) {a : List Int} (ha : a.length < 1048577) : ∃ (r : Rl) (s l : List Int), spec_DrawSomeWinner.f k a = some (r.n, r.e, r.b1, r.b2, r.w, r.f, r.t, r.l, s, l) ∧ r.sm := by
  obtain ⟨h0, e0, c0⟩ := spec_l1New.ok hk ha
  obtain ⟨r, i1, h1, e1, c1, lw, lf⟩ := spec_l22Any.ok hk h0 c0
  obtain ⟨m, em⟩ : ∃ m, spec_Min.f k r.l 30 = some m := by
    unfold spec_Min.f
    cases decide ((30 : Int) < r.l) <;> exact ⟨_, rfl⟩
  obtain ⟨x, i2, h2, e2, c2, p, q, _⟩ := spec_l1Below.ok k h1 3 c1
  have q := q (by omega)
  have key : ∀ (e0 : List Int → Int → Int → List Int → Option (Int × Int × Bool × Bool × List Int × List Int × Int × Int × List Int × List Int)) (m n : Nat) (i h : Int) (l : List Int), Cur a i → m < n → m + l.length ≤ 5 → ∃ l' i' h', spec_DrawSomeWinner.l6 k e0 n (m : Int) a i h l = e0 a i' h' l' ∧ Cur a i' := by
    intro e0 m
    induction m with
    | zero =>
      intro n i h l c hn hl
      obtain ⟨n, rfl⟩ : ∃ n', n = n' + 1 := ⟨n - 1, by omega⟩
      exact ⟨l, i, h, (spec_DrawSomeWinner.l6_succ ..).trans (bif_f (dec_f (by omega))), c⟩
    | succ m ih =>
      intro n i h l c hn hl
      obtain ⟨n, rfl⟩ : ∃ n', n = n' + 1 := ⟨n - 1, by omega⟩
      obtain ⟨y, i2, h2, e2, c2, _⟩ := spec_l1Below.ok k h 99 c
      obtain ⟨l', i', h', e, c'⟩ := ih n i2 h2 (l ++ [y]) c2 (by omega) (by simp; omega)
      refine ⟨l', i', h', (spec_DrawSomeWinner.l6_succ ..).trans ((bif_t (dec_t (by omega))).trans ((bind_s e2).trans ((chk_t (rm8 (by omega))).trans ?_))), c'⟩
      rw [show IntKind.wrap .i64 (((m + 1 : Nat) : Int) - 1) = (m : Int) by rw [wrap_i64 (by omega) (by omega)]; omega]
      exact e
  have key := fun e0 => key e0 x.toNat k i2 h2 [] c2 (by simp [BIG] at hk; omega) (by simp; omega)
  rw [show ((x.toNat : Nat) : Int) = x by omega] at key
  obtain ⟨s, i3, h3, e3, c3⟩ := key _
  obtain ⟨l, i4, h4, e4, c4, _⟩ := spec_l26Kinds.ok hk h3 c3
  exact ⟨{ r with l := m }, s, l, (bind_s e0).trans ((bind_s e1).trans ((bind_s em).trans ((bind_s e2).trans (e3.trans (bind_s e4))))), by show r.w.length < _; omega, by show r.f.length < _; omega⟩
abbrev Gm.tp2 (g h : Gm) : Int × Int × Bool × Bool × List Int × List Int × Int × Int × List (List Int) × List Int × List Int × Int × Int × Int × Int × Int × Bool × Bool × List Int × List Int × Int × Int × List (List Int) × List Int × List Int × Int × Int × Int := (g.r.n, g.r.e, g.r.b1, g.r.b2, g.r.w, g.r.f, g.r.t, g.r.l, g.hs, g.st, g.hp, g.tn, g.mv, g.ps, h.r.n, h.r.e, h.r.b1, h.r.b2, h.r.w, h.r.f, h.r.t, h.r.l, h.hs, h.st, h.hp, h.tn, h.mv, h.ps)
theorem spec_DrawEqualGames.ok {k : Nat} (hk : BIG ≤ k) {a : List Int} (ha : a.length < 1048577) : ∃ (g h : Gm), spec_DrawEqualGames.f k a = some (g.tp2 h) ∧ g.sm ∧ h.sm := by
  obtain ⟨h0, e0, c0⟩ := spec_l1New.ok hk ha
  obtain ⟨g, i1, h1, e1, c1, hs⟩ := spec_l24Draw.ok hk h0 c0
  obtain ⟨x, i2, h2, e2, c2, _⟩ := spec_l1Below.ok k h1 4 c1
  have ec := spec_l24Copy.eq hk hs
  cases x0 : (x == 0) with
  | true => exact ⟨g, { g with tn := IntKind.wrap .i64 (g.tn + 1) }, (bind_s e0).trans ((bind_s e1).trans ((bind_s ec).trans ((bind_s e2).trans (bif_t x0)))), hs, hs⟩
  | false =>
    cases x1 : (x == 1) with
    | true =>
      obtain ⟨g2, i3, h3, e3, c3, hs2⟩ := spec_l24Draw.ok hk h2 c2
      exact ⟨g, g2, (bind_s e0).trans ((bind_s e1).trans ((bind_s ec).trans ((bind_s e2).trans ((bif_f x0).trans ((bif_t x1).trans (bind_s e3)))))), hs, hs2⟩
    | false => exact ⟨g, g, (bind_s e0).trans ((bind_s e1).trans ((bind_s ec).trans ((bind_s e2).trans ((bif_f x0).trans (bif_f x1))))), hs, hs⟩
/-! ### Games played to their end -/
theorem autoMove_mv (g : Gm) (c : Int) : g.mv ≤ (autoMove g c).1.mv ∧ (autoMove g c).1.r = g.r := by
  unfold autoMove
  cases hm : (replayMove g (choice g c)).2 with
  | true =>
    obtain ⟨_, h2, h3⟩ := replayMove_game hm
    exact ⟨by omega, h3⟩
  | false => rw [replayMove_no hm]; exact ⟨Int.le_refl _, rfl⟩
theorem playN_mv (kinds : List Int) : ∀ (m : Nat) (g : Gm), g.mv ≤ (playN kinds m g).mv ∧ (playN kinds m g).r = g.r
  | 0, g => ⟨Int.le_refl _, rfl⟩
  | m + 1, g => by
    unfold playN
    cases (isGame g && !overG g) with
    | true =>
      obtain ⟨h1, h2⟩ := autoMove_mv g (kindOf kinds g.tn)
      obtain ⟨h3, h4⟩ := playN_mv kinds m (autoMove g (kindOf kinds g.tn)).1
      exact ⟨Int.le_trans h1 h3, h4.trans h2⟩
    | false => exact ⟨Int.le_refl _, rfl⟩
theorem playOut_no (kinds : List Int) {g : Gm} (h : isGame g = false) : playOut g kinds = g := by
  unfold playOut playN
  rw [h]; rfl
theorem impl_MovesLeft.end {k : Nat} (hk : BIG ≤ k) {g : Gm} (h : g.sm) (he : (isGame g && !overG g) = false) : g.ap (impl_MovesLeft.f k) = some 0 := by
  refine (bind_s (impl_IsGame.eq hk h)).trans ?_
  cases h1 : isGame g with
  | false => rfl
  | true =>
    rw [h1] at he
    refine (bif_f rfl).trans ((bind_s (impl_IsEnded.eq hk h)).trans (bif_t ?_))
    rw [isEnded_over h1]
    simpa using he
/-! ### Comparing -/
theorem dec_comm {α : Type} [DecidableEq α] (x y : α) : decide (x = y) = decide (y = x) := decide_eq_decide.2 ⟨Eq.symm, Eq.symm⟩
theorem eqGm_refl (g : Gm) : eqGm g g = true := by simp [eqGm, eqRl, eqI, eqII]
theorem eqGm_comm (g h : Gm) : eqGm g h = eqGm h g := by
  unfold eqGm eqRl eqI eqII
  rw [BEq.comm (a := g.r.n), BEq.comm (a := g.r.e), BEq.comm (a := g.r.b1), BEq.comm (a := g.r.b2), dec_comm g.r.w, dec_comm g.r.f, BEq.comm (a := g.r.t), BEq.comm (a := g.r.l), dec_comm g.hs, dec_comm g.st, dec_comm g.hp, BEq.comm (a := g.tn), BEq.comm (a := g.mv), BEq.comm (a := g.ps)]
/-! ### Sizes -/
theorem impl_sizes.eq {k : Nat} (hk : BIG ≤ k) {l : List (List Int)} (hl : l.length < 1048577) : impl_sizes.f k l = some (l.map fun y => (y.length : Int)) := by
  have h := scan (B := List Int) l (fun m b i => impl_sizes.l3 k l (l.length : Int) (fun x1 => some x1) m i b) (fun _ _ => true) (fun b a => b ++ [(a.length : Int)]) (fun x => some x) (fun _ _ => none) (fun i b => b.length = i)
    (fun m b i h hI => by
      refine (impl_sizes.l3_succ ..).trans ((bif_t (dec_t (by omega))).trans ((chk_t (in_t h)).trans ?_))
      rw [Int.toNat_natCast, getD_lt _ h, wrap_up (by omega)]
      exact chk_t (rm8 (by omega)))
    (fun b i h hI _ => by simp; omega)
    (fun m b hI => (impl_sizes.l3_succ ..).trans (bif_f (dec_f (by omega))))
    l.length 0 k [] (by omega) (BIG_lt hk hl) rfl
  refine h.trans ?_
  rw [List.drop_zero, run_fold, foldl_snoc, List.nil_append]
theorem sum_sizes : ∀ l : List (List Int), (l.map fun y => (y.length : Int)).sum = (l.flatten.length : Int)
  | [] => rfl
  | a :: l => by
    have := sum_sizes l
    rw [List.map_cons, List.sum_cons, List.flatten_cons, List.length_append, this]
    omega
/-! ### Winners -/
theorem winner_le (g : Gm) : -1 ≤ winner g ∧ (winner g < g.r.n ∨ winner g = -1) := by
  unfold winner
  cases h : isGame g with
  | false => exact ⟨Int.le_refl (-1), .inr rfl⟩
  | true =>
    obtain ⟨_, h2, _⟩ := isGame_iff.1 h
    rcases firstE_le g.hs 0 with h3 | h3
    · exact ⟨by simp only [cond_true]; omega, .inr (by simpa using h3)⟩
    · exact ⟨by simp only [cond_true]; omega, .inl (by simp only [cond_true]; omega)⟩
theorem someWinner_ok (r : Rl) (seeds kinds : List Int) : ∀ x ∈ someWinner r seeds kinds, -1 ≤ x ∧ x < r.n := fun x hx => by
  unfold someWinner at hx
  cases hr : r.ok with
  | false => rw [hr] at hx; simp at hx
  | true =>
    have hn := (rl_ok hr).1
    rw [hr, Bool.true_and] at hx
    cases hd : decide ((seeds.length : Int) > 20) with
    | true => rw [hd] at hx; simp at hx
    | false =>
      rw [hd] at hx
      obtain ⟨s, _, rfl⟩ := List.mem_map.1 (show x ∈ seeds.map (seedWinner r kinds) from hx)
      unfold seedWinner
      obtain ⟨h1, h2⟩ := winner_le (playOut (newGame r (shuffled fullDeck s)).1 kinds)
      have e : (playOut (newGame r (shuffled fullDeck s)).1 kinds).r = r := (playN_mv kinds 401 _).2.trans (newGame_game (newGame_made hr s)).2
      rw [e] at h2
      exact ⟨h1, by omega⟩
end Go.Proofs.YtpdkglbbhfhlfaaGreat
