/- A drawn game, in plain Lean: it answers, and its lists are short. Conditions: enough rounds, a code of at most 2^20 bytes. -/
import Derived.Test.YtfbafmeeejmgoaaGreatKit
import Derived.Test.YtfbafmeeejmgoaaGreatFFnRecords
import Derived.Test.YtfbafmeeejmgoaaGreatPDraw
import Derived.Test.YtfbafmeeejmgoaaGreatPPlay
import Derived.Test.YtfbafmeeejmgoaaGreatPTake
set_option linter.unusedVariables false
set_option linter.unusedSimpArgs false
namespace Go.Proofs.YtfbafmeeejmgoaaGreat
open Go Go.Proofs.YtfbafmeeejmgoaaGreat.V
theorem spec_l8Any.ok {k : Nat} (hk : BIG ≤ k) {b : List Int} {i : Int} (h : Int) (hc : Cur b i) : ∃ x i' h', spec_l8Any.f k b i h = some (x, b, i', h') ∧ Cur b i' ∧ x.length ≤ 7 := by
  obtain ⟨x, i1, h1, e1, c1, l0, l1, _⟩ := spec_l8Draw.two hk (d := 2) (by omega) h hc
  obtain ⟨y, i2, h2, e2, c2, _⟩ := spec_l1Below.ok k h1 10 c1
  cases y0 : (y == 0) with
  | true =>
    obtain ⟨z, i3, h3, e3, c3, p1, p2, _⟩ := spec_l1Below.ok k h2 (x.length : Int) c2
    have p2 := p2 (by omega)
    obtain ⟨u, i4, h4, e4, c4, _⟩ := spec_l1Int.ok k h3 (l := [104, 99, 213, 313, 401, (-4), (-2), 9223372036854775807]) (by simp) c3
    exact ⟨x.set z.toNat u, i4, h4, (bind_s e1).trans ((bind_s e2).trans ((bif_t y0).trans ((bind_s e3).trans ((bind_s e4).trans (chk_t (and_t (dec_t p1) (dec_t p2))))))), c4, by rw [List.length_set]; omega⟩
  | false =>
    cases y1 : (y == 1) with
    | true =>
      have q0 : (0 : Int) ≤ (x.length : Int) := by omega
      have q1 : (1 : Int) ≤ (x.length : Int) := by omega
      exact ⟨(x.take ((x.length : Int).toNat)).drop 1, i2, h2, (bind_s e1).trans ((bind_s e2).trans ((bif_f y0).trans ((bif_t y1).trans ((chk_t (and_t (dec_t q0) (dec_t (Int.le_refl _)))).trans (chk_t (dec_t q1)))))), c2, by rw [List.length_drop, List.length_take]; omega⟩
    | false => exact ⟨x, i2, h2, (bind_s e1).trans ((bind_s e2).trans ((bif_f y0).trans (bif_f y1))), c2, l1⟩
/-- Drawn rules, perhaps none. -/
theorem spec_l22Any.ok {k : Nat} (hk : BIG ≤ k) {b : List Int} {i : Int} (h : Int) (hc : Cur b i) : ∃ (r : Rl) (i' h' : Int), spec_l22Any.f k b i h = some (r.n, r.e, r.b1, r.b2, r.w, r.f, r.t, r.l, b, i', h') ∧ Cur b i' ∧ r.w.length ≤ 7 ∧ r.f.length ≤ 7 := by
  obtain ⟨r, i1, h1, e1, c1, hr, lw, lf⟩ := spec_l22Draw.ok hk h hc
  obtain ⟨y, i2, h2, e2, c2, _⟩ := spec_l1Below.ok k h1 14 c1
  cases y0 : (y == 0) with
  | true =>
    obtain ⟨u, i3, h3, e3, c3, _⟩ := spec_l1Int.ok k h2 (l := [1, 6, 7]) (by simp) c2
    exact ⟨{ r with n := u }, i3, h3, (bind_s e1).trans ((bind_s e2).trans ((bif_t y0).trans (bind_s e3))), c3, lw, lf⟩
  | false =>
    cases y1 : (y == 1) with
    | true =>
      obtain ⟨u, i3, h3, e3, c3, _⟩ := spec_l1Int.ok k h2 (l := [0, 8, 9]) (by simp) c2
      exact ⟨{ r with e := u }, i3, h3, (bind_s e1).trans ((bind_s e2).trans ((bif_f y0).trans ((bif_t y1).trans (bind_s e3)))), c3, lw, lf⟩
    | false =>
      cases y2 : (y == 2) with
      | true => exact ⟨{ r with b2 := false }, i2, h2, (bind_s e1).trans ((bind_s e2).trans ((bif_f y0).trans ((bif_f y1).trans (bif_t y2)))), c2, lw, lf⟩
      | false =>
        cases y3 : (y == 3) with
        | true =>
          obtain ⟨u, i3, h3, e3, c3, lu⟩ := spec_l8Any.ok hk h2 c2
          exact ⟨{ r with w := u }, i3, h3, (bind_s e1).trans ((bind_s e2).trans ((bif_f y0).trans ((bif_f y1).trans ((bif_f y2).trans ((bif_t y3).trans (bind_s e3)))))), c3, lu, lf⟩
        | false =>
          cases y4 : (y == 4) with
          | true =>
            obtain ⟨u, i3, h3, e3, c3, _⟩ := spec_l1Int.ok k h2 (l := [0, 4, 5]) (by simp) c2
            exact ⟨{ r with t := u }, i3, h3, (bind_s e1).trans ((bind_s e2).trans ((bif_f y0).trans ((bif_f y1).trans ((bif_f y2).trans ((bif_f y3).trans ((bif_t y4).trans (bind_s e3))))))), c3, lw, lf⟩
          | false =>
            cases y5 : (y == 5) with
            | true =>
              obtain ⟨u, i3, h3, e3, c3, _⟩ := spec_l1Int.ok k h2 (l := [0, 400, 401]) (by simp) c2
              exact ⟨{ r with l := u }, i3, h3, (bind_s e1).trans ((bind_s e2).trans ((bif_f y0).trans ((bif_f y1).trans ((bif_f y2).trans ((bif_f y3).trans ((bif_f y4).trans ((bif_t y5).trans (bind_s e3)))))))), c3, lw, lf⟩
            | false => exact ⟨r, i2, h2, (bind_s e1).trans ((bind_s e2).trans ((bif_f y0).trans ((bif_f y1).trans ((bif_f y2).trans ((bif_f y3).trans ((bif_f y4).trans (bif_f y5))))))), c2, lw, lf⟩
theorem playOn_keep {g : Gm} (c : Int) (h : isGame g = true) (hs : g.sm) : isGame (playOn g c).1 = true ∧ (playOn g c).1.sm := by
  cases hm : (playOn g c).2 with
  | true =>
    obtain ⟨h1, _, h3⟩ := playOn_game hm
    exact ⟨h1, isGame_sm h1 (by rw [h3]; exact hs.1)⟩
  | false => rw [playOn_no hm]; exact ⟨h, hs⟩
theorem takeCards_keep {g : Gm} (h : isGame g = true) (hs : g.sm) : isGame (takeCards g).1 = true ∧ (takeCards g).1.sm := by
  cases hm : (takeCards g).2 with
  | true =>
    obtain ⟨h1, _, h3⟩ := takeCards_game hm
    exact ⟨h1, isGame_sm h1 (by rw [h3]; exact hs.1)⟩
  | false => rw [takeCards_no hm]; exact ⟨h, hs⟩
abbrev DP (R : Type) := List Int → Int → Int → Int → Int → Bool → Bool → Int → Int → Int → Int → Int → List Int → List Int → List (List Int) → List Int → List Int → Option R
abbrev Gm.dp {R : Type} (e0 : DP R) (g : Gm) (b : List Int) (i h : Int) : Option R := e0 b i h g.r.n g.r.e g.r.b1 g.r.b2 g.r.t g.r.l g.tn g.mv g.ps g.r.w g.r.f g.hs g.st g.hp
theorem spec_l24Draw.loop {R : Type} {k : Nat} (hk : BIG ≤ k) (e0 : DP R) : ∀ (m n : Nat) {b : List Int} {i : Int} (h : Int) (g : Gm), Cur b i → m < n → m ≤ 100 → isGame g = true → g.sm →
    ∃ (g' : Gm) (i' h' : Int), g.dp (spec_l24Draw.l3 k e0 n (m : Int)) b i h = g'.dp e0 b i' h' ∧ Cur b i' ∧ isGame g' = true ∧ g'.sm
  | m, 0, b, i, h, g, _, hn, _, _, _ => absurd hn (by omega)
  | 0, n + 1, b, i, h, g, hc, hn, hm, hg, hs => ⟨g, i, h, (spec_l24Draw.l3_succ ..).trans (bif_f (dec_f (by omega))), hc, hg, hs⟩
  | m + 1, n + 1, b, i, h, g, hc, hn, hm, hg, hs => by
    have ew : IntKind.wrap .i64 (((m + 1 : Nat) : Int) - 1) = (m : Int) := by rw [wrap_i64 (by omega) (by omega)]; omega
    have pre : ∀ X, (bif decide (((playable g).length : Int) > 0) then
       (spec_l1Once.f k b i h 4).bind fun r4 =>
       bif (!r4.1) then
        (spec_l1Below.f k r4.2.1 (t2 r4).1 (t3 r4) ((playable g).length : Int)).bind fun r5 =>
        chk ((decide (0 ≤ r5.1)) && (decide (r5.1 < ((playable g).length : Int)))) <|
        (g.ap (spec_PlayOn.f k) ((playable g).getD r5.1.toNat 0)).bind fun r6 =>
        spec_l24Draw.l3 k e0 n (m : Int) r5.2.1 (t2 r5).1 (t3 r5) r6.1 r6.2.1 (t2 r6).1 (t3 r6).1 (t6 r6).1 (t7 r6).1 (t9 (t2 r6)).1 (t9 (t3 r6)).1 (t9 (t4 r6)).1 (t4 r6).1 (t5 r6).1 (t8 r6).1 (t9 r6).1 (t9 r6.2).1
       else
        (g.ap (spec_TakeCards.f k)).bind fun r7 =>
        spec_l24Draw.l3 k e0 n (m : Int) r4.2.1 (t2 r4).1 (t3 r4) r7.1 r7.2.1 (t2 r7).1 (t3 r7).1 (t6 r7).1 (t7 r7).1 (t9 (t2 r7)).1 (t9 (t3 r7)).1 (t9 (t4 r7)).1 (t4 r7).1 (t5 r7).1 (t8 r7).1 (t9 r7).1 (t9 r7.2).1
      else
       (g.ap (spec_TakeCards.f k)).bind fun r8 =>
       spec_l24Draw.l3 k e0 n (m : Int) b i h r8.1 r8.2.1 (t2 r8).1 (t3 r8).1 (t6 r8).1 (t7 r8).1 (t9 (t2 r8)).1 (t9 (t3 r8)).1 (t9 (t4 r8)).1 (t4 r8).1 (t5 r8).1 (t8 r8).1 (t9 r8).1 (t9 r8.2).1) = X → g.dp (spec_l24Draw.l3 k e0 (n + 1) ((m + 1 : Nat) : Int)) b i h = X := fun X hX => by
      refine (spec_l24Draw.l3_succ ..).trans ((bif_t (dec_t (by omega))).trans ((bind_s (spec_Playable.eq hk hs)).trans ?_))
      rw [ew]
      exact hX
    have taken : ∀ {i : Int} (h : Int), Cur b i → ∃ (g' : Gm) (i' h' : Int), ((g.ap (spec_TakeCards.f k)).bind fun r7 => spec_l24Draw.l3 k e0 n (m : Int) b i h r7.1 r7.2.1 (t2 r7).1 (t3 r7).1 (t6 r7).1 (t7 r7).1 (t9 (t2 r7)).1 (t9 (t3 r7)).1 (t9 (t4 r7)).1 (t4 r7).1 (t5 r7).1 (t8 r7).1 (t9 r7).1 (t9 r7.2).1) = g'.dp e0 b i' h' ∧ Cur b i' ∧ isGame g' = true ∧ g'.sm := fun {i} h hc => by
      obtain ⟨k1, k2⟩ := takeCards_keep hg hs
      obtain ⟨g', i', h', e, c', q1, q2⟩ := spec_l24Draw.loop hk e0 m n h (takeCards g).1 hc (by omega) (by omega) k1 k2
      exact ⟨g', i', h', (bind_s (spec_TakeCards.eq hk hs)).trans e, c', q1, q2⟩
    by_cases hp : ((playable g).length : Int) > 0
    · obtain ⟨t, i1, h1, e1, c1⟩ := spec_l1Once.ok k h 4 hc
      cases t with
      | true =>
        obtain ⟨g', i', h', e, c', q1, q2⟩ := taken h1 c1
        exact ⟨g', i', h', pre _ ((bif_t (dec_t hp)).trans ((bind_s e1).trans ((bif_f rfl).trans e))), c', q1, q2⟩
      | false =>
        obtain ⟨x, i2, h2, e2, c2, p1, p2, _⟩ := spec_l1Below.ok k h1 ((playable g).length : Int) c1
        have p2 := p2 (by omega)
        obtain ⟨k1, k2⟩ := playOn_keep ((playable g).getD x.toNat 0) hg hs
        obtain ⟨g', i', h', e, c', q1, q2⟩ := spec_l24Draw.loop hk e0 m n h2 (playOn g ((playable g).getD x.toNat 0)).1 c2 (by omega) (by omega) k1 k2
        exact ⟨g', i', h', pre _ ((bif_t (dec_t hp)).trans ((bind_s e1).trans ((bif_t rfl).trans ((bind_s e2).trans ((chk_t (and_t (dec_t p1) (dec_t p2))).trans ((bind_s (spec_PlayOn.eq hk hs _)).trans e)))))), c', q1, q2⟩
    · obtain ⟨g', i', h', e, c', q1, q2⟩ := taken h hc
      exact ⟨g', i', h', pre _ ((bif_f (dec_f hp)).trans e), c', q1, q2⟩
/-- A drawn game. -/
theorem spec_l24Draw.ok {k : Nat} (hk : BIG ≤ k) {b : List Int} {i : Int} (h : Int) (hc : Cur b i) : ∃ (g : Gm) (i' h' : Int), spec_l24Draw.f k b i h = some (g.r.n, g.r.e, g.r.b1, g.r.b2, g.r.w, g.r.f, g.r.t, g.r.l, g.hs, g.st, g.hp, g.tn, g.mv, g.ps, b, i', h') ∧ Cur b i' ∧ g.sm := by
  obtain ⟨g0, i1, h1, e1, c1, hg0, hs0, hm0⟩ := spec_l24Start.ok hk h hc
  obtain ⟨x, i2, h2, e2, c2, p1, p2, _⟩ := spec_l1Below.ok k h1 14 c1
  have p2 := p2 (by omega)
  have lp := fun (e0 : DP (Int × Int × Bool × Bool × List Int × List Int × Int × Int × List (List Int) × List Int × List Int × Int × Int × Int × List Int × Int × Int)) => spec_l24Draw.loop hk e0 x.toNat k h2 g0 c2 (by simp [BIG] at hk; omega) (by omega) hg0 hs0
  rw [show ((x.toNat : Nat) : Int) = x by omega] at lp
  obtain ⟨g, i3, h3, e3, c3, hg, hs⟩ := lp _
  have hl := isGame_len hg
  obtain ⟨y, i4, h4, e4, c4, _⟩ := spec_l1Below.ok k h3 14 c3
  have pre : ∀ X, _ = X → spec_l24Draw.f k b i h = X := fun X hX => (bind_s e1).trans ((bind_s e2).trans (e3.trans ((bind_s e4).trans hX)))
  cases y0 : (y == 0) with
  | true =>
    obtain ⟨u, i5, h5, e5, c5, _⟩ := spec_l1Int.ok k h4 (l := [(-1), 6]) (by simp) c4
    exact ⟨{ g with tn := u }, i5, h5, pre _ ((bif_t y0).trans (bind_s e5)), c5, hs⟩
  | false =>
    cases y1 : (y == 1) with
    | true => exact ⟨{ g with mv := g.r.l }, i4, h4, pre _ ((bif_f y0).trans (bif_t y1)), c4, hs⟩
    | false =>
      cases y2 : (y == 2) with
      | true =>
        obtain ⟨u, i5, h5, e5, c5⟩ := spec_l4Card.ok k h4 c4
        exact ⟨{ g with st := g.st ++ [u] }, i5, h5, pre _ ((bif_f y0).trans ((bif_f y1).trans ((bif_t y2).trans ((bind_s e5).trans (chk_t (rm8 (show g.st.length + 1 ≤ 17592186044416 by omega))))))), c5, hs.1, hs.2.1, by show (g.st ++ [u]).length < _; rw [List.length_append, List.length_singleton]; omega, hs.2.2.2⟩
      | false =>
        cases y3 : (y == 3) with
        | true =>
          obtain ⟨r, i5, h5, e5, c5, lw, lf⟩ := spec_l22Any.ok hk h4 c4
          exact ⟨{ g with r := r }, i5, h5, pre _ ((bif_f y0).trans ((bif_f y1).trans ((bif_f y2).trans ((bif_t y3).trans (bind_s e5))))), c5, ⟨by show r.w.length < _; omega, by show r.f.length < _; omega⟩, hs.2⟩
        | false =>
          cases y4 : (y == 4) with
          | true => exact ⟨{ g with st := [], hp := g.hp ++ g.st }, i4, h4, pre _ ((bif_f y0).trans ((bif_f y1).trans ((bif_f y2).trans ((bif_f y3).trans ((bif_t y4).trans (chk_t (rm8 (show g.hp.length + g.st.length ≤ 17592186044416 by omega)))))))), c4, hs.1, hs.2.1, by show ([] : List Int).length < _; simp, by show (g.hp ++ g.st).length < _; rw [List.length_append]; omega⟩
          | false => exact ⟨g, i4, h4, pre _ ((bif_f y0).trans ((bif_f y1).trans ((bif_f y2).trans ((bif_f y3).trans (bif_f y4))))), c4, hs⟩
end Go.Proofs.YtfbafmeeejmgoaaGreat
