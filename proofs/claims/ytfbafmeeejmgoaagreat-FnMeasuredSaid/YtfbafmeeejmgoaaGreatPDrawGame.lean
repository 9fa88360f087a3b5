/- A drawn game, in plain Lean: it answers, and its lists are short. Conditions: enough rounds, a code of at most 2^20 bytes. -/
import Derived.Test.YtfbafmeeejmgoaaGreatKit
import Derived.Test.YtfbafmeeejmgoaaGreatFFnMeasured
import Derived.Test.YtfbafmeeejmgoaaGreatPDraw
import Derived.Test.YtfbafmeeejmgoaaGreatPPlay
import Derived.Test.YtfbafmeeejmgoaaGreatPTake
set_option linter.unusedVariables false
set_option linter.unusedSimpArgs false
namespace Go.Proofs.YtfbafmeeejmgoaaGreat
open Go Go.Proofs.YtfbafmeeejmgoaaGreat.V
theorem spec_l8Any.ok {k : Nat} (hk : BIG ≤ k) {b : List Int} {i : Int} (h : Int) (hc : Cur b i) : ∃ x i' h', spec_l8Any.f k b i h = some (x, b, i', h') ∧ Cur b i' ∧ x.length ≤ 7 := by
  obtain ⟨x, i1, h1, e1, c1, l0, l1, _⟩ := spec_l8Draw.two hk (d := 2) (by omega) h hc
  obtain ⟨y, i2, h2, e2, c2, _⟩ := spec_l1Below.ok k h1 10 c1
  cases y0 : (y == 0) with
  | true =>
    obtain ⟨z, i3, h3, e3, c3, p1, p2, _⟩ := spec_l1Below.ok k h2 (x.length : Int) c2
    have p2 := p2 (by omega)
    obtain ⟨u, i4, h4, e4, c4, _⟩ := spec_l1Int.ok k h3 (l := [104, 99, 213, 313, 401, (-4), (-2), 9223372036854775807]) (by simp) c3
    exact ⟨x.set z.toNat u, i4, h4, (bind_s e1).trans ((bind_s e2).trans ((bif_t y0).trans ((bind_s e3).trans ((bind_s e4).trans (chk_t (and_t (dec_t p1) (dec_t p2))))))), c4, by rw [List.length_set]; omega⟩
  | false =>
    cases y1 : (y == 1) with
    | true =>
      have q0 : (0 : Int) ≤ (x.length : Int) := by omega
      have q1 : (1 : Int) ≤ (x.length : Int) := by omega
      exact ⟨(x.take ((x.length : Int).toNat)).drop 1, i2, h2, (bind_s e1).trans ((bind_s e2).trans ((bif_f y0).trans ((bif_t y1).trans ((chk_t (and_t (dec_t q0) (dec_t (Int.le_refl _)))).trans (chk_t (dec_t q1)))))), c2, by rw [List.length_drop, List.length_take]; omega⟩
    | false => exact ⟨x, i2, h2, (bind_s e1).trans ((bind_s e2).trans ((bif_f y0).trans (bif_f y1))), c2, l1⟩
/-- Drawn rules, perhaps none. -/
theorem spec_l22Any.ok {k : Nat} (hk : BIG ≤ k) {b : List Int} {i : Int} (h : Int) (hc : Cur b i) : ∃ (r : Rl) (i' h' : Int), spec_l22Any.f k b i h = some (r.n, r.e, r.b1, r.b2, r.w, r.f, r.t, r.l, b, i', h') ∧ Cur b i' ∧ r.w.length ≤ 7 ∧ r.f.length ≤ 7 := by
  obtain ⟨r, i1, h1, e1, c1, hr, lw, lf⟩ := spec_l22Draw.ok hk h hc
  obtain ⟨y, i2, h2, e2, c2, _⟩ := spec_l1Below.ok k h1 14 c1
  cases y0 : (y == 0) with
  | true =>
    obtain ⟨u, i3, h3, e3, c3, _⟩ := spec_l1Int.ok k h2 (l := [1, 6, 7]) (by simp) c2
    exact ⟨{ r with n := u }, i3, h3, (bind_s e1).trans ((bind_s e2).trans ((bif_t y0).trans (bind_s e3))), c3, lw, lf⟩
  | false =>
    cases y1 : (y == 1) with
    | true =>
      obtain ⟨u, i3, h3, e3, c3, _⟩ := spec_l1Int.ok k h2 (l := [0, 8, 9]) (by simp) c2
      exact ⟨{ r with e := u }, i3, h3, (bind_s e1).trans ((bind_s e2).trans ((bif_f y0).trans ((bif_t y1).trans (bind_s e3)))), c3, lw, lf⟩
    | false =>
      cases y2 : (y == 2) with
      | true => exact ⟨{ r with b2 := false }, i2, h2, (bind_s e1).trans ((bind_s e2).trans ((bif_f y0).trans ((bif_f y1).trans (bif_t y2)))), c2, lw, lf⟩
      | false =>
        cases y3 : (y == 3) with
        | true =>
          obtain ⟨u, i3, h3, e3, c3, lu⟩ := spec_l8Any.ok hk h2 c2
          exact ⟨{ r with w := u }, i3, h3, (bind_s e1).trans ((bind_s e2).trans ((bif_f y0).trans ((bif_f y1).trans ((bif_f y2).trans ((bif_t y3).trans (bind_s e3)))))), c3, lu, lf⟩
        | false =>
          cases y4 : (y == 4) with
          | true =>
            obtain ⟨u, i3, h3, e3, c3, _⟩ := spec_l1Int.ok k h2 (l := [0, 4, 5]) (by simp) c2
            exact ⟨{ r with t := u }, i3, h3, (bind_s e1).trans ((bind_s e2).trans ((bif_f y0).trans ((bif_f y1).trans ((bif_f y2).trans ((bif_f y3).trans ((bif_t y4).trans (bind_s e3))))))), c3, lw, lf⟩
          | false =>
            cases y5 : (y == 5) with
            | true =>
              obtain ⟨u, i3, h3, e3, c3, _⟩ := spec_l1Int.ok k h2 (l := [0, 400, 401]) (by simp) c2
              exact ⟨{ r with l := u }, i3, h3, (bind_s e1).trans ((bind_s e2).trans ((bif_f y0).trans ((bif_f y1).trans ((bif_f y2).trans ((bif_f y3).trans ((bif_f y4).trans ((bif_t y5).trans (bind_s e3)))))))), c3, lw, lf⟩
            | false => exact ⟨r, i2, h2, (bind_s e1).trans ((bind_s e2).trans ((bif_f y0).trans ((bif_f y1).trans ((bif_f y2).trans ((bif_f y3).trans ((bif_f y4).trans (bif_f y5))))))), c2, lw, lf⟩
theorem playOn_keep {g : Gm} (c : Int) (h : isGame g = true) (hs : g.sm) : isGame (playOn g c).1 = true ∧ (playOn g c).1.sm := by
  cases hm : (playOn g c).2 with
  | true =>
    obtain ⟨h1, _, h3⟩ := playOn_game hm
    exact ⟨h1, isGame_sm h1 (by rw [h3]; exact hs.1)⟩
  | false => rw [playOn_no hm]; exact ⟨h, hs⟩
theorem takeCards_keep {g : Gm} (h : isGame g = true) (hs : g.sm) : isGame (takeCards g).1 = true ∧ (takeCards g).1.sm := by
  cases hm : (takeCards g).2 with
  | true =>
    obtain ⟨h1, _, h3⟩ := takeCards_game hm
    exact ⟨h1, isGame_sm h1 (by rw [h3]; exact hs.1)⟩
  | false => rw [takeCards_no hm]; exact ⟨h, hs⟩
abbrev DP (R : Type) := List Int → Int → Int → Int → Int → Bool → Bool → Int → Int → Int → Int → Int → List Int → List Int → List (List Int) → List Int → List Int → Option R
abbrev Gm.dp {R : Type} (e0 : DP R) (g : Gm) (b : List Int) (i h : Int) : Option R := e0 b i h g.r.n g.r.e g.r.b1 g.r.b2 g.r.t g.r.l g.tn g.mv g.ps g.r.w g.r.f g.hs g.st g.hp
end Go.Proofs.YtfbafmeeejmgoaaGreat
