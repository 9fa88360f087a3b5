/- Games played to their end, in plain Lean: the law answers true. Conditions: enough rounds. -/
import Derived.Test.YtpdkglbbhfhlfaaGreatKit
import Derived.Test.YtpdkglbbhfhlfaaGreatFFnRuns
import Derived.Test.YtpdkglbbhfhlfaaGreatPDrawRuns
set_option linter.unusedVariables false
set_option linter.unusedSimpArgs false
namespace Go.Proofs.YtpdkglbbhfhlfaaGreat
open Go Go.Proofs.YtpdkglbbhfhlfaaGreat.V
theorem runs_winners {k : Nat} {r : Rl} {l : List Int} (hl : l.length < k) (hl2 : l.length ≤ 20) (hx : ∀ x ∈ l, -1 ≤ x ∧ x < r.n) (e0 e1 : Option Bool) : laws_FnRuns.l10 k r.n l e0 e1 k 0 = e1 := by
  have key : ∀ (j i n : Nat), i + j = l.length → j < n → laws_FnRuns.l10 k r.n l e0 e1 n (i : Int) = e1 := by
    intro j
    induction j with
    | zero =>
      intro i n hi hn
      obtain ⟨n, rfl⟩ : ∃ n', n = n' + 1 := ⟨n - 1, by omega⟩
      exact (laws_FnRuns.l10_succ ..).trans (bif_f (dec_f (by omega)))
    | succ j ih =>
      intro i n hi hn
      obtain ⟨n, rfl⟩ : ∃ n', n = n' + 1 := ⟨n - 1, by omega⟩
      have hil : i < l.length := by omega
      have h3 := hx _ (List.getElem_mem hil)
      refine (laws_FnRuns.l10_succ ..).trans ((bif_t (dec_t (by omega))).trans ((chk_t (in_t hil)).trans ?_))
      rw [Int.toNat_natCast, getD_lt _ hil, wrap_up (by omega)]
      exact (bif_f (dec_f (by omega))).trans ((chk_t (in_t hil)).trans ((bif_f (dec_f (by omega))).trans (ih (i + 1) n (by omega) (by omega))))
  exact key l.length 0 k (by omega) hl
/-- What the law asks behind the game. -/
def runsLast (k : Nat) (a : List Int) : Option Bool :=
         (spec_DrawSomeWinner.f k a).bind fun r9 =>
         (impl_SomeWinner.f k r9.1 r9.2.1 (t2 r9).1 (t3 r9).1 (t4 r9).1 (t5 r9).1 (t6 r9).1 (t7 r9).1 (t8 r9).1 (t9 r9)).bind fun r10 =>
         laws_FnRuns.l10 k r9.1 r10 (some false) ((spec_DrawEqualGames.f k a).bind fun r11 =>
          (impl_EqualGames.f k r11.1 r11.2.1 (t2 r11).1 (t3 r11).1 (t4 r11).1 (t5 r11).1 (t6 r11).1 (t7 r11).1 (t8 r11).1 (t9 r11).1 (t9 r11.2).1 (t9 (t2 r11)).1 (t9 (t3 r11)).1 (t9 (t4 r11)).1 (t9 (t5 r11)).1 (t9 (t6 r11)).1 (t9 (t7 r11)).1 (t9 (t8 r11)).1 (t9 (t9 r11)).1 (t9 (t9 r11.2)).1 (t9 (t9 (t2 r11))).1 (t9 (t9 (t3 r11))).1 (t9 (t9 (t4 r11))).1 (t9 (t9 (t5 r11))).1 (t9 (t9 (t6 r11))).1 (t9 (t9 (t7 r11))).1 (t9 (t9 (t8 r11))).1 (t9 (t9 (t9 r11)))).bind fun r12 =>
          (impl_EqualGames.f k (t9 (t5 r11)).1 (t9 (t6 r11)).1 (t9 (t7 r11)).1 (t9 (t8 r11)).1 (t9 (t9 r11)).1 (t9 (t9 r11.2)).1 (t9 (t9 (t2 r11))).1 (t9 (t9 (t3 r11))).1 (t9 (t9 (t4 r11))).1 (t9 (t9 (t5 r11))).1 (t9 (t9 (t6 r11))).1 (t9 (t9 (t7 r11))).1 (t9 (t9 (t8 r11))).1 (t9 (t9 (t9 r11))) r11.1 r11.2.1 (t2 r11).1 (t3 r11).1 (t4 r11).1 (t5 r11).1 (t6 r11).1 (t7 r11).1 (t8 r11).1 (t9 r11).1 (t9 r11.2).1 (t9 (t2 r11)).1 (t9 (t3 r11)).1 (t9 (t4 r11)).1).bind fun r13 =>
          bif (r12 == r13) then
           (impl_EqualGames.f k r11.1 r11.2.1 (t2 r11).1 (t3 r11).1 (t4 r11).1 (t5 r11).1 (t6 r11).1 (t7 r11).1 (t8 r11).1 (t9 r11).1 (t9 r11.2).1 (t9 (t2 r11)).1 (t9 (t3 r11)).1 (t9 (t4 r11)).1 r11.1 r11.2.1 (t2 r11).1 (t3 r11).1 (t4 r11).1 (t5 r11).1 (t6 r11).1 (t7 r11).1 (t8 r11).1 (t9 r11).1 (t9 r11.2).1 (t9 (t2 r11)).1 (t9 (t3 r11)).1 (t9 (t4 r11)).1).bind fun r14 =>
           bif r14 then
            (impl_CardsHeld.f k r11.1 r11.2.1 (t2 r11).1 (t3 r11).1 (t4 r11).1 (t5 r11).1 (t6 r11).1 (t7 r11).1 (t8 r11).1 (t9 r11).1 (t9 r11.2).1 (t9 (t2 r11)).1 (t9 (t3 r11)).1 (t9 (t4 r11)).1).bind fun r15 =>
            (laws_sum.f k r15).bind fun r16 =>
            (impl_TotalCards.f k (t8 r11).1).bind fun r17 =>
            some (r16 == r17)
           else
            some false
          else
           some false) k 0
theorem runsLast_ok {k : Nat} (hk : BIG ≤ k) {a : List Int} (ha : a.length < 1048577) : runsLast k a = some true := by
  obtain ⟨r, s, l, ew, hr⟩ := spec_DrawSomeWinner.ok hk ha
  obtain ⟨g, h, eg, hg, hh⟩ := spec_DrawEqualGames.ok hk ha
  have hw := someWinner_len r s l
  have h1 := hg.2.1.1
  have h2 := hg.2.1.2
  have es := laws_sum.eq hk (l := g.hs.map fun y => (y.length : Int)) (by simpa using h1) (fun x hx => by
    obtain ⟨y, hy, rfl⟩ := List.mem_map.1 hx
    have := h2 y hy
    omega)
  rw [sum_sizes] at es
  refine (bind_s ew).trans ((bind_s (impl_SomeWinner.eq hk hr s l)).trans ((runs_winners (BIG_lt hk (by omega)) hw (someWinner_ok r s l) _ _).trans ((bind_s eg).trans ((bind_s (impl_EqualGames.eq hk h hg)).trans ((bind_s (impl_EqualGames.eq hk g hh)).trans ?_)))))
  refine (bif_t (by rw [eqGm_comm]; exact beq_self_eq_true _)).trans ((bind_s (impl_EqualGames.eq hk g hg)).trans ((bif_t (eqGm_refl g)).trans ((bind_s (bind_s (impl_sizes.eq hk h1))).trans ((bind_s es).trans ((bind_s (impl_TotalCards.eq hk hg.2.1)).trans ?_)))))
  exact congrArg some (beq_self_eq_true _)
theorem laws_FnRuns.eq {k : Nat} (hk : BIG ≤ k) {a : List Int} (_ja : a.length ≤ maxLen) (_ia : ∀ n ∈ a, wfI .u8 n) : laws_FnRuns.f k a = some true := by
  refine (bind_s rfl).trans ?_
  by_cases hb : (a.length : Int) > 1048576
  · exact bif_t (dec_t hb)
  · refine (bif_f (dec_f hb)).trans ?_
    have ha : a.length < 1048577 := by omega
    have rest := runsLast_ok hk ha
    obtain ⟨g, l, e, hs, _⟩ := spec_DrawPlayOut.ok hk ha
    have hs2 := playOut_sm l hs
    have ml := impl_MovesLeft.end hk hs2 (playOut_settled l g)
    have hg := impl_IsGame.eq hk hs
    refine (bind_s e).trans ((bind_s (impl_PlayOut.eq hk l hs)).trans ((bind_s hg).trans ?_))
    cases h1 : isGame g with
    | true =>
      rw [h1] at hg
      obtain ⟨p1, p2, p3⟩ := playOut_end l h1
      obtain ⟨_, _, _, _, _, p4, _⟩ := isGame_iff.1 p1
      rw [p3] at p4
      have p5 := (playN_mv l 401 g).1
      have p5 : g.mv ≤ (playOut g l).mv := p5
      refine (bif_t rfl).trans ((bind_s (impl_IsEnded.eq hk hs2)).trans ((bif_f (by rw [isEnded_over p1, p2]; rfl)).trans ((bif_f (dec_f (show ¬ (playOut g l).mv < g.mv by omega))).trans ((bif_f (dec_f (show ¬ (playOut g l).mv > g.r.l by omega))).trans ((bind_s hg).trans ((bif_f rfl).trans ?_))))))
      exact (bind_s ml).trans ((bif_f rfl).trans rest)
    | false =>
      rw [h1] at hg
      have ee : EqG (impl_EqualGames.f k) (playOut g l) g = some true := by
        rw [impl_EqualGames.eq hk g hs2, playOut_no l h1, eqGm_refl]
      exact (bif_f rfl).trans ((bind_s hg).trans ((bif_t rfl).trans ((bind_s ee).trans ((bif_f rfl).trans ((bind_s ml).trans ((bif_f rfl).trans rest))))))
end Go.Proofs.YtpdkglbbhfhlfaaGreat
