/- Choosing, in plain Lean: the law answers true. Conditions: enough rounds. -/
import Derived.Test.YtfmmdbnkeadieaaKit
import Derived.Test.YtfmmdbnkeadieaaFFnChoosing
import Derived.Test.YtfmmdbnkeadieaaPChoosing
set_option linter.unusedVariables false
set_option linter.unusedSimpArgs false
namespace Go.Proofs.Ytfmmdbnkeadieaa
open Go Go.Proofs.Ytfmmdbnkeadieaa.V
/-- What the law asks last. -/
def chosenLast (k : Nat) (a l s m : List Int) (b : Int) : Option Bool :=
  laws_FnChoosing.l13 k b m (some false) ((spec_DrawBestFor.f k a).bind fun r14 =>
         (impl_BestFor.f k r14.1 r14.2.1 (t2 r14).1 (t3 r14).1 (t4 r14).1 (t5 r14).1 (t6 r14).1 (t7 r14).1 (t8 r14).1 (t9 r14).1 (t9 r14.2).1 (t9 (t2 r14)).1 (t9 (t3 r14)).1 (t9 (t4 r14))).bind fun r15 =>
         (laws_sum.f k s).bind fun r16 =>
         bif decide (r16 ≤ (l.length : Int)) then
          (impl_IsHand.f k l).bind fun r17 =>
          bif (!r17) then
           (impl_IsGame.f k r14.1 r14.2.1 (t2 r14).1 (t3 r14).1 (t4 r14).1 (t5 r14).1 (t6 r14).1 (t7 r14).1 (t8 r14).1 (t9 r14).1 (t9 r14.2).1 (t9 (t2 r14)).1 (t9 (t3 r14)).1 (t9 (t4 r14))).bind fun r18 =>
           bif r18 then
            (impl_IsEnded.f k r14.1 r14.2.1 (t2 r14).1 (t3 r14).1 (t4 r14).1 (t5 r14).1 (t6 r14).1 (t7 r14).1 (t8 r14).1 (t9 r14).1 (t9 r14.2).1 (t9 (t2 r14)).1 (t9 (t3 r14)).1 (t9 (t4 r14))).bind fun r19 =>
            some ((decide (r15 ≥ 0)) == (!r19))
           else
            some ((decide (r15 ≥ 0)) == false)
          else
           (laws_sum.f k s).bind fun r20 =>
           bif (r20 == (l.length : Int)) then
            (impl_IsGame.f k r14.1 r14.2.1 (t2 r14).1 (t3 r14).1 (t4 r14).1 (t5 r14).1 (t6 r14).1 (t7 r14).1 (t8 r14).1 (t9 r14).1 (t9 r14.2).1 (t9 (t2 r14)).1 (t9 (t3 r14)).1 (t9 (t4 r14))).bind fun r21 =>
            bif r21 then
             (impl_IsEnded.f k r14.1 r14.2.1 (t2 r14).1 (t3 r14).1 (t4 r14).1 (t5 r14).1 (t6 r14).1 (t7 r14).1 (t8 r14).1 (t9 r14).1 (t9 r14.2).1 (t9 (t2 r14)).1 (t9 (t3 r14)).1 (t9 (t4 r14))).bind fun r22 =>
             some ((decide (r15 ≥ 0)) == (!r22))
            else
             some ((decide (r15 ≥ 0)) == false)
           else
            some false
         else
          some false) k 0
def chosenRest (k : Nat) (a : List Int) : Option Bool :=
  (spec_DrawSuitCounts.f k a).bind fun r10 =>
        (impl_SuitCounts.f k r10).bind fun r11 =>
        (spec_DrawMostOf.f k a).bind fun r12 =>
        (impl_MostOf.f k r12).bind fun r13 =>
        chosenLast k a r10 r11 r12 r13
theorem chosen_max {k : Nat} (hk : BIG ≤ k) {m : List Int} (hm : m.length ≤ 5) (e0 e1 : Option Bool) : laws_FnChoosing.l13 k (mostOf m) m e0 e1 k 0 = e1 := by
  have key : ∀ (j i n : Nat), i + j = m.length → j < n → laws_FnChoosing.l13 k (mostOf m) m e0 e1 n (i : Int) = e1 := by
    intro j
    induction j with
    | zero =>
      intro i n hi hn
      obtain ⟨n, rfl⟩ : ∃ n', n = n' + 1 := ⟨n - 1, by omega⟩
      exact (laws_FnChoosing.l13_succ ..).trans (bif_f (dec_f (by omega)))
    | succ j ih =>
      intro i n hi hn
      obtain ⟨n, rfl⟩ : ∃ n', n = n' + 1 := ⟨n - 1, by omega⟩
      have hil : i < m.length := by omega
      obtain ⟨h1, h2, h3⟩ := mostOf_max (l := m) (by omega)
      have h3 := h3 _ (List.getElem_mem hil)
      refine (laws_FnChoosing.l13_succ ..).trans ((bif_t (dec_t (by omega))).trans ((chk_t (in_t hil)).trans ((chk_t (and_t (dec_t h1) (dec_t h2))).trans ?_)))
      rw [Int.toNat_natCast, getD_lt _ hil, wrap_up (by omega)]
      exact (bif_f (dec_f (by omega))).trans (ih (i + 1) n (by omega) (by omega))
  exact key m.length 0 k (by omega) (by simp [BIG] at hk; omega)
theorem chosenRest_ok {k : Nat} (hk : BIG ≤ k) {a : List Int} (ha : a.length < 1048577) : chosenRest k a = some true := by
  obtain ⟨l, el, ll⟩ := spec_DrawSuitCounts.ok hk ha
  obtain ⟨m, em, lm⟩ := spec_DrawMostOf.ok hk ha
  obtain ⟨g, eg, hs⟩ := spec_DrawBestFor.ok hk ha
  obtain ⟨b, eb, hb⟩ := impl_BestFor.ok hk hs
  have hsum := suitCounts_sum l
  have hle := cntB_len isCard l
  have fin : ((impl_IsGame.f k g.r.n g.r.e g.r.b1 g.r.b2 g.r.w g.r.f g.r.t g.r.l g.hs g.st g.hp g.tn g.mv g.ps).bind fun r21 =>
            bif r21 then
             (impl_IsEnded.f k g.r.n g.r.e g.r.b1 g.r.b2 g.r.w g.r.f g.r.t g.r.l g.hs g.st g.hp g.tn g.mv g.ps).bind fun r22 =>
             some ((decide (b ≥ 0)) == (!r22))
            else
             some ((decide (b ≥ 0)) == false)) = some true := by
    refine (bind_s (impl_IsGame.eq hk hs)).trans ?_
    rw [hb]
    cases h1 : isGame g with
    | false => rfl
    | true =>
      refine (bif_t rfl).trans ((bind_s (impl_IsEnded.eq hk hs)).trans ?_)
      rw [isEnded_over h1]
      cases overG g <;> rfl
  have hel : ∀ x ∈ suitCounts l, -1099511627776 ≤ x ∧ x ≤ 1099511627776 := fun x hx => by
    have := (scInv_fold l 0 _ scInv_0).2 x hx
    omega
  have h4 := suitCounts_len l
  have es := laws_sum.eq hk (l := suitCounts l) (by omega) hel
  refine (bind_s el).trans ((bind_s (impl_SuitCounts.eq hk (by omega))).trans ((bind_s em).trans ((bind_s (impl_MostOf.eq hk (by omega))).trans ?_)))
  refine (chosen_max hk lm _ _).trans ((bind_s eg).trans ((bind_s eb).trans ((bind_s es).trans ((bif_t (dec_t (by omega))).trans ((bind_s (impl_IsHand.eq hk (by omega))).trans ?_)))))
  cases hh : isHand l with
  | false => exact (bif_t rfl).trans fin
  | true =>
    have := cntB_all (p := isCard) (isHand_iff.1 hh).1
    exact (bif_f rfl).trans ((bind_s es).trans ((bif_t (by rw [hsum, this]; simp)).trans fin))
theorem laws_FnChoosing.eq {k : Nat} (hk : BIG ≤ k) {a : List Int} (_ja : a.length ≤ maxLen) (_ia : ∀ n ∈ a, wfI .u8 n) : laws_FnChoosing.f k a = some true := by
  refine (bind_s rfl).trans ?_
  by_cases hb : (a.length : Int) > 1048576
  · exact bif_t (dec_t hb)
  · refine (bif_f (dec_f hb)).trans ?_
    have ha : a.length < 1048577 := by omega
    have rest := chosenRest_ok hk ha
    obtain ⟨g, kd, e, hs⟩ := spec_DrawAutoMove.ok hk ha
    have hs2 := autoMove_sm kd hs
    have after : (bif (autoMove g kd).2 then
       ((autoMove g kd).1.ap (impl_IsGame.f k)).bind fun r9 => bif (!r9) then some false else chosenRest k a
      else chosenRest k a) = some true := by
      cases hm : (autoMove g kd).2 with
      | false => exact rest
      | true =>
        have hg2 : isGame (autoMove g kd).1 = true := (replayMove_game hm).1
        exact (bif_t rfl).trans ((bind_s (impl_IsGame.eq hk hs2)).trans ((bif_f (by rw [hg2]; rfl)).trans rest))
    have mid : ((g.ap (impl_IsGame.f k)).bind fun r7 =>
     bif r7 then
      (g.ap (impl_IsEnded.f k)).bind fun r8 =>
      bif (!((autoMove g kd).2 == (!r8))) then some false
      else bif (autoMove g kd).2 then
       ((autoMove g kd).1.ap (impl_IsGame.f k)).bind fun r9 => bif (!r9) then some false else chosenRest k a
      else chosenRest k a
     else bif (!((autoMove g kd).2 == false)) then some false
      else bif (autoMove g kd).2 then
       ((autoMove g kd).1.ap (impl_IsGame.f k)).bind fun r9 => bif (!r9) then some false else chosenRest k a
      else chosenRest k a) = some true := by
      refine (bind_s (impl_IsGame.eq hk hs)).trans ?_
      cases h1 : isGame g with
      | true =>
        refine (bif_t rfl).trans ((bind_s (impl_IsEnded.eq hk hs)).trans ((bif_f ?_).trans after))
        rw [autoMove_iff, isEnded_over h1, h1]
        cases overG g <;> rfl
      | false =>
        refine (bif_f rfl).trans ((bif_f ?_).trans after)
        rw [autoMove_iff, h1]; rfl
    refine (bind_s e).trans ((bind_s (impl_ChoiceOf.eq hk hs kd)).trans ((bind_s (impl_AutoMove.eq hk hs kd)).trans ?_))
    by_cases hc : choice g kd ≥ 0
    · have hin : hasCard (playable g) (choice g kd) = true := by
        rcases choice_or g kd with h | h
        · omega
        · exact hasCard_iff.2 h
      have hl := playable_len g
      exact (bif_t (dec_t hc)).trans ((bind_s (impl_Playable.eq hk hs)).trans ((bind_s (laws_contains.eq hk _ (by omega))).trans ((bif_f (by rw [hin]; rfl)).trans mid)))
    · exact (bif_f (dec_f hc)).trans mid
end Go.Proofs.Ytfmmdbnkeadieaa
