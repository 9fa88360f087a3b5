/- Audits, in plain Lean: the law answers true. Conditions: enough rounds. -/
import Derived.Test.YtpdkglbbhfhlfaaGreatKit
import Derived.Test.YtpdkglbbhfhlfaaGreatFFnAudited
import Derived.Test.YtpdkglbbhfhlfaaGreatPDrawEvents
import Derived.Test.YtpdkglbbhfhlfaaGreatPFaultOf
import Derived.Test.YtpdkglbbhfhlfaaGreatPIsFairDeck
import Derived.Test.YtpdkglbbhfhlfaaGreatPStepSeal
import Derived.Test.YtpdkglbbhfhlfaaGreatPStepDeal
set_option linter.unusedVariables false
set_option linter.unusedSimpArgs false
namespace Go.Proofs.YtpdkglbbhfhlfaaGreat
open Go Go.Proofs.YtpdkglbbhfhlfaaGreat.V
theorem stepSeal_keep (t : Tb) (s : Int) : (stepSeal t s).1.r = t.r ∧ (stepSeal t s).1.on = t.on := by
  unfold stepSeal done
  cases (!t.on && isTable t && isTable { t with seals := t.seals ++ [s] }) <;> exact ⟨rfl, rfl⟩
abbrev Tb.tpd (t : Tb) (ss bs : List Int) : Int × Int × Bool × Bool × List Int × List Int × Int × Int × List Int × Bool × List Int × Int × Int × Bool × Bool × List Int × List Int × Int × Int × List (List Int) × List Int × List Int × Int × Int × Int × List Int × List (List Int) × List Int × List Int := (t.r.n, t.r.e, t.r.b1, t.r.b2, t.r.w, t.r.f, t.r.t, t.r.l, t.seals, t.on, t.deck, t.g.r.n, t.g.r.e, t.g.r.b1, t.g.r.b2, t.g.r.w, t.g.r.f, t.g.r.t, t.g.r.l, t.g.hs, t.g.st, t.g.hp, t.g.tn, t.g.mv, t.g.ps, t.rd, t.sheet, ss, bs)
theorem spec_DrawStepDeal.loop {R : Type} {k : Nat} (hk : BIG ≤ k) (e0 : Int → Int → Bool → Bool → Int → Int → Bool → Int → Int → Bool → Bool → Int → Int → Int → Int → Int → List Int → List Int → List Int → List Int → List Int → List Int → List (List Int) → List Int → List Int → List Int → List (List Int) → List Int → List Int → Option R) : ∀ (m j n : Nat) (t : Tb) (ss bs : List Int), t.sm → t.on = false → m < n → (j : Int) + (m : Int) = t.r.n → t.r.n ≤ 6 → ss.length = j → bs.length = j →
    ∃ (u : Tb) (ss' bs' : List Int), t.pm (spec_DrawStepDeal.l6 k e0 n (j : Int)) ss bs = u.pm e0 ss' bs' ∧ u.sm ∧ u.on = false ∧ (ss'.length : Int) = t.r.n
  | m, j, 0, t, ss, bs, _, _, hn, _, _, _, _ => absurd hn (by omega)
  | 0, j, n + 1, t, ss, bs, ht, ho, hn, hm, h6, hs, hb => ⟨t, ss, bs, (spec_DrawStepDeal.l6_succ ..).trans (bif_f (dec_f (by omega))), ht, ho, by omega⟩
  | m + 1, j, n + 1, t, ss, bs, ht, ho, hn, hm, h6, hs, hb => by
    have e1 := spec_SeedSeal.eq hk (j : Int) (IntKind.wrap .i64 (7 * (j : Int))) 5
    generalize hashF [(j : Int), IntKind.wrap .i64 (7 * (j : Int)), 5] = s at e1
    have e2 := spec_StepSeal.eq hk ht s
    have hsm := stepSeal_sm ht s
    obtain ⟨k1, k2⟩ := stepSeal_keep t s
    generalize stepSeal t s = q at e2 hsm k1 k2
    obtain ⟨u, ss', bs', e, h1, h2, h3⟩ := spec_DrawStepDeal.loop hk e0 m (j + 1) n q.1 (ss ++ [IntKind.wrap .i64 (7 * (j : Int))]) (bs ++ [5]) hsm (k2.trans ho) (by omega) (by rw [k1]; omega) (by rw [k1]; omega) (by simp; omega) (by simp; omega)
    rw [k1] at h3
    refine ⟨u, ss', bs', ?_, h1, h2, h3⟩
    rw [← wrap_up (by omega)] at e
    exact (spec_DrawStepDeal.l6_succ ..).trans ((bif_t (dec_t (by omega))).trans ((bind_s e1).trans ((bind_s e2).trans ((chk_t (rm8 (by omega))).trans ((chk_t (rm8 (by omega))).trans e)))))
theorem spec_DrawStepDeal.ok {k : Nat} (hk : BIG ≤ k) {a : List Int} (ha : a.length < 1048577) : ∃ (t : Tb) (ss bs : List Int), spec_DrawStepDeal.f k a = some (t.tpd ss bs) ∧ t.sm ∧ t.on = false := by
  obtain ⟨h0, e0, c0⟩ := spec_l1New.ok hk ha
  obtain ⟨r, i1, h1, e1, c1, ro, lw, lf⟩ := spec_l22Draw.ok hk h0 c0
  have rs : r.sm := ⟨by omega, by omega⟩
  have hn := (rl_ok ro).1
  have enew := spec_NewTable.made hk rs ro
  obtain ⟨o, i2, h2, e2, c2⟩ := spec_l1Once.ok k h1 3 c1
  have lp := fun e0 => spec_DrawStepDeal.loop (R := Int × Int × Bool × Bool × List Int × List Int × Int × Int × List Int × Bool × List Int × Int × Int × Bool × Bool × List Int × List Int × Int × Int × List (List Int) × List Int × List Int × Int × Int × Int × List Int × List (List Int) × List Int × List Int) hk e0 r.n.toNat 0 k (newTb r) [] [] (newTb_sm rs) rfl (by simp [BIG] at hk; omega) (by show ((0 : Nat) : Int) + _ = r.n; omega) (by show r.n ≤ 6; omega) rfl rfl
  obtain ⟨t, ss, bs, e, ts, to, hl⟩ := lp _
  have hl : (ss.length : Int) = r.n := hl
  have pre : ∀ X, _ = X → spec_DrawStepDeal.f k a = X := fun X hX => (bind_s e0).trans ((bind_s e1).trans ((bind_s enew).trans (e.trans ((bind_s e2).trans hX))))
  cases o with
  | true =>
    obtain ⟨x, i3, h3, e3, c3, _⟩ := spec_l1Int.ok k h2 (l := [1, (-1), 1000001]) (by simp) c2
    exact ⟨t, ss.set 0 x, bs, pre _ ((bif_t rfl).trans ((bind_s e3).trans (chk_t (dec_t (show (0 : Int) < (ss.length : Int) by omega))))), ts, to⟩
  | false => exact ⟨t, ss, bs, pre _ (bif_f rfl), ts, to⟩
theorem stepDeal_fair {t : Tb} (ho : t.on = false) (ss bs : List Int) : (stepDeal t ss bs).1.on = false ∨ isFairDeck (stepDeal t ss bs).1 ss bs = true := by
  unfold stepDeal done
  cases hc : (isSealed t && (jointDeck t.seals ss bs).2 && (newGame t.r (jointDeck t.seals ss bs).1).2 && isTable t && isTable (dealtT t ss bs [])) with
  | false => exact .inl ho
  | true =>
    right
    simp only [Bool.and_eq_true] at hc
    have h2 := hc.1.1.1.2
    show ((jointDeck t.seals ss bs).2 && (true && eqI (jointDeck t.seals ss bs).1 (jointDeck t.seals ss bs).1)) = true
    rw [h2]
    simp [eqI]
theorem spec_DrawIsFairDeck.ok {k : Nat} (hk : BIG ≤ k) {a : List Int} (ha : a.length < 1048577) : ∃ (t : Tb) (ss bs : List Int), spec_DrawIsFairDeck.f k a = some (t.tpd ss bs) ∧ t.sm ∧ (t.on = false ∨ isFairDeck t ss bs = true) := by
  obtain ⟨t, ss, bs, e, ts, to⟩ := spec_DrawStepDeal.ok hk ha
  have e2 := spec_StepDeal.eq hk ts ss bs
  have h2 := stepDeal_sm ts ss bs
  have h3 := stepDeal_fair to ss bs
  generalize stepDeal t ss bs = q at e2 h2 h3
  exact ⟨q.1, ss, bs, (bind_s e).trans (bind_s e2), h2, h3⟩
theorem table_good {t : Tb} (h : isTable t = true) : nothingLost t = true ∧ ((t.rd.length : Int) == t.g.mv) = true ∧ isSheet t.r.n t.sheet = true := by
  obtain ⟨h1, h2⟩ := table_game h
  refine ⟨?_, ?_, (isTable_ok h).2.2.1⟩
  · unfold nothingLost
    cases ho : t.on with
    | false => rfl
    | true => exact (isGame_iff.1 (h1 ho).1).2.2.1
  · cases ho : t.on with
    | false => rw [(h2 ho).1, (h2 ho).2]; rfl
    | true => rw [(h1 ho).2]; simp
/-- What the law asks last. -/
def auditLast (k : Nat) (a : List Int) : Option Bool :=
         (spec_DrawIsFairDeck.f k a).bind fun r10 =>
         bif (!(t9 r10).1) then
          some true
         else
          (impl_IsFairDeck.f k r10.1 r10.2.1 (t2 r10).1 (t3 r10).1 (t4 r10).1 (t5 r10).1 (t6 r10).1 (t7 r10).1 (t8 r10).1 (t9 r10).1 (t9 r10.2).1 (t9 (t2 r10)).1 (t9 (t3 r10)).1 (t9 (t4 r10)).1 (t9 (t5 r10)).1 (t9 (t6 r10)).1 (t9 (t7 r10)).1 (t9 (t8 r10)).1 (t9 (t9 r10)).1 (t9 (t9 r10.2)).1 (t9 (t9 (t2 r10))).1 (t9 (t9 (t3 r10))).1 (t9 (t9 (t4 r10))).1 (t9 (t9 (t5 r10))).1 (t9 (t9 (t6 r10))).1 (t9 (t9 (t7 r10))).1 (t9 (t9 (t8 r10))).1 (t9 (t9 (t9 r10))).1 (t9 (t9 (t9 r10.2)))).bind fun r11 =>
          some r11
theorem auditLast_ok {k : Nat} (hk : BIG ≤ k) {a : List Int} (ha : a.length < 1048577) : auditLast k a = some true := by
  obtain ⟨t, ss, bs, e, ts, h⟩ := spec_DrawIsFairDeck.ok hk ha
  have e2 := impl_IsFairDeck.eq hk ts ss bs
  refine (bind_s e).trans ?_
  cases ho : t.on with
  | false => exact bif_t (by show (!t.on) = true; rw [ho]; rfl)
  | true =>
    rcases h with h | h
    · rw [ho] at h; cases h
    · rw [h] at e2
      exact (bif_f (by show (!t.on) = false; rw [ho]; rfl)).trans (bind_s e2)
theorem laws_FnAudited.eq {k : Nat} (hk : BIG ≤ k) {a : List Int} (_ja : a.length ≤ maxLen) (_ia : ∀ n ∈ a, wfI .u8 n) : laws_FnAudited.f k a = some true := by
  by_cases hb : (a.length : Int) > 1048576
  · exact (bind_s rfl).trans (bif_t (dec_t hb))
  · have ha : a.length < 1048577 := by omega
    have rest := auditLast_ok hk ha
    obtain ⟨t, e, ts⟩ := spec_DrawFaultOf.ok hk ha
    have ef := impl_FaultOf.eq hk ts
    have en := impl_NothingLost.eq hk ts
    have et := impl_IsTable.eq hk (Tb.sm_sm' ts)
    have es : t.ap (impl_IsZeroSum.f k) = some (isSheet t.r.n t.sheet) := bind_s (impl_IsSheet.eq hk t.r.n ts.2.2.2.2.2.1 ts.2.2.2.2.2.2)
    have er : t.ap (impl_IsRecorded.f k) = some ((t.rd.length : Int) == t.g.mv) := rfl
    have good := fun h => table_good (t := t) h
    have go : ∀ (S : ByteArray) (x : Bool), (S.toList == ByteArray.empty.toList) = x → faultOf t = S → (nothingLost t && ((t.rd.length : Int) == t.g.mv) && isSheet t.r.n t.sheet && isTable t) = x → (S.toList == (⟨#[99, 97, 114, 100, 115]⟩ : ByteArray).toList) = !nothingLost t → laws_FnAudited.f k a = some true := fun S x q1 q2 q3 q4 => by
      rw [q2] at ef
      refine (bind_s rfl).trans ((bif_f (dec_f hb)).trans ((bind_s e).trans ((bind_s ef).trans ((bind_s en).trans ?_))))
      have tail : ((t.ap (impl_NothingLost.f k)).bind fun r8 =>
          bif (!((S.toList == (⟨#[99, 97, 114, 100, 115]⟩ : ByteArray).toList) == (!r8))) then some false
          else (t.ap (impl_IsTable.f k)).bind fun r9 =>
           bif r9 then bif (!(S.toList == ByteArray.empty.toList)) then some false else auditLast k a
           else auditLast k a) = some true := by
        refine (bind_s en).trans ((bif_f (by rw [q4]; cases nothingLost t <;> rfl)).trans ((bind_s et).trans ?_))
        cases h4 : isTable t with
        | false => exact (bif_f rfl).trans rest
        | true =>
          obtain ⟨g1, g2, g3⟩ := good h4
          rw [g1, g2, g3, h4] at q3
          exact (bif_t rfl).trans ((bif_f (by rw [q1, ← q3]; rfl)).trans rest)
      cases h1 : nothingLost t with
      | false =>
        rw [h1] at q3
        exact (bif_f rfl).trans ((bif_f (by rw [q1, ← q3]; rfl)).trans tail)
      | true =>
        rw [h1] at q3
        refine (bif_t rfl).trans ((bind_s er).trans ?_)
        cases h2 : ((t.rd.length : Int) == t.g.mv) with
        | false =>
          rw [h2] at q3
          exact (bif_f rfl).trans ((bif_f (by rw [q1, ← q3]; rfl)).trans tail)
        | true =>
          rw [h2] at q3
          refine (bif_t rfl).trans ((bind_s es).trans ?_)
          cases h3 : isSheet t.r.n t.sheet with
          | false =>
            rw [h3] at q3
            exact (bif_f rfl).trans ((bif_f (by rw [q1, ← q3]; rfl)).trans tail)
          | true =>
            rw [h3] at q3
            refine (bif_t rfl).trans ((bind_s et).trans ((bif_f ?_).trans tail))
            rw [q1, ← q3]
            cases isTable t <;> rfl
    cases h1 : nothingLost t with
    | false => exact go ⟨#[99, 97, 114, 100, 115]⟩ false (by decide +kernel) (by unfold faultOf; rw [h1]; rfl) (by rw [h1]; rfl) (by rw [h1]; decide +kernel)
    | true =>
      cases h2 : ((t.rd.length : Int) == t.g.mv) with
      | false => exact go ⟨#[114, 101, 99, 111, 114, 100]⟩ false (by decide +kernel) (by unfold faultOf; rw [h1, h2]; rfl) (by rw [h1, h2]; rfl) (by rw [h1]; decide +kernel)
      | true =>
        cases h3 : isSheet t.r.n t.sheet with
        | false => exact go ⟨#[115, 104, 101, 101, 116]⟩ false (by decide +kernel) (by unfold faultOf; rw [h1, h2, h3]; rfl) (by rw [h1, h2, h3]; rfl) (by rw [h1]; decide +kernel)
        | true =>
          cases h4 : isTable t with
          | false => exact go ⟨#[116, 97, 98, 108, 101]⟩ false (by decide +kernel) (by unfold faultOf; rw [h1, h2, h3, h4]; rfl) (by rw [h1, h2, h3, h4]; rfl) (by rw [h1]; decide +kernel)
          | true => exact go ByteArray.empty true (by decide +kernel) (by unfold faultOf; rw [h1, h2, h3, h4]; rfl) (by rw [h1, h2, h3, h4]; rfl) (by rw [h1]; decide +kernel)
end Go.Proofs.YtpdkglbbhfhlfaaGreat
