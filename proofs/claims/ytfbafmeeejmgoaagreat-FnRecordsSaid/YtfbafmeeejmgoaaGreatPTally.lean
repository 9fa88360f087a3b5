/- What records tell, in plain Lean. Conditions: enough rounds, lists of at most 2^20. -/
import Derived.Test.YtfbafmeeejmgoaaGreatKit
import Derived.Test.YtfbafmeeejmgoaaGreatFFnRecords
import Derived.Test.YtfbafmeeejmgoaaGreatPLawSum
import Derived.Test.YtfbafmeeejmgoaaGreatPDraw
import Derived.Test.YtfbafmeeejmgoaaGreatPRecordOut
import Derived.Test.YtfbafmeeejmgoaaGreatPReplay
set_option linter.unusedVariables false
set_option linter.unusedSimpArgs false
namespace Go.Proofs.YtfbafmeeejmgoaaGreat
open Go Go.Proofs.YtfbafmeeejmgoaaGreat.V
/-- A drawn game and a drawn record. -/
theorem spec_DrawReplayed.ok {k : Nat} (hk : BIG ≤ k) {a : List Int} (ha : a.length < 1048577) : ∃ (g : Gm) (r : List Int), spec_DrawReplayed.f k a = some (g.r.n, g.r.e, g.r.b1, g.r.b2, g.r.w, g.r.f, g.r.t, g.r.l, g.hs, g.st, g.hp, g.tn, g.mv, g.ps, r) ∧ isGame g = true ∧ g.sm ∧ g.mv = 0 ∧ r.length ≤ 401 := by
  obtain ⟨h0, e0, c0⟩ := spec_l1New.ok hk ha
  obtain ⟨g, i1, h1, e1, c1, hg, hs, hm⟩ := spec_l24Start.ok hk h0 c0
  obtain ⟨kinds, i2, h2, e2, c2, _⟩ := spec_l26Kinds.ok hk h1 c1
  have e3 := spec_RecordOut.eq hk kinds hs
  have hl := recordOut_len g kinds
  generalize recordOut g kinds = r at e3 hl
  have pre : ∀ X, (bif decide ((r.length : Int) > 0) then
      (spec_l1Once.f k a i2 h2 3).bind fun r5 =>
      bif r5.1 then
       (spec_l1Below.f k r5.2.1 (t2 r5).1 (t3 r5) (r.length : Int)).bind fun r6 =>
       (spec_l4Card.f k r6.2.1 (t2 r6).1 (t3 r6)).bind fun r7 =>
       chk ((decide (0 ≤ r6.1)) && (decide (r6.1 < (r.length : Int)))) <|
       some (g.r.n, g.r.e, g.r.b1, g.r.b2, g.r.w, g.r.f, g.r.t, g.r.l, g.hs, g.st, g.hp, g.tn, g.mv, g.ps, r.set r6.1.toNat r7.1)
      else
       some (g.r.n, g.r.e, g.r.b1, g.r.b2, g.r.w, g.r.f, g.r.t, g.r.l, g.hs, g.st, g.hp, g.tn, g.mv, g.ps, r)
     else
      some (g.r.n, g.r.e, g.r.b1, g.r.b2, g.r.w, g.r.f, g.r.t, g.r.l, g.hs, g.st, g.hp, g.tn, g.mv, g.ps, r)) = X → spec_DrawReplayed.f k a = X := fun X hX =>
    (bind_s e0).trans ((bind_s e1).trans ((bind_s e2).trans ((bind_s e3).trans hX)))
  by_cases h0 : (r.length : Int) > 0
  · obtain ⟨t, i5, h5, e5, c5⟩ := spec_l1Once.ok k h2 3 c2
    cases t with
    | false => exact ⟨g, r, pre _ ((bif_t (dec_t h0)).trans ((bind_s e5).trans (bif_f rfl))), hg, hs, hm, hl⟩
    | true =>
      obtain ⟨x, i6, h6, e6, c6, p1, p2, _⟩ := spec_l1Below.ok k h5 (r.length : Int) c5
      have p2 := p2 (by omega)
      obtain ⟨y, i7, h7, e7, c7⟩ := spec_l4Card.ok k h6 c6
      exact ⟨g, r.set x.toNat y, pre _ ((bif_t (dec_t h0)).trans ((bind_s e5).trans ((bif_t rfl).trans ((bind_s e6).trans ((bind_s e7).trans (chk_t (and_t (dec_t p1) (dec_t p2)))))))), hg, hs, hm, by rw [List.length_set]; exact hl⟩
  · exact ⟨g, r, pre _ (bif_f (dec_f h0)), hg, hs, hm, hl⟩
/-! ### Counts -/
def cntB (p : Int → Bool) (l : List Int) : Nat := (l.filter p).length
theorem cntB_cons (p : Int → Bool) (a : Int) (l : List Int) : cntB p (a :: l) = (p a).toNat + cntB p l := by
  unfold cntB
  rw [List.filter_cons]
  cases p a
  · simp
  · simp; omega
theorem cntB_le {p q : Int → Bool} (h : ∀ x, p x = true → q x = true) : ∀ l : List Int, cntB p l ≤ cntB q l
  | [] => Nat.le_refl _
  | a :: l => by
    have := cntB_le h l
    rw [cntB_cons, cntB_cons]
    cases hp : p a with
    | false => simp; omega
    | true => rw [h a hp]; omega
theorem cntB_two {p q : Int → Bool} (h : ∀ x, p x = true → q x = false) : ∀ l : List Int, cntB p l + cntB q l ≤ l.length
  | [] => Nat.le_refl _
  | a :: l => by
    have := cntB_two h l
    rw [cntB_cons, cntB_cons, List.length_cons]
    cases hp : p a with
    | false => cases q a <;> simp <;> omega
    | true => rw [h a hp]; simp; omega
theorem cntB_len (p : Int → Bool) (l : List Int) : cntB p l ≤ l.length := List.length_filter_le _ _
theorem matchB_card {l : List Int} {c : Int} (h : matchB l c = true) : isCard c = true := by
  unfold matchB at h
  cases hp : isPattern l with
  | false => rw [hp] at h; cases h
  | true =>
    rw [hp] at h
    cases hc : isCard c with
    | true => rfl
    | false => rw [hc] at h; cases h
theorem doesSkip_card {r : Rl} {c : Int} (h : doesSkip r c = true) : isCard c = true := by
  unfold doesSkip at h
  have h := (Bool.and_eq_true_iff.1 h).2
  exact matchB_card h
theorem sum_set : ∀ (l : List Int) (j : Nat) (x : Int) (h : j < l.length), (l.set j x).sum = l.sum - l[j] + x
  | a :: l, 0, x, h => by simp; omega
  | a :: l, j + 1, x, h => by
    have := sum_set l j x (by simpa using h)
    simp only [List.set_cons_succ, List.sum_cons, List.getElem_cons_succ]
    omega
end Go.Proofs.YtfbafmeeejmgoaaGreat
