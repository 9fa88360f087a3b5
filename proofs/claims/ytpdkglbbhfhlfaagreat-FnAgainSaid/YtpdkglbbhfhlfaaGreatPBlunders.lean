/- Cards taken without need, in plain Lean. Conditions: enough rounds, lists of at most 2^20. -/
import Derived.Test.YtpdkglbbhfhlfaaGreatKit
import Derived.Test.YtpdkglbbhfhlfaaGreatFFnAgain
import Derived.Test.YtpdkglbbhfhlfaaGreatPCouldHave
set_option linter.unusedVariables false
set_option linter.unusedSimpArgs false
namespace Go.Proofs.YtpdkglbbhfhlfaaGreat
open Go Go.Proofs.YtpdkglbbhfhlfaaGreat.V
def blunders (t : Tb) : Nat → List Int → List Int → List Int
  | _, [], b => b
  | i, m :: l, b => blunders t (i + 1) l (bif m == -1 && decide (((couldHave t (i : Int)).length : Int) > 0) then b ++ [(i : Int)] else b)
theorem blunders_len (t : Tb) : ∀ (l : List Int) (i : Nat) (b : List Int), (blunders t i l b).length ≤ b.length + l.length
  | [], i, b => Nat.le_refl _
  | m :: l, i, b => by
    unfold blunders
    refine Nat.le_trans (blunders_len t l (i + 1) _) ?_
    cases (m == -1 && decide (((couldHave t (i : Int)).length : Int) > 0)) <;> simp <;> omega
theorem impl_Blunders.loop {R : Type} {k : Nat} (hk : BIG ≤ k) {t : Tb} (h : t.sm) (e0 : List Int → Option R) : ∀ (m i n : Nat) (b : List Int), b.length ≤ i → i + m = t.rd.length → m < n → t.ap (fun v1 v2 v3 v4 v5 v6 v7 v8 v9 v10 v11 v12 v13 v14 v15 v16 v17 v18 v19 v20 v21 v22 v23 v24 v25 v26 v27 => impl_Blunders.l5 k t.rd (t.rd.length : Int) v1 v2 v3 v4 v5 v6 v7 v8 v9 v10 v11 v12 v13 v14 v15 v16 v17 v18 v19 v20 v21 v22 v23 v24 v25 v26 v27 e0 n (i : Int) b) = e0 (blunders t i (t.rd.drop i) b)
  | m, i, 0, b, _, _, h => absurd h (by omega)
  | 0, i, n + 1, b, hb, hi, _ => by
    rw [List.drop_eq_nil_of_le (by omega)]
    exact (bif_f (dec_f (by omega))).trans rfl
  | m + 1, i, n + 1, b, hb, hi, hn => by
    have hr : t.rd.length < 1048577 := h.2.2.2.2.1
    have hq : i < t.rd.length := by omega
    have et : t.rd.getD ((i : Int)).toNat 0 = t.rd[i] := by rw [Int.toNat_natCast, getD_lt 0 hq]
    rw [drop_cons hq]
    unfold blunders
    refine (bif_t (dec_t (by omega))).trans ((chk_t (in_t hq)).trans ?_)
    have ih := fun b hb => impl_Blunders.loop hk h e0 m (i + 1) n b hb (by omega) (by omega)
    rw [← wrap_up (by omega)] at ih
    rcases Bool.eq_false_or_eq_true (t.rd[i] == -1) with hm | hm
    · refine (bif_t (by rw [et]; exact hm)).trans ((bind_s (impl_CouldHave.eq hk (Tb.sm_sm' h) (i : Int))).trans ?_)
      rcases Bool.eq_false_or_eq_true (decide (((couldHave t (i : Int)).length : Int) > 0)) with hc | hc
      · rw [hm, hc]
        exact (bif_t rfl).trans ((chk_t (rm8 (show b.length + 1 ≤ _ by omega))).trans (ih (b ++ [(i : Int)]) (by rw [List.length_append, List.length_singleton]; omega)))
      · rw [hm, hc]
        exact (bif_f rfl).trans (ih b (by omega))
    · rw [hm]
      exact (bif_f (by rw [et]; exact hm)).trans (ih b (by omega))
def blundersOf (t : Tb) : List Int := bif isTable t && t.on then blunders t 0 t.rd [] else []
theorem blundersOf_len {t : Tb} (h : t.sm) : (blundersOf t).length < 1048577 := by
  unfold blundersOf
  have hr : t.rd.length < 1048577 := h.2.2.2.2.1
  cases (isTable t && t.on) with
  | false => simp
  | true => have := blunders_len t t.rd 0 []; simp only [cond_true]; simp only [List.length_nil] at this; omega
theorem impl_Blunders.eq {k : Nat} (hk : BIG ≤ k) {t : Tb} (h : t.sm) : t.ap (impl_Blunders.f k) = some (blundersOf t) := by
  have hr : t.rd.length < 1048577 := h.2.2.2.2.1
  unfold blundersOf
  refine (bind_s (impl_IsTable.eq hk (Tb.sm_sm' h))).trans ?_
  cases isTable t with
  | false => rfl
  | true =>
    refine (bif_f rfl).trans ?_
    rcases Bool.eq_false_or_eq_true t.on with ho | ho
    · have e : (bif true && t.on then blunders t 0 t.rd [] else []) = blunders t 0 t.rd [] := by rw [ho]; rfl
      rw [e]
      exact (bif_f (by rw [ho]; rfl)).trans (impl_Blunders.loop hk h _ t.rd.length 0 k [] (by simp) (by omega) (BIG_lt hk hr))
    · have e : (bif true && t.on then blunders t 0 t.rd [] else []) = [] := by rw [ho]; rfl
      rw [e]
      exact (bif_t (by rw [ho]; rfl)).trans rfl
end Go.Proofs.YtpdkglbbhfhlfaaGreat
