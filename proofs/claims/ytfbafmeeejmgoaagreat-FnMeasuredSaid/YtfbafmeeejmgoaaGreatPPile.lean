/- Bases and piles of a patience, in plain Lean. Conditions: enough rounds, lists of at most 2^20. -/
import Derived.Test.YtfbafmeeejmgoaaGreatKit
import Derived.Test.YtfbafmeeejmgoaaGreatFFnMeasured
import Derived.Test.YtfbafmeeejmgoaaGreatPHand
import Derived.Test.YtfbafmeeejmgoaaGreatPPerm
import Derived.Test.YtfbafmeeejmgoaaGreatPSheet
set_option linter.unusedVariables false
set_option linter.unusedSimpArgs false
namespace Go.Proofs.YtfbafmeeejmgoaaGreat
open Go Go.Proofs.YtfbafmeeejmgoaaGreat.V
def isBase (b : List Int) : Bool := ((b.length : Int) == 4) && b.all fun x => inR x 0 13
theorem spec_IsBase.eq {k : Nat} (hk : BIG ≤ k) {b : List Int} (hl : b.length < 1048577) : spec_IsBase.f k b = some (isBase b) := by
  have h := scan (B := Unit) b (fun m _ i => spec_IsBase.l2 k b (some false) (some ((b.length : Int) == 4)) m i) (fun _ a => inR a 0 13) (fun x _ => x) (fun _ => some ((b.length : Int) == 4)) (fun _ _ => some false) (fun i _ => True)
    (fun m x i h hI => by
      refine (spec_IsBase.l2_succ ..).trans ((bif_t (dec_t (by omega))).trans ((chk_t (in_t h)).trans ((bind_s (spec_l1In.eq ..)).trans ?_)))
      rw [Int.toNat_natCast, getD_lt _ h, wrap_up (by omega)]
      cases inR b[i] 0 13 <;> rfl)
    (fun x i h hI hp => trivial)
    (fun m x hI => (spec_IsBase.l2_succ ..).trans (bif_f (dec_f (by omega))))
    b.length 0 k () (by omega) (BIG_lt hk hl) trivial
  refine h.trans ?_
  rw [List.drop_zero, run_all]
  unfold isBase
  cases (b.all fun x => inR x 0 13) <;> simp
theorem impl_IsBase.eq {k : Nat} (hk : BIG ≤ k) {b : List Int} (hl : b.length < 1048577) : impl_IsBase.f k b = some (isBase b) := by
  unfold isBase
  show (bif ((b.length : Int) == 4) then _ else _) = _
  cases ((b.length : Int) == 4) with
  | false => rfl
  | true => exact (bif_t rfl).trans (bind_s (impl_allIn.eq hk 0 13 hl))
theorem isBase_len {b : List Int} (h : isBase b = true) : b.length = 4 := by
  unfold isBase at h
  simp only [Bool.and_eq_true, beq_iff_eq] at h
  omega
def stepOf (c : Int) : Int := bif isCard c then bif rankOf c == 12 then 1 else rankOf c + 2 else 0
theorem rankOf_card {c : Int} (h : isCard c = true) : 0 ≤ rankOf c ∧ rankOf c ≤ 12 := by
  have h0 := isCard_iff.1 h
  have h1 : rankOf c = c.tmod 13 := by unfold rankOf; rw [h]; rfl
  have h2 := (rankOf_le c).2
  rw [Int.tmod_eq_emod_of_nonneg h0.1] at h1
  omega
theorem rankOf_none {c : Int} (h : isCard c = false) : rankOf c = -1 := by unfold rankOf; rw [h]; rfl
theorem spec_StepOf.eq (k : Nat) (c : Int) : spec_StepOf.f k c = some (stepOf c) := by
  unfold stepOf
  refine (bind_s (spec_IsCard.eq ..)).trans ?_
  cases h : isCard c with
  | false => rfl
  | true =>
    have hr := rankOf_card h
    refine (bif_f rfl).trans ((bind_s (spec_RankOf.eq ..)).trans ?_)
    have e1 : IntKind.wrap .i64 (rankOf c + 1) = rankOf c + 1 := wrap_i64 (by omega) (by omega)
    rw [e1, Int.tmod_eq_emod_of_nonneg (by omega), wrap_i64 (by omega) (by omega)]
    by_cases h12 : rankOf c = 12
    · rw [h12]; rfl
    · have e : (rankOf c == 12) = false := by simpa using h12
      rw [e, cond_true, cond_false]
      congr 1
      omega
theorem impl_StepOf.eq (k : Nat) (c : Int) : impl_StepOf.f k c = some (stepOf c) := by
  unfold stepOf
  refine (bind_s (impl_RankOf.eq ..)).trans ?_
  cases h : isCard c with
  | false => rw [rankOf_none h]; rfl
  | true =>
    have hr := rankOf_card h
    have e : (rankOf c == -1) = false := by simpa using (show ¬ rankOf c = -1 by omega)
    refine (bif_f e).trans ?_
    cases (rankOf c == 12) with
    | true => rfl
    | false => rw [wrap_i64 (by omega) (by omega)]; rfl
def baseStep (b : List Int) (i : Nat) (acc : List Int) : List Int := bif decide (stepOf (i : Int) ≤ b.getD (suitOf (i : Int)).toNat 0) then acc ++ [(i : Int)] else acc
def baseCards (b : List Int) : List Int := bif isBase b then upN (baseStep b) 52 0 [] else []
theorem baseStep_len (b : List Int) (i : Nat) (acc : List Int) : (baseStep b i acc).length ≤ acc.length + 1 := by
  unfold baseStep
  cases decide (stepOf (i : Int) ≤ b.getD (suitOf (i : Int)).toNat 0) <;> simp
theorem upN_lenP {g : Nat → List Int → List Int} (h : ∀ i l, (g i l).length ≤ l.length + 1) : ∀ (m i : Nat) (l : List Int), (upN g m i l).length ≤ l.length + m
  | 0, i, l => Nat.le_refl _
  | m + 1, i, l => by
    have h1 := upN_lenP h m (i + 1) (g i l)
    have h2 := h i l
    show (upN g m (i + 1) (g i l)).length ≤ _
    omega
theorem baseCards_len (b : List Int) : (baseCards b).length ≤ 52 := by
  unfold baseCards
  cases isBase b with
  | false => simp
  | true => have := upN_lenP (baseStep_len b) 52 0 []; simpa using this
theorem card_suit4 {i : Nat} (h : i < 52) : 0 ≤ suitOf (i : Int) ∧ suitOf (i : Int) < 4 := by
  have hc : isCard (i : Int) = true := isCard_iff.2 (by omega)
  have h1 : suitOf (i : Int) = (i : Int).tdiv 13 := by unfold suitOf; rw [hc]; rfl
  rw [Int.tdiv_eq_ediv_of_nonneg (by omega)] at h1
  omega
theorem spec_BaseCards.eq {k : Nat} (hk : BIG ≤ k) {b : List Int} (hl : b.length < 1048577) : spec_BaseCards.f k b = some (baseCards b) := by
  unfold baseCards
  cases hb : isBase b with
  | false =>
    obtain ⟨k', rfl⟩ : ∃ k', k = k' + 1 := ⟨k - 1, by simp [BIG] at hk; omega⟩
    refine (spec_BaseCards.l3_succ ..).trans ((bif_t rfl).trans ((bind_s (spec_IsBase.eq hk hl)).trans ((bif_f hb).trans rfl)))
  | true =>
    have h4 := isBase_len hb
    have h := upto (B := List Int) 52 (fun m acc i => spec_BaseCards.l3 k b (fun x4 => some x4) m i acc) (baseStep b) (fun x4 => some x4) (fun i acc => acc.length ≤ i)
      (fun m acc i hi hI => by
        have hs := card_suit4 hi
        refine (spec_BaseCards.l3_succ ..).trans ((bif_t (dec_t (by omega))).trans ((bind_s (spec_IsBase.eq hk hl)).trans ((bif_t hb).trans ((bind_s (spec_StepOf.eq ..)).trans ((bind_s (spec_SuitOf.eq ..)).trans ((chk_t (and_t (dec_t hs.1) (dec_t (by omega)))).trans ?_))))))
        unfold baseStep
        rw [wrap_up (by omega)]
        cases decide (stepOf (i : Int) ≤ b.getD (suitOf (i : Int)).toNat 0) with
        | false => rfl
        | true => exact (bif_t rfl).trans ((chk_t (rm8 (by omega))).trans rfl))
      (fun acc i hi hI => by have := baseStep_len b i acc; omega)
      (fun m acc hI => (spec_BaseCards.l3_succ ..).trans (bif_f (dec_f (by omega))))
      52 0 k [] (by omega) (by simp [BIG] at hk; omega) (by simp)
    exact h
theorem impl_BaseCards.eq {k : Nat} (hk : BIG ≤ k) {b : List Int} (hl : b.length < 1048577) : impl_BaseCards.f k b = some (baseCards b) := by
  unfold baseCards
  refine (bind_s (impl_IsBase.eq hk hl)).trans ?_
  cases hb : isBase b with
  | false => rfl
  | true =>
    have h4 := isBase_len hb
    have h := upto (B := List Int) 52 (fun m acc i => impl_BaseCards.l5 k b (fun x4 => some x4) m i acc) (baseStep b) (fun x4 => some x4) (fun i acc => acc.length ≤ i)
      (fun m acc i hi hI => by
        have hs := card_suit4 hi
        refine (impl_BaseCards.l5_succ ..).trans ((bif_t (dec_t (by omega))).trans ((bind_s (impl_StepOf.eq ..)).trans ((bind_s (impl_SuitOf.eq ..)).trans ((chk_t (and_t (dec_t hs.1) (dec_t (by omega)))).trans ?_))))
        unfold baseStep
        rw [wrap_up (by omega)]
        cases decide (stepOf (i : Int) ≤ b.getD (suitOf (i : Int)).toNat 0) with
        | false => rfl
        | true => exact (bif_t rfl).trans ((chk_t (rm8 (by omega))).trans rfl))
      (fun acc i hi hI => by have := baseStep_len b i acc; omega)
      (fun m acc hI => (impl_BaseCards.l5_succ ..).trans (bif_f (dec_f (by omega))))
      52 0 k [] (by omega) (by simp [BIG] at hk; omega) (by simp)
    exact (bif_f rfl).trans h
/-- A card goes on another one in a pile: one rank lower, of the other colour. -/
def goesOn (a b : Int) : Bool := (rankOf a == rankOf b + 1) && !(isRed a == isRed b)
theorem spec_l16Step.eq (k : Nat) (a b : Int) : spec_l16Step.f k a b = some (goesOn a b) := by
  unfold goesOn
  have := rankOf_le b
  refine (bind_s (spec_RankOf.eq ..)).trans ((bind_s (spec_RankOf.eq ..)).trans ?_)
  rw [wrap_i64 (by omega) (by omega)]
  cases (rankOf a == rankOf b + 1) with
  | false => rfl
  | true => exact (bif_t rfl).trans ((bind_s (spec_IsRed.eq ..)).trans (bind_s (spec_IsRed.eq ..)))
theorem impl_goesOn.eq (k : Nat) (a b : Int) : impl_goesOn.f k a b = some (goesOn a b) := by
  unfold goesOn
  have := rankOf_le a
  refine (bind_s (impl_RankOf.eq ..)).trans ((bind_s (impl_RankOf.eq ..)).trans ?_)
  rw [wrap_i64 (by omega) (by omega)]
  have e : (rankOf b == rankOf a - 1) = (rankOf a == rankOf b + 1) := by
    rw [Bool.eq_iff_iff, beq_iff_eq, beq_iff_eq]; omega
  rw [e]
  cases (rankOf a == rankOf b + 1) with
  | false => rfl
  | true =>
    refine (bif_t rfl).trans ((bind_s (impl_IsRed.eq ..)).trans ((bind_s (impl_IsRed.eq ..)).trans ?_))
    cases isRed a <;> cases isRed b <;> rfl
def chainOK : List Int → Bool
  | a :: b :: l => goesOn a b && chainOK (b :: l)
  | _ => true
def isPile (l : List Int) (h : Int) : Bool := isHand l && inR h 0 (l.length : Int) && chainOK (l.drop h.toNat)
theorem chainOK_nil {l : List Int} (h : l.length ≤ 1) : chainOK l = true := by
  match l, h with
  | [], _ => rfl
  | [a], _ => rfl
  | a :: b :: l, h => simp at h
theorem spec_IsPile.loop {k : Nat} (l : List Int) (hl : l.length < 1048577) (e0 e1 : Option Bool) : ∀ (m i n : Nat), i + m = l.length → m < n → spec_IsPile.l4 k l e0 e1 n ((i + 1 : Nat) : Int) = bif chainOK (l.drop i) then e1 else e0
  | m, i, 0, _, h => absurd h (by omega)
  | 0, i, n + 1, hi, _ => by
    rw [List.drop_eq_nil_of_le (by omega)]
    exact (spec_IsPile.l4_succ ..).trans ((bif_f (dec_f (by omega))).trans rfl)
  | m + 1, i, n + 1, hi, hn => by
    have hq : i < l.length := by omega
    by_cases h2 : i + 1 < l.length
    · rw [drop_cons hq, drop_cons h2]
      have ih := spec_IsPile.loop (k := k) l hl e0 e1 m (i + 1) n (by omega) (by omega)
      rw [drop_cons h2] at ih
      have ew : IntKind.wrap .i64 (((i + 1 : Nat) : Int) - 1) = (i : Int) := by rw [wrap_i64 (by omega) (by omega)]; omega
      refine (spec_IsPile.l4_succ ..).trans ((bif_t (dec_t (by omega))).trans ?_)
      rw [ew]
      refine (chk_t (in_t hq)).trans ((chk_t (in_t h2)).trans ((bind_s (spec_l16Step.eq ..)).trans ?_))
      rw [Int.toNat_natCast, Int.toNat_natCast, getD_lt _ hq, getD_lt _ h2, wrap_up (by omega)]
      unfold chainOK
      cases goesOn l[i] l[i + 1] with
      | false => rfl
      | true => exact (bif_f rfl).trans ih
    · rw [chainOK_nil (by rw [List.length_drop]; omega)]
      exact (spec_IsPile.l4_succ ..).trans ((bif_f (dec_f (by omega))).trans rfl)
theorem impl_IsPile.loop {k : Nat} (l : List Int) (hl : l.length < 1048577) (e0 e1 : Option Bool) : ∀ (m i n : Nat), i + m = l.length → m < n → impl_IsPile.l4 k l e0 e1 n ((i + 1 : Nat) : Int) = bif chainOK (l.drop i) then e1 else e0
  | m, i, 0, _, h => absurd h (by omega)
  | 0, i, n + 1, hi, _ => by
    rw [List.drop_eq_nil_of_le (by omega)]
    exact (impl_IsPile.l4_succ ..).trans ((bif_f (dec_f (by omega))).trans rfl)
  | m + 1, i, n + 1, hi, hn => by
    have hq : i < l.length := by omega
    by_cases h2 : i + 1 < l.length
    · rw [drop_cons hq, drop_cons h2]
      have ih := impl_IsPile.loop (k := k) l hl e0 e1 m (i + 1) n (by omega) (by omega)
      rw [drop_cons h2] at ih
      have ew : IntKind.wrap .i64 (((i + 1 : Nat) : Int) - 1) = (i : Int) := by rw [wrap_i64 (by omega) (by omega)]; omega
      refine (impl_IsPile.l4_succ ..).trans ((bif_t (dec_t (by omega))).trans ?_)
      rw [ew]
      refine (chk_t (in_t hq)).trans ((chk_t (in_t h2)).trans ((bind_s (impl_goesOn.eq ..)).trans ?_))
      rw [Int.toNat_natCast, Int.toNat_natCast, getD_lt _ hq, getD_lt _ h2, wrap_up (by omega)]
      unfold chainOK
      cases goesOn l[i] l[i + 1] with
      | false => rfl
      | true => exact (bif_f rfl).trans ih
    · rw [chainOK_nil (by rw [List.length_drop]; omega)]
      exact (impl_IsPile.l4_succ ..).trans ((bif_f (dec_f (by omega))).trans rfl)
theorem spec_IsPile.eq {k : Nat} (hk : BIG ≤ k) {l : List Int} (h : Int) (hl : l.length < 1048577) : spec_IsPile.f k l h = some (isPile l h) := by
  unfold isPile
  refine (bind_s (spec_IsHand.eq hk (by omega))).trans ?_
  cases isHand l with
  | false => rfl
  | true =>
    refine (bif_f rfl).trans ((bind_s (spec_l1In.eq ..)).trans ?_)
    cases hr : inR h 0 (l.length : Int) with
    | false => rfl
    | true =>
      have hr := inR_iff.1 hr
      obtain ⟨i, rfl⟩ : ∃ i : Nat, h = (i : Int) := ⟨h.toNat, by omega⟩
      refine (bif_f rfl).trans ?_
      rw [wrap_up (by omega)]
      refine (spec_IsPile.loop l hl _ _ (l.length - i) i k (by omega) (by simp [BIG] at hk; omega)).trans ?_
      rw [Int.toNat_natCast]
      cases chainOK (l.drop i) <;> rfl
theorem impl_IsPile.eq {k : Nat} (hk : BIG ≤ k) {l : List Int} (h : Int) (hl : l.length < 1048577) : impl_IsPile.f k l h = some (isPile l h) := by
  unfold isPile
  refine (bind_s (impl_IsHand.eq hk (by omega))).trans ?_
  cases isHand l with
  | false => rfl
  | true =>
    refine (bif_f rfl).trans ((bind_s (impl_InRange.eq ..)).trans ?_)
    cases hr : inR h 0 (l.length : Int) with
    | false => rfl
    | true =>
      have hr := inR_iff.1 hr
      obtain ⟨i, rfl⟩ : ∃ i : Nat, h = (i : Int) := ⟨h.toNat, by omega⟩
      refine (bif_f rfl).trans ?_
      rw [wrap_up (by omega)]
      refine (impl_IsPile.loop l hl _ _ (l.length - i) i k (by omega) (by simp [BIG] at hk; omega)).trans ?_
      rw [Int.toNat_natCast]
      cases chainOK (l.drop i) <;> rfl
def openCards (l : List Int) (h : Int) : Int := bif isPile l h then (l.length : Int) - h else 0
theorem isPile_ok {l : List Int} {h : Int} (hp : isPile l h = true) : l.length ≤ 52 ∧ 0 ≤ h ∧ h ≤ (l.length : Int) := by
  unfold isPile at hp
  simp only [Bool.and_eq_true] at hp
  exact ⟨isHand_le hp.1.1, inR_iff.1 hp.1.2⟩
theorem openCards_bd (l : List Int) (h : Int) : 0 ≤ openCards l h ∧ openCards l h ≤ 52 := by
  unfold openCards
  cases hp : isPile l h with
  | false => simp
  | true => have := isPile_ok hp; simp only [cond_true]; omega
theorem spec_OpenCards.eq {k : Nat} (hk : BIG ≤ k) {l : List Int} (h : Int) (hl : l.length < 1048577) : spec_OpenCards.f k l h = some (openCards l h) := by
  unfold openCards
  refine (bind_s (spec_IsPile.eq hk h hl)).trans ?_
  cases hp : isPile l h with
  | false => rfl
  | true =>
    have := isPile_ok hp
    refine (bif_f rfl).trans ?_
    rw [wrap_i64 (by omega) (by omega)]; rfl
theorem impl_OpenCards.eq {k : Nat} (hk : BIG ≤ k) {l : List Int} (h : Int) (hl : l.length < 1048577) : impl_OpenCards.f k l h = some (openCards l h) := by
  unfold openCards
  refine (bind_s (impl_IsPile.eq hk h hl)).trans ?_
  cases hp : isPile l h with
  | false => rfl
  | true =>
    have := isPile_ok hp
    refine (bif_f rfl).trans ?_
    rw [wrap_i64 (by omega) (by omega)]; rfl
end Go.Proofs.YtfbafmeeejmgoaaGreat
