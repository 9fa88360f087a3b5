/- Players that choose by themselves, in plain Lean. Conditions: enough rounds, lists of at most 2^20. -/
import Derived.Test.YtfbafmeeejmgoaaGreatKit
import Derived.Test.YtfbafmeeejmgoaaGreatFFnRecords
import Derived.Test.YtfbafmeeejmgoaaGreatPTake
set_option linter.unusedVariables false
set_option linter.unusedSimpArgs false
namespace Go.Proofs.YtfbafmeeejmgoaaGreat
open Go Go.Proofs.YtfbafmeeejmgoaaGreat.V
theorem suit_dec (c : Int) : decide (suitOf c ≥ 0) = isCard c := by
  cases h : isCard c with
  | false => unfold suitOf; rw [h]; rfl
  | true =>
    have h0 := isCard_iff.1 h
    unfold suitOf
    rw [h, cond_true, Int.tdiv_eq_ediv_of_nonneg h0.1]
    exact dec_t (by omega)
theorem card_suit {c : Int} (h : isCard c = true) : 0 ≤ suitOf c ∧ suitOf c < 4 := by
  have h1 := suit_dec c
  rw [h, decide_eq_true_eq] at h1
  have := suitOf_le c
  omega
/-! ### How many of each suit -/
def scStep (b : List Int) (a : Int) : List Int := bif decide (suitOf a ≥ 0) then b.set (suitOf a).toNat (b.getD (suitOf a).toNat 0 + 1) else b
theorem suitCounts_def (l : List Int) : suitCounts l = l.foldl scStep [0, 0, 0, 0] := rfl
def scInv (i : Nat) (b : List Int) : Prop := b.length = 4 ∧ ∀ x ∈ b, 0 ≤ x ∧ x ≤ (i : Int)
theorem scInv_step {i : Nat} {b : List Int} (h : scInv i b) (a : Int) : scInv (i + 1) (scStep b a) := by
  unfold scStep
  cases hs : decide (suitOf a ≥ 0) with
  | false => exact ⟨h.1, fun x hx => by have := h.2 x hx; omega⟩
  | true =>
    have hs' := of_decide_eq_true hs
    have := suitOf_le a
    have hm := h.2 _ (getD_mem (l := b) (i := (suitOf a).toNat) 0 (by have := h.1; omega))
    refine ⟨by simpa using h.1, fun x hx => ?_⟩
    rcases List.mem_or_eq_of_mem_set hx with hx | rfl
    · have := h.2 x hx; omega
    · omega
theorem scInv_fold : ∀ (l : List Int) (i : Nat) (b : List Int), scInv i b → scInv (i + l.length) (l.foldl scStep b)
  | [], i, b, h => h
  | a :: l, i, b, h => by
    have := scInv_fold l (i + 1) _ (scInv_step h a)
    rw [List.length_cons, show i + (l.length + 1) = i + 1 + l.length by omega]
    exact this
theorem scInv_0 : scInv 0 [0, 0, 0, 0] := ⟨rfl, fun x hx => by
  simp only [List.mem_cons, List.not_mem_nil, or_false, or_self] at hx
  subst hx; simp⟩
theorem suitCounts_len (l : List Int) : (suitCounts l).length = 4 := (scInv_fold l 0 _ scInv_0).1
theorem spec_SuitCounts.eq {k : Nat} (hk : BIG ≤ k) {l : List Int} (hl : l.length < 1048577) : spec_SuitCounts.f k l = some (suitCounts l) := by
  have h := scan (B := List Int) l (fun m b i => spec_SuitCounts.l3 k l (fun x2 => some x2) m i b) (fun _ _ => true) scStep (fun x2 => some x2) (fun _ _ => none) scInv
    (fun m b i h hI => by
      refine (spec_SuitCounts.l3_succ ..).trans ((bif_t (dec_t (by omega))).trans ((chk_t (in_t h)).trans ?_))
      rw [Int.toNat_natCast, getD_lt _ h, wrap_up (by omega)]
      refine (bind_s (spec_SuitOf.eq ..)).trans ?_
      unfold scStep
      cases hs : decide (suitOf l[i] ≥ 0) with
      | false => rfl
      | true =>
        have hs' := of_decide_eq_true hs
        have := suitOf_le l[i]
        have := hI.1
        have hm := hI.2 _ (getD_mem (l := b) (i := (suitOf l[i]).toNat) 0 (by omega))
        refine (bif_t rfl).trans ((chk_t (and_t rfl (dec_t (by omega)))).trans ((chk_t (and_t rfl (dec_t (by omega)))).trans ?_))
        rw [wrap_i64 (by omega) (by omega)]
        rfl)
    (fun b i h hI _ => scInv_step hI _)
    (fun m b hI => (spec_SuitCounts.l3_succ ..).trans (bif_f (dec_f (by omega))))
    l.length 0 k [0, 0, 0, 0] (by omega) (BIG_lt hk hl) scInv_0
  refine h.trans ?_
  rw [List.drop_zero, run_fold]
  rfl
theorem impl_SuitCounts.eq {k : Nat} (hk : BIG ≤ k) {l : List Int} (hl : l.length < 1048577) : impl_SuitCounts.f k l = some (suitCounts l) := by
  have h := scan (B := List Int) l (fun m b i => impl_SuitCounts.l3 k l (l.length : Int) (fun x2 => some x2) m i b) (fun _ _ => true) scStep (fun x2 => some x2) (fun _ _ => none) scInv
    (fun m b i h hI => by
      refine (impl_SuitCounts.l3_succ ..).trans ((bif_t (dec_t (by omega))).trans ((chk_t (in_t h)).trans ?_))
      rw [Int.toNat_natCast, getD_lt _ h, wrap_up (by omega)]
      refine (bind_s (impl_IsCard.eq ..)).trans ?_
      unfold scStep
      rw [suit_dec]
      cases hs : isCard l[i] with
      | false => rfl
      | true =>
        have hs' := card_suit hs
        have := hI.1
        have hm := hI.2 _ (getD_mem (l := b) (i := (suitOf l[i]).toNat) 0 (by omega))
        refine (bif_t rfl).trans ((bind_s (impl_SuitOf.eq ..)).trans ((chk_t (and_t (dec_t hs'.1) (dec_t (by omega)))).trans ((chk_t (and_t (dec_t hs'.1) (dec_t (by omega)))).trans ?_)))
        rw [wrap_i64 (by omega) (by omega)]
        rfl)
    (fun b i h hI _ => scInv_step hI _)
    (fun m b hI => (impl_SuitCounts.l3_succ ..).trans (bif_f (dec_f (by omega))))
    l.length 0 k [0, 0, 0, 0] (by omega) (BIG_lt hk hl) scInv_0
  refine h.trans ?_
  rw [List.drop_zero, run_fold]
  rfl
/-! ### The index of the greatest number -/
def moStep (l : List Int) (b : Int × Nat) (a : Int) : Int × Nat := (bif decide (b.1 < 0) then (b.2 : Int) else bif decide (a > l.getD b.1.toNat 0) then (b.2 : Int) else b.1, b.2 + 1)
def mostOf (l : List Int) : Int := (l.foldl (moStep l) (-1, 0)).1
theorem spec_MostOf.eq {k : Nat} (hk : BIG ≤ k) {l : List Int} (hl : l.length < 1048577) : spec_MostOf.f k l = some (mostOf l) := by
  have h := scan (B := Int × Nat) l (fun m b i => spec_MostOf.l3 k l (fun x1 => some x1) m b.1 i) (fun _ _ => true) (moStep l) (fun b => some b.1) (fun _ _ => none) (fun i b => b.2 = i ∧ b.1 < (i : Int))
    (fun m b i h hI => by
      refine (spec_MostOf.l3_succ ..).trans ((bif_t (dec_t (by omega))).trans ?_)
      rw [wrap_up (by omega), Int.toNat_natCast, getD_lt _ h]
      unfold moStep
      rw [hI.1]
      cases hn : decide (b.1 < 0) with
      | true => rfl
      | false =>
        have := of_decide_eq_false hn
        refine (bif_f rfl).trans ((chk_t (in_t h)).trans ((chk_t (and_t (dec_t (by omega)) (dec_t (by omega)))).trans ?_))
        cases decide (l[i] > l.getD b.1.toNat 0) <;> rfl)
    (fun b i h hI _ => by
      unfold moStep
      refine ⟨by show b.2 + 1 = i + 1; omega, ?_⟩
      show (bif _ then _ else bif _ then _ else _) < _
      cases decide (b.1 < 0) with
      | true => simp only [cond_true]; omega
      | false => cases decide (l[i] > l.getD b.1.toNat 0) <;> simp only [cond_true, cond_false] <;> omega)
    (fun m b hI => (spec_MostOf.l3_succ ..).trans (bif_f (dec_f (by omega))))
    l.length 0 k (-1, 0) (by omega) (BIG_lt hk hl) (by simp)
  refine h.trans ?_
  rw [List.drop_zero, run_fold]
  rfl
theorem most_best (n : Int → Int) (p : List Int) : ∀ (rest pre : List Int) (j : Nat), p = pre ++ rest → j < pre.length →
    ∃ j' : Nat, (rest.map n).foldl (moStep (p.map n)) ((j : Int), pre.length) = ((j' : Int), p.length) ∧ j' < p.length ∧ p.getD j' 0 = bestBy n rest (p.getD j 0)
  | [], pre, j, hp, hj => by
    subst hp
    exact ⟨j, by simp, by simpa using hj, rfl⟩
  | c :: rest, pre, j, hp, hj => by
    have hl : p.length = pre.length + (rest.length + 1) := by rw [hp]; simp
    have e1 : (p.map n).getD ((j : Int).toNat) 0 = n (p.getD j 0) := by
      rw [Int.toNat_natCast, getD_lt _ (by rw [List.length_map]; omega), getD_lt _ (by omega), List.getElem_map]
    have ec : p.getD pre.length 0 = c := by
      rw [hp, getD_lt _ (by simp)]; simp
    have hstep : moStep (p.map n) ((j : Int), pre.length) (n c) = (((bif decide (n c > n (p.getD j 0)) then pre.length else j : Nat) : Int), (pre ++ [c]).length) := by
      unfold moStep
      rw [dec_f (p := ((j : Int)) < 0) (by omega), e1]
      cases decide (n c > n (p.getD j 0)) <;> simp
    obtain ⟨j', h1, h2, h3⟩ := most_best n p rest (pre ++ [c]) (bif decide (n c > n (p.getD j 0)) then pre.length else j) (by rw [hp]; simp) (by
      cases decide (n c > n (p.getD j 0)) <;> simp <;> omega)
    refine ⟨j', ?_, h2, ?_⟩
    · rw [List.map_cons, List.foldl_cons, hstep]
      exact h1
    · rw [h3]
      show _ = bestBy n rest (bif decide (n c > n (p.getD j 0)) then c else p.getD j 0)
      cases decide (n c > n (p.getD j 0)) with
      | true => simp only [cond_true]; rw [ec]
      | false => rfl
theorem mostOf_best (n : Int → Int) {p : List Int} (h : 0 < p.length) : 0 ≤ mostOf (p.map n) ∧ mostOf (p.map n) < (p.length : Int) ∧ p.getD (mostOf (p.map n)).toNat 0 = bestBy n p (p.getD 0 0) := by
  cases p with
  | nil => simp at h
  | cons c rest =>
    obtain ⟨j', h1, h2, h3⟩ := most_best n (c :: rest) rest [c] 0 rfl (by simp)
    have e : mostOf ((c :: rest).map n) = (j' : Int) := by
      unfold mostOf
      rw [List.map_cons, List.foldl_cons]
      have hs : moStep (n c :: rest.map n) (-1, 0) (n c) = (((0 : Nat) : Int), [c].length) := rfl
      rw [hs]
      exact congrArg Prod.fst h1
    rw [e, Int.toNat_natCast]
    refine ⟨by omega, by omega, ?_⟩
    rw [h3]
    show _ = bestBy n rest (bif decide (n c > n c) then c else c)
    rw [dec_f (p := n c > n c) (by omega)]
    rfl
/-! ### What a kind of player chooses -/
abbrev cntOf (g : Gm) (c : Int) : Int := (suitCounts g.hand).getD (suitOf c).toNat 0
theorem spec_ChoiceOf.eq {k : Nat} (hk : BIG ≤ k) {g : Gm} (h : g.sm) (kd : Int) : g.ap (spec_ChoiceOf.f k) kd = some (choice g kd) := by
  have hpl := playable_len g
  refine (bind_s (spec_Playable.eq hk h)).trans ?_
  unfold choice
  cases h0 : (((playable g).length : Int) == 0) with
  | true => rfl
  | false =>
    have hne : ¬ ((playable g).length : Int) = 0 := by simpa using h0
    have hm := (playable_mem (hasCard_iff.2 (getD_mem (l := playable g) (i := 0) 0 (by omega)))).1
    have ht := game_turn hm
    refine (bif_f rfl).trans ?_
    cases kd == 0 with
    | true => exact (bif_t rfl).trans (chk_t (dec_t (by omega)))
    | false =>
      refine (bif_f rfl).trans ?_
      rw [wrap_pred (by omega) (by omega)]
      cases kd == 1 with
      | true => exact (bif_t rfl).trans (chk_t (and_t (dec_t (by omega)) (dec_t (by omega))))
      | false =>
        refine (bif_f rfl).trans ?_
        cases kd == 2 with
        | false => rfl
        | true =>
          refine (bif_t rfl).trans ((chk_t (and_t (dec_t ht.1) (dec_t ht.2))).trans ((bind_s (spec_SuitCounts.eq hk (hand_sm h))).trans ?_))
          have h4 := suitCounts_len g.hand
          have h := scan (B := List Int) (playable g) (fun m b i => spec_ChoiceOf.l13 k (playable g) (suitCounts g.hand) (fun x4 => (spec_MostOf.f k x4).bind fun r5 => chk ((decide ((0 : Int) ≤ r5)) && (decide (r5 < ((playable g).length : Int)))) <| some ((playable g).getD r5.toNat 0)) m i b) (fun _ _ => true) (fun b a => b ++ [cntOf g a]) (fun x4 => (spec_MostOf.f k x4).bind fun r5 => chk ((decide ((0 : Int) ≤ r5)) && (decide (r5 < ((playable g).length : Int)))) <| some ((playable g).getD r5.toNat 0)) (fun _ _ => none) (fun i b => b.length = i)
            (fun m b i h hI => by
              have hs := card_suit (playable_card (List.getElem_mem h))
              refine (spec_ChoiceOf.l13_succ ..).trans ((bif_t (dec_t (by omega))).trans ((chk_t (in_t h)).trans ?_))
              rw [Int.toNat_natCast, getD_lt _ h, wrap_up (by omega)]
              exact (bind_s (spec_SuitOf.eq ..)).trans ((chk_t (and_t (dec_t hs.1) (dec_t (by omega)))).trans (chk_t (rm8 (by omega)))))
            (fun b i h hI _ => by simp; omega)
            (fun m b hI => (spec_ChoiceOf.l13_succ ..).trans (bif_f (dec_f (by omega))))
            (playable g).length 0 k [] (by omega) (BIG_lt hk (by omega)) rfl
          refine h.trans ?_
          rw [List.drop_zero, run_fold, foldl_snoc (cntOf g), List.nil_append]
          obtain ⟨m1, m2, m3⟩ := mostOf_best (cntOf g) (p := playable g) (by omega)
          refine (bind_s (spec_MostOf.eq hk (by rw [List.length_map]; omega))).trans ((chk_t (and_t (dec_t m1) (dec_t m2))).trans ?_)
          rw [m3]
          rfl
theorem impl_ChoiceOf.eq {k : Nat} (hk : BIG ≤ k) {g : Gm} (h : g.sm) (kd : Int) : g.ap (impl_ChoiceOf.f k) kd = some (choice g kd) := by
  have hpl := playable_len g
  refine (bind_s (impl_Playable.eq hk h)).trans ?_
  unfold choice
  cases h0 : (((playable g).length : Int) == 0) with
  | true => rfl
  | false =>
    have hne : ¬ ((playable g).length : Int) = 0 := by simpa using h0
    have hm0 := getD_mem (l := playable g) (i := 0) 0 (by omega)
    have hm := (playable_mem (hasCard_iff.2 hm0)).1
    have ht := game_turn hm
    refine (bif_f rfl).trans ?_
    cases kd == 0 with
    | true => exact (bif_t rfl).trans (chk_t (dec_t (by omega)))
    | false =>
      refine (bif_f rfl).trans ?_
      rw [wrap_pred (by omega) (by omega)]
      cases kd == 1 with
      | true => exact (bif_t rfl).trans (chk_t (and_t (dec_t (by omega)) (dec_t (by omega))))
      | false =>
        refine (bif_f rfl).trans ?_
        cases kd == 2 with
        | false => rfl
        | true =>
          refine (bif_t rfl).trans ((chk_t (and_t (dec_t ht.1) (dec_t ht.2))).trans ((bind_s (impl_SuitCounts.eq hk (hand_sm h))).trans ((chk_t (dec_t (by omega))).trans ?_)))
          have h4 := suitCounts_len g.hand
          have h := scan (B := Int) (playable g) (fun m b i => impl_ChoiceOf.l12 k ((playable g).length : Int) (suitCounts g.hand) (playable g) (fun x5 => some x5) m b i) (fun _ _ => true) (fun b a => bif decide (cntOf g a > cntOf g b) then a else b) (fun x5 => some x5) (fun _ _ => none) (fun i b => isCard b = true)
            (fun m b i h hI => by
              have hs := card_suit (playable_card (List.getElem_mem h))
              have hs2 := card_suit hI
              refine (impl_ChoiceOf.l12_succ ..).trans ((bif_t (dec_t (by omega))).trans ((chk_t (in_t h)).trans ?_))
              rw [Int.toNat_natCast, getD_lt _ h, wrap_up (by omega)]
              refine (bind_s (impl_SuitOf.eq ..)).trans ((chk_t (and_t (dec_t hs.1) (dec_t (by omega)))).trans ((bind_s (impl_SuitOf.eq ..)).trans ((chk_t (and_t (dec_t hs2.1) (dec_t (by omega)))).trans ?_)))
              show (bif decide (cntOf g (playable g)[i] > cntOf g b) then _ else _) = _
              cases decide (cntOf g (playable g)[i] > cntOf g b) <;> rfl)
            (fun b i h hI _ => by
              cases decide (cntOf g (playable g)[i] > cntOf g b) with
              | true => exact playable_card (List.getElem_mem h)
              | false => exact hI)
            (fun m b hI => (impl_ChoiceOf.l12_succ ..).trans (bif_f (dec_f (by omega))))
            (playable g).length 0 k ((playable g).getD 0 0) (by omega) (BIG_lt hk (by omega)) (playable_card hm0)
          refine h.trans ?_
          rw [List.drop_zero, run_fold]
          have key : ∀ (l : List Int) (b : Int), l.foldl (fun b a => bif decide (cntOf g a > cntOf g b) then a else b) b = bestBy (cntOf g) l b := by
            intro l
            induction l with
            | nil => intro b; rfl
            | cons a l ih => intro b; rw [List.foldl_cons, ih]; rfl
          rw [key]
          rfl
theorem spec_AutoMove.eq {k : Nat} (hk : BIG ≤ k) {g : Gm} (h : g.sm) (kd : Int) : g.ap (spec_AutoMove.f k) kd = some ((autoMove g kd).1.tpb (autoMove g kd).2) := by
  refine (bind_s (spec_ChoiceOf.eq hk h kd)).trans ?_
  unfold autoMove replayMove
  rcases choice_or g kd with h1 | h1
  · rw [h1]
    exact (bif_t rfl).trans ((bind_s (spec_TakeCards.eq hk h)).trans rfl)
  · have h2 := isCard_iff.1 (playable_card h1)
    have e : (choice g kd == -1) = false := by
      have : ¬ choice g kd = -1 := by omega
      simpa using this
    rw [e]
    exact (bif_f (dec_f (by omega))).trans ((bind_s (spec_PlayOn.eq hk h _)).trans rfl)
theorem impl_AutoMove.eq {k : Nat} (hk : BIG ≤ k) {g : Gm} (h : g.sm) (kd : Int) : g.ap (impl_AutoMove.f k) kd = some ((autoMove g kd).1.tpb (autoMove g kd).2) := by
  refine (bind_s (impl_ChoiceOf.eq hk h kd)).trans ((bind_s (impl_ReplayMove.eq hk h _)).trans ?_)
  rfl
end Go.Proofs.YtfbafmeeejmgoaaGreat
