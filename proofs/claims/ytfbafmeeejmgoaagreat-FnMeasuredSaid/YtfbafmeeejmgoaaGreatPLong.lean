/- Hands of any length: the loops end by the 53rd card. Conditions: enough rounds. -/
import Derived.Test.YtfbafmeeejmgoaaGreatKit
import Derived.Test.YtfbafmeeejmgoaaGreatFFnMeasured
import Derived.Test.YtfbafmeeejmgoaaGreatPGame
set_option linter.unusedVariables false
set_option linter.unusedSimpArgs false
namespace Go.Proofs.YtfbafmeeejmgoaaGreat
open Go Go.Proofs.YtfbafmeeejmgoaaGreat.V
/-- A loop that can't reach the Nth element. -/
theorem scan_dead {A B R : Type} (v : List A) (N : Nat) (hN : N ≤ v.length) (L : Nat → B → Int → Option R) (p : B → A → Bool) (g : B → A → B) (e : B → Option R) (z : B → A → Option R) (I : Nat → B → Prop)
    (step : ∀ n b i (h : i < v.length), i < N → I i b → L (n + 1) b (i : Int) = bif p b v[i] then L n (g b v[i]) ((i + 1 : Nat) : Int) else z b v[i])
    (keep : ∀ b i (h : i < v.length), i < N → I i b → p b v[i] = true → I (i + 1) (g b v[i]))
    (dead : ∀ b, ¬ I N b) : ∀ (m i n : Nat) (b : B), i + m = N → m < n → I i b → L n b (i : Int) = run p g e z (v.drop i) b := by
  intro m
  induction m with
  | zero =>
    intro i n b hi hn hI
    obtain rfl : i = N := by omega
    exact absurd hI (dead b)
  | succ m ih =>
    intro i n b hi hn hI
    obtain ⟨n, rfl⟩ : ∃ n', n = n' + 1 := ⟨n - 1, by omega⟩
    have hil : i < v.length := by omega
    rw [step n b i hil (by omega) hI, drop_cons hil]
    show _ = bif p b v[i] then _ else _
    cases hp : p b v[i] with
    | false => rfl
    | true => exact ih (i + 1) n _ (by omega) (by omega) (keep b i hil (by omega) hI hp)
theorem handOK_snoc : ∀ (l seen : List Int) (a : Int), handOK seen (l ++ [a]) = (handOK seen l && (isCard a && !hasCard (seen ++ l) a))
  | [], seen, a => by simp [handOK]
  | b :: l, seen, a => by
    rw [List.cons_append]
    unfold handOK
    rw [handOK_snoc l (seen ++ [b]) a, List.append_assoc, List.singleton_append]
    simp only [Bool.and_assoc]
theorem isHand_snoc {l : List Int} {a : Int} (h : isHand l = true) (h2 : (isCard a && !hasCard l a) = true) : isHand (l ++ [a]) = true := by
  unfold isHand at h ⊢
  rw [handOK_snoc, h, List.nil_append, h2]; rfl
theorem isHand_53 {l : List Int} (h : l.length = 53) : ¬ isHand l = true := fun hh => by have := isHand_le hh; omega
theorem spec_IsHand.any {k : Nat} (hk : BIG ≤ k) (l : List Int) : spec_IsHand.f k l = some (isHand l) := by
  by_cases hl : l.length < 1073741824
  · exact spec_IsHand.eq hk hl
  have h := scan_dead (B := List Int) l 53 (by omega) (fun m b i => spec_IsHand.l2 k l (some false) (some true) m i) (fun b a => isCard a && !hasCard b a) (fun b a => b ++ [a]) (fun _ => some true) (fun _ _ => some false) (fun i b => b = l.take i ∧ isHand b = true)
    (fun m b i h h53 hI => by
      obtain ⟨hI, _⟩ := hI
      subst hI
      refine (spec_IsHand.l2_succ ..).trans ((bif_t (dec_t (by omega))).trans ((chk_t (in_t h)).trans ?_))
      rw [Int.toNat_natCast, getD_lt _ h, wrap_up (by omega)]
      refine (bind_s (spec_IsCard.eq ..)).trans ?_
      cases isCard l[i] with
      | false => rfl
      | true =>
        refine (bif_f rfl).trans ((chk_t (and_t (dec_t (by omega)) (dec_t (by omega)))).trans ((chk_t (in_t h)).trans ((bind_s (spec_HasCard.eq hk _ (by rw [List.length_take]; omega))).trans ?_)))
        cases hasCard (l.take i) l[i] <;> rfl)
    (fun b i h h53 hI hp => by
      obtain ⟨hI, hh⟩ := hI
      subst hI
      exact ⟨(List.take_succ_eq_append_getElem h).symm, isHand_snoc hh hp⟩)
    (fun b hI => by
      obtain ⟨hI, hh⟩ := hI
      subst hI
      exact isHand_53 (by rw [List.length_take]; omega) hh)
    53 0 k [] (by omega) (by simp [BIG] at hk; omega) ⟨rfl, rfl⟩
  refine h.trans ?_
  rw [List.drop_zero, run_hand (fun b => b) _ (fun _ _ => rfl)]
  rfl
theorem impl_IsHand.any {k : Nat} (hk : BIG ≤ k) {l : List Int} (hlen : l.length < 4611686018427387904) : impl_IsHand.f k l = some (isHand l) := by
  by_cases hl : l.length < 1073741824
  · exact impl_IsHand.eq hk hl
  have h := scan_dead (B := List Bool × List Int) l 53 (by omega) (fun m b i => impl_IsHand.l3 k l (l.length : Int) (some false) (some true) m i b.1) (fun b a => isCard a && !hasCard b.2 a) (fun b a => (b.1.set a.toNat true, b.2 ++ [a])) (fun _ => some true) (fun _ _ => some false)
    (fun i b => (b.2 = l.take i ∧ isHand b.2 = true) ∧ b.1.length = 52 ∧ ∀ c, isCard c = true → b.1.getD c.toNat false = hasCard b.2 c)
    (fun m b i h h53 hI => by
      obtain ⟨_, hI⟩ := hI
      refine (impl_IsHand.l3_succ ..).trans ((bif_t (dec_t (by omega))).trans ((chk_t (in_t h)).trans ?_))
      rw [Int.toNat_natCast, getD_lt _ h, wrap_up (by omega)]
      refine (bind_s (impl_IsCard.eq ..)).trans ?_
      cases hc : isCard l[i] with
      | false => rfl
      | true =>
        have hb := isCard_iff.1 hc
        refine (bif_f rfl).trans ((chk_t (and_t (dec_t (by omega)) (dec_t (by omega)))).trans ?_)
        rw [hI.2 _ hc]
        cases hasCard b.2 l[i] with
        | true => rfl
        | false => exact (bif_f rfl).trans (chk_t (and_t (dec_t (by omega)) (dec_t (by omega)))))
    (fun b i h h53 hI hp => by
      obtain ⟨⟨h1, h2⟩, hI⟩ := hI
      have hp' := hp
      obtain ⟨hc, _⟩ := Bool.and_eq_true_iff.1 hp
      have hb := isCard_iff.1 hc
      refine ⟨⟨by show b.2 ++ [l[i]] = _; rw [h1]; exact (List.take_succ_eq_append_getElem h).symm, isHand_snoc h2 hp'⟩, by simpa using hI.1, fun c hc' => ?_⟩
      have hb' := isCard_iff.1 hc'
      rw [hasCard_snoc, ← hI.2 c hc']
      by_cases e : l[i] = c
      · subst e
        rw [set_getD _ _ (by omega)]
        simp
      · have e1 : (l[i] == c) = false := by simp [e]
        have e2 : ¬ l[i].toNat = c.toNat := by omega
        rw [e1, Bool.or_false, List.getD_eq_getElem?_getD, List.getElem?_set, if_neg e2, ← List.getD_eq_getElem?_getD])
    (fun b hI => by
      obtain ⟨⟨h1, h2⟩, _⟩ := hI
      rw [h1] at h2
      exact isHand_53 (by rw [List.length_take]; omega) h2)
    53 0 k (List.replicate 52 false, []) (by omega) (by simp [BIG] at hk; omega) ⟨⟨rfl, rfl⟩, by simp, fun c hc => by
      have hb := isCard_iff.1 hc
      rw [List.getD_eq_getElem?_getD, List.getElem?_replicate]
      have : c.toNat < 52 := by omega
      simp [this, hasCard]⟩
  refine Eq.trans ?_ (h.trans ?_)
  · rfl
  · rw [List.drop_zero]
    exact run_hand (fun b : List Bool × List Int => b.2) _ (fun _ _ => rfl) l _
/-- A few rows more than 2^20, each of less than 2^20. -/
abbrev smW (l : List (List Int)) : Prop := l.length < 2097152 ∧ ∀ y ∈ l, y.length < 1048577
theorem impl_AllApart.any {k : Nat} (hk : BIG ≤ k) {l : List (List Int)} (hl : smW l) : impl_AllApart.f k l = some (isHand l.flatten) := by
  have h := scan (B := List Int) l (fun m b i => impl_AllApart.l3 k l (l.length : Int) (fun x1 => (impl_IsHand.f k x1).bind fun r2 => some r2) m i b) (fun _ _ => true) (fun b a => b ++ a) (fun x1 => (impl_IsHand.f k x1).bind fun r2 => some r2) (fun _ _ => none) (fun i b => b.length ≤ i * 1048576)
    (fun m b i h hI => by
      have := hl.1
      have := hl.2 _ (List.getElem_mem h)
      refine (impl_AllApart.l3_succ ..).trans ((bif_t (dec_t (by omega))).trans ((chk_t (in_t h)).trans ?_))
      rw [Int.toNat_natCast, getD_lt _ h, wrap_up (by omega)]
      exact chk_t (rm8 (by omega)))
    (fun b i h hI _ => by
      have := hl.2 _ (List.getElem_mem h)
      rw [List.length_append]; omega)
    (fun m b hI => (impl_AllApart.l3_succ ..).trans (bif_f (dec_f (by omega))))
    l.length 0 k [] (by omega) (BIG_lt' hk (by have := hl.1; omega)) (by simp)
  refine h.trans ?_
  rw [List.drop_zero, run_fold, foldl_app, List.nil_append]
  exact bind_s (impl_IsHand.any hk (by have := flat_len_le l hl.2; have := hl.1; omega))
theorem impl_TotalCards.any {k : Nat} (hk : BIG ≤ k) {l : List (List Int)} (hl : smW l) : impl_TotalCards.f k l = some (l.flatten.length : Int) := by
  have h := scan (B := Int) l (fun m b i => impl_TotalCards.l3 k l (l.length : Int) (fun x1 => some x1) m b i) (fun _ _ => true) (fun b a => b + (a.length : Int)) (fun x1 => some x1) (fun _ _ => none) (fun i b => 0 ≤ b ∧ b ≤ (i : Int) * 1048576)
    (fun m b i h hI => by
      have := hl.1
      have := hl.2 _ (List.getElem_mem h)
      refine (impl_TotalCards.l3_succ ..).trans ((bif_t (dec_t (by omega))).trans ((chk_t (in_t h)).trans ?_))
      rw [Int.toNat_natCast, getD_lt _ h, wrap_up (by omega), wrap_i64 (by omega) (by omega)]
      rfl)
    (fun b i h hI _ => by
      have := hl.2 _ (List.getElem_mem h)
      omega)
    (fun m b hI => (impl_TotalCards.l3_succ ..).trans (bif_f (dec_f (by omega))))
    l.length 0 k 0 (by omega) (BIG_lt' hk (by have := hl.1; omega)) (by simp)
  refine h.trans ?_
  rw [List.drop_zero, run_fold, foldl_len, Int.zero_add]
theorem impl_isWhole.any {k : Nat} (hk : BIG ≤ k) {l : List (List Int)} (hl : smW l) : impl_isWhole.f k l = some (whole l) := by
  refine (bind_s (impl_AllApart.any hk hl)).trans ?_
  unfold whole
  cases isHand l.flatten with
  | false => rfl
  | true => exact (bif_t rfl).trans (bind_s (impl_TotalCards.any hk hl))
end Go.Proofs.YtfbafmeeejmgoaaGreat
