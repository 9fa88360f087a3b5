/- Cards and hands as text. Conditions: enough rounds, lists of at most 2^20. -/
import Derived.Test.YtfbafmeeejmgoaaDoorKit
import Derived.Test.YtfbafmeeejmgoaaDoorFFnViews
import Derived.Test.YtfbafmeeejmgoaaDoorPCard
set_option linter.unusedVariables false
set_option linter.unusedSimpArgs false
namespace Go.Proofs.YtfbafmeeejmgoaaDoor
open Go Go.Proofs.YtfbafmeeejmgoaaDoor.V
def ranksB : ByteArray := ⟨#[50, 51, 52, 53, 54, 55, 56, 57, 84, 74, 81, 75, 65]⟩
def suitsB : ByteArray := ⟨#[99, 100, 104, 115]⟩
def cardText (c : Int) : ByteArray := bif isCard c then ranksB.extract (rankOf c).toNat ((rankOf c + 1).toNat) ++ suitsB.extract (suitOf c).toNat ((suitOf c + 1).toNat) else ByteArray.empty
theorem extract_le (x : ByteArray) (a b : Nat) : (x.extract a b).size ≤ x.size := by rw [ByteArray.size_extract]; omega
theorem cardText_le (c : Int) : (cardText c).size ≤ 17 := by
  unfold cardText
  cases isCard c with
  | false => simp
  | true =>
    simp only [cond_true, ByteArray.size_append]
    have h1 := extract_le ranksB (rankOf c).toNat ((rankOf c + 1).toNat)
    have h2 := extract_le suitsB (suitOf c).toNat ((suitOf c + 1).toNat)
    have e1 : ranksB.size = 13 := rfl
    have e2 : suitsB.size = 4 := rfl
    omega
theorem card_bounds {c : Int} (h : isCard c = true) : 0 ≤ rankOf c ∧ rankOf c ≤ 12 ∧ 0 ≤ suitOf c ∧ suitOf c ≤ 3 ∧ rankOf c = c.tmod 13 ∧ suitOf c = c.tdiv 13 := by
  have e1 : rankOf c = c.tmod 13 := by unfold rankOf; rw [h]; rfl
  have e2 : suitOf c = c.tdiv 13 := by unfold suitOf; rw [h]; rfl
  have := isCard_iff.1 h
  have h1 := Int.tmod_eq_emod_of_nonneg (b := 13) this.1
  have h2 := Int.tdiv_eq_ediv_of_nonneg (b := 13) this.1
  refine ⟨?_, ?_, ?_, ?_, e1, e2⟩ <;> omega
theorem card_steps {c r s : Int} (hr : 0 ≤ r ∧ r ≤ 12) (hs : 0 ≤ s ∧ s ≤ 3) : (chk ((decide ((0 : Int) ≤ (IntKind.wrap .i64 (r + (1 : Int))))) && (decide ((IntKind.wrap .i64 (r + (1 : Int))) ≤ (13 : Int)))) <|
    chk ((decide ((0 : Int) ≤ r)) && (decide (r ≤ (IntKind.wrap .i64 (r + (1 : Int)))))) <|
    chk ((decide ((0 : Int) ≤ (IntKind.wrap .i64 (s + (1 : Int))))) && (decide ((IntKind.wrap .i64 (s + (1 : Int))) ≤ (4 : Int)))) <|
    chk ((decide ((0 : Int) ≤ s)) && (decide (s ≤ (IntKind.wrap .i64 (s + (1 : Int)))))) <|
    chk (decide ((ranksB.extract r.toNat ((IntKind.wrap .i64 (r + (1 : Int))).toNat)).size + (suitsB.extract s.toNat ((IntKind.wrap .i64 (s + (1 : Int))).toNat)).size ≤ maxI)) <|
    some ((ranksB.extract r.toNat ((IntKind.wrap .i64 (r + (1 : Int))).toNat)) ++ (suitsB.extract s.toNat ((IntKind.wrap .i64 (s + (1 : Int))).toNat)))) = some (ranksB.extract r.toNat ((r + 1).toNat) ++ suitsB.extract s.toNat ((s + 1).toNat)) := by
  rw [wrap_i64 (n := r + 1) (by omega) (by omega), wrap_i64 (n := s + 1) (by omega) (by omega)]
  have h1 := extract_le ranksB r.toNat ((r + 1).toNat)
  have h2 := extract_le suitsB s.toNat ((s + 1).toNat)
  have e1 : ranksB.size = 13 := rfl
  have e2 : suitsB.size = 4 := rfl
  refine (chk_t (and_t (dec_t (by omega)) (dec_t (by omega)))).trans ((chk_t (and_t (dec_t (by omega)) (dec_t (by omega)))).trans ((chk_t (and_t (dec_t (by omega)) (dec_t (by omega)))).trans ((chk_t (and_t (dec_t (by omega)) (dec_t (by omega)))).trans (chk_t (dec_t ?_)))))
  simp only [maxI]; omega
theorem impl_CardText.eq (k : Nat) (c : Int) : impl_CardText.f k c = some (cardText c) := by
  refine (bind_s (impl_IsCard.eq ..)).trans ?_
  unfold cardText
  cases h : isCard c with
  | false => rfl
  | true =>
    obtain ⟨a1, a2, a3, a4, e1, e2⟩ := card_bounds h
    refine (bif_f rfl).trans ?_
    rw [suit_wrap h, ← e1, ← e2]
    exact card_steps (c := c) ⟨a1, a2⟩ ⟨a3, a4⟩
def qB : ByteArray := ⟨#[63]⟩
def dashB : ByteArray := ⟨#[45]⟩
def oneText (c : Int) : ByteArray := bif isCard c then cardText c else qB
theorem oneText_le (c : Int) : (oneText c).size ≤ 17 := by
  unfold oneText
  cases isCard c with
  | false => have : qB.size = 1 := rfl
             simp only [cond_false]; omega
  | true => exact cardText_le c
def cat (b : ByteArray) (c : Int) : ByteArray := b ++ oneText c
def handText (l : List Int) : ByteArray := bif ((l.length : Int) == 0) then dashB else l.foldl cat ByteArray.empty
theorem cat_le (b : ByteArray) (c : Int) : (cat b c).size ≤ b.size + 17 := by
  have := oneText_le c
  unfold cat; rw [ByteArray.size_append]; omega
theorem foldCat_le : ∀ (l : List Int) (b : ByteArray), (l.foldl cat b).size ≤ b.size + 17 * l.length
  | [], b => by simp
  | c :: l, b => by
    have h1 := foldCat_le l (cat b c)
    have h2 := cat_le b c
    rw [List.foldl_cons, List.length_cons]; omega
theorem handText_le (l : List Int) : (handText l).size ≤ 17 * l.length + 1 := by
  unfold handText
  cases ((l.length : Int) == 0) with
  | true => have : dashB.size = 1 := rfl
            simp only [cond_true]; omega
  | false =>
    have := foldCat_le l ByteArray.empty
    have e : ByteArray.empty.size = 0 := rfl
    simp only [cond_false]; omega
theorem impl_listText.eq {k : Nat} (hk : BIG ≤ k) {l : List Int} (hl : l.length < 1048577) : impl_listText.f k l (-1) (⟨#[63]⟩ : ByteArray) = some (handText l) := by
  unfold impl_listText.f handText
  cases ((l.length : Int) == 0) with
  | true => rfl
  | false =>
  refine (bif_f rfl).trans ?_
  have h := scan (B := ByteArray) l (fun m b i => impl_listText.l5 k (-1) (⟨#[63]⟩ : ByteArray) l (l.length : Int) (fun x3 => some x3) m b i) (fun _ _ => true) cat (fun x3 => some x3) (fun _ _ => none) (fun i b => b.size ≤ 17 * i)
    (fun m b i h hI => by
      refine (impl_listText.l5_succ ..).trans ((bif_t (dec_t (by omega))).trans ((chk_t (in_t h)).trans ?_))
      rw [Int.toNat_natCast, getD_lt _ h, wrap_up (by omega)]
      refine (bind_s (impl_IsCard.eq ..)).trans ?_
      unfold cat oneText
      have e63 : (⟨#[63]⟩ : ByteArray).size = 1 := rfl
      cases hc : isCard l[i] with
      | false =>
        refine (bif_f rfl).trans ?_
        cases (l[i] == (-1 : Int)) with
        | true => exact (bif_t rfl).trans ((chk_t (dec_t (by simp only [maxI]; omega))).trans rfl)
        | false => exact (bif_f rfl).trans ((chk_t (dec_t (by simp only [maxI]; omega))).trans rfl)
      | true =>
        have := cardText_le l[i]
        refine (bif_t rfl).trans ((bind_s (impl_CardText.eq ..)).trans ((chk_t (dec_t ?_)).trans rfl))
        simp only [maxI]; omega)
    (fun b i h hI _ => by have := cat_le b l[i]; show (cat b l[i]).size ≤ 17 * (i + 1); omega)
    (fun m b hI => (impl_listText.l5_succ ..).trans (bif_f (dec_f (by omega))))
    l.length 0 k ByteArray.empty (by omega) (BIG_lt hk hl) (by simp)
  refine h.trans ?_
  rw [List.drop_zero, run_fold]; rfl
theorem impl_HandText.eq {k : Nat} (hk : BIG ≤ k) {l : List Int} (hl : l.length < 1048577) : impl_HandText.f k l = some (handText l) := bind_s (impl_listText.eq hk hl)
end Go.Proofs.YtfbafmeeejmgoaaDoor
