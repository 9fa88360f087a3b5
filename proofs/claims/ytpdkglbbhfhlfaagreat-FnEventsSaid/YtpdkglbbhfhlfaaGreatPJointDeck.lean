/- The deck of all, in plain Lean. Conditions: enough rounds, lists of at most 2^20. -/
import Derived.Test.YtpdkglbbhfhlfaaGreatKit
import Derived.Test.YtpdkglbbhfhlfaaGreatFFnEvents
import Derived.Test.YtpdkglbbhfhlfaaGreatPSeal
import Derived.Test.YtpdkglbbhfhlfaaGreatPDeck
set_option linter.unusedVariables false
set_option linter.unusedSimpArgs false
namespace Go.Proofs.YtpdkglbbhfhlfaaGreat
open Go Go.Proofs.YtpdkglbbhfhlfaaGreat.V
def isOpened (p s b q : Int) : Bool := inR s 0 1000000 && inR b 0 1000000 && (hashF [p, s, b] == q)
theorem spec_IsOpened.eq {k : Nat} (hk : BIG ≤ k) (p s b q : Int) : spec_IsOpened.f k p s b q = some (isOpened p s b q) := by
  unfold isOpened
  refine (bind_s (spec_l1In.eq ..)).trans ?_
  cases inR s 0 1000000 with
  | false => rfl
  | true =>
    refine (bif_t rfl).trans ((bind_s (spec_l1In.eq ..)).trans ?_)
    cases inR b 0 1000000 with
    | false => rfl
    | true => exact (bif_t rfl).trans (bind_s (spec_SeedSeal.eq hk p s b))
theorem impl_IsOpened.eq {k : Nat} (hk : BIG ≤ k) (p s b q : Int) : impl_IsOpened.f k p s b q = some (isOpened p s b q) := by
  unfold isOpened
  refine (bind_s (impl_InRange.eq ..)).trans ?_
  cases inR s 0 1000000 with
  | false => rfl
  | true =>
    refine (bif_t rfl).trans ((bind_s (impl_InRange.eq ..)).trans ?_)
    cases inR b 0 1000000 with
    | false => rfl
    | true => exact (bif_t rfl).trans (bind_s (impl_SeedSeal.eq hk p s b))
def opens (ss bs : List Int) : Nat → List Int → Bool
  | _, [] => true
  | i, q :: l => isOpened (i : Int) (ss.getD i 0) (bs.getD i 0) q && opens ss bs (i + 1) l
theorem spec_AreOpened.loop {R : Type} {k : Nat} (hk : BIG ≤ k) (qs ss bs : List Int) (h1 : qs.length < 1048577) (h2 : ss.length = qs.length) (h3 : bs.length = qs.length) (e0 e1 : Option R) : ∀ (m i n : Nat), i + m = qs.length → m < n → spec_AreOpened.l4 k qs ss bs e0 e1 n (i : Int) = bif opens ss bs i (qs.drop i) then e1 else e0
  | m, i, 0, _, h => absurd h (by omega)
  | 0, i, n + 1, hi, _ => by
    rw [List.drop_eq_nil_of_le (by omega)]
    exact (bif_f (dec_f (by omega))).trans rfl
  | m + 1, i, n + 1, hi, hn => by
    have hq : i < qs.length := by omega
    rw [drop_cons hq]
    have ih := spec_AreOpened.loop hk qs ss bs h1 h2 h3 e0 e1 m (i + 1) n (by omega) (by omega)
    refine (bif_t (dec_t (by omega))).trans ((chk_t (in_t (by omega))).trans ((chk_t (in_t (by omega))).trans ((chk_t (in_t hq)).trans ((bind_s (spec_IsOpened.eq hk ..)).trans ?_))))
    have et : ((i : Int)).toNat = i := Int.toNat_natCast i
    rw [et, getD_lt (l := qs) 0 hq]
    unfold opens
    cases isOpened (i : Int) (ss.getD i 0) (bs.getD i 0) qs[i] with
    | false => rfl
    | true =>
      refine (bif_f rfl).trans ?_
      rw [wrap_up (by omega)]
      exact ih
theorem impl_AreOpened.loop {R : Type} {k : Nat} (hk : BIG ≤ k) (qs ss bs : List Int) (h1 : qs.length < 1048577) (h2 : ss.length = qs.length) (h3 : bs.length = qs.length) (e0 e1 : Option R) : ∀ (m i n : Nat), i + m = qs.length → m < n → impl_AreOpened.l5 k qs ss bs (qs.length : Int) e0 e1 n (i : Int) = bif opens ss bs i (qs.drop i) then e1 else e0
  | m, i, 0, _, h => absurd h (by omega)
  | 0, i, n + 1, hi, _ => by
    rw [List.drop_eq_nil_of_le (by omega)]
    exact (bif_f (dec_f (by omega))).trans rfl
  | m + 1, i, n + 1, hi, hn => by
    have hq : i < qs.length := by omega
    rw [drop_cons hq]
    have ih := impl_AreOpened.loop hk qs ss bs h1 h2 h3 e0 e1 m (i + 1) n (by omega) (by omega)
    refine (bif_t (dec_t (by omega))).trans ((chk_t (in_t (by omega))).trans ((chk_t (in_t (by omega))).trans ((chk_t (in_t hq)).trans ((bind_s (impl_IsOpened.eq hk ..)).trans ?_))))
    have et : ((i : Int)).toNat = i := Int.toNat_natCast i
    rw [et, getD_lt (l := qs) 0 hq]
    unfold opens
    cases isOpened (i : Int) (ss.getD i 0) (bs.getD i 0) qs[i] with
    | false => rfl
    | true =>
      refine (bif_f rfl).trans ?_
      rw [wrap_up (by omega)]
      exact ih
def areOpened (qs ss bs : List Int) : Bool := inR (qs.length : Int) 1 6 && ((ss.length : Int) == (qs.length : Int)) && ((bs.length : Int) == (qs.length : Int)) && opens ss bs 0 qs
theorem spec_AreOpened.eq {k : Nat} (hk : BIG ≤ k) {qs : List Int} (ss bs : List Int) (h : qs.length < 1048577) : spec_AreOpened.f k qs ss bs = some (areOpened qs ss bs) := by
  unfold areOpened
  refine (bind_s (spec_l1In.eq ..)).trans ?_
  cases inR (qs.length : Int) 1 6 with
  | false => rfl
  | true =>
    refine (bif_f rfl).trans ?_
    cases h1 : ((ss.length : Int) == (qs.length : Int)) with
    | false => exact (bif_t (by rw [bne, h1]; rfl)).trans rfl
    | true =>
      refine (bif_f (by rw [bne, h1]; rfl)).trans ?_
      cases h2 : ((bs.length : Int) == (qs.length : Int)) with
      | false => exact (bif_t (by rw [bne, h2]; rfl)).trans rfl
      | true =>
        refine (bif_f (by rw [bne, h2]; rfl)).trans ((spec_AreOpened.loop hk qs ss bs h (by have := eq_of_beq h1; omega) (by have := eq_of_beq h2; omega) (some false) (some true) qs.length 0 k (by omega) (BIG_lt hk h)).trans ?_)
        rw [List.drop_zero]
        cases opens ss bs 0 qs <;> rfl
theorem impl_AreOpened.eq {k : Nat} (hk : BIG ≤ k) {qs : List Int} (ss bs : List Int) (h : qs.length < 1048577) : impl_AreOpened.f k qs ss bs = some (areOpened qs ss bs) := by
  unfold areOpened
  refine (bind_s (impl_InRange.eq ..)).trans ?_
  cases inR (qs.length : Int) 1 6 with
  | false => rfl
  | true =>
    refine (bif_f rfl).trans ?_
    cases h1 : ((ss.length : Int) == (qs.length : Int)) with
    | false => exact (bif_t (by rw [bne, h1]; rfl)).trans rfl
    | true =>
      refine (bif_f (by rw [bne, h1]; rfl)).trans ?_
      cases h2 : ((bs.length : Int) == (qs.length : Int)) with
      | false => exact (bif_t (by rw [bne, h2]; rfl)).trans rfl
      | true =>
        refine (bif_f (by rw [bne, h2]; rfl)).trans ((impl_AreOpened.loop hk qs ss bs h (by have := eq_of_beq h1; omega) (by have := eq_of_beq h2; omega) (some false) (some true) qs.length 0 k (by omega) (BIG_lt hk h)).trans ?_)
        rw [List.drop_zero]
        cases opens ss bs 0 qs <;> rfl
theorem areOpened_len {qs ss bs : List Int} (h : areOpened qs ss bs = true) : ss.length < 1048577 := by
  unfold areOpened at h
  simp only [Bool.and_eq_true, beq_iff_eq] at h
  have := inR_iff.1 h.1.1.1
  omega
def jointSum : List Int → Int → Int
  | [], b => b
  | s :: l, b => jointSum l ((b + modM s 1000001).tmod 1000001)
def jointSeed (l : List Int) : Int := jointSum l 0
theorem joint_bd {b s : Int} (h : 0 ≤ b ∧ b < 1000001) : 0 ≤ (b + modM s 1000001).tmod 1000001 ∧ (b + modM s 1000001).tmod 1000001 < 1000001 := by
  have := modM_bd s (m := 1000001) (by omega)
  have := tmod_range (a := b + modM s 1000001) (n := 1000001) (by omega) (by omega)
  omega
theorem spec_JointSeed.loop {R : Type} {k : Nat} (l : List Int) (h1 : l.length < 1048577) (e0 : Int → Option R) : ∀ (m i n : Nat) (b : Int), 0 ≤ b ∧ b < 1000001 → i + m = l.length → m < n → spec_JointSeed.l3 k l e0 n b (i : Int) = e0 (jointSum (l.drop i) b)
  | m, i, 0, b, _, _, h => absurd h (by omega)
  | 0, i, n + 1, b, hb, hi, _ => by
    rw [List.drop_eq_nil_of_le (by omega)]
    exact (bif_f (dec_f (by omega))).trans rfl
  | m + 1, i, n + 1, b, hb, hi, hn => by
    have hq : i < l.length := by omega
    rw [drop_cons hq]
    have hs := modM_bd l[i] (m := 1000001) (by omega)
    have ih := spec_JointSeed.loop (k := k) l h1 e0 m (i + 1) n _ (joint_bd (s := l[i]) hb) (by omega) (by omega)
    have et : ((i : Int)).toNat = i := Int.toNat_natCast i
    refine (bif_t (dec_t (by omega))).trans ((chk_t (in_t hq)).trans ((bind_s (spec_Mod.eqg k _ (by omega) (by omega))).trans ?_))
    rw [et, getD_lt (l := l) 0 hq, wrap_i64 (by omega) (by omega), wrap_up (by omega)]
    exact ih
theorem impl_JointSeed.loop {R : Type} {k : Nat} (l : List Int) (h1 : l.length < 1048577) (e0 : Int → Option R) : ∀ (m i n : Nat) (b : Int), 0 ≤ b ∧ b < 1000001 → i + m = l.length → m < n → impl_JointSeed.l3 k l (l.length : Int) e0 n b (i : Int) = e0 (jointSum (l.drop i) b)
  | m, i, 0, b, _, _, h => absurd h (by omega)
  | 0, i, n + 1, b, hb, hi, _ => by
    rw [List.drop_eq_nil_of_le (by omega)]
    exact (bif_f (dec_f (by omega))).trans rfl
  | m + 1, i, n + 1, b, hb, hi, hn => by
    have hq : i < l.length := by omega
    rw [drop_cons hq]
    have hs := modM_bd l[i] (m := 1000001) (by omega)
    have ih := impl_JointSeed.loop (k := k) l h1 e0 m (i + 1) n _ (joint_bd (s := l[i]) hb) (by omega) (by omega)
    have et : ((i : Int)).toNat = i := Int.toNat_natCast i
    refine (bif_t (dec_t (by omega))).trans ((chk_t (in_t hq)).trans ((bind_s (impl_Mod.eqg k _ (by omega) (by omega))).trans ?_))
    rw [et, getD_lt (l := l) 0 hq, wrap_i64 (by omega) (by omega), wrap_up (by omega)]
    exact ih
theorem spec_JointSeed.eq {k : Nat} (hk : BIG ≤ k) {l : List Int} (h : l.length < 1048577) : spec_JointSeed.f k l = some (jointSeed l) := spec_JointSeed.loop l h _ l.length 0 k 0 (by omega) (by omega) (BIG_lt hk h)
theorem impl_JointSeed.eq {k : Nat} (hk : BIG ≤ k) {l : List Int} (h : l.length < 1048577) : impl_JointSeed.f k l = some (jointSeed l) := impl_JointSeed.loop l h _ l.length 0 k 0 (by omega) (by omega) (BIG_lt hk h)
def jointDeck (qs ss bs : List Int) : List Int × Bool := bif areOpened qs ss bs then (shuffled fullDeck (jointSeed ss), true) else ([], false)
theorem spec_JointDeck.eq {k : Nat} (hk : BIG ≤ k) {qs : List Int} (ss bs : List Int) (h : qs.length < 1048577) : spec_JointDeck.f k qs ss bs = some (jointDeck qs ss bs) := by
  unfold jointDeck
  refine (bind_s (spec_AreOpened.eq hk ss bs h)).trans ?_
  cases ha : areOpened qs ss bs with
  | false => rfl
  | true => exact (bif_f rfl).trans ((bind_s (spec_FullDeck.eq hk)).trans ((bind_s (spec_JointSeed.eq hk (areOpened_len ha))).trans ((bind_s (spec_Shuffled.eq hk _ (by rw [fullDeck_len]; decide))).trans rfl)))
theorem impl_JointDeck.eq {k : Nat} (hk : BIG ≤ k) {qs : List Int} (ss bs : List Int) (h : qs.length < 1048577) : impl_JointDeck.f k qs ss bs = some (jointDeck qs ss bs) := by
  unfold jointDeck
  refine (bind_s (impl_AreOpened.eq hk ss bs h)).trans ?_
  cases ha : areOpened qs ss bs with
  | false => rfl
  | true => exact (bif_f rfl).trans ((bind_s (impl_FullDeck.eq hk)).trans ((bind_s (impl_JointSeed.eq hk (areOpened_len ha))).trans ((bind_s (impl_Shuffled.eq hk _ (by rw [fullDeck_len]; decide))).trans rfl)))
theorem jointDeck_len (qs ss bs : List Int) : (jointDeck qs ss bs).1.length ≤ 52 := by
  unfold jointDeck
  cases areOpened qs ss bs with
  | false => simp
  | true => simp only [cond_true]; rw [(shuffled_perm _ _).length_eq, fullDeck_len]; omega
end Go.Proofs.YtpdkglbbhfhlfaaGreat
