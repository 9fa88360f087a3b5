/- Decks, and shuffling them, in plain Lean. Conditions: enough rounds, lists of at most 2^20. -/
import Derived.Test.YtfbafmeeejmgoaaGreatKit
import Derived.Test.YtfbafmeeejmgoaaGreatFFnMeasured
import Derived.Test.YtfbafmeeejmgoaaGreatPHash
import Derived.Test.YtfbafmeeejmgoaaGreatPPlay
import Derived.Test.YtfbafmeeejmgoaaGreatPCopy
set_option linter.unusedVariables false
set_option linter.unusedSimpArgs false
namespace Go.Proofs.YtfbafmeeejmgoaaGreat
open Go Go.Proofs.YtfbafmeeejmgoaaGreat.V
def modM (a m : Int) : Int := (a.tmod m + m).tmod m
theorem tmod_abs (a : Int) {m : Int} (h : 1 ≤ m) : -m < a.tmod m ∧ a.tmod m < m := by
  rcases Int.le_total 0 a with h0 | h0
  · rw [Int.tmod_eq_emod_of_nonneg h0]
    have := Int.emod_nonneg a (b := m) (by omega)
    have := Int.emod_lt_of_pos a (b := m) (by omega)
    omega
  · have e : a.tmod m = -((-a).tmod m) := by rw [Int.neg_tmod, Int.neg_neg]
    rw [e, Int.tmod_eq_emod_of_nonneg (by omega)]
    have := Int.emod_nonneg (-a) (b := m) (by omega)
    have := Int.emod_lt_of_pos (-a) (b := m) (by omega)
    omega
theorem modM_bd (a : Int) {m : Int} (h : 1 ≤ m) : 0 ≤ modM a m ∧ modM a m < m := by
  have := tmod_abs a h
  unfold modM
  rw [Int.tmod_eq_emod_of_nonneg (by omega)]
  exact ⟨Int.emod_nonneg _ (by omega), Int.emod_lt_of_pos _ (by omega)⟩
theorem spec_Mod.eqg (k : Nat) (a : Int) {m : Int} (h1 : 1 ≤ m) (h2 : m ≤ 1000000000000) : spec_Mod.f k a m = some (modM a m) := by
  have := tmod_abs a h1
  refine (bind_s (spec_l1In.eq ..)).trans ?_
  rw [inR_iff.2 ⟨h1, h2⟩]
  refine (bif_f rfl).trans ((chk_t (by rw [dec_f (p := m = 0) (by omega)]; rfl)).trans ((chk_t (by rw [dec_f (p := m = 0) (by omega)]; rfl)).trans ?_))
  rw [wrap_i64 (by omega) (by omega)]
  rfl
/-! ### Shuffling -/
def shJ (seed : Int) (i : Nat) : Nat := (modM (hashF [seed, (i : Int)]) ((i : Int) + 1)).toNat
def swapS (seed : Int) (v : List Int) (i : Nat) : List Int := (v.set i (v.getD (shJ seed i) 0)).set (shJ seed i) (v.getD i 0)
def shufN (seed : Int) : Nat → List Int → List Int
  | 0, v => v
  | i + 1, v => shufN seed i (swapS seed v (i + 1))
def shuffled (l : List Int) (seed : Int) : List Int := shufN seed (l.length - 1) l
theorem shJ_le (seed : Int) (i : Nat) : shJ seed i ≤ i ∧ ((shJ seed i : Nat) : Int) = modM (hashF [seed, (i : Int)]) ((i : Int) + 1) := by
  have := modM_bd (hashF [seed, (i : Int)]) (m := (i : Int) + 1) (by omega)
  unfold shJ
  omega
theorem swapS_len (seed : Int) (v : List Int) (i : Nat) : (swapS seed v i).length = v.length := by simp [swapS]
theorem shufN_perm (seed : Int) : ∀ (i : Nat) (v : List Int), i < v.length ∨ i = 0 → (shufN seed i v).Perm v
  | 0, v, _ => List.Perm.refl _
  | i + 1, v, h => by
    have hj := (shJ_le seed (i + 1)).1
    refine (shufN_perm seed i _ (by rw [swapS_len]; omega)).trans ?_
    unfold swapS
    rw [getD_lt _ (by omega), getD_lt _ (by omega)]
    exact List.set_set_perm (by omega) (by omega)
theorem shuffled_perm (l : List Int) (seed : Int) : (shuffled l seed).Perm l := shufN_perm seed _ l (by omega)
theorem spec_Shuffled.loop {R : Type} {k : Nat} (hk : BIG ≤ k) (seed : Int) (e0 : List Int → Option R) : ∀ (i n : Nat) (v : List Int), i < v.length → v.length < 1048577 → i < n → spec_Shuffled.l3 k seed e0 n (i : Int) v = e0 (shufN seed i v) := by
  intro i
  induction i with
  | zero =>
    intro n v h hv hn
    obtain ⟨n, rfl⟩ : ∃ n', n = n' + 1 := ⟨n - 1, by omega⟩
    exact (spec_Shuffled.l3_succ ..).trans (bif_f (dec_f (by omega)))
  | succ i ih =>
    intro n v h hv hn
    obtain ⟨n, rfl⟩ : ∃ n', n = n' + 1 := ⟨n - 1, by omega⟩
    have hj := shJ_le seed (i + 1)
    refine (spec_Shuffled.l3_succ ..).trans ((bif_t (dec_t (by omega))).trans ((bind_s (spec_Hash.eq hk (by simp))).trans ?_))
    rw [wrap_i64 (n := ((i + 1 : Nat) : Int) + 1) (by omega) (by omega), show IntKind.wrap .i64 (((i + 1 : Nat) : Int) - 1) = (i : Int) by rw [wrap_i64 (by omega) (by omega)]; omega]
    refine (bind_s (spec_Mod.eqg k _ (by omega) (by omega))).trans ?_
    rw [← hj.2]
    refine (chk_t (in_t h)).trans ((chk_t (in_t (by omega))).trans ((chk_t (in_t h)).trans ((chk_t (in_t (by rw [List.length_set]; omega))).trans ?_)))
    rw [Int.toNat_natCast, Int.toNat_natCast]
    exact ih n (swapS seed v (i + 1)) (by rw [swapS_len]; omega) (by rw [swapS_len]; omega) (by omega)
theorem spec_Shuffled.eq {k : Nat} (hk : BIG ≤ k) {l : List Int} (seed : Int) (hl : l.length < 1048577) : spec_Shuffled.f k l seed = some (shuffled l seed) := by
  refine (chk_t (rm8 (by omega))).trans ?_
  unfold shuffled
  rw [List.nil_append]
  by_cases h0 : l.length = 0
  · obtain ⟨n, rfl⟩ : ∃ n', k = n' + 1 := ⟨k - 1, by simp [BIG] at hk; omega⟩
    rw [h0]
    exact (spec_Shuffled.l3_succ ..).trans (bif_f (by decide))
  · rw [wrap_pred (by omega) (by omega)]
    exact spec_Shuffled.loop hk seed _ (l.length - 1) k l (by omega) hl (BIG_lt hk (by omega))
/-! ### The cards that are missing -/
def missing (l : List Int) : List Int := upN (fun i b => bif !hasCard l (i : Int) then b ++ [(i : Int)] else b) 52 0 []
def fullDeck : List Int := missing []
theorem fullDeck_hand : isHand fullDeck = true := by decide +kernel
theorem fullDeck_len : fullDeck.length = 52 := by decide +kernel
theorem spec_Missing.eq {k : Nat} (hk : BIG ≤ k) {l : List Int} (hl : l.length < 1048577) : spec_Missing.f k l = some (missing l) := by
  have h := upto (B := List Int) 52 (fun m b i => spec_Missing.l3 k l (fun x2 => some x2) m i b) (fun i b => bif !hasCard l (i : Int) then b ++ [(i : Int)] else b) (fun x => some x) (fun i b => b.length ≤ i)
    (fun m b i h hI => by
      refine (spec_Missing.l3_succ ..).trans ((bif_t (dec_t (by omega))).trans ((bind_s (spec_HasCard.eq hk _ (by omega))).trans ?_))
      rw [wrap_up (by omega)]
      cases (!hasCard l (i : Int)) with
      | false => rfl
      | true => exact (bif_t rfl).trans (chk_t (rm8 (by omega))))
    (fun b i h hI => by cases (!hasCard l (i : Int)) <;> simp <;> omega)
    (fun m b hI => (spec_Missing.l3_succ ..).trans (bif_f (dec_f (by omega))))
    52 0 k [] (by omega) (by simp [BIG] at hk; omega) (by simp)
  exact h
theorem spec_FullDeck.eq {k : Nat} (hk : BIG ≤ k) : spec_FullDeck.f k = some fullDeck := bind_s (spec_Missing.eq hk (by simp))
end Go.Proofs.YtfbafmeeejmgoaaGreat
