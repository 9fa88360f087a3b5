/- Hashes in plain Lean. Conditions: enough rounds, lists of at most 2^20. -/
import Derived.Test.YtfbafmeeejmgoaaGreatKit
import Derived.Test.YtfbafmeeejmgoaaGreatFFnMeasured
import Derived.Test.YtfbafmeeejmgoaaGreatPRange
set_option linter.unusedVariables false
set_option linter.unusedSimpArgs false
namespace Go.Proofs.YtfbafmeeejmgoaaGreat
open Go Go.Proofs.YtfbafmeeejmgoaaGreat.V
def modP (a : Int) : Int := (a.tmod 2147483647 + 2147483647).tmod 2147483647
theorem tmod_bd (a : Int) : -2147483647 < a.tmod 2147483647 ∧ a.tmod 2147483647 < 2147483647 := by
  constructor
  · rcases Int.le_total 0 a with h | h
    · rw [Int.tmod_eq_emod_of_nonneg h]; omega
    · have e : a.tmod 2147483647 = -((-a).tmod 2147483647) := by rw [Int.neg_tmod, Int.neg_neg]
      rw [e, Int.tmod_eq_emod_of_nonneg (by omega)]; omega
  · rcases Int.le_total 0 a with h | h
    · rw [Int.tmod_eq_emod_of_nonneg h]; omega
    · have e : a.tmod 2147483647 = -((-a).tmod 2147483647) := by rw [Int.neg_tmod, Int.neg_neg]
      rw [e, Int.tmod_eq_emod_of_nonneg (by omega)]; omega
theorem modP_bd (a : Int) : 0 ≤ modP a ∧ modP a < 2147483647 := by
  have := tmod_bd a
  unfold modP
  rw [Int.tmod_eq_emod_of_nonneg (by omega)]
  omega
theorem spec_Mod.eq (k : Nat) (a : Int) : spec_Mod.f k a 2147483647 = some (modP a) := by
  have := tmod_bd a
  refine (bind_s (spec_l1In.eq ..)).trans ((bif_f rfl).trans ((chk_t rfl).trans ((chk_t rfl).trans ?_)))
  rw [wrap_i64 (by omega) (by omega)]
  rfl
def hashS (h a : Int) : Int := (h * 1000003 + modP a + 13).tmod 2147483647
theorem hashS_bd {h : Int} (a : Int) (h0 : 0 ≤ h ∧ h < 2147483647) : 0 ≤ hashS h a ∧ hashS h a < 2147483647 := by
  have := modP_bd a
  unfold hashS
  rw [Int.tmod_eq_emod_of_nonneg (by omega)]
  omega
def hashF (l : List Int) : Int := l.foldl hashS 11
theorem foldS_bd : ∀ (l : List Int) (h : Int), 0 ≤ h ∧ h < 2147483647 → 0 ≤ l.foldl hashS h ∧ l.foldl hashS h < 2147483647
  | [], h, h0 => h0
  | a :: l, h, h0 => foldS_bd l _ (hashS_bd a h0)
theorem hashF_bd (l : List Int) : 0 ≤ hashF l ∧ hashF l < 2147483647 := foldS_bd l 11 (by omega)
theorem spec_Hash.eq {k : Nat} (hk : BIG ≤ k) {l : List Int} (hl : l.length < 1048577) : spec_Hash.f k l = some (hashF l) := by
  have h := scan (B := Int) l (fun m b i => spec_Hash.l3 k l (fun x => some x) m b i) (fun _ _ => true) hashS (fun x => some x) (fun _ _ => none) (fun i b => 0 ≤ b ∧ b < 2147483647)
    (fun m b i h hI => by
      have hm := modP_bd l[i]
      refine (spec_Hash.l3_succ ..).trans ((bif_t (dec_t (by omega))).trans ((chk_t (in_t h)).trans ?_))
      rw [Int.toNat_natCast, getD_lt _ h]
      refine (bind_s (spec_Mod.eq ..)).trans ?_
      rw [wrap_up (by omega), wrap_i64 (n := b * 1000003) (by omega) (by omega), wrap_i64 (n := b * 1000003 + modP l[i]) (by omega) (by omega), wrap_i64 (by omega) (by omega)]
      rfl)
    (fun b i h hI _ => hashS_bd _ hI)
    (fun m b hI => (spec_Hash.l3_succ ..).trans (bif_f (dec_f (by omega))))
    l.length 0 k 11 (by omega) (BIG_lt hk hl) (by omega)
  refine h.trans ?_
  rw [List.drop_zero, run_fold]; rfl
end Go.Proofs.YtfbafmeeejmgoaaGreat
