/- Hashes in plain Lean. Conditions: enough rounds, lists of at most 2^20. -/
import Derived.Test.YtfbafmeeejmgoaaDoorKit
import Derived.Test.YtfbafmeeejmgoaaDoorPRange
set_option linter.unusedVariables false
set_option linter.unusedSimpArgs false
namespace Go.Proofs.YtfbafmeeejmgoaaDoor
open Go Go.Proofs.YtfbafmeeejmgoaaDoor.V
def modP (a : Int) : Int := (a.tmod 2147483647 + 2147483647).tmod 2147483647
theorem tmod_bd (a : Int) : -2147483647 < a.tmod 2147483647 ∧ a.tmod 2147483647 < 2147483647 := by
  constructor
  · rcases Int.le_total 0 a with h | h
    · rw [Int.tmod_eq_emod_of_nonneg h]; omega
    · have e : a.tmod 2147483647 = -((-a).tmod 2147483647) := by rw [Int.neg_tmod, Int.neg_neg]
      rw [e, Int.tmod_eq_emod_of_nonneg (by omega)]; omega
  · rcases Int.le_total 0 a with h | h
    · rw [Int.tmod_eq_emod_of_nonneg h]; omega
    · have e : a.tmod 2147483647 = -((-a).tmod 2147483647) := by rw [Int.neg_tmod, Int.neg_neg]
      rw [e, Int.tmod_eq_emod_of_nonneg (by omega)]; omega
theorem modP_bd (a : Int) : 0 ≤ modP a ∧ modP a < 2147483647 := by
  have := tmod_bd a
  unfold modP
  rw [Int.tmod_eq_emod_of_nonneg (by omega)]
  omega
def hashS (h a : Int) : Int := (h * 1000003 + modP a + 13).tmod 2147483647
theorem hashS_bd {h : Int} (a : Int) (h0 : 0 ≤ h ∧ h < 2147483647) : 0 ≤ hashS h a ∧ hashS h a < 2147483647 := by
  have := modP_bd a
  unfold hashS
  rw [Int.tmod_eq_emod_of_nonneg (by omega)]
  omega
def hashF (l : List Int) : Int := l.foldl hashS 11
theorem foldS_bd : ∀ (l : List Int) (h : Int), 0 ≤ h ∧ h < 2147483647 → 0 ≤ l.foldl hashS h ∧ l.foldl hashS h < 2147483647
  | [], h, h0 => h0
  | a :: l, h, h0 => foldS_bd l _ (hashS_bd a h0)
theorem hashF_bd (l : List Int) : 0 ≤ hashF l ∧ hashF l < 2147483647 := foldS_bd l 11 (by omega)
end Go.Proofs.YtfbafmeeejmgoaaDoor
