/- Sums, in plain Lean. Conditions: enough rounds, lists of at most 2^20 numbers of at most 2^40. -/
import Derived.Test.YtpdkglbbhfhlfaaGreatKit
import Derived.Test.YtpdkglbbhfhlfaaGreatFFnTop
import Derived.Test.YtpdkglbbhfhlfaaGreatPPerm
set_option linter.unusedVariables false
set_option linter.unusedSimpArgs false
namespace Go.Proofs.YtpdkglbbhfhlfaaGreat
open Go Go.Proofs.YtpdkglbbhfhlfaaGreat.V
theorem laws_sum.eq {k : Nat} (hk : BIG ≤ k) {l : List Int} (hl : l.length < 1048577) (hb : ∀ x ∈ l, -1099511627776 ≤ x ∧ x ≤ 1099511627776) : laws_sum.f k l = some l.sum := by
  have h := scan (B := Int) l (fun m b i => laws_sum.l3 k l (fun x1 => some x1) m b i) (fun _ _ => true) (fun b a => b + a) (fun x => some x) (fun _ _ => none) (fun i b => -1099511627776 * (i : Int) ≤ b ∧ b ≤ 1099511627776 * (i : Int))
    (fun m b i h hI => by
      have hx := hb _ (List.getElem_mem h)
      refine (laws_sum.l3_succ ..).trans ((bif_t (dec_t (by omega))).trans ((chk_t (in_t h)).trans ?_))
      rw [Int.toNat_natCast, getD_lt _ h, wrap_up (by omega), wrap_i64 (by omega) (by omega)]
      rfl)
    (fun b i h hI _ => by
      have hx := hb _ (List.getElem_mem h)
      omega)
    (fun m b hI => (laws_sum.l3_succ ..).trans (bif_f (dec_f (by omega))))
    l.length 0 k 0 (by omega) (BIG_lt hk hl) (by omega)
  refine h.trans ?_
  rw [List.drop_zero, run_fold, foldl_add, Int.zero_add]
end Go.Proofs.YtpdkglbbhfhlfaaGreat
