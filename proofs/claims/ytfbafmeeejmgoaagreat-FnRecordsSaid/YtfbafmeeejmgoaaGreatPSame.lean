/- Lists compared by the laws, in plain Lean. Conditions: enough rounds. -/
import Derived.Test.YtfbafmeeejmgoaaGreatKit
import Derived.Test.YtfbafmeeejmgoaaGreatFFnRecords
import Derived.Test.YtfbafmeeejmgoaaGreatPEqual
set_option linter.unusedVariables false
set_option linter.unusedSimpArgs false
namespace Go.Proofs.YtfbafmeeejmgoaaGreat
open Go Go.Proofs.YtfbafmeeejmgoaaGreat.V
theorem laws_sameInts.eq {k : Nat} (hk : BIG ≤ k) {a : List Int} (b : List Int) (hl : a.length < 1048577) : laws_sameInts.f k a b = some (decide (a = b)) := by
  by_cases h : (a.length : Int) = (b.length : Int)
  · have h' : a.length = b.length := by omega
    have key : ∀ (m i n : Nat), i + m = a.length → m < n → laws_sameInts.l4 k a b (some false) (some true) n (i : Int) = some (decide (a.drop i = b.drop i)) := by
      intro m
      induction m with
      | zero =>
        intro i n hi hn
        obtain ⟨n, rfl⟩ : ∃ n', n = n' + 1 := ⟨n - 1, by omega⟩
        rw [List.drop_eq_nil_of_le (by omega), List.drop_eq_nil_of_le (by omega)]
        exact (laws_sameInts.l4_succ ..).trans (bif_f (dec_f (by omega)))
      | succ m ih =>
        intro i n hi hn
        obtain ⟨n, rfl⟩ : ∃ n', n = n' + 1 := ⟨n - 1, by omega⟩
        have ha : i < a.length := by omega
        have hb : i < b.length := by omega
        refine (laws_sameInts.l4_succ ..).trans ((bif_t (dec_t (by omega))).trans ((chk_t (in_t ha)).trans ((chk_t (in_t hb)).trans ?_)))
        rw [Int.toNat_natCast, getD_lt _ ha, getD_lt _ hb, wrap_up (by omega), drop_eq_dec ha hb]
        by_cases he : a[i] = b[i]
        · rw [dec_t he]
          exact (bif_f (by simp [he])).trans (ih (i + 1) n (by omega) (by omega))
        · rw [dec_f he]
          exact bif_t (by simp [he])
    exact (bif_f (by simp [h'])).trans (key a.length 0 k (by omega) (BIG_lt hk hl))
  · rw [dec_f (fun e => h (by rw [e]))]
    exact bif_t (by simpa using h)
end Go.Proofs.YtfbafmeeejmgoaaGreat
