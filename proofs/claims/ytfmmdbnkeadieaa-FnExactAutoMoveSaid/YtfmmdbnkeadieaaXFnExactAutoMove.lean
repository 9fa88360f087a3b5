/- Sizes, copies, comparisons in plain Lean. Conditions: enough rounds, what the statement's guard lets pass. Printed by a program. -/
import Derived.Test.YtfmmdbnkeadieaaXFnExactRecordOut
import Derived.Test.YtfmmdbnkeadieaaKit
import Derived.Test.YtfmmdbnkeadieaaFFnExactAutoMove
set_option linter.unusedVariables false
set_option linter.unusedSimpArgs false
namespace Go.Proofs.Ytfmmdbnkeadieaa
open Go Go.Proofs.Ytfmmdbnkeadieaa.V
/-! laws.heldRules -/
theorem laws_heldRules.eq {k : Nat} (hk : BIG ≤ k) (a0 : Int) (a1 : Int) (a2 : Bool) (a3 : Bool) (a4 : List Int) (a5 : List Int) (a6 : Int) (a7 : Int) (m m1 m2 : Int) (q0 : mkI a4 m m1) (q1 : mkI a5 m1 m2) (hm0 : 0 ≤ m) (hm : m ≤ 1152921504606846976) : laws_heldRules.f k a0 a1 a2 a3 a4 a5 a6 a7 m = some m2 := by
  have b0 := mkI_le q0
  have b1 := mkI_le q1
  exact (bind_s (laws_heldIntS.eq hk a4 m m1 q0 (by omega) (by omega))).trans <| (bif_f (dec_f (by omega))).trans <| (bind_s (laws_heldIntS.eq hk a5 m1 m2 q1 (by omega) (by omega))).trans <| (bif_f (dec_f (by omega))).trans <| rfl
/-! laws.heldIntSS -/
theorem laws_heldIntSS.eq {k : Nat} (hk : BIG ≤ k) (w : List (List Int)) (m m' : Int) (hw : mkII w m m') (h0 : 0 ≤ m) (hm : m ≤ 1154047404513689600) : laws_heldIntSS.f k w m = some m' := by
  obtain ⟨hl, _, _, hj⟩ := hw
  have key : ∀ (r i n : Nat) (m : Int), i + r = w.length → r < n → mkIIs (w.drop i) m m' → 0 ≤ m → m ≤ 1154047404513689600 + (i : Int) * 1048576 → laws_heldIntSS.l2 k w (fun x1 => some (-1 : Int)) (fun x2 => some x2) n m (i : Int) = some m' := by
    intro r
    induction r with
    | zero =>
      intro i n m hi hn hj h0 hm
      obtain ⟨n, rfl⟩ : ∃ n', n = n' + 1 := ⟨n - 1, by omega⟩
      rw [List.drop_eq_nil_of_le (by omega)] at hj
      have hj : m' = m := hj
      subst hj
      exact (laws_heldIntSS.l2_succ ..).trans (bif_f (dec_f (by omega)))
    | succ r ih =>
      intro i n m hi hn hj h0 hm
      obtain ⟨n, rfl⟩ : ∃ n', n = n' + 1 := ⟨n - 1, by omega⟩
      have hil : i < w.length := by omega
      rw [drop_cons hil] at hj
      obtain ⟨q, hq, hj⟩ := hj
      have hb := mkI_le hq
      refine (laws_heldIntSS.l2_succ ..).trans ((bif_t (dec_t (by omega))).trans ((chk_t (in_t hil)).trans ?_))
      rw [Int.toNat_natCast, getD_lt _ hil]
      refine (bind_s (laws_heldIntS.eq hk _ _ _ hq h0 (by omega))).trans ((bif_f (dec_f (by omega))).trans ?_)
      rw [wrap_up (by omega)]
      exact ih (i + 1) n q (by omega) (by omega) hj (by omega) (by omega)
  exact key w.length 0 k m (by omega) (BIG_lt hk hl) (by simpa using hj) h0 (by omega)
/-! laws.heldGame -/
theorem laws_heldGame.eq {k : Nat} (hk : BIG ≤ k) (a0 : Int) (a1 : Int) (a2 : Bool) (a3 : Bool) (a4 : List Int) (a5 : List Int) (a6 : Int) (a7 : Int) (a8 : List (List Int)) (a9 : List Int) (a10 : List Int) (a11 : Int) (a12 : Int) (a13 : Int) (m m1 m2 m3 m4 m5 : Int) (q0 : mkI a4 m m1) (q1 : mkI a5 m1 m2) (q2 : mkII a8 m2 m3) (q3 : mkI a9 m3 m4) (q4 : mkI a10 m4 m5) (hm0 : 0 ≤ m) (hm : m ≤ 1151795604700004352) : laws_heldGame.f k a0 a1 a2 a3 a4 a5 a6 a7 a8 a9 a10 a11 a12 a13 m = some m5 := by
  have b0 := mkI_le q0
  have b1 := mkI_le q1
  have b2 := mkII_le q2
  have b3 := mkI_le q3
  have b4 := mkI_le q4
  exact (bind_s (laws_heldRules.eq hk a0 a1 a2 a3 a4 a5 a6 a7 m m1 m2 q0 q1 (by omega) (by omega))).trans <| (bif_f (dec_f (by omega))).trans <| (bind_s (laws_heldIntSS.eq hk a8 m2 m3 q2 (by omega) (by omega))).trans <| (bif_f (dec_f (by omega))).trans <| (bind_s (laws_heldIntS.eq hk a9 m3 m4 q3 (by omega) (by omega))).trans <| (bif_f (dec_f (by omega))).trans <| (bind_s (laws_heldIntS.eq hk a10 m4 m5 q4 (by omega) (by omega))).trans <| (bif_f (dec_f (by omega))).trans <| rfl
end Go.Proofs.Ytfmmdbnkeadieaa
