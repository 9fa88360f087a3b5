/- Sizes, copies, comparisons in plain Lean. Conditions: enough rounds, what the statement's guard lets pass. Printed by a program. -/
import Derived.Test.YtbblolalkpfapaaGreatXFnExactMatchWinner
import Derived.Test.YtbblolalkpfapaaGreatXFnExactBranch
import Derived.Test.YtbblolalkpfapaaGreatKit
import Derived.Test.YtbblolalkpfapaaGreatFFnExactStepSeal
set_option linter.unusedVariables false
set_option linter.unusedSimpArgs false
namespace Go.Proofs.YtbblolalkpfapaaGreat
open Go Go.Proofs.YtbblolalkpfapaaGreat.V
/-! laws.heldTable -/
theorem laws_heldTable.eq {k : Nat} (hk : BIG ≤ k) (a0 : Int) (a1 : Int) (a2 : Bool) (a3 : Bool) (a4 : List Int) (a5 : List Int) (a6 : Int) (a7 : Int) (a8 : List Int) (a9 : Bool) (a10 : List Int) (a11 : Int) (a12 : Int) (a13 : Bool) (a14 : Bool) (a15 : List Int) (a16 : List Int) (a17 : Int) (a18 : Int) (a19 : List (List Int)) (a20 : List Int) (a21 : List Int) (a22 : Int) (a23 : Int) (a24 : Int) (a25 : List Int) (a26 : List (List Int)) (m m1 m2 m3 m4 m5 m6 m7 m8 m9 m10 m11 : Int) (q0 : mkI a4 m m1) (q1 : mkI a5 m1 m2) (q2 : mkI a8 m2 m3) (q3 : mkI a10 m3 m4) (q4 : mkI a15 m4 m5) (q5 : mkI a16 m5 m6) (q6 : mkII a19 m6 m7) (q7 : mkI a20 m7 m8) (q8 : mkI a21 m8 m9) (q9 : mkI a25 m9 m10) (q10 : mkII a26 m10 m11) (hm0 : 0 ≤ m) (hm : m ≤ 1150669704793161728) : laws_heldTable.f k a0 a1 a2 a3 a4 a5 a6 a7 a8 a9 a10 a11 a12 a13 a14 a15 a16 a17 a18 a19 a20 a21 a22 a23 a24 a25 a26 m = some m11 := by
  have b0 := mkI_le q0
  have b1 := mkI_le q1
  have b2 := mkI_le q2
  have b3 := mkI_le q3
  have b4 := mkI_le q4
  have b5 := mkI_le q5
  have b6 := mkII_le q6
  have b7 := mkI_le q7
  have b8 := mkI_le q8
  have b9 := mkI_le q9
  have b10 := mkII_le q10
  exact (bind_s (laws_heldRules.eq hk a0 a1 a2 a3 a4 a5 a6 a7 m m1 m2 q0 q1 (by omega) (by omega))).trans <| (bif_f (dec_f (by omega))).trans <| (bind_s (laws_heldIntS.eq hk a8 m2 m3 q2 (by omega) (by omega))).trans <| (bif_f (dec_f (by omega))).trans <| (bind_s (laws_heldIntS.eq hk a10 m3 m4 q3 (by omega) (by omega))).trans <| (bif_f (dec_f (by omega))).trans <| (bind_s (laws_heldGame.eq hk a11 a12 a13 a14 a15 a16 a17 a18 a19 a20 a21 a22 a23 a24 m4 m5 m6 m7 m8 m9 q4 q5 q6 q7 q8 (by omega) (by omega))).trans <| (bif_f (dec_f (by omega))).trans <| (bind_s (laws_heldIntS.eq hk a25 m9 m10 q9 (by omega) (by omega))).trans <| (bif_f (dec_f (by omega))).trans <| (bind_s (laws_heldIntSS.eq hk a26 m10 m11 q10 (by omega) (by omega))).trans <| (bif_f (dec_f (by omega))).trans <| rfl
end Go.Proofs.YtbblolalkpfapaaGreat
