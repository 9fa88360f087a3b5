/- Plain Lean functions, printed by a program out of the Go functions' translation: what each computes, without program and memory. -/
import Derived.Test.YtbblolalkpfapaaGreatFFnExactMatchWinner
import Derived.Test.YtbblolalkpfapaaGreatFFnExactBranch
set_option linter.unusedVariables false
namespace Go.Proofs.YtbblolalkpfapaaGreat
open Go Go.Proofs.YtbblolalkpfapaaGreat.V

def spec_l33Copy.f (k : Nat) (a0 a1 : Int) (a2 a3 : Bool) (a4 a5 : LI) (a6 a7 : Int) (a8 : LI) (a9 : Bool) (a10 : LI) (a11 a12 : Int) (a13 a14 : Bool) (a15 a16 : LI) (a17 a18 : Int) (a19 : LL) (a20 a21 : LI) (a22 a23 a24 : Int) (a25 : LI) (a26 : LL) : Option (Int × Int × Bool × Bool × LI × LI × Int × Int × LI × Bool × LI × Int × Int × Bool × Bool × LI × LI × Int × Int × LL × LI × LI × Int × Int × Int × LI × LL) :=
 (spec_l22Copy.f k a0 a1 a2 a3 a4 a5 a6 a7).bind fun r1 =>
 chk (decide ((0 + a8.length) * 8 ≤ room)) <|
 chk (decide ((0 + a10.length) * 8 ≤ room)) <|
 (spec_l24Copy.f k a11 a12 a13 a14 a15 a16 a17 a18 a19 a20 a21 a22 a23 a24).bind fun r2 =>
 chk (decide ((0 + a25.length) * 8 ≤ room)) <|
 (spec_l15Copy.f k a26).bind fun r3 =>
 some (r1.1, r1.2.1, (t2 r1).1, (t3 r1).1, (t4 r1).1, (t5 r1).1, (t6 r1).1, (t7 r1), [] ++ a8, a9, [] ++ a10, r2.1, r2.2.1, (t2 r2).1, (t3 r2).1, (t4 r2).1, (t5 r2).1, (t6 r2).1, (t7 r2).1, (t8 r2).1, (t9 r2).1, (t9 r2.2).1, (t9 (t2 r2)).1, (t9 (t3 r2)).1, (t9 (t4 r2)), [] ++ a25, r3)

def spec_l34Done.f (k : Nat) (a0 a1 : Int) (a2 a3 : Bool) (a4 a5 : LI) (a6 a7 : Int) (a8 : LI) (a9 : Bool) (a10 : LI) (a11 a12 : Int) (a13 a14 : Bool) (a15 a16 : LI) (a17 a18 : Int) (a19 : LL) (a20 a21 : LI) (a22 a23 a24 : Int) (a25 : LI) (a26 : LL) (g0 g1 : Int) (g2 g3 : Bool) (g4 g5 : LI) (g6 g7 : Int) (g8 : LI) (g9 : Bool) (g10 : LI) (g11 g12 : Int) (g13 g14 : Bool) (g15 g16 : LI) (g17 g18 : Int) (g19 : LL) (g20 g21 : LI) (g22 g23 g24 : Int) (g25 : LI) (g26 : LL) (i : Bool) : Option (Int × Int × Bool × Bool × LI × LI × Int × Int × LI × Bool × LI × Int × Int × Bool × Bool × LI × LI × Int × Int × LL × LI × LI × Int × Int × Int × LI × LL × Bool) :=
 bif (!i) then
  (spec_l33Copy.f k a0 a1 a2 a3 a4 a5 a6 a7 a8 a9 a10 a11 a12 a13 a14 a15 a16 a17 a18 a19 a20 a21 a22 a23 a24 a25 a26).bind fun r1 =>
  some (r1.1, r1.2.1, (t2 r1).1, (t3 r1).1, (t4 r1).1, (t5 r1).1, (t6 r1).1, (t7 r1).1, (t8 r1).1, (t9 r1).1, (t9 r1.2).1, (t9 (t2 r1)).1, (t9 (t3 r1)).1, (t9 (t4 r1)).1, (t9 (t5 r1)).1, (t9 (t6 r1)).1, (t9 (t7 r1)).1, (t9 (t8 r1)).1, (t9 (t9 r1)).1, (t9 (t9 r1.2)).1, (t9 (t9 (t2 r1))).1, (t9 (t9 (t3 r1))).1, (t9 (t9 (t4 r1))).1, (t9 (t9 (t5 r1))).1, (t9 (t9 (t6 r1))).1, (t9 (t9 (t7 r1))).1, (t9 (t9 (t8 r1))), false)
 else
  (spec_IsTable.f k a0 a1 a2 a3 a4 a5 a6 a7 a8 a9 a10 a11 a12 a13 a14 a15 a16 a17 a18 a19 a20 a21 a22 a23 a24 a25 a26).bind fun r2 =>
  bif (!r2) then
   (spec_l33Copy.f k a0 a1 a2 a3 a4 a5 a6 a7 a8 a9 a10 a11 a12 a13 a14 a15 a16 a17 a18 a19 a20 a21 a22 a23 a24 a25 a26).bind fun r3 =>
   some (r3.1, r3.2.1, (t2 r3).1, (t3 r3).1, (t4 r3).1, (t5 r3).1, (t6 r3).1, (t7 r3).1, (t8 r3).1, (t9 r3).1, (t9 r3.2).1, (t9 (t2 r3)).1, (t9 (t3 r3)).1, (t9 (t4 r3)).1, (t9 (t5 r3)).1, (t9 (t6 r3)).1, (t9 (t7 r3)).1, (t9 (t8 r3)).1, (t9 (t9 r3)).1, (t9 (t9 r3.2)).1, (t9 (t9 (t2 r3))).1, (t9 (t9 (t3 r3))).1, (t9 (t9 (t4 r3))).1, (t9 (t9 (t5 r3))).1, (t9 (t9 (t6 r3))).1, (t9 (t9 (t7 r3))).1, (t9 (t9 (t8 r3))), false)
  else
   (spec_IsTable.f k g0 g1 g2 g3 g4 g5 g6 g7 g8 g9 g10 g11 g12 g13 g14 g15 g16 g17 g18 g19 g20 g21 g22 g23 g24 g25 g26).bind fun r4 =>
   bif (!r4) then
    (spec_l33Copy.f k a0 a1 a2 a3 a4 a5 a6 a7 a8 a9 a10 a11 a12 a13 a14 a15 a16 a17 a18 a19 a20 a21 a22 a23 a24 a25 a26).bind fun r5 =>
    some (r5.1, r5.2.1, (t2 r5).1, (t3 r5).1, (t4 r5).1, (t5 r5).1, (t6 r5).1, (t7 r5).1, (t8 r5).1, (t9 r5).1, (t9 r5.2).1, (t9 (t2 r5)).1, (t9 (t3 r5)).1, (t9 (t4 r5)).1, (t9 (t5 r5)).1, (t9 (t6 r5)).1, (t9 (t7 r5)).1, (t9 (t8 r5)).1, (t9 (t9 r5)).1, (t9 (t9 r5.2)).1, (t9 (t9 (t2 r5))).1, (t9 (t9 (t3 r5))).1, (t9 (t9 (t4 r5))).1, (t9 (t9 (t5 r5))).1, (t9 (t9 (t6 r5))).1, (t9 (t9 (t7 r5))).1, (t9 (t9 (t8 r5))), false)
   else
    some (g0, g1, g2, g3, g4, g5, g6, g7, g8, g9, g10, g11, g12, g13, g14, g15, g16, g17, g18, g19, g20, g21, g22, g23, g24, g25, g26, true)

def spec_StepSeal.f (k : Nat) (a0 a1 : Int) (a2 a3 : Bool) (a4 a5 : LI) (a6 a7 : Int) (a8 : LI) (a9 : Bool) (a10 : LI) (a11 a12 : Int) (a13 a14 : Bool) (a15 a16 : LI) (a17 a18 : Int) (a19 : LL) (a20 a21 : LI) (a22 a23 a24 : Int) (a25 : LI) (a26 : LL) (g : Int) : Option (Int × Int × Bool × Bool × LI × LI × Int × Int × LI × Bool × LI × Int × Int × Bool × Bool × LI × LI × Int × Int × LL × LI × LI × Int × Int × Int × LI × LL × Bool) :=
 (spec_l33Copy.f k a0 a1 a2 a3 a4 a5 a6 a7 a8 a9 a10 a11 a12 a13 a14 a15 a16 a17 a18 a19 a20 a21 a22 a23 a24 a25 a26).bind fun r1 =>
 chk (decide (((t8 r1).1.length + 1) * 8 ≤ room)) <|
 (spec_l34Done.f k a0 a1 a2 a3 a4 a5 a6 a7 a8 a9 a10 a11 a12 a13 a14 a15 a16 a17 a18 a19 a20 a21 a22 a23 a24 a25 a26 r1.1 r1.2.1 (t2 r1).1 (t3 r1).1 (t4 r1).1 (t5 r1).1 (t6 r1).1 (t7 r1).1 ((t8 r1).1 ++ [g]) (t9 r1).1 (t9 r1.2).1 (t9 (t2 r1)).1 (t9 (t3 r1)).1 (t9 (t4 r1)).1 (t9 (t5 r1)).1 (t9 (t6 r1)).1 (t9 (t7 r1)).1 (t9 (t8 r1)).1 (t9 (t9 r1)).1 (t9 (t9 r1.2)).1 (t9 (t9 (t2 r1))).1 (t9 (t9 (t3 r1))).1 (t9 (t9 (t4 r1))).1 (t9 (t9 (t5 r1))).1 (t9 (t9 (t6 r1))).1 (t9 (t9 (t7 r1))).1 (t9 (t9 (t8 r1))) (!a9)).bind fun r2 =>
 some (r2.1, r2.2.1, (t2 r2).1, (t3 r2).1, (t4 r2).1, (t5 r2).1, (t6 r2).1, (t7 r2).1, (t8 r2).1, (t9 r2).1, (t9 r2.2).1, (t9 (t2 r2)).1, (t9 (t3 r2)).1, (t9 (t4 r2)).1, (t9 (t5 r2)).1, (t9 (t6 r2)).1, (t9 (t7 r2)).1, (t9 (t8 r2)).1, (t9 (t9 r2)).1, (t9 (t9 r2.2)).1, (t9 (t9 (t2 r2))).1, (t9 (t9 (t3 r2))).1, (t9 (t9 (t4 r2))).1, (t9 (t9 (t5 r2))).1, (t9 (t9 (t6 r2))).1, (t9 (t9 (t7 r2))).1, (t9 (t9 (t8 r2))).1, (t9 (t9 (t9 r2))))

def impl_Table_copied.f (k : Nat) (a0 a1 : Int) (a2 a3 : Bool) (a4 a5 : LI) (a6 a7 : Int) (a8 : LI) (a9 : Bool) (a10 : LI) (a11 a12 : Int) (a13 a14 : Bool) (a15 a16 : LI) (a17 a18 : Int) (a19 : LL) (a20 a21 : LI) (a22 a23 a24 : Int) (a25 : LI) (a26 : LL) : Option (Int × Int × Bool × Bool × LI × LI × Int × Int × LI × Bool × LI × Int × Int × Bool × Bool × LI × LI × Int × Int × LL × LI × LI × Int × Int × Int × LI × LL) :=
 (impl_Rules_copied.f k a0 a1 a2 a3 a4 a5 a6 a7).bind fun r1 =>
 (impl_copyOf.f k a8).bind fun r2 =>
 (impl_copyOf.f k a10).bind fun r3 =>
 (impl_Game_copied.f k a11 a12 a13 a14 a15 a16 a17 a18 a19 a20 a21 a22 a23 a24).bind fun r4 =>
 (impl_copyOf.f k a25).bind fun r5 =>
 (impl_copyRows.f k a26).bind fun r6 =>
 some (r1.1, r1.2.1, (t2 r1).1, (t3 r1).1, (t4 r1).1, (t5 r1).1, (t6 r1).1, (t7 r1), r2, a9, r3, r4.1, r4.2.1, (t2 r4).1, (t3 r4).1, (t4 r4).1, (t5 r4).1, (t6 r4).1, (t7 r4).1, (t8 r4).1, (t9 r4).1, (t9 r4.2).1, (t9 (t2 r4)).1, (t9 (t3 r4)).1, (t9 (t4 r4)), r5, r6)

def impl_Table_becomes.f (k : Nat) (a0 a1 : Int) (a2 a3 : Bool) (a4 a5 : LI) (a6 a7 : Int) (a8 : LI) (a9 : Bool) (a10 : LI) (a11 a12 : Int) (a13 a14 : Bool) (a15 a16 : LI) (a17 a18 : Int) (a19 : LL) (a20 a21 : LI) (a22 a23 a24 : Int) (a25 : LI) (a26 : LL) (g0 g1 : Int) (g2 g3 : Bool) (g4 g5 : LI) (g6 g7 : Int) (g8 : LI) (g9 : Bool) (g10 : LI) (g11 g12 : Int) (g13 g14 : Bool) (g15 g16 : LI) (g17 g18 : Int) (g19 : LL) (g20 g21 : LI) (g22 g23 g24 : Int) (g25 : LI) (g26 : LL) (i : Bool) : Option (Int × Int × Bool × Bool × LI × LI × Int × Int × LI × Bool × LI × Int × Int × Bool × Bool × LI × LI × Int × Int × LL × LI × LI × Int × Int × Int × LI × LL × Bool) :=
 bif (!i) then
  (impl_Table_copied.f k a0 a1 a2 a3 a4 a5 a6 a7 a8 a9 a10 a11 a12 a13 a14 a15 a16 a17 a18 a19 a20 a21 a22 a23 a24 a25 a26).bind fun r1 =>
  some (r1.1, r1.2.1, (t2 r1).1, (t3 r1).1, (t4 r1).1, (t5 r1).1, (t6 r1).1, (t7 r1).1, (t8 r1).1, (t9 r1).1, (t9 r1.2).1, (t9 (t2 r1)).1, (t9 (t3 r1)).1, (t9 (t4 r1)).1, (t9 (t5 r1)).1, (t9 (t6 r1)).1, (t9 (t7 r1)).1, (t9 (t8 r1)).1, (t9 (t9 r1)).1, (t9 (t9 r1.2)).1, (t9 (t9 (t2 r1))).1, (t9 (t9 (t3 r1))).1, (t9 (t9 (t4 r1))).1, (t9 (t9 (t5 r1))).1, (t9 (t9 (t6 r1))).1, (t9 (t9 (t7 r1))).1, (t9 (t9 (t8 r1))), false)
 else
  (impl_IsTable.f k a0 a1 a2 a3 a4 a5 a6 a7 a8 a9 a10 a11 a12 a13 a14 a15 a16 a17 a18 a19 a20 a21 a22 a23 a24 a25 a26).bind fun r2 =>
  bif (!r2) then
   (impl_Table_copied.f k a0 a1 a2 a3 a4 a5 a6 a7 a8 a9 a10 a11 a12 a13 a14 a15 a16 a17 a18 a19 a20 a21 a22 a23 a24 a25 a26).bind fun r3 =>
   some (r3.1, r3.2.1, (t2 r3).1, (t3 r3).1, (t4 r3).1, (t5 r3).1, (t6 r3).1, (t7 r3).1, (t8 r3).1, (t9 r3).1, (t9 r3.2).1, (t9 (t2 r3)).1, (t9 (t3 r3)).1, (t9 (t4 r3)).1, (t9 (t5 r3)).1, (t9 (t6 r3)).1, (t9 (t7 r3)).1, (t9 (t8 r3)).1, (t9 (t9 r3)).1, (t9 (t9 r3.2)).1, (t9 (t9 (t2 r3))).1, (t9 (t9 (t3 r3))).1, (t9 (t9 (t4 r3))).1, (t9 (t9 (t5 r3))).1, (t9 (t9 (t6 r3))).1, (t9 (t9 (t7 r3))).1, (t9 (t9 (t8 r3))), false)
  else
   (impl_IsTable.f k g0 g1 g2 g3 g4 g5 g6 g7 g8 g9 g10 g11 g12 g13 g14 g15 g16 g17 g18 g19 g20 g21 g22 g23 g24 g25 g26).bind fun r4 =>
   bif (!r4) then
    (impl_Table_copied.f k a0 a1 a2 a3 a4 a5 a6 a7 a8 a9 a10 a11 a12 a13 a14 a15 a16 a17 a18 a19 a20 a21 a22 a23 a24 a25 a26).bind fun r5 =>
    some (r5.1, r5.2.1, (t2 r5).1, (t3 r5).1, (t4 r5).1, (t5 r5).1, (t6 r5).1, (t7 r5).1, (t8 r5).1, (t9 r5).1, (t9 r5.2).1, (t9 (t2 r5)).1, (t9 (t3 r5)).1, (t9 (t4 r5)).1, (t9 (t5 r5)).1, (t9 (t6 r5)).1, (t9 (t7 r5)).1, (t9 (t8 r5)).1, (t9 (t9 r5)).1, (t9 (t9 r5.2)).1, (t9 (t9 (t2 r5))).1, (t9 (t9 (t3 r5))).1, (t9 (t9 (t4 r5))).1, (t9 (t9 (t5 r5))).1, (t9 (t9 (t6 r5))).1, (t9 (t9 (t7 r5))).1, (t9 (t9 (t8 r5))), false)
   else
    some (g0, g1, g2, g3, g4, g5, g6, g7, g8, g9, g10, g11, g12, g13, g14, g15, g16, g17, g18, g19, g20, g21, g22, g23, g24, g25, g26, true)

def impl_StepSeal.f (k : Nat) (a0 a1 : Int) (a2 a3 : Bool) (a4 a5 : LI) (a6 a7 : Int) (a8 : LI) (a9 : Bool) (a10 : LI) (a11 a12 : Int) (a13 a14 : Bool) (a15 a16 : LI) (a17 a18 : Int) (a19 : LL) (a20 a21 : LI) (a22 a23 a24 : Int) (a25 : LI) (a26 : LL) (g : Int) : Option (Int × Int × Bool × Bool × LI × LI × Int × Int × LI × Bool × LI × Int × Int × Bool × Bool × LI × LI × Int × Int × LL × LI × LI × Int × Int × Int × LI × LL × Bool) :=
 (impl_Table_copied.f k a0 a1 a2 a3 a4 a5 a6 a7 a8 a9 a10 a11 a12 a13 a14 a15 a16 a17 a18 a19 a20 a21 a22 a23 a24 a25 a26).bind fun r1 =>
 chk (decide (((t8 r1).1.length + 1) * 8 ≤ room)) <|
 bif (!a9) then
  (impl_Table_becomes.f k a0 a1 a2 a3 a4 a5 a6 a7 a8 a9 a10 a11 a12 a13 a14 a15 a16 a17 a18 a19 a20 a21 a22 a23 a24 a25 a26 r1.1 r1.2.1 (t2 r1).1 (t3 r1).1 (t4 r1).1 (t5 r1).1 (t6 r1).1 (t7 r1).1 ((t8 r1).1 ++ [g]) (t9 r1).1 (t9 r1.2).1 (t9 (t2 r1)).1 (t9 (t3 r1)).1 (t9 (t4 r1)).1 (t9 (t5 r1)).1 (t9 (t6 r1)).1 (t9 (t7 r1)).1 (t9 (t8 r1)).1 (t9 (t9 r1)).1 (t9 (t9 r1.2)).1 (t9 (t9 (t2 r1))).1 (t9 (t9 (t3 r1))).1 (t9 (t9 (t4 r1))).1 (t9 (t9 (t5 r1))).1 (t9 (t9 (t6 r1))).1 (t9 (t9 (t7 r1))).1 (t9 (t9 (t8 r1))) (decide ((a8.length : Int) < a0))).bind fun r2 =>
  some (r2.1, r2.2.1, (t2 r2).1, (t3 r2).1, (t4 r2).1, (t5 r2).1, (t6 r2).1, (t7 r2).1, (t8 r2).1, (t9 r2).1, (t9 r2.2).1, (t9 (t2 r2)).1, (t9 (t3 r2)).1, (t9 (t4 r2)).1, (t9 (t5 r2)).1, (t9 (t6 r2)).1, (t9 (t7 r2)).1, (t9 (t8 r2)).1, (t9 (t9 r2)).1, (t9 (t9 r2.2)).1, (t9 (t9 (t2 r2))).1, (t9 (t9 (t3 r2))).1, (t9 (t9 (t4 r2))).1, (t9 (t9 (t5 r2))).1, (t9 (t9 (t6 r2))).1, (t9 (t9 (t7 r2))).1, (t9 (t9 (t8 r2))).1, (t9 (t9 (t9 r2))))
 else
  (impl_Table_becomes.f k a0 a1 a2 a3 a4 a5 a6 a7 a8 a9 a10 a11 a12 a13 a14 a15 a16 a17 a18 a19 a20 a21 a22 a23 a24 a25 a26 r1.1 r1.2.1 (t2 r1).1 (t3 r1).1 (t4 r1).1 (t5 r1).1 (t6 r1).1 (t7 r1).1 ((t8 r1).1 ++ [g]) (t9 r1).1 (t9 r1.2).1 (t9 (t2 r1)).1 (t9 (t3 r1)).1 (t9 (t4 r1)).1 (t9 (t5 r1)).1 (t9 (t6 r1)).1 (t9 (t7 r1)).1 (t9 (t8 r1)).1 (t9 (t9 r1)).1 (t9 (t9 r1.2)).1 (t9 (t9 (t2 r1))).1 (t9 (t9 (t3 r1))).1 (t9 (t9 (t4 r1))).1 (t9 (t9 (t5 r1))).1 (t9 (t9 (t6 r1))).1 (t9 (t9 (t7 r1))).1 (t9 (t9 (t8 r1))) false).bind fun r3 =>
  some (r3.1, r3.2.1, (t2 r3).1, (t3 r3).1, (t4 r3).1, (t5 r3).1, (t6 r3).1, (t7 r3).1, (t8 r3).1, (t9 r3).1, (t9 r3.2).1, (t9 (t2 r3)).1, (t9 (t3 r3)).1, (t9 (t4 r3)).1, (t9 (t5 r3)).1, (t9 (t6 r3)).1, (t9 (t7 r3)).1, (t9 (t8 r3)).1, (t9 (t9 r3)).1, (t9 (t9 r3.2)).1, (t9 (t9 (t2 r3))).1, (t9 (t9 (t3 r3))).1, (t9 (t9 (t4 r3))).1, (t9 (t9 (t5 r3))).1, (t9 (t9 (t6 r3))).1, (t9 (t9 (t7 r3))).1, (t9 (t9 (t8 r3))).1, (t9 (t9 (t9 r3))))

def laws_heldTable.f (k : Nat) (a0 a1 : Int) (a2 a3 : Bool) (a4 a5 : LI) (a6 a7 : Int) (a8 : LI) (a9 : Bool) (a10 : LI) (a11 a12 : Int) (a13 a14 : Bool) (a15 a16 : LI) (a17 a18 : Int) (a19 : LL) (a20 a21 : LI) (a22 a23 a24 : Int) (a25 : LI) (a26 : LL) (g : Int) : Option (Int) :=
 (laws_heldRules.f k a0 a1 a2 a3 a4 a5 a6 a7 g).bind fun r1 =>
 bif decide (r1 < 0) then
  some (-1)
 else
  (laws_heldIntS.f k a8 r1).bind fun r2 =>
  bif decide (r2 < 0) then
   some (-1)
  else
   (laws_heldIntS.f k a10 r2).bind fun r3 =>
   bif decide (r3 < 0) then
    some (-1)
   else
    (laws_heldGame.f k a11 a12 a13 a14 a15 a16 a17 a18 a19 a20 a21 a22 a23 a24 r3).bind fun r4 =>
    bif decide (r4 < 0) then
     some (-1)
    else
     (laws_heldIntS.f k a25 r4).bind fun r5 =>
     bif decide (r5 < 0) then
      some (-1)
     else
      (laws_heldIntSS.f k a26 r5).bind fun r6 =>
      bif decide (r6 < 0) then
       some (-1)
      else
       some r6

def laws_FnExactStepSeal.f (k : Nat) (a0 a1 : Int) (a2 a3 : Bool) (a4 a5 : LI) (a6 a7 : Int) (a8 : LI) (a9 : Bool) (a10 : LI) (a11 a12 : Int) (a13 a14 : Bool) (a15 a16 : LI) (a17 a18 : Int) (a19 : LL) (a20 a21 : LI) (a22 a23 a24 : Int) (a25 : LI) (a26 : LL) (g : Int) : Option (Bool) :=
 (laws_szTable.f k a0 a1 a2 a3 a4 a5 a6 a7 a8 a9 a10 a11 a12 a13 a14 a15 a16 a17 a18 a19 a20 a21 a22 a23 a24 a25 a26 1048576).bind fun r1 =>
 bif decide (r1 < 0) then
  some true
 else
  (laws_toTable.f k a0 a1 a2 a3 a4 a5 a6 a7 a8 a9 a10 a11 a12 a13 a14 a15 a16 a17 a18 a19 a20 a21 a22 a23 a24 a25 a26).bind fun r2 =>
  (spec_StepSeal.f k r2.1 r2.2.1 (t2 r2).1 (t3 r2).1 (t4 r2).1 (t5 r2).1 (t6 r2).1 (t7 r2).1 (t8 r2).1 (t9 r2).1 (t9 r2.2).1 (t9 (t2 r2)).1 (t9 (t3 r2)).1 (t9 (t4 r2)).1 (t9 (t5 r2)).1 (t9 (t6 r2)).1 (t9 (t7 r2)).1 (t9 (t8 r2)).1 (t9 (t9 r2)).1 (t9 (t9 r2.2)).1 (t9 (t9 (t2 r2))).1 (t9 (t9 (t3 r2))).1 (t9 (t9 (t4 r2))).1 (t9 (t9 (t5 r2))).1 (t9 (t9 (t6 r2))).1 (t9 (t9 (t7 r2))).1 (t9 (t9 (t8 r2))) g).bind fun r3 =>
  (laws_toTable.f k a0 a1 a2 a3 a4 a5 a6 a7 a8 a9 a10 a11 a12 a13 a14 a15 a16 a17 a18 a19 a20 a21 a22 a23 a24 a25 a26).bind fun r4 =>
  (impl_StepSeal.f k r4.1 r4.2.1 (t2 r4).1 (t3 r4).1 (t4 r4).1 (t5 r4).1 (t6 r4).1 (t7 r4).1 (t8 r4).1 (t9 r4).1 (t9 r4.2).1 (t9 (t2 r4)).1 (t9 (t3 r4)).1 (t9 (t4 r4)).1 (t9 (t5 r4)).1 (t9 (t6 r4)).1 (t9 (t7 r4)).1 (t9 (t8 r4)).1 (t9 (t9 r4)).1 (t9 (t9 r4.2)).1 (t9 (t9 (t2 r4))).1 (t9 (t9 (t3 r4))).1 (t9 (t9 (t4 r4))).1 (t9 (t9 (t5 r4))).1 (t9 (t9 (t6 r4))).1 (t9 (t9 (t7 r4))).1 (t9 (t9 (t8 r4))) g).bind fun r5 =>
  (laws_eqTable.f k r5.1 r5.2.1 (t2 r5).1 (t3 r5).1 (t4 r5).1 (t5 r5).1 (t6 r5).1 (t7 r5).1 (t8 r5).1 (t9 r5).1 (t9 r5.2).1 (t9 (t2 r5)).1 (t9 (t3 r5)).1 (t9 (t4 r5)).1 (t9 (t5 r5)).1 (t9 (t6 r5)).1 (t9 (t7 r5)).1 (t9 (t8 r5)).1 (t9 (t9 r5)).1 (t9 (t9 r5.2)).1 (t9 (t9 (t2 r5))).1 (t9 (t9 (t3 r5))).1 (t9 (t9 (t4 r5))).1 (t9 (t9 (t5 r5))).1 (t9 (t9 (t6 r5))).1 (t9 (t9 (t7 r5))).1 (t9 (t9 (t8 r5))).1 r3.1 r3.2.1 (t2 r3).1 (t3 r3).1 (t4 r3).1 (t5 r3).1 (t6 r3).1 (t7 r3).1 (t8 r3).1 (t9 r3).1 (t9 r3.2).1 (t9 (t2 r3)).1 (t9 (t3 r3)).1 (t9 (t4 r3)).1 (t9 (t5 r3)).1 (t9 (t6 r3)).1 (t9 (t7 r3)).1 (t9 (t8 r3)).1 (t9 (t9 r3)).1 (t9 (t9 r3.2)).1 (t9 (t9 (t2 r3))).1 (t9 (t9 (t3 r3))).1 (t9 (t9 (t4 r3))).1 (t9 (t9 (t5 r3))).1 (t9 (t9 (t6 r3))).1 (t9 (t9 (t7 r3))).1 (t9 (t9 (t8 r3))).1).bind fun r6 =>
  bif (!r6) then
   some false
  else
   bif (!((t9 (t9 (t9 r5))) == (t9 (t9 (t9 r3))))) then
    some false
   else
    (laws_toTable.f k a0 a1 a2 a3 a4 a5 a6 a7 a8 a9 a10 a11 a12 a13 a14 a15 a16 a17 a18 a19 a20 a21 a22 a23 a24 a25 a26).bind fun r7 =>
    (laws_eqTable.f k r4.1 r4.2.1 (t2 r4).1 (t3 r4).1 (t4 r4).1 (t5 r4).1 (t6 r4).1 (t7 r4).1 (t8 r4).1 (t9 r4).1 (t9 r4.2).1 (t9 (t2 r4)).1 (t9 (t3 r4)).1 (t9 (t4 r4)).1 (t9 (t5 r4)).1 (t9 (t6 r4)).1 (t9 (t7 r4)).1 (t9 (t8 r4)).1 (t9 (t9 r4)).1 (t9 (t9 r4.2)).1 (t9 (t9 (t2 r4))).1 (t9 (t9 (t3 r4))).1 (t9 (t9 (t4 r4))).1 (t9 (t9 (t5 r4))).1 (t9 (t9 (t6 r4))).1 (t9 (t9 (t7 r4))).1 (t9 (t9 (t8 r4))) r7.1 r7.2.1 (t2 r7).1 (t3 r7).1 (t4 r7).1 (t5 r7).1 (t6 r7).1 (t7 r7).1 (t8 r7).1 (t9 r7).1 (t9 r7.2).1 (t9 (t2 r7)).1 (t9 (t3 r7)).1 (t9 (t4 r7)).1 (t9 (t5 r7)).1 (t9 (t6 r7)).1 (t9 (t7 r7)).1 (t9 (t8 r7)).1 (t9 (t9 r7)).1 (t9 (t9 r7.2)).1 (t9 (t9 (t2 r7))).1 (t9 (t9 (t3 r7))).1 (t9 (t9 (t4 r7))).1 (t9 (t9 (t5 r7))).1 (t9 (t9 (t6 r7))).1 (t9 (t9 (t7 r7))).1 (t9 (t9 (t8 r7)))).bind fun r8 =>
    bif (!r8) then
     some false
    else
     (laws_markTable.f k r4.1 r4.2.1 (t2 r4).1 (t3 r4).1 (t4 r4).1 (t5 r4).1 (t6 r4).1 (t7 r4).1 (t8 r4).1 (t9 r4).1 (t9 r4.2).1 (t9 (t2 r4)).1 (t9 (t3 r4)).1 (t9 (t4 r4)).1 (t9 (t5 r4)).1 (t9 (t6 r4)).1 (t9 (t7 r4)).1 (t9 (t8 r4)).1 (t9 (t9 r4)).1 (t9 (t9 r4.2)).1 (t9 (t9 (t2 r4))).1 (t9 (t9 (t3 r4))).1 (t9 (t9 (t4 r4))).1 (t9 (t9 (t5 r4))).1 (t9 (t9 (t6 r4))).1 (t9 (t9 (t7 r4))).1 (t9 (t9 (t8 r4))) 1).bind fun r9 =>
     bif decide (r9.1 < 0) then
      some false
     else
      (laws_eqTable.f k r5.1 r5.2.1 (t2 r5).1 (t3 r5).1 (t4 r5).1 (t5 r5).1 (t6 r5).1 (t7 r5).1 (t8 r5).1 (t9 r5).1 (t9 r5.2).1 (t9 (t2 r5)).1 (t9 (t3 r5)).1 (t9 (t4 r5)).1 (t9 (t5 r5)).1 (t9 (t6 r5)).1 (t9 (t7 r5)).1 (t9 (t8 r5)).1 (t9 (t9 r5)).1 (t9 (t9 r5.2)).1 (t9 (t9 (t2 r5))).1 (t9 (t9 (t3 r5))).1 (t9 (t9 (t4 r5))).1 (t9 (t9 (t5 r5))).1 (t9 (t9 (t6 r5))).1 (t9 (t9 (t7 r5))).1 (t9 (t9 (t8 r5))).1 r3.1 r3.2.1 (t2 r3).1 (t3 r3).1 (t4 r3).1 (t5 r3).1 (t6 r3).1 (t7 r3).1 (t8 r3).1 (t9 r3).1 (t9 r3.2).1 (t9 (t2 r3)).1 (t9 (t3 r3)).1 (t9 (t4 r3)).1 (t9 (t5 r3)).1 (t9 (t6 r3)).1 (t9 (t7 r3)).1 (t9 (t8 r3)).1 (t9 (t9 r3)).1 (t9 (t9 r3.2)).1 (t9 (t9 (t2 r3))).1 (t9 (t9 (t3 r3))).1 (t9 (t9 (t4 r3))).1 (t9 (t9 (t5 r3))).1 (t9 (t9 (t6 r3))).1 (t9 (t9 (t7 r3))).1 (t9 (t9 (t8 r3))).1).bind fun r10 =>
      bif (!r10) then
       some false
      else
       bif (!((t9 (t9 (t9 r5))) == (t9 (t9 (t9 r3))))) then
        some false
       else
        (laws_markTable.f k r5.1 r5.2.1 (t2 r5).1 (t3 r5).1 (t4 r5).1 (t5 r5).1 (t6 r5).1 (t7 r5).1 (t8 r5).1 (t9 r5).1 (t9 r5.2).1 (t9 (t2 r5)).1 (t9 (t3 r5)).1 (t9 (t4 r5)).1 (t9 (t5 r5)).1 (t9 (t6 r5)).1 (t9 (t7 r5)).1 (t9 (t8 r5)).1 (t9 (t9 r5)).1 (t9 (t9 r5.2)).1 (t9 (t9 (t2 r5))).1 (t9 (t9 (t3 r5))).1 (t9 (t9 (t4 r5))).1 (t9 (t9 (t5 r5))).1 (t9 (t9 (t6 r5))).1 (t9 (t9 (t7 r5))).1 (t9 (t9 (t8 r5))).1 1).bind fun r11 =>
        (laws_heldTable.f k r5.1 r5.2.1 (t2 r5).1 (t3 r5).1 (t5 r11).1 (t6 r11).1 (t6 r5).1 (t7 r5).1 (t9 r11).1 (t9 r5).1 (t9 (t2 r11)).1 (t9 (t2 r5)).1 (t9 (t3 r5)).1 (t9 (t4 r5)).1 (t9 (t5 r5)).1 (t9 (t7 r11)).1 (t9 (t8 r11)).1 (t9 (t8 r5)).1 (t9 (t9 r5)).1 (t9 (t9 (t2 r11))).1 (t9 (t9 (t3 r11))).1 (t9 (t9 (t4 r11))).1 (t9 (t9 (t4 r5))).1 (t9 (t9 (t5 r5))).1 (t9 (t9 (t6 r5))).1 (t9 (t9 (t8 r11))).1 (t9 (t9 (t9 r11))) 1).bind fun r12 =>
        bif decide (r12 < 0) then
         some false
        else
         bif (r12 != r11.1) then
          some false
         else
          (laws_toTable.f k a0 a1 a2 a3 a4 a5 a6 a7 a8 a9 a10 a11 a12 a13 a14 a15 a16 a17 a18 a19 a20 a21 a22 a23 a24 a25 a26).bind fun r13 =>
          (impl_StepSeal.f k r13.1 r13.2.1 (t2 r13).1 (t3 r13).1 (t4 r13).1 (t5 r13).1 (t6 r13).1 (t7 r13).1 (t8 r13).1 (t9 r13).1 (t9 r13.2).1 (t9 (t2 r13)).1 (t9 (t3 r13)).1 (t9 (t4 r13)).1 (t9 (t5 r13)).1 (t9 (t6 r13)).1 (t9 (t7 r13)).1 (t9 (t8 r13)).1 (t9 (t9 r13)).1 (t9 (t9 r13.2)).1 (t9 (t9 (t2 r13))).1 (t9 (t9 (t3 r13))).1 (t9 (t9 (t4 r13))).1 (t9 (t9 (t5 r13))).1 (t9 (t9 (t6 r13))).1 (t9 (t9 (t7 r13))).1 (t9 (t9 (t8 r13))) g).bind fun r14 =>
          (laws_eqTable.f k r14.1 r14.2.1 (t2 r14).1 (t3 r14).1 (t4 r14).1 (t5 r14).1 (t6 r14).1 (t7 r14).1 (t8 r14).1 (t9 r14).1 (t9 r14.2).1 (t9 (t2 r14)).1 (t9 (t3 r14)).1 (t9 (t4 r14)).1 (t9 (t5 r14)).1 (t9 (t6 r14)).1 (t9 (t7 r14)).1 (t9 (t8 r14)).1 (t9 (t9 r14)).1 (t9 (t9 r14.2)).1 (t9 (t9 (t2 r14))).1 (t9 (t9 (t3 r14))).1 (t9 (t9 (t4 r14))).1 (t9 (t9 (t5 r14))).1 (t9 (t9 (t6 r14))).1 (t9 (t9 (t7 r14))).1 (t9 (t9 (t8 r14))).1 r3.1 r3.2.1 (t2 r3).1 (t3 r3).1 (t4 r3).1 (t5 r3).1 (t6 r3).1 (t7 r3).1 (t8 r3).1 (t9 r3).1 (t9 r3.2).1 (t9 (t2 r3)).1 (t9 (t3 r3)).1 (t9 (t4 r3)).1 (t9 (t5 r3)).1 (t9 (t6 r3)).1 (t9 (t7 r3)).1 (t9 (t8 r3)).1 (t9 (t9 r3)).1 (t9 (t9 r3.2)).1 (t9 (t9 (t2 r3))).1 (t9 (t9 (t3 r3))).1 (t9 (t9 (t4 r3))).1 (t9 (t9 (t5 r3))).1 (t9 (t9 (t6 r3))).1 (t9 (t9 (t7 r3))).1 (t9 (t9 (t8 r3))).1).bind fun r15 =>
          bif (!r15) then
           some false
          else
           bif (!((t9 (t9 (t9 r14))) == (t9 (t9 (t9 r3))))) then
            some false
           else
            (laws_heldTable.f k r5.1 r5.2.1 (t2 r5).1 (t3 r5).1 (t5 r11).1 (t6 r11).1 (t6 r5).1 (t7 r5).1 (t9 r11).1 (t9 r5).1 (t9 (t2 r11)).1 (t9 (t2 r5)).1 (t9 (t3 r5)).1 (t9 (t4 r5)).1 (t9 (t5 r5)).1 (t9 (t7 r11)).1 (t9 (t8 r11)).1 (t9 (t8 r5)).1 (t9 (t9 r5)).1 (t9 (t9 (t2 r11))).1 (t9 (t9 (t3 r11))).1 (t9 (t9 (t4 r11))).1 (t9 (t9 (t4 r5))).1 (t9 (t9 (t5 r5))).1 (t9 (t9 (t6 r5))).1 (t9 (t9 (t8 r11))).1 (t9 (t9 (t9 r11))) 1).bind fun r16 =>
            bif decide (r16 < 0) then
             some false
            else
             bif (r16 != r11.1) then
              some false
             else
              some true
end Go.Proofs.YtbblolalkpfapaaGreat
