/- Plain Lean functions, printed by a program out of the Go functions' translation: what each computes, without program and memory. -/
import Derived.Test.YtmdfedjdnjaaiaaGreatFFnExactGameAt
import Derived.Test.YtmdfedjdnjaaiaaGreatFFnExactMatchRound
set_option linter.unusedVariables false
namespace Go.Proofs.YtmdfedjdnjaaiaaGreat
open Go Go.Proofs.YtmdfedjdnjaaiaaGreat.V

def spec_CouldHave.f (k : Nat) (a0 a1 : Int) (a2 a3 : Bool) (a4 a5 : LI) (a6 a7 : Int) (a8 : LI) (a9 : Bool) (a10 : LI) (a11 a12 : Int) (a13 a14 : Bool) (a15 a16 : LI) (a17 a18 : Int) (a19 : LL) (a20 a21 : LI) (a22 a23 a24 : Int) (a25 : LI) (a26 : LL) (g : Int) : Option (LI) :=
 (spec_GameAt.f k a0 a1 a2 a3 a4 a5 a6 a7 a8 a9 a10 a11 a12 a13 a14 a15 a16 a17 a18 a19 a20 a21 a22 a23 a24 a25 a26 g).bind fun r1 =>
 bif (!(t9 (t5 r1))) then
  some ([])
 else
  (spec_Playable.f k r1.1 r1.2.1 (t2 r1).1 (t3 r1).1 (t4 r1).1 (t5 r1).1 (t6 r1).1 (t7 r1).1 (t8 r1).1 (t9 r1).1 (t9 r1.2).1 (t9 (t2 r1)).1 (t9 (t3 r1)).1 (t9 (t4 r1)).1).bind fun r2 =>
  some r2

def impl_CouldHave.f (k : Nat) (a0 a1 : Int) (a2 a3 : Bool) (a4 a5 : LI) (a6 a7 : Int) (a8 : LI) (a9 : Bool) (a10 : LI) (a11 a12 : Int) (a13 a14 : Bool) (a15 a16 : LI) (a17 a18 : Int) (a19 : LL) (a20 a21 : LI) (a22 a23 a24 : Int) (a25 : LI) (a26 : LL) (g : Int) : Option (LI) :=
 (impl_GameAt.f k a0 a1 a2 a3 a4 a5 a6 a7 a8 a9 a10 a11 a12 a13 a14 a15 a16 a17 a18 a19 a20 a21 a22 a23 a24 a25 a26 g).bind fun r1 =>
 bif (!(t9 (t5 r1))) then
  some ([])
 else
  (impl_Playable.f k r1.1 r1.2.1 (t2 r1).1 (t3 r1).1 (t4 r1).1 (t5 r1).1 (t6 r1).1 (t7 r1).1 (t8 r1).1 (t9 r1).1 (t9 r1.2).1 (t9 (t2 r1)).1 (t9 (t3 r1)).1 (t9 (t4 r1)).1).bind fun r2 =>
  some r2

def laws_FnExactCouldHave.f (k : Nat) (a0 a1 : Int) (a2 a3 : Bool) (a4 a5 : LI) (a6 a7 : Int) (a8 : LI) (a9 : Bool) (a10 : LI) (a11 a12 : Int) (a13 a14 : Bool) (a15 a16 : LI) (a17 a18 : Int) (a19 : LL) (a20 a21 : LI) (a22 a23 a24 : Int) (a25 : LI) (a26 : LL) (g : Int) : Option (Bool) :=
 (laws_szTable.f k a0 a1 a2 a3 a4 a5 a6 a7 a8 a9 a10 a11 a12 a13 a14 a15 a16 a17 a18 a19 a20 a21 a22 a23 a24 a25 a26 1048576).bind fun r1 =>
 bif decide (r1 < 0) then
  some true
 else
  (laws_toTable.f k a0 a1 a2 a3 a4 a5 a6 a7 a8 a9 a10 a11 a12 a13 a14 a15 a16 a17 a18 a19 a20 a21 a22 a23 a24 a25 a26).bind fun r2 =>
  (spec_CouldHave.f k r2.1 r2.2.1 (t2 r2).1 (t3 r2).1 (t4 r2).1 (t5 r2).1 (t6 r2).1 (t7 r2).1 (t8 r2).1 (t9 r2).1 (t9 r2.2).1 (t9 (t2 r2)).1 (t9 (t3 r2)).1 (t9 (t4 r2)).1 (t9 (t5 r2)).1 (t9 (t6 r2)).1 (t9 (t7 r2)).1 (t9 (t8 r2)).1 (t9 (t9 r2)).1 (t9 (t9 r2.2)).1 (t9 (t9 (t2 r2))).1 (t9 (t9 (t3 r2))).1 (t9 (t9 (t4 r2))).1 (t9 (t9 (t5 r2))).1 (t9 (t9 (t6 r2))).1 (t9 (t9 (t7 r2))).1 (t9 (t9 (t8 r2))) g).bind fun r3 =>
  (laws_toTable.f k a0 a1 a2 a3 a4 a5 a6 a7 a8 a9 a10 a11 a12 a13 a14 a15 a16 a17 a18 a19 a20 a21 a22 a23 a24 a25 a26).bind fun r4 =>
  (impl_CouldHave.f k r4.1 r4.2.1 (t2 r4).1 (t3 r4).1 (t4 r4).1 (t5 r4).1 (t6 r4).1 (t7 r4).1 (t8 r4).1 (t9 r4).1 (t9 r4.2).1 (t9 (t2 r4)).1 (t9 (t3 r4)).1 (t9 (t4 r4)).1 (t9 (t5 r4)).1 (t9 (t6 r4)).1 (t9 (t7 r4)).1 (t9 (t8 r4)).1 (t9 (t9 r4)).1 (t9 (t9 r4.2)).1 (t9 (t9 (t2 r4))).1 (t9 (t9 (t3 r4))).1 (t9 (t9 (t4 r4))).1 (t9 (t9 (t5 r4))).1 (t9 (t9 (t6 r4))).1 (t9 (t9 (t7 r4))).1 (t9 (t9 (t8 r4))) g).bind fun r5 =>
  (laws_eqIntS.f k r5 r3).bind fun r6 =>
  bif (!r6) then
   some false
  else
   (laws_toTable.f k a0 a1 a2 a3 a4 a5 a6 a7 a8 a9 a10 a11 a12 a13 a14 a15 a16 a17 a18 a19 a20 a21 a22 a23 a24 a25 a26).bind fun r7 =>
   (laws_eqTable.f k r4.1 r4.2.1 (t2 r4).1 (t3 r4).1 (t4 r4).1 (t5 r4).1 (t6 r4).1 (t7 r4).1 (t8 r4).1 (t9 r4).1 (t9 r4.2).1 (t9 (t2 r4)).1 (t9 (t3 r4)).1 (t9 (t4 r4)).1 (t9 (t5 r4)).1 (t9 (t6 r4)).1 (t9 (t7 r4)).1 (t9 (t8 r4)).1 (t9 (t9 r4)).1 (t9 (t9 r4.2)).1 (t9 (t9 (t2 r4))).1 (t9 (t9 (t3 r4))).1 (t9 (t9 (t4 r4))).1 (t9 (t9 (t5 r4))).1 (t9 (t9 (t6 r4))).1 (t9 (t9 (t7 r4))).1 (t9 (t9 (t8 r4))) r7.1 r7.2.1 (t2 r7).1 (t3 r7).1 (t4 r7).1 (t5 r7).1 (t6 r7).1 (t7 r7).1 (t8 r7).1 (t9 r7).1 (t9 r7.2).1 (t9 (t2 r7)).1 (t9 (t3 r7)).1 (t9 (t4 r7)).1 (t9 (t5 r7)).1 (t9 (t6 r7)).1 (t9 (t7 r7)).1 (t9 (t8 r7)).1 (t9 (t9 r7)).1 (t9 (t9 r7.2)).1 (t9 (t9 (t2 r7))).1 (t9 (t9 (t3 r7))).1 (t9 (t9 (t4 r7))).1 (t9 (t9 (t5 r7))).1 (t9 (t9 (t6 r7))).1 (t9 (t9 (t7 r7))).1 (t9 (t9 (t8 r7)))).bind fun r8 =>
   bif (!r8) then
    some false
   else
    (laws_markTable.f k r4.1 r4.2.1 (t2 r4).1 (t3 r4).1 (t4 r4).1 (t5 r4).1 (t6 r4).1 (t7 r4).1 (t8 r4).1 (t9 r4).1 (t9 r4.2).1 (t9 (t2 r4)).1 (t9 (t3 r4)).1 (t9 (t4 r4)).1 (t9 (t5 r4)).1 (t9 (t6 r4)).1 (t9 (t7 r4)).1 (t9 (t8 r4)).1 (t9 (t9 r4)).1 (t9 (t9 r4.2)).1 (t9 (t9 (t2 r4))).1 (t9 (t9 (t3 r4))).1 (t9 (t9 (t4 r4))).1 (t9 (t9 (t5 r4))).1 (t9 (t9 (t6 r4))).1 (t9 (t9 (t7 r4))).1 (t9 (t9 (t8 r4))) 1).bind fun r9 =>
    bif decide (r9.1 < 0) then
     some false
    else
     (laws_eqIntS.f k r5 r3).bind fun r10 =>
     bif (!r10) then
      some false
     else
      (laws_markIntS.f k r5 1).bind fun r11 =>
      (laws_heldIntS.f k r11.2 1).bind fun r12 =>
      bif decide (r12 < 0) then
       some false
      else
       bif (r12 != r11.1) then
        some false
       else
        (laws_toTable.f k a0 a1 a2 a3 a4 a5 a6 a7 a8 a9 a10 a11 a12 a13 a14 a15 a16 a17 a18 a19 a20 a21 a22 a23 a24 a25 a26).bind fun r13 =>
        (impl_CouldHave.f k r13.1 r13.2.1 (t2 r13).1 (t3 r13).1 (t4 r13).1 (t5 r13).1 (t6 r13).1 (t7 r13).1 (t8 r13).1 (t9 r13).1 (t9 r13.2).1 (t9 (t2 r13)).1 (t9 (t3 r13)).1 (t9 (t4 r13)).1 (t9 (t5 r13)).1 (t9 (t6 r13)).1 (t9 (t7 r13)).1 (t9 (t8 r13)).1 (t9 (t9 r13)).1 (t9 (t9 r13.2)).1 (t9 (t9 (t2 r13))).1 (t9 (t9 (t3 r13))).1 (t9 (t9 (t4 r13))).1 (t9 (t9 (t5 r13))).1 (t9 (t9 (t6 r13))).1 (t9 (t9 (t7 r13))).1 (t9 (t9 (t8 r13))) g).bind fun r14 =>
        (laws_eqIntS.f k r14 r3).bind fun r15 =>
        bif (!r15) then
         some false
        else
         (laws_heldIntS.f k r11.2 1).bind fun r16 =>
         bif decide (r16 < 0) then
          some false
         else
          bif (r16 != r11.1) then
           some false
          else
           some true
end Go.Proofs.YtmdfedjdnjaaiaaGreat
