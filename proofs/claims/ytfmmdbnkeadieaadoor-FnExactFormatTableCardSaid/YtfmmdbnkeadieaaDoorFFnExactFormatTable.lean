/- Plain Lean functions, printed by a program out of the Go functions' translation: what each computes, without program and memory. -/
import Derived.Test.YtfmmdbnkeadieaaDoorFFnExactFormatSheet
import Derived.Test.YtfmmdbnkeadieaaDoorFFnExactFormatNumbers
set_option linter.unusedVariables false
namespace Go.Proofs.YtfmmdbnkeadieaaDoor
open Go Go.Proofs.YtfmmdbnkeadieaaDoor.V

def laws_szRules.f (k : Nat) (a0 a1 : Int) (a2 a3 : Bool) (a4 a5 : LI) (a6 a7 g : Int) : Option (Int) :=
 (laws_szIntS.f k a4 g).bind fun r1 =>
 bif decide (r1 < 0) then
  some (-1)
 else
  (laws_szIntS.f k a5 r1).bind fun r2 =>
  bif decide (r2 < 0) then
   some (-1)
  else
   some r2

def laws_szGame.f (k : Nat) (a0 a1 : Int) (a2 a3 : Bool) (a4 a5 : LI) (a6 a7 : Int) (a8 : LL) (a9 a10 : LI) (a11 a12 a13 g : Int) : Option (Int) :=
 (laws_szRules.f k a0 a1 a2 a3 a4 a5 a6 a7 g).bind fun r1 =>
 bif decide (r1 < 0) then
  some (-1)
 else
  (laws_szIntSS.f k a8 r1).bind fun r2 =>
  bif decide (r2 < 0) then
   some (-1)
  else
   (laws_szIntS.f k a9 r2).bind fun r3 =>
   bif decide (r3 < 0) then
    some (-1)
   else
    (laws_szIntS.f k a10 r3).bind fun r4 =>
    bif decide (r4 < 0) then
     some (-1)
    else
     some r4

def laws_szTable.f (k : Nat) (a0 a1 : Int) (a2 a3 : Bool) (a4 a5 : LI) (a6 a7 : Int) (a8 : LI) (a9 : Bool) (a10 : LI) (a11 a12 : Int) (a13 a14 : Bool) (a15 a16 : LI) (a17 a18 : Int) (a19 : LL) (a20 a21 : LI) (a22 a23 a24 : Int) (a25 : LI) (a26 : LL) (g : Int) : Option (Int) :=
 (laws_szRules.f k a0 a1 a2 a3 a4 a5 a6 a7 g).bind fun r1 =>
 bif decide (r1 < 0) then
  some (-1)
 else
  (laws_szIntS.f k a8 r1).bind fun r2 =>
  bif decide (r2 < 0) then
   some (-1)
  else
   (laws_szIntS.f k a10 r2).bind fun r3 =>
   bif decide (r3 < 0) then
    some (-1)
   else
    (laws_szGame.f k a11 a12 a13 a14 a15 a16 a17 a18 a19 a20 a21 a22 a23 a24 r3).bind fun r4 =>
    bif decide (r4 < 0) then
     some (-1)
    else
     (laws_szIntS.f k a25 r4).bind fun r5 =>
     bif decide (r5 < 0) then
      some (-1)
     else
      (laws_szIntSS.f k a26 r5).bind fun r6 =>
      bif decide (r6 < 0) then
       some (-1)
      else
       some r6

def spec_FormatTable.f (k : Nat) (a0 a1 : Int) (a2 a3 : Bool) (a4 a5 : LI) (a6 a7 : Int) (a8 : LI) (a9 : Bool) (a10 : LI) (a11 a12 : Int) (a13 a14 : Bool) (a15 a16 : LI) (a17 a18 : Int) (a19 : LL) (a20 a21 : LI) (a22 a23 a24 : Int) (a25 : LI) (a26 : LL) : Option (ByteArray) :=
 bif a9 then
  (spec_FormatNumbers.f k [(a8.length : Int), (a25.length : Int), (a26.length : Int)]).bind fun r1 =>
  chk (decide (r1.size + (⟨#[32, 111, 110]⟩ : ByteArray).size ≤ maxI)) <|
  some (r1 ++ (⟨#[32, 111, 110]⟩ : ByteArray))
 else
  (spec_FormatNumbers.f k [(a8.length : Int), (a25.length : Int), (a26.length : Int)]).bind fun r2 =>
  chk (decide (r2.size + (⟨#[32, 111, 102, 102]⟩ : ByteArray).size ≤ maxI)) <|
  some (r2 ++ (⟨#[32, 111, 102, 102]⟩ : ByteArray))

def laws_toRules.f (k : Nat) (a0 a1 : Int) (a2 a3 : Bool) (a4 a5 : LI) (a6 a7 : Int) : Option (Int × Int × Bool × Bool × LI × LI × Int × Int) :=
 (laws_toIntS.f k a4).bind fun r1 =>
 (laws_toIntS.f k a5).bind fun r2 =>
 some (a0, a1, a2, a3, r1, r2, a6, a7)

def laws_toGame.f (k : Nat) (a0 a1 : Int) (a2 a3 : Bool) (a4 a5 : LI) (a6 a7 : Int) (a8 : LL) (a9 a10 : LI) (a11 a12 a13 : Int) : Option (Int × Int × Bool × Bool × LI × LI × Int × Int × LL × LI × LI × Int × Int × Int) :=
 (laws_toRules.f k a0 a1 a2 a3 a4 a5 a6 a7).bind fun r1 =>
 (laws_toIntSS.f k a8).bind fun r2 =>
 (laws_toIntS.f k a9).bind fun r3 =>
 (laws_toIntS.f k a10).bind fun r4 =>
 some (r1.1, r1.2.1, (t2 r1).1, (t3 r1).1, (t4 r1).1, (t5 r1).1, (t6 r1).1, (t7 r1), r2, r3, r4, a11, a12, a13)

def laws_toTable.f (k : Nat) (a0 a1 : Int) (a2 a3 : Bool) (a4 a5 : LI) (a6 a7 : Int) (a8 : LI) (a9 : Bool) (a10 : LI) (a11 a12 : Int) (a13 a14 : Bool) (a15 a16 : LI) (a17 a18 : Int) (a19 : LL) (a20 a21 : LI) (a22 a23 a24 : Int) (a25 : LI) (a26 : LL) : Option (Int × Int × Bool × Bool × LI × LI × Int × Int × LI × Bool × LI × Int × Int × Bool × Bool × LI × LI × Int × Int × LL × LI × LI × Int × Int × Int × LI × LL) :=
 (laws_toRules.f k a0 a1 a2 a3 a4 a5 a6 a7).bind fun r1 =>
 (laws_toIntS.f k a8).bind fun r2 =>
 (laws_toIntS.f k a10).bind fun r3 =>
 (laws_toGame.f k a11 a12 a13 a14 a15 a16 a17 a18 a19 a20 a21 a22 a23 a24).bind fun r4 =>
 (laws_toIntS.f k a25).bind fun r5 =>
 (laws_toIntSS.f k a26).bind fun r6 =>
 some (r1.1, r1.2.1, (t2 r1).1, (t3 r1).1, (t4 r1).1, (t5 r1).1, (t6 r1).1, (t7 r1), r2, a9, r3, r4.1, r4.2.1, (t2 r4).1, (t3 r4).1, (t4 r4).1, (t5 r4).1, (t6 r4).1, (t7 r4).1, (t8 r4).1, (t9 r4).1, (t9 r4.2).1, (t9 (t2 r4)).1, (t9 (t3 r4)).1, (t9 (t4 r4)), r5, r6)

def impl_FormatTable.f (k : Nat) (a0 a1 : Int) (a2 a3 : Bool) (a4 a5 : LI) (a6 a7 : Int) (a8 : LI) (a9 : Bool) (a10 : LI) (a11 a12 : Int) (a13 a14 : Bool) (a15 a16 : LI) (a17 a18 : Int) (a19 : LL) (a20 a21 : LI) (a22 a23 a24 : Int) (a25 : LI) (a26 : LL) : Option (ByteArray) :=
 bif a9 then
  (impl_numbersText.f k [(a8.length : Int), (a25.length : Int), (a26.length : Int)] (⟨#[32]⟩ : ByteArray)).bind fun r1 =>
  chk (decide (r1.size + (⟨#[32, 111, 110]⟩ : ByteArray).size ≤ maxI)) <|
  some (r1 ++ (⟨#[32, 111, 110]⟩ : ByteArray))
 else
  (impl_numbersText.f k [(a8.length : Int), (a25.length : Int), (a26.length : Int)] (⟨#[32]⟩ : ByteArray)).bind fun r2 =>
  chk (decide (r2.size + (⟨#[32, 111, 102, 102]⟩ : ByteArray).size ≤ maxI)) <|
  some (r2 ++ (⟨#[32, 111, 102, 102]⟩ : ByteArray))

def laws_eqRules.f (k : Nat) (a0 a1 : Int) (a2 a3 : Bool) (a4 a5 : LI) (a6 a7 g0 g1 : Int) (g2 g3 : Bool) (g4 g5 : LI) (g6 g7 : Int) : Option (Bool) :=
 bif (a0 != g0) then
  some false
 else
  bif (a1 != g1) then
   some false
  else
   bif (!(a2 == g2)) then
    some false
   else
    bif (!(a3 == g3)) then
     some false
    else
     (laws_eqIntS.f k a4 g4).bind fun r1 =>
     bif (!r1) then
      some false
     else
      (laws_eqIntS.f k a5 g5).bind fun r2 =>
      bif (!r2) then
       some false
      else
       bif (a6 != g6) then
        some false
       else
        bif (a7 != g7) then
         some false
        else
         some true

def laws_eqGame.f (k : Nat) (a0 a1 : Int) (a2 a3 : Bool) (a4 a5 : LI) (a6 a7 : Int) (a8 : LL) (a9 a10 : LI) (a11 a12 a13 g0 g1 : Int) (g2 g3 : Bool) (g4 g5 : LI) (g6 g7 : Int) (g8 : LL) (g9 g10 : LI) (g11 g12 g13 : Int) : Option (Bool) :=
 (laws_eqRules.f k a0 a1 a2 a3 a4 a5 a6 a7 g0 g1 g2 g3 g4 g5 g6 g7).bind fun r1 =>
 bif (!r1) then
  some false
 else
  (laws_eqIntSS.f k a8 g8).bind fun r2 =>
  bif (!r2) then
   some false
  else
   (laws_eqIntS.f k a9 g9).bind fun r3 =>
   bif (!r3) then
    some false
   else
    (laws_eqIntS.f k a10 g10).bind fun r4 =>
    bif (!r4) then
     some false
    else
     bif (a11 != g11) then
      some false
     else
      bif (a12 != g12) then
       some false
      else
       bif (a13 != g13) then
        some false
       else
        some true

def laws_eqTable.f (k : Nat) (a0 a1 : Int) (a2 a3 : Bool) (a4 a5 : LI) (a6 a7 : Int) (a8 : LI) (a9 : Bool) (a10 : LI) (a11 a12 : Int) (a13 a14 : Bool) (a15 a16 : LI) (a17 a18 : Int) (a19 : LL) (a20 a21 : LI) (a22 a23 a24 : Int) (a25 : LI) (a26 : LL) (g0 g1 : Int) (g2 g3 : Bool) (g4 g5 : LI) (g6 g7 : Int) (g8 : LI) (g9 : Bool) (g10 : LI) (g11 g12 : Int) (g13 g14 : Bool) (g15 g16 : LI) (g17 g18 : Int) (g19 : LL) (g20 g21 : LI) (g22 g23 g24 : Int) (g25 : LI) (g26 : LL) : Option (Bool) :=
 (laws_eqRules.f k a0 a1 a2 a3 a4 a5 a6 a7 g0 g1 g2 g3 g4 g5 g6 g7).bind fun r1 =>
 bif (!r1) then
  some false
 else
  (laws_eqIntS.f k a8 g8).bind fun r2 =>
  bif (!r2) then
   some false
  else
   bif (!(a9 == g9)) then
    some false
   else
    (laws_eqIntS.f k a10 g10).bind fun r3 =>
    bif (!r3) then
     some false
    else
     (laws_eqGame.f k a11 a12 a13 a14 a15 a16 a17 a18 a19 a20 a21 a22 a23 a24 g11 g12 g13 g14 g15 g16 g17 g18 g19 g20 g21 g22 g23 g24).bind fun r4 =>
     bif (!r4) then
      some false
     else
      (laws_eqIntS.f k a25 g25).bind fun r5 =>
      bif (!r5) then
       some false
      else
       (laws_eqIntSS.f k a26 g26).bind fun r6 =>
       bif (!r6) then
        some false
       else
        some true

def laws_FnExactFormatTable.f (k : Nat) (a0 a1 : Int) (a2 a3 : Bool) (a4 a5 : LI) (a6 a7 : Int) (a8 : LI) (a9 : Bool) (a10 : LI) (a11 a12 : Int) (a13 a14 : Bool) (a15 a16 : LI) (a17 a18 : Int) (a19 : LL) (a20 a21 : LI) (a22 a23 a24 : Int) (a25 : LI) (a26 : LL) : Option (Bool) :=
 (laws_szTable.f k a0 a1 a2 a3 a4 a5 a6 a7 a8 a9 a10 a11 a12 a13 a14 a15 a16 a17 a18 a19 a20 a21 a22 a23 a24 a25 a26 1048576).bind fun r1 =>
 bif decide (r1 < 0) then
  some true
 else
  (laws_toTable.f k a0 a1 a2 a3 a4 a5 a6 a7 a8 a9 a10 a11 a12 a13 a14 a15 a16 a17 a18 a19 a20 a21 a22 a23 a24 a25 a26).bind fun r2 =>
  (spec_FormatTable.f k r2.1 r2.2.1 (t2 r2).1 (t3 r2).1 (t4 r2).1 (t5 r2).1 (t6 r2).1 (t7 r2).1 (t8 r2).1 (t9 r2).1 (t9 r2.2).1 (t9 (t2 r2)).1 (t9 (t3 r2)).1 (t9 (t4 r2)).1 (t9 (t5 r2)).1 (t9 (t6 r2)).1 (t9 (t7 r2)).1 (t9 (t8 r2)).1 (t9 (t9 r2)).1 (t9 (t9 r2.2)).1 (t9 (t9 (t2 r2))).1 (t9 (t9 (t3 r2))).1 (t9 (t9 (t4 r2))).1 (t9 (t9 (t5 r2))).1 (t9 (t9 (t6 r2))).1 (t9 (t9 (t7 r2))).1 (t9 (t9 (t8 r2)))).bind fun r3 =>
  (laws_toTable.f k a0 a1 a2 a3 a4 a5 a6 a7 a8 a9 a10 a11 a12 a13 a14 a15 a16 a17 a18 a19 a20 a21 a22 a23 a24 a25 a26).bind fun r4 =>
  (impl_FormatTable.f k r4.1 r4.2.1 (t2 r4).1 (t3 r4).1 (t4 r4).1 (t5 r4).1 (t6 r4).1 (t7 r4).1 (t8 r4).1 (t9 r4).1 (t9 r4.2).1 (t9 (t2 r4)).1 (t9 (t3 r4)).1 (t9 (t4 r4)).1 (t9 (t5 r4)).1 (t9 (t6 r4)).1 (t9 (t7 r4)).1 (t9 (t8 r4)).1 (t9 (t9 r4)).1 (t9 (t9 r4.2)).1 (t9 (t9 (t2 r4))).1 (t9 (t9 (t3 r4))).1 (t9 (t9 (t4 r4))).1 (t9 (t9 (t5 r4))).1 (t9 (t9 (t6 r4))).1 (t9 (t9 (t7 r4))).1 (t9 (t9 (t8 r4)))).bind fun r5 =>
  bif (!(r5.toList == r3.toList)) then
   some false
  else
   (laws_toTable.f k a0 a1 a2 a3 a4 a5 a6 a7 a8 a9 a10 a11 a12 a13 a14 a15 a16 a17 a18 a19 a20 a21 a22 a23 a24 a25 a26).bind fun r6 =>
   (laws_eqTable.f k r4.1 r4.2.1 (t2 r4).1 (t3 r4).1 (t4 r4).1 (t5 r4).1 (t6 r4).1 (t7 r4).1 (t8 r4).1 (t9 r4).1 (t9 r4.2).1 (t9 (t2 r4)).1 (t9 (t3 r4)).1 (t9 (t4 r4)).1 (t9 (t5 r4)).1 (t9 (t6 r4)).1 (t9 (t7 r4)).1 (t9 (t8 r4)).1 (t9 (t9 r4)).1 (t9 (t9 r4.2)).1 (t9 (t9 (t2 r4))).1 (t9 (t9 (t3 r4))).1 (t9 (t9 (t4 r4))).1 (t9 (t9 (t5 r4))).1 (t9 (t9 (t6 r4))).1 (t9 (t9 (t7 r4))).1 (t9 (t9 (t8 r4))) r6.1 r6.2.1 (t2 r6).1 (t3 r6).1 (t4 r6).1 (t5 r6).1 (t6 r6).1 (t7 r6).1 (t8 r6).1 (t9 r6).1 (t9 r6.2).1 (t9 (t2 r6)).1 (t9 (t3 r6)).1 (t9 (t4 r6)).1 (t9 (t5 r6)).1 (t9 (t6 r6)).1 (t9 (t7 r6)).1 (t9 (t8 r6)).1 (t9 (t9 r6)).1 (t9 (t9 r6.2)).1 (t9 (t9 (t2 r6))).1 (t9 (t9 (t3 r6))).1 (t9 (t9 (t4 r6))).1 (t9 (t9 (t5 r6))).1 (t9 (t9 (t6 r6))).1 (t9 (t9 (t7 r6))).1 (t9 (t9 (t8 r6)))).bind fun r7 =>
   bif (!r7) then
    some false
   else
    some true
end Go.Proofs.YtfmmdbnkeadieaaDoor
