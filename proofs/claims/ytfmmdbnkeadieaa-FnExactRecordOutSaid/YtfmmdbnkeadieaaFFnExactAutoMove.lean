/- Plain Lean functions, printed by a program out of the Go functions' translation: what each computes, without program and memory. -/
import Derived.Test.YtfmmdbnkeadieaaFFnExactRecordOut
set_option linter.unusedVariables false
namespace Go.Proofs.Ytfmmdbnkeadieaa
open Go Go.Proofs.Ytfmmdbnkeadieaa.V

def impl_AutoMove.f (k : Nat) (a0 a1 : Int) (a2 a3 : Bool) (a4 a5 : LI) (a6 a7 : Int) (a8 : LL) (a9 a10 : LI) (a11 a12 a13 g : Int) : Option (Int × Int × Bool × Bool × LI × LI × Int × Int × LL × LI × LI × Int × Int × Int × Bool) :=
 (impl_ChoiceOf.f k a0 a1 a2 a3 a4 a5 a6 a7 a8 a9 a10 a11 a12 a13 g).bind fun r1 =>
 (impl_ReplayMove.f k a0 a1 a2 a3 a4 a5 a6 a7 a8 a9 a10 a11 a12 a13 r1).bind fun r2 =>
 some (r2.1, r2.2.1, (t2 r2).1, (t3 r2).1, (t4 r2).1, (t5 r2).1, (t6 r2).1, (t7 r2).1, (t8 r2).1, (t9 r2).1, (t9 r2.2).1, (t9 (t2 r2)).1, (t9 (t3 r2)).1, (t9 (t4 r2)).1, (t9 (t5 r2)))

def laws_heldRules.f (k : Nat) (a0 a1 : Int) (a2 a3 : Bool) (a4 a5 : LI) (a6 a7 g : Int) : Option (Int) :=
 (laws_heldIntS.f k a4 g).bind fun r1 =>
 bif decide (r1 < 0) then
  some (-1)
 else
  (laws_heldIntS.f k a5 r1).bind fun r2 =>
  bif decide (r2 < 0) then
   some (-1)
  else
   some r2

def laws_heldIntSS.s2 {R : Type} (k : Nat) (v0 : LL) (e0 e1 : Int → Option R) (rec : Int → Int → Option R) (v1 v2 : Int) : Option R :=
 bif decide (v2 < (v0.length : Int)) then
  chk ((decide (0 ≤ v2)) && (decide (v2 < (v0.length : Int)))) <|
  (laws_heldIntS.f k (v0.getD v2.toNat []) v1).bind fun r1 =>
  bif decide (r1 < 0) then
   e0 r1
  else
   rec r1 (IntKind.wrap .i64 (v2 + 1))
 else
  e1 v1
def laws_heldIntSS.l2 {R : Type} (k : Nat) (v0 : LL) (e0 e1 : Int → Option R) (n : Nat) (v1 v2 : Int) : Option R :=
 V.iter (A := Int × Int) (fun rec a => laws_heldIntSS.s2 k v0 e0 e1 (fun c0 c1 => rec (c0, c1)) a.1 a.2) n (v1, v2)
theorem laws_heldIntSS.l2_succ {R : Type} (k : Nat) (v0 : LL) (e0 e1 : Int → Option R) (n : Nat) (v1 v2 : Int) : laws_heldIntSS.l2 (R := R) k v0 e0 e1 (n + 1) v1 v2 = laws_heldIntSS.s2 k v0 e0 e1 (laws_heldIntSS.l2 k v0 e0 e1 n) v1 v2 := rfl
def laws_heldIntSS.f (k : Nat) (a : LL) (g : Int) : Option (Int) :=
 laws_heldIntSS.l2 k a (fun x2 =>
  some (-1)) (fun x3 =>
  some x3) k g 0

def laws_heldGame.f (k : Nat) (a0 a1 : Int) (a2 a3 : Bool) (a4 a5 : LI) (a6 a7 : Int) (a8 : LL) (a9 a10 : LI) (a11 a12 a13 g : Int) : Option (Int) :=
 (laws_heldRules.f k a0 a1 a2 a3 a4 a5 a6 a7 g).bind fun r1 =>
 bif decide (r1 < 0) then
  some (-1)
 else
  (laws_heldIntSS.f k a8 r1).bind fun r2 =>
  bif decide (r2 < 0) then
   some (-1)
  else
   (laws_heldIntS.f k a9 r2).bind fun r3 =>
   bif decide (r3 < 0) then
    some (-1)
   else
    (laws_heldIntS.f k a10 r3).bind fun r4 =>
    bif decide (r4 < 0) then
     some (-1)
    else
     some r4

def laws_FnExactAutoMove.f (k : Nat) (a0 a1 : Int) (a2 a3 : Bool) (a4 a5 : LI) (a6 a7 : Int) (a8 : LL) (a9 a10 : LI) (a11 a12 a13 g : Int) : Option (Bool) :=
 (laws_szGame.f k a0 a1 a2 a3 a4 a5 a6 a7 a8 a9 a10 a11 a12 a13 1048576).bind fun r1 =>
 bif decide (r1 < 0) then
  some true
 else
  (laws_toGame.f k a0 a1 a2 a3 a4 a5 a6 a7 a8 a9 a10 a11 a12 a13).bind fun r2 =>
  (spec_AutoMove.f k r2.1 r2.2.1 (t2 r2).1 (t3 r2).1 (t4 r2).1 (t5 r2).1 (t6 r2).1 (t7 r2).1 (t8 r2).1 (t9 r2).1 (t9 r2.2).1 (t9 (t2 r2)).1 (t9 (t3 r2)).1 (t9 (t4 r2)) g).bind fun r3 =>
  (laws_toGame.f k a0 a1 a2 a3 a4 a5 a6 a7 a8 a9 a10 a11 a12 a13).bind fun r4 =>
  (impl_AutoMove.f k r4.1 r4.2.1 (t2 r4).1 (t3 r4).1 (t4 r4).1 (t5 r4).1 (t6 r4).1 (t7 r4).1 (t8 r4).1 (t9 r4).1 (t9 r4.2).1 (t9 (t2 r4)).1 (t9 (t3 r4)).1 (t9 (t4 r4)) g).bind fun r5 =>
  (laws_eqGame.f k r5.1 r5.2.1 (t2 r5).1 (t3 r5).1 (t4 r5).1 (t5 r5).1 (t6 r5).1 (t7 r5).1 (t8 r5).1 (t9 r5).1 (t9 r5.2).1 (t9 (t2 r5)).1 (t9 (t3 r5)).1 (t9 (t4 r5)).1 r3.1 r3.2.1 (t2 r3).1 (t3 r3).1 (t4 r3).1 (t5 r3).1 (t6 r3).1 (t7 r3).1 (t8 r3).1 (t9 r3).1 (t9 r3.2).1 (t9 (t2 r3)).1 (t9 (t3 r3)).1 (t9 (t4 r3)).1).bind fun r6 =>
  bif (!r6) then
   some false
  else
   bif (!((t9 (t5 r5)) == (t9 (t5 r3)))) then
    some false
   else
    (laws_toGame.f k a0 a1 a2 a3 a4 a5 a6 a7 a8 a9 a10 a11 a12 a13).bind fun r7 =>
    (laws_eqGame.f k r4.1 r4.2.1 (t2 r4).1 (t3 r4).1 (t4 r4).1 (t5 r4).1 (t6 r4).1 (t7 r4).1 (t8 r4).1 (t9 r4).1 (t9 r4.2).1 (t9 (t2 r4)).1 (t9 (t3 r4)).1 (t9 (t4 r4)) r7.1 r7.2.1 (t2 r7).1 (t3 r7).1 (t4 r7).1 (t5 r7).1 (t6 r7).1 (t7 r7).1 (t8 r7).1 (t9 r7).1 (t9 r7.2).1 (t9 (t2 r7)).1 (t9 (t3 r7)).1 (t9 (t4 r7))).bind fun r8 =>
    bif (!r8) then
     some false
    else
     (laws_markGame.f k r4.1 r4.2.1 (t2 r4).1 (t3 r4).1 (t4 r4).1 (t5 r4).1 (t6 r4).1 (t7 r4).1 (t8 r4).1 (t9 r4).1 (t9 r4.2).1 (t9 (t2 r4)).1 (t9 (t3 r4)).1 (t9 (t4 r4)) 1).bind fun r9 =>
     bif decide (r9.1 < 0) then
      some false
     else
      (laws_eqGame.f k r5.1 r5.2.1 (t2 r5).1 (t3 r5).1 (t4 r5).1 (t5 r5).1 (t6 r5).1 (t7 r5).1 (t8 r5).1 (t9 r5).1 (t9 r5.2).1 (t9 (t2 r5)).1 (t9 (t3 r5)).1 (t9 (t4 r5)).1 r3.1 r3.2.1 (t2 r3).1 (t3 r3).1 (t4 r3).1 (t5 r3).1 (t6 r3).1 (t7 r3).1 (t8 r3).1 (t9 r3).1 (t9 r3.2).1 (t9 (t2 r3)).1 (t9 (t3 r3)).1 (t9 (t4 r3)).1).bind fun r10 =>
      bif (!r10) then
       some false
      else
       bif (!((t9 (t5 r5)) == (t9 (t5 r3)))) then
        some false
       else
        (laws_markGame.f k r5.1 r5.2.1 (t2 r5).1 (t3 r5).1 (t4 r5).1 (t5 r5).1 (t6 r5).1 (t7 r5).1 (t8 r5).1 (t9 r5).1 (t9 r5.2).1 (t9 (t2 r5)).1 (t9 (t3 r5)).1 (t9 (t4 r5)).1 1).bind fun r11 =>
        (laws_heldGame.f k r5.1 r5.2.1 (t2 r5).1 (t3 r5).1 (t5 r11).1 (t6 r11).1 (t6 r5).1 (t7 r5).1 (t9 r11).1 (t9 r11.2).1 (t9 (t2 r11)).1 (t9 (t2 r5)).1 (t9 (t3 r5)).1 (t9 (t4 r5)).1 1).bind fun r12 =>
        bif decide (r12 < 0) then
         some false
        else
         bif (r12 != r11.1) then
          some false
         else
          (laws_toGame.f k a0 a1 a2 a3 a4 a5 a6 a7 a8 a9 a10 a11 a12 a13).bind fun r13 =>
          (impl_AutoMove.f k r13.1 r13.2.1 (t2 r13).1 (t3 r13).1 (t4 r13).1 (t5 r13).1 (t6 r13).1 (t7 r13).1 (t8 r13).1 (t9 r13).1 (t9 r13.2).1 (t9 (t2 r13)).1 (t9 (t3 r13)).1 (t9 (t4 r13)) g).bind fun r14 =>
          (laws_eqGame.f k r14.1 r14.2.1 (t2 r14).1 (t3 r14).1 (t4 r14).1 (t5 r14).1 (t6 r14).1 (t7 r14).1 (t8 r14).1 (t9 r14).1 (t9 r14.2).1 (t9 (t2 r14)).1 (t9 (t3 r14)).1 (t9 (t4 r14)).1 r3.1 r3.2.1 (t2 r3).1 (t3 r3).1 (t4 r3).1 (t5 r3).1 (t6 r3).1 (t7 r3).1 (t8 r3).1 (t9 r3).1 (t9 r3.2).1 (t9 (t2 r3)).1 (t9 (t3 r3)).1 (t9 (t4 r3)).1).bind fun r15 =>
          bif (!r15) then
           some false
          else
           bif (!((t9 (t5 r14)) == (t9 (t5 r3)))) then
            some false
           else
            (laws_heldGame.f k r5.1 r5.2.1 (t2 r5).1 (t3 r5).1 (t5 r11).1 (t6 r11).1 (t6 r5).1 (t7 r5).1 (t9 r11).1 (t9 r11.2).1 (t9 (t2 r11)).1 (t9 (t2 r5)).1 (t9 (t3 r5)).1 (t9 (t4 r5)).1 1).bind fun r16 =>
            bif decide (r16 < 0) then
             some false
            else
             bif (r16 != r11.1) then
              some false
             else
              some true
end Go.Proofs.Ytfmmdbnkeadieaa
