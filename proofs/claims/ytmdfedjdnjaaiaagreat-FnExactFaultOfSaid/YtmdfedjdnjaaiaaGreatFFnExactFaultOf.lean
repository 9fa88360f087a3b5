/- Plain Lean functions, printed by a program out of the Go functions' translation: what each computes, without program and memory. -/
import Derived.Test.YtmdfedjdnjaaiaaGreatFFnExactMatchRound
import Derived.Test.YtmdfedjdnjaaiaaGreatFFnExactGameAt
set_option linter.unusedVariables false
namespace Go.Proofs.YtmdfedjdnjaaiaaGreat
open Go Go.Proofs.YtmdfedjdnjaaiaaGreat.V

def spec_NothingLost.s5 {R : Type} (k : Nat) (v20 : LL) (e0 : LI → Option R) (rec : Int → LI → Option R) (v0 : Int) (v28 : LI) : Option R :=
 bif decide (v0 < (v20.length : Int)) then
  chk ((decide (0 ≤ v0)) && (decide (v0 < (v20.length : Int)))) <|
  chk (decide ((v28.length + ((v20.getD v0.toNat []).length)) * 8 ≤ room)) <|
  rec (IntKind.wrap .i64 (v0 + 1)) (v28 ++ (v20.getD v0.toNat []))
 else
  e0 v28
def spec_NothingLost.l5 {R : Type} (k : Nat) (v20 : LL) (e0 : LI → Option R) (n : Nat) (v0 : Int) (v28 : LI) : Option R :=
 V.iter (A := Int × LI) (fun rec a => spec_NothingLost.s5 k v20 e0 (fun c0 c1 => rec (c0, c1)) a.1 a.2) n (v0, v28)
theorem spec_NothingLost.l5_succ {R : Type} (k : Nat) (v20 : LL) (e0 : LI → Option R) (n : Nat) (v0 : Int) (v28 : LI) : spec_NothingLost.l5 (R := R) k v20 e0 (n + 1) v0 v28 = spec_NothingLost.s5 k v20 e0 (spec_NothingLost.l5 k v20 e0 n) v0 v28 := rfl
def spec_NothingLost.f (k : Nat) (a0 a1 : Int) (a2 a3 : Bool) (a4 a5 : LI) (a6 a7 : Int) (a8 : LI) (a9 : Bool) (a10 : LI) (a11 a12 : Int) (a13 a14 : Bool) (a15 a16 : LI) (a17 a18 : Int) (a19 : LL) (a20 a21 : LI) (a22 a23 a24 : Int) (a25 : LI) (a26 : LL) : Option (Bool) :=
 bif (!a9) then
  some true
 else
  chk (decide ((0 + a20.length) * 8 ≤ room)) <|
  chk (decide (((([] ++ a20).length) + a21.length) * 8 ≤ room)) <|
  spec_NothingLost.l5 k a19 (fun x1 =>
   (spec_IsHand.f k x1).bind fun r2 =>
   bif r2 then
    some ((x1.length : Int) == 52)
   else
    some false) k 0 (([] ++ a20) ++ a21)

def spec_IsRecorded.f (k : Nat) (a0 a1 : Int) (a2 a3 : Bool) (a4 a5 : LI) (a6 a7 : Int) (a8 : LI) (a9 : Bool) (a10 : LI) (a11 a12 : Int) (a13 a14 : Bool) (a15 a16 : LI) (a17 a18 : Int) (a19 : LL) (a20 a21 : LI) (a22 a23 a24 : Int) (a25 : LI) (a26 : LL) : Option (Bool) :=
 some ((a25.length : Int) == a23)

def spec_IsZeroSum.f (k : Nat) (a0 a1 : Int) (a2 a3 : Bool) (a4 a5 : LI) (a6 a7 : Int) (a8 : LI) (a9 : Bool) (a10 : LI) (a11 a12 : Int) (a13 a14 : Bool) (a15 a16 : LI) (a17 a18 : Int) (a19 : LL) (a20 a21 : LI) (a22 a23 a24 : Int) (a25 : LI) (a26 : LL) : Option (Bool) :=
 (spec_IsSheet.f k a0 a26).bind fun r1 =>
 some r1

def spec_FaultOf.f (k : Nat) (a0 a1 : Int) (a2 a3 : Bool) (a4 a5 : LI) (a6 a7 : Int) (a8 : LI) (a9 : Bool) (a10 : LI) (a11 a12 : Int) (a13 a14 : Bool) (a15 a16 : LI) (a17 a18 : Int) (a19 : LL) (a20 a21 : LI) (a22 a23 a24 : Int) (a25 : LI) (a26 : LL) : Option (ByteArray) :=
 (spec_NothingLost.f k a0 a1 a2 a3 a4 a5 a6 a7 a8 a9 a10 a11 a12 a13 a14 a15 a16 a17 a18 a19 a20 a21 a22 a23 a24 a25 a26).bind fun r1 =>
 bif (!r1) then
  some (⟨#[99, 97, 114, 100, 115]⟩ : ByteArray)
 else
  (spec_IsRecorded.f k a0 a1 a2 a3 a4 a5 a6 a7 a8 a9 a10 a11 a12 a13 a14 a15 a16 a17 a18 a19 a20 a21 a22 a23 a24 a25 a26).bind fun r2 =>
  bif (!r2) then
   some (⟨#[114, 101, 99, 111, 114, 100]⟩ : ByteArray)
  else
   (spec_IsZeroSum.f k a0 a1 a2 a3 a4 a5 a6 a7 a8 a9 a10 a11 a12 a13 a14 a15 a16 a17 a18 a19 a20 a21 a22 a23 a24 a25 a26).bind fun r3 =>
   bif (!r3) then
    some (⟨#[115, 104, 101, 101, 116]⟩ : ByteArray)
   else
    (spec_IsTable.f k a0 a1 a2 a3 a4 a5 a6 a7 a8 a9 a10 a11 a12 a13 a14 a15 a16 a17 a18 a19 a20 a21 a22 a23 a24 a25 a26).bind fun r4 =>
    bif (!r4) then
     some (⟨#[116, 97, 98, 108, 101]⟩ : ByteArray)
    else
     some ByteArray.empty

def impl_NothingLost.f (k : Nat) (a0 a1 : Int) (a2 a3 : Bool) (a4 a5 : LI) (a6 a7 : Int) (a8 : LI) (a9 : Bool) (a10 : LI) (a11 a12 : Int) (a13 a14 : Bool) (a15 a16 : LI) (a17 a18 : Int) (a19 : LL) (a20 a21 : LI) (a22 a23 a24 : Int) (a25 : LI) (a26 : LL) : Option (Bool) :=
 bif (!a9) then
  some true
 else
  (impl_copyRows.f k a19).bind fun r1 =>
  chk (decide ((r1.length + 2) * 24 ≤ room)) <|
  (impl_isWhole.f k (r1 ++ [a20, a21])).bind fun r2 =>
  some r2

def impl_IsRecorded.f (k : Nat) (a0 a1 : Int) (a2 a3 : Bool) (a4 a5 : LI) (a6 a7 : Int) (a8 : LI) (a9 : Bool) (a10 : LI) (a11 a12 : Int) (a13 a14 : Bool) (a15 a16 : LI) (a17 a18 : Int) (a19 : LL) (a20 a21 : LI) (a22 a23 a24 : Int) (a25 : LI) (a26 : LL) : Option (Bool) :=
 some ((a25.length : Int) == a23)

def impl_IsZeroSum.f (k : Nat) (a0 a1 : Int) (a2 a3 : Bool) (a4 a5 : LI) (a6 a7 : Int) (a8 : LI) (a9 : Bool) (a10 : LI) (a11 a12 : Int) (a13 a14 : Bool) (a15 a16 : LI) (a17 a18 : Int) (a19 : LL) (a20 a21 : LI) (a22 a23 a24 : Int) (a25 : LI) (a26 : LL) : Option (Bool) :=
 (impl_IsSheet.f k a0 a26).bind fun r1 =>
 some r1

def impl_FaultOf.f (k : Nat) (a0 a1 : Int) (a2 a3 : Bool) (a4 a5 : LI) (a6 a7 : Int) (a8 : LI) (a9 : Bool) (a10 : LI) (a11 a12 : Int) (a13 a14 : Bool) (a15 a16 : LI) (a17 a18 : Int) (a19 : LL) (a20 a21 : LI) (a22 a23 a24 : Int) (a25 : LI) (a26 : LL) : Option (ByteArray) :=
 (impl_NothingLost.f k a0 a1 a2 a3 a4 a5 a6 a7 a8 a9 a10 a11 a12 a13 a14 a15 a16 a17 a18 a19 a20 a21 a22 a23 a24 a25 a26).bind fun r1 =>
 bif (!r1) then
  some (⟨#[99, 97, 114, 100, 115]⟩ : ByteArray)
 else
  (impl_IsRecorded.f k a0 a1 a2 a3 a4 a5 a6 a7 a8 a9 a10 a11 a12 a13 a14 a15 a16 a17 a18 a19 a20 a21 a22 a23 a24 a25 a26).bind fun r2 =>
  bif (!r2) then
   some (⟨#[114, 101, 99, 111, 114, 100]⟩ : ByteArray)
  else
   (impl_IsZeroSum.f k a0 a1 a2 a3 a4 a5 a6 a7 a8 a9 a10 a11 a12 a13 a14 a15 a16 a17 a18 a19 a20 a21 a22 a23 a24 a25 a26).bind fun r3 =>
   bif (!r3) then
    some (⟨#[115, 104, 101, 101, 116]⟩ : ByteArray)
   else
    (impl_IsTable.f k a0 a1 a2 a3 a4 a5 a6 a7 a8 a9 a10 a11 a12 a13 a14 a15 a16 a17 a18 a19 a20 a21 a22 a23 a24 a25 a26).bind fun r4 =>
    bif (!r4) then
     some (⟨#[116, 97, 98, 108, 101]⟩ : ByteArray)
    else
     some ByteArray.empty

def laws_FnExactFaultOf.f (k : Nat) (a0 a1 : Int) (a2 a3 : Bool) (a4 a5 : LI) (a6 a7 : Int) (a8 : LI) (a9 : Bool) (a10 : LI) (a11 a12 : Int) (a13 a14 : Bool) (a15 a16 : LI) (a17 a18 : Int) (a19 : LL) (a20 a21 : LI) (a22 a23 a24 : Int) (a25 : LI) (a26 : LL) : Option (Bool) :=
 (laws_szTable.f k a0 a1 a2 a3 a4 a5 a6 a7 a8 a9 a10 a11 a12 a13 a14 a15 a16 a17 a18 a19 a20 a21 a22 a23 a24 a25 a26 1048576).bind fun r1 =>
 bif decide (r1 < 0) then
  some true
 else
  (laws_toTable.f k a0 a1 a2 a3 a4 a5 a6 a7 a8 a9 a10 a11 a12 a13 a14 a15 a16 a17 a18 a19 a20 a21 a22 a23 a24 a25 a26).bind fun r2 =>
  (spec_FaultOf.f k r2.1 r2.2.1 (t2 r2).1 (t3 r2).1 (t4 r2).1 (t5 r2).1 (t6 r2).1 (t7 r2).1 (t8 r2).1 (t9 r2).1 (t9 r2.2).1 (t9 (t2 r2)).1 (t9 (t3 r2)).1 (t9 (t4 r2)).1 (t9 (t5 r2)).1 (t9 (t6 r2)).1 (t9 (t7 r2)).1 (t9 (t8 r2)).1 (t9 (t9 r2)).1 (t9 (t9 r2.2)).1 (t9 (t9 (t2 r2))).1 (t9 (t9 (t3 r2))).1 (t9 (t9 (t4 r2))).1 (t9 (t9 (t5 r2))).1 (t9 (t9 (t6 r2))).1 (t9 (t9 (t7 r2))).1 (t9 (t9 (t8 r2)))).bind fun r3 =>
  (laws_toTable.f k a0 a1 a2 a3 a4 a5 a6 a7 a8 a9 a10 a11 a12 a13 a14 a15 a16 a17 a18 a19 a20 a21 a22 a23 a24 a25 a26).bind fun r4 =>
  (impl_FaultOf.f k r4.1 r4.2.1 (t2 r4).1 (t3 r4).1 (t4 r4).1 (t5 r4).1 (t6 r4).1 (t7 r4).1 (t8 r4).1 (t9 r4).1 (t9 r4.2).1 (t9 (t2 r4)).1 (t9 (t3 r4)).1 (t9 (t4 r4)).1 (t9 (t5 r4)).1 (t9 (t6 r4)).1 (t9 (t7 r4)).1 (t9 (t8 r4)).1 (t9 (t9 r4)).1 (t9 (t9 r4.2)).1 (t9 (t9 (t2 r4))).1 (t9 (t9 (t3 r4))).1 (t9 (t9 (t4 r4))).1 (t9 (t9 (t5 r4))).1 (t9 (t9 (t6 r4))).1 (t9 (t9 (t7 r4))).1 (t9 (t9 (t8 r4)))).bind fun r5 =>
  bif (!(r5.toList == r3.toList)) then
   some false
  else
   (laws_toTable.f k a0 a1 a2 a3 a4 a5 a6 a7 a8 a9 a10 a11 a12 a13 a14 a15 a16 a17 a18 a19 a20 a21 a22 a23 a24 a25 a26).bind fun r6 =>
   (laws_eqTable.f k r4.1 r4.2.1 (t2 r4).1 (t3 r4).1 (t4 r4).1 (t5 r4).1 (t6 r4).1 (t7 r4).1 (t8 r4).1 (t9 r4).1 (t9 r4.2).1 (t9 (t2 r4)).1 (t9 (t3 r4)).1 (t9 (t4 r4)).1 (t9 (t5 r4)).1 (t9 (t6 r4)).1 (t9 (t7 r4)).1 (t9 (t8 r4)).1 (t9 (t9 r4)).1 (t9 (t9 r4.2)).1 (t9 (t9 (t2 r4))).1 (t9 (t9 (t3 r4))).1 (t9 (t9 (t4 r4))).1 (t9 (t9 (t5 r4))).1 (t9 (t9 (t6 r4))).1 (t9 (t9 (t7 r4))).1 (t9 (t9 (t8 r4))) r6.1 r6.2.1 (t2 r6).1 (t3 r6).1 (t4 r6).1 (t5 r6).1 (t6 r6).1 (t7 r6).1 (t8 r6).1 (t9 r6).1 (t9 r6.2).1 (t9 (t2 r6)).1 (t9 (t3 r6)).1 (t9 (t4 r6)).1 (t9 (t5 r6)).1 (t9 (t6 r6)).1 (t9 (t7 r6)).1 (t9 (t8 r6)).1 (t9 (t9 r6)).1 (t9 (t9 r6.2)).1 (t9 (t9 (t2 r6))).1 (t9 (t9 (t3 r6))).1 (t9 (t9 (t4 r6))).1 (t9 (t9 (t5 r6))).1 (t9 (t9 (t6 r6))).1 (t9 (t9 (t7 r6))).1 (t9 (t9 (t8 r6)))).bind fun r7 =>
   bif (!r7) then
    some false
   else
    some true
end Go.Proofs.YtmdfedjdnjaaiaaGreat
