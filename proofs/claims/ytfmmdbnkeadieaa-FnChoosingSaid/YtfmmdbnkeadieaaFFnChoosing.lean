/- Plain Lean functions, printed by a program out of the Go functions' translation: what each computes, without program and memory. -/
import Derived.Test.YtfmmdbnkeadieaaFFnTallies
set_option linter.unusedVariables false
namespace Go.Proofs.Ytfmmdbnkeadieaa
open Go Go.Proofs.Ytfmmdbnkeadieaa.V

def spec_l8Any.f (k : Nat) (a0 : LI) (a1 a2 : Int) : Option (LI × LI × Int × Int) :=
 (spec_l8Draw.f k a0 a1 a2 2).bind fun r1 =>
 (spec_l1Below.f k r1.2.1 (t2 r1).1 (t3 r1) 10).bind fun r2 =>
 bif (r2.1 == 0) then
  (spec_l1Below.f k r2.2.1 (t2 r2).1 (t3 r2) (r1.1.length : Int)).bind fun r3 =>
  (spec_l1Int.f k r3.2.1 (t2 r3).1 (t3 r3) [104, 99, 213, 313, 401, (-4), (-2), 9223372036854775807]).bind fun r4 =>
  chk ((decide (0 ≤ r3.1)) && (decide (r3.1 < (r1.1.length : Int)))) <|
  some (r1.1.set r3.1.toNat r4.1, r4.2.1, (t2 r4).1, (t3 r4))
 else
  bif (r2.1 == 1) then
   chk ((decide (0 ≤ (r1.1.length : Int))) && (decide ((r1.1.length : Int) ≤ (r1.1.length : Int)))) <|
   chk (decide (1 ≤ (r1.1.length : Int))) <|
   some ((r1.1.take ((r1.1.length : Int).toNat)).drop 1, r2.2.1, (t2 r2).1, (t3 r2))
  else
   some (r1.1, r2.2.1, (t2 r2).1, (t3 r2))

def spec_l22Any.f (k : Nat) (a0 : LI) (a1 a2 : Int) : Option (Int × Int × Bool × Bool × LI × LI × Int × Int × LI × Int × Int) :=
 (spec_l22Draw.f k a0 a1 a2).bind fun r1 =>
 (spec_l1Below.f k (t8 r1).1 (t9 r1).1 (t9 r1.2) 14).bind fun r2 =>
 bif (r2.1 == 0) then
  (spec_l1Int.f k r2.2.1 (t2 r2).1 (t3 r2) [1, 6, 7]).bind fun r3 =>
  some (r3.1, r1.2.1, (t2 r1).1, (t3 r1).1, (t4 r1).1, (t5 r1).1, (t6 r1).1, (t7 r1).1, r3.2.1, (t2 r3).1, (t3 r3))
 else
  bif (r2.1 == 1) then
   (spec_l1Int.f k r2.2.1 (t2 r2).1 (t3 r2) [0, 8, 9]).bind fun r4 =>
   some (r1.1, r4.1, (t2 r1).1, (t3 r1).1, (t4 r1).1, (t5 r1).1, (t6 r1).1, (t7 r1).1, r4.2.1, (t2 r4).1, (t3 r4))
  else
   bif (r2.1 == 2) then
    some (r1.1, r1.2.1, (t2 r1).1, false, (t4 r1).1, (t5 r1).1, (t6 r1).1, (t7 r1).1, r2.2.1, (t2 r2).1, (t3 r2))
   else
    bif (r2.1 == 3) then
     (spec_l8Any.f k r2.2.1 (t2 r2).1 (t3 r2)).bind fun r5 =>
     some (r1.1, r1.2.1, (t2 r1).1, (t3 r1).1, r5.1, (t5 r1).1, (t6 r1).1, (t7 r1).1, r5.2.1, (t2 r5).1, (t3 r5))
    else
     bif (r2.1 == 4) then
      (spec_l1Int.f k r2.2.1 (t2 r2).1 (t3 r2) [0, 4, 5]).bind fun r6 =>
      some (r1.1, r1.2.1, (t2 r1).1, (t3 r1).1, (t4 r1).1, (t5 r1).1, r6.1, (t7 r1).1, r6.2.1, (t2 r6).1, (t3 r6))
     else
      bif (r2.1 == 5) then
       (spec_l1Int.f k r2.2.1 (t2 r2).1 (t3 r2) [0, 400, 401]).bind fun r7 =>
       some (r1.1, r1.2.1, (t2 r1).1, (t3 r1).1, (t4 r1).1, (t5 r1).1, (t6 r1).1, r7.1, r7.2.1, (t2 r7).1, (t3 r7))
      else
       some (r1.1, r1.2.1, (t2 r1).1, (t3 r1).1, (t4 r1).1, (t5 r1).1, (t6 r1).1, (t7 r1).1, r2.2.1, (t2 r2).1, (t3 r2))

def spec_l24Draw.s3 {R : Type} (k : Nat) (e0 : LI → Int → Int → Int → Int → Bool → Bool → Int → Int → Int → Int → Int → LI → LI → LL → LI → LI → Option R) (rec : Int → LI → Int → Int → Int → Int → Bool → Bool → Int → Int → Int → Int → Int → LI → LI → LL → LI → LI → Option R) (v0 : Int) (v1 : LI) (v2 v3 v13 v14 : Int) (v15 v16 : Bool) (v17 v18 v19 v20 v21 : Int) (v22 v23 : LI) (v24 : LL) (v25 v26 : LI) : Option R :=
 bif decide (v0 > 0) then
  (spec_Playable.f k v13 v14 v15 v16 v22 v23 v17 v18 v24 v25 v26 v19 v20 v21).bind fun r3 =>
  bif decide ((r3.length : Int) > 0) then
   (spec_l1Once.f k v1 v2 v3 4).bind fun r4 =>
   bif (!r4.1) then
    (spec_l1Below.f k r4.2.1 (t2 r4).1 (t3 r4) (r3.length : Int)).bind fun r5 =>
    chk ((decide (0 ≤ r5.1)) && (decide (r5.1 < (r3.length : Int)))) <|
    (spec_PlayOn.f k v13 v14 v15 v16 v22 v23 v17 v18 v24 v25 v26 v19 v20 v21 (r3.getD r5.1.toNat 0)).bind fun r6 =>
    rec (IntKind.wrap .i64 (v0 - 1)) r5.2.1 (t2 r5).1 (t3 r5) r6.1 r6.2.1 (t2 r6).1 (t3 r6).1 (t6 r6).1 (t7 r6).1 (t9 (t2 r6)).1 (t9 (t3 r6)).1 (t9 (t4 r6)).1 (t4 r6).1 (t5 r6).1 (t8 r6).1 (t9 r6).1 (t9 r6.2).1
   else
    (spec_TakeCards.f k v13 v14 v15 v16 v22 v23 v17 v18 v24 v25 v26 v19 v20 v21).bind fun r7 =>
    rec (IntKind.wrap .i64 (v0 - 1)) r4.2.1 (t2 r4).1 (t3 r4) r7.1 r7.2.1 (t2 r7).1 (t3 r7).1 (t6 r7).1 (t7 r7).1 (t9 (t2 r7)).1 (t9 (t3 r7)).1 (t9 (t4 r7)).1 (t4 r7).1 (t5 r7).1 (t8 r7).1 (t9 r7).1 (t9 r7.2).1
  else
   (spec_TakeCards.f k v13 v14 v15 v16 v22 v23 v17 v18 v24 v25 v26 v19 v20 v21).bind fun r8 =>
   rec (IntKind.wrap .i64 (v0 - 1)) v1 v2 v3 r8.1 r8.2.1 (t2 r8).1 (t3 r8).1 (t6 r8).1 (t7 r8).1 (t9 (t2 r8)).1 (t9 (t3 r8)).1 (t9 (t4 r8)).1 (t4 r8).1 (t5 r8).1 (t8 r8).1 (t9 r8).1 (t9 r8.2).1
 else
  e0 v1 v2 v3 v13 v14 v15 v16 v17 v18 v19 v20 v21 v22 v23 v24 v25 v26
def spec_l24Draw.l3 {R : Type} (k : Nat) (e0 : LI → Int → Int → Int → Int → Bool → Bool → Int → Int → Int → Int → Int → LI → LI → LL → LI → LI → Option R) (n : Nat) (v0 : Int) (v1 : LI) (v2 v3 v13 v14 : Int) (v15 v16 : Bool) (v17 v18 v19 v20 v21 : Int) (v22 v23 : LI) (v24 : LL) (v25 v26 : LI) : Option R :=
 V.iter (A := Int × LI × Int × Int × Int × Int × Bool × Bool × Int × Int × Int × Int × Int × LI × LI × LL × LI × LI) (fun rec a => spec_l24Draw.s3 k e0 (fun c0 c1 c2 c3 c4 c5 c6 c7 c8 c9 c10 c11 c12 c13 c14 c15 c16 c17 => rec (c0, c1, c2, c3, c4, c5, c6, c7, c8, c9, c10, c11, c12, c13, c14, c15, c16, c17)) a.1 a.2.1 (t2 a).1 (t3 a).1 (t4 a).1 (t5 a).1 (t6 a).1 (t7 a).1 (t8 a).1 (t9 a).1 (t9 a.2).1 (t9 (t2 a)).1 (t9 (t3 a)).1 (t9 (t4 a)).1 (t9 (t5 a)).1 (t9 (t6 a)).1 (t9 (t7 a)).1 (t9 (t8 a))) n (v0, v1, v2, v3, v13, v14, v15, v16, v17, v18, v19, v20, v21, v22, v23, v24, v25, v26)
theorem spec_l24Draw.l3_succ {R : Type} (k : Nat) (e0 : LI → Int → Int → Int → Int → Bool → Bool → Int → Int → Int → Int → Int → LI → LI → LL → LI → LI → Option R) (n : Nat) (v0 : Int) (v1 : LI) (v2 v3 v13 v14 : Int) (v15 v16 : Bool) (v17 v18 v19 v20 v21 : Int) (v22 v23 : LI) (v24 : LL) (v25 v26 : LI) : spec_l24Draw.l3 (R := R) k e0 (n + 1) v0 v1 v2 v3 v13 v14 v15 v16 v17 v18 v19 v20 v21 v22 v23 v24 v25 v26 = spec_l24Draw.s3 k e0 (spec_l24Draw.l3 k e0 n) v0 v1 v2 v3 v13 v14 v15 v16 v17 v18 v19 v20 v21 v22 v23 v24 v25 v26 := rfl
def spec_l24Draw.f (k : Nat) (a0 : LI) (a1 a2 : Int) : Option (Int × Int × Bool × Bool × LI × LI × Int × Int × LL × LI × LI × Int × Int × Int × LI × Int × Int) :=
 (spec_l24Start.f k a0 a1 a2).bind fun r1 =>
 (spec_l1Below.f k (t9 (t5 r1)).1 (t9 (t6 r1)).1 (t9 (t7 r1)) 14).bind fun r2 =>
 spec_l24Draw.l3 k (fun x9 x10 x11 x12 x13 x14 x15 x16 x17 x18 x19 x20 x21 x22 x23 x24 x25 =>
  (spec_l1Below.f k x9 x10 x11 14).bind fun r26 =>
  bif (r26.1 == 0) then
   (spec_l1Int.f k r26.2.1 (t2 r26).1 (t3 r26) [(-1), 6]).bind fun r27 =>
   some (x12, x13, x14, x15, x21, x22, x16, x17, x23, x24, x25, r27.1, x19, x20, r27.2.1, (t2 r27).1, (t3 r27))
  else
   bif (r26.1 == 1) then
    some (x12, x13, x14, x15, x21, x22, x16, x17, x23, x24, x25, x18, x17, x20, r26.2.1, (t2 r26).1, (t3 r26))
   else
    bif (r26.1 == 2) then
     (spec_l4Card.f k r26.2.1 (t2 r26).1 (t3 r26)).bind fun r28 =>
     chk (decide ((x24.length + 1) * 8 ≤ room)) <|
     some (x12, x13, x14, x15, x21, x22, x16, x17, x23, x24 ++ [r28.1], x25, x18, x19, x20, r28.2.1, (t2 r28).1, (t3 r28))
    else
     bif (r26.1 == 3) then
      (spec_l22Any.f k r26.2.1 (t2 r26).1 (t3 r26)).bind fun r29 =>
      some (r29.1, r29.2.1, (t2 r29).1, (t3 r29).1, (t4 r29).1, (t5 r29).1, (t6 r29).1, (t7 r29).1, x23, x24, x25, x18, x19, x20, (t8 r29).1, (t9 r29).1, (t9 r29.2))
     else
      bif (r26.1 == 4) then
       chk (decide ((x25.length + x24.length) * 8 ≤ room)) <|
       some (x12, x13, x14, x15, x21, x22, x16, x17, x23, [], x25 ++ x24, x18, x19, x20, r26.2.1, (t2 r26).1, (t3 r26))
      else
       some (x12, x13, x14, x15, x21, x22, x16, x17, x23, x24, x25, x18, x19, x20, r26.2.1, (t2 r26).1, (t3 r26))) k r2.1 r2.2.1 (t2 r2).1 (t3 r2) r1.1 r1.2.1 (t2 r1).1 (t3 r1).1 (t6 r1).1 (t7 r1).1 (t9 (t2 r1)).1 (t9 (t3 r1)).1 (t9 (t4 r1)).1 (t4 r1).1 (t5 r1).1 (t8 r1).1 (t9 r1).1 (t9 r1.2).1

def spec_DrawChoiceOf.f (k : Nat) (a : LI) : Option (Int × Int × Bool × Bool × LI × LI × Int × Int × LL × LI × LI × Int × Int × Int × Int) :=
 (spec_l1New.f k a).bind fun r1 =>
 (spec_l24Draw.f k r1.1 r1.2.1 (t2 r1)).bind fun r2 =>
 (spec_l1Below.f k (t9 (t5 r2)).1 (t9 (t6 r2)).1 (t9 (t7 r2)) 6).bind fun r3 =>
 some (r2.1, r2.2.1, (t2 r2).1, (t3 r2).1, (t4 r2).1, (t5 r2).1, (t6 r2).1, (t7 r2).1, (t8 r2).1, (t9 r2).1, (t9 r2.2).1, (t9 (t2 r2)).1, (t9 (t3 r2)).1, (t9 (t4 r2)).1, IntKind.wrap .i64 (r3.1 - 1))

def spec_DrawAutoMove.f (k : Nat) (a : LI) : Option (Int × Int × Bool × Bool × LI × LI × Int × Int × LL × LI × LI × Int × Int × Int × Int) :=
 (spec_DrawChoiceOf.f k a).bind fun r1 =>
 some (r1.1, r1.2.1, (t2 r1).1, (t3 r1).1, (t4 r1).1, (t5 r1).1, (t6 r1).1, (t7 r1).1, (t8 r1).1, (t9 r1).1, (t9 r1.2).1, (t9 (t2 r1)).1, (t9 (t3 r1)).1, (t9 (t4 r1)).1, (t9 (t5 r1)))

def impl_SuitCounts.s3 {R : Type} (k : Nat) (v0 : LI) (v1 : Int) (e0 : LI → Option R) (rec : Int → LI → Option R) (v2 : Int) (v3 : LI) : Option R :=
 bif decide (v2 < v1) then
  chk ((decide (0 ≤ v2)) && (decide (v2 < (v0.length : Int)))) <|
  (impl_IsCard.f k (v0.getD v2.toNat 0)).bind fun r1 =>
  bif r1 then
   (impl_SuitOf.f k (v0.getD v2.toNat 0)).bind fun r2 =>
   chk ((decide (0 ≤ r2)) && (decide (r2 < (v3.length : Int)))) <|
   chk ((decide (0 ≤ r2)) && (decide (r2 < (v3.length : Int)))) <|
   rec (IntKind.wrap .i64 (v2 + 1)) (v3.set r2.toNat (IntKind.wrap .i64 ((v3.getD r2.toNat 0) + 1)))
  else
   rec (IntKind.wrap .i64 (v2 + 1)) v3
 else
  e0 v3
def impl_SuitCounts.l3 {R : Type} (k : Nat) (v0 : LI) (v1 : Int) (e0 : LI → Option R) (n : Nat) (v2 : Int) (v3 : LI) : Option R :=
 V.iter (A := Int × LI) (fun rec a => impl_SuitCounts.s3 k v0 v1 e0 (fun c0 c1 => rec (c0, c1)) a.1 a.2) n (v2, v3)
theorem impl_SuitCounts.l3_succ {R : Type} (k : Nat) (v0 : LI) (v1 : Int) (e0 : LI → Option R) (n : Nat) (v2 : Int) (v3 : LI) : impl_SuitCounts.l3 (R := R) k v0 v1 e0 (n + 1) v2 v3 = impl_SuitCounts.s3 k v0 v1 e0 (impl_SuitCounts.l3 k v0 v1 e0 n) v2 v3 := rfl
def impl_SuitCounts.f (k : Nat) (a : LI) : Option (LI) :=
 impl_SuitCounts.l3 k a (a.length : Int) (fun x3 =>
  some x3) k 0 [0, 0, 0, 0]

def impl_ChoiceOf.s12 {R : Type} (k : Nat) (v1 : Int) (v3 v4 : LI) (e0 : Int → Option R) (rec : Int → Int → Option R) (v0 v2 : Int) : Option R :=
 bif decide (v2 < v1) then
  chk ((decide (0 ≤ v2)) && (decide (v2 < (v4.length : Int)))) <|
  (impl_SuitOf.f k (v4.getD v2.toNat 0)).bind fun r3 =>
  chk ((decide (0 ≤ r3)) && (decide (r3 < (v3.length : Int)))) <|
  (impl_SuitOf.f k v0).bind fun r4 =>
  chk ((decide (0 ≤ r4)) && (decide (r4 < (v3.length : Int)))) <|
  bif decide ((v3.getD r3.toNat 0) > (v3.getD r4.toNat 0)) then
   rec (v4.getD v2.toNat 0) (IntKind.wrap .i64 (v2 + 1))
  else
   rec v0 (IntKind.wrap .i64 (v2 + 1))
 else
  e0 v0
def impl_ChoiceOf.l12 {R : Type} (k : Nat) (v1 : Int) (v3 v4 : LI) (e0 : Int → Option R) (n : Nat) (v0 v2 : Int) : Option R :=
 V.iter (A := Int × Int) (fun rec a => impl_ChoiceOf.s12 k v1 v3 v4 e0 (fun c0 c1 => rec (c0, c1)) a.1 a.2) n (v0, v2)
theorem impl_ChoiceOf.l12_succ {R : Type} (k : Nat) (v1 : Int) (v3 v4 : LI) (e0 : Int → Option R) (n : Nat) (v0 v2 : Int) : impl_ChoiceOf.l12 (R := R) k v1 v3 v4 e0 (n + 1) v0 v2 = impl_ChoiceOf.s12 k v1 v3 v4 e0 (impl_ChoiceOf.l12 k v1 v3 v4 e0 n) v0 v2 := rfl
def impl_ChoiceOf.f (k : Nat) (a0 a1 : Int) (a2 a3 : Bool) (a4 a5 : LI) (a6 a7 : Int) (a8 : LL) (a9 a10 : LI) (a11 a12 a13 g : Int) : Option (Int) :=
 (impl_Playable.f k a0 a1 a2 a3 a4 a5 a6 a7 a8 a9 a10 a11 a12 a13).bind fun r1 =>
 bif ((r1.length : Int) == 0) then
  some (-1)
 else
  bif (g == 0) then
   chk (decide (0 < (r1.length : Int))) <|
   some (r1.getD 0 0)
  else
   bif (g == 1) then
    chk ((decide (0 ≤ (IntKind.wrap .i64 ((r1.length : Int) - 1)))) && (decide ((IntKind.wrap .i64 ((r1.length : Int) - 1)) < (r1.length : Int)))) <|
    some (r1.getD ((IntKind.wrap .i64 ((r1.length : Int) - 1)).toNat) 0)
   else
    bif (g == 2) then
     chk ((decide (0 ≤ a11)) && (decide (a11 < (a8.length : Int)))) <|
     (impl_SuitCounts.f k (a8.getD a11.toNat [])).bind fun r2 =>
     chk (decide (0 < (r1.length : Int))) <|
     impl_ChoiceOf.l12 k (r1.length : Int) r2 r1 (fun x5 =>
      some x5) k (r1.getD 0 0) 0
    else
     some (-1)

def impl_AutoMove.f (k : Nat) (a0 a1 : Int) (a2 a3 : Bool) (a4 a5 : LI) (a6 a7 : Int) (a8 : LL) (a9 a10 : LI) (a11 a12 a13 g : Int) : Option (Int × Int × Bool × Bool × LI × LI × Int × Int × LL × LI × LI × Int × Int × Int × Bool) :=
 (impl_ChoiceOf.f k a0 a1 a2 a3 a4 a5 a6 a7 a8 a9 a10 a11 a12 a13 g).bind fun r1 =>
 (impl_ReplayMove.f k a0 a1 a2 a3 a4 a5 a6 a7 a8 a9 a10 a11 a12 a13 r1).bind fun r2 =>
 some (r2.1, r2.2.1, (t2 r2).1, (t3 r2).1, (t4 r2).1, (t5 r2).1, (t6 r2).1, (t7 r2).1, (t8 r2).1, (t9 r2).1, (t9 r2.2).1, (t9 (t2 r2)).1, (t9 (t3 r2)).1, (t9 (t4 r2)).1, (t9 (t5 r2)))

def laws_contains.s2 {R : Type} (k : Nat) (v0 : LI) (v1 : Int) (e0 e1 : Option R) (rec : Int → Option R) (v2 : Int) : Option R :=
 bif decide (v2 < (v0.length : Int)) then
  chk ((decide (0 ≤ v2)) && (decide (v2 < (v0.length : Int)))) <|
  bif ((v0.getD v2.toNat 0) == v1) then
   e0
  else
   rec (IntKind.wrap .i64 (v2 + 1))
 else
  e1
def laws_contains.l2 {R : Type} (k : Nat) (v0 : LI) (v1 : Int) (e0 e1 : Option R) (n : Nat) (v2 : Int) : Option R :=
 V.iter (A := Int) (fun rec a => laws_contains.s2 k v0 v1 e0 e1 (fun c0 => rec c0) a) n v2
theorem laws_contains.l2_succ {R : Type} (k : Nat) (v0 : LI) (v1 : Int) (e0 e1 : Option R) (n : Nat) (v2 : Int) : laws_contains.l2 (R := R) k v0 v1 e0 e1 (n + 1) v2 = laws_contains.s2 k v0 v1 e0 e1 (laws_contains.l2 k v0 v1 e0 e1 n) v2 := rfl
def laws_contains.f (k : Nat) (a : LI) (g : Int) : Option (Bool) :=
 laws_contains.l2 k a g (some true) (some false) k 0

def spec_l5Some.s6 {R : Type} (k : Nat) (v6 : LI) (e0 rec : Int → Option R) (v2 : Int) : Option R :=
 (spec_HasCard.f k v6 v2).bind fun r2 =>
 bif r2 then
  rec ((IntKind.wrap .i64 (v2 + 7)).tmod 52)
 else
  e0 v2
def spec_l5Some.l6 {R : Type} (k : Nat) (v6 : LI) (e0 : Int → Option R) (n : Nat) (v2 : Int) : Option R :=
 V.iter (A := Int) (fun rec a => spec_l5Some.s6 k v6 e0 (fun c0 => rec c0) a) n v2
theorem spec_l5Some.l6_succ {R : Type} (k : Nat) (v6 : LI) (e0 : Int → Option R) (n : Nat) (v2 : Int) : spec_l5Some.l6 (R := R) k v6 e0 (n + 1) v2 = spec_l5Some.s6 k v6 e0 (spec_l5Some.l6 k v6 e0 n) v2 := rfl
def spec_l5Some.s3 {R : Type} (k : Nat) (v0 : Int) (e0 : LI → LI → Int → Int → Option R) (rec : Int → LI → Int → Int → LI → Option R) (v1 : Int) (v2 : LI) (v3 v4 : Int) (v5 : LI) : Option R :=
 bif decide (v1 < v0) then
  (spec_l1Below.f k v2 v3 v4 52).bind fun r1 =>
  spec_l5Some.l6 k v5 (fun x3 =>
   chk (decide ((v5.length + 1) * 8 ≤ room)) <|
   rec (IntKind.wrap .i64 (v1 + 1)) r1.2.1 (t2 r1).1 (t3 r1) (v5 ++ [x3])) k r1.1
 else
  e0 v5 v2 v3 v4
def spec_l5Some.l3 {R : Type} (k : Nat) (v0 : Int) (e0 : LI → LI → Int → Int → Option R) (n : Nat) (v1 : Int) (v2 : LI) (v3 v4 : Int) (v5 : LI) : Option R :=
 V.iter (A := Int × LI × Int × Int × LI) (fun rec a => spec_l5Some.s3 k v0 e0 (fun c0 c1 c2 c3 c4 => rec (c0, c1, c2, c3, c4)) a.1 a.2.1 (t2 a).1 (t3 a).1 (t4 a)) n (v1, v2, v3, v4, v5)
theorem spec_l5Some.l3_succ {R : Type} (k : Nat) (v0 : Int) (e0 : LI → LI → Int → Int → Option R) (n : Nat) (v1 : Int) (v2 : LI) (v3 v4 : Int) (v5 : LI) : spec_l5Some.l3 (R := R) k v0 e0 (n + 1) v1 v2 v3 v4 v5 = spec_l5Some.s3 k v0 e0 (spec_l5Some.l3 k v0 e0 n) v1 v2 v3 v4 v5 := rfl
def spec_l5Some.f (k : Nat) (a0 : LI) (a1 a2 g : Int) : Option (LI × LI × Int × Int) :=
 spec_l5Some.l3 k g (fun x4 x5 x6 x7 =>
  some (x4, x5, x6, x7)) k 0 a0 a1 a2 []

def spec_l5Any.f (k : Nat) (a0 : LI) (a1 a2 : Int) : Option (LI × LI × Int × Int) :=
 (spec_l1Below.f k a0 a1 a2 9).bind fun r1 =>
 (spec_l5Some.f k r1.2.1 (t2 r1).1 (t3 r1) r1.1).bind fun r2 =>
 bif decide ((r2.1.length : Int) > 0) then
  (spec_l1Once.f k r2.2.1 (t2 r2).1 (t3 r2) 10).bind fun r3 =>
  bif r3.1 then
   chk ((decide (0 ≤ (IntKind.wrap .i64 ((r2.1.length : Int) - 1)))) && (decide ((IntKind.wrap .i64 ((r2.1.length : Int) - 1)) < (r2.1.length : Int)))) <|
   (spec_l1Int.f k r3.2.1 (t2 r3).1 (t3 r3) [r2.1.getD ((IntKind.wrap .i64 ((r2.1.length : Int) - 1)).toNat) 0, 52, (-1)]).bind fun r4 =>
   chk (decide (0 < (r2.1.length : Int))) <|
   some (r2.1.set 0 r4.1, r4.2.1, (t2 r4).1, (t3 r4))
  else
   some (r2.1, r3.2.1, (t2 r3).1, (t3 r3))
 else
  some (r2.1, r2.2.1, (t2 r2).1, (t3 r2))

def spec_DrawIsHand.f (k : Nat) (a : LI) : Option (LI) :=
 (spec_l1New.f k a).bind fun r1 =>
 (spec_l5Any.f k r1.1 r1.2.1 (t2 r1)).bind fun r2 =>
 some r2.1

def spec_DrawSuitCounts.f (k : Nat) (a : LI) : Option (LI) :=
 (spec_DrawIsHand.f k a).bind fun r1 =>
 some r1

def spec_DrawMostOf.s4 {R : Type} (k : Nat) (e0 : LI → Option R) (rec : Int → LI → Int → Int → LI → Option R) (v0 : Int) (v1 : LI) (v2 v3 : Int) (v4 : LI) : Option R :=
 bif decide (v0 > 0) then
  (spec_l1Below.f k v1 v2 v3 5).bind fun r3 =>
  chk (decide ((v4.length + 1) * 8 ≤ room)) <|
  rec (IntKind.wrap .i64 (v0 - 1)) r3.2.1 (t2 r3).1 (t3 r3) (v4 ++ [IntKind.wrap .i64 (r3.1 - 2)])
 else
  e0 v4
def spec_DrawMostOf.l4 {R : Type} (k : Nat) (e0 : LI → Option R) (n : Nat) (v0 : Int) (v1 : LI) (v2 v3 : Int) (v4 : LI) : Option R :=
 V.iter (A := Int × LI × Int × Int × LI) (fun rec a => spec_DrawMostOf.s4 k e0 (fun c0 c1 c2 c3 c4 => rec (c0, c1, c2, c3, c4)) a.1 a.2.1 (t2 a).1 (t3 a).1 (t4 a)) n (v0, v1, v2, v3, v4)
theorem spec_DrawMostOf.l4_succ {R : Type} (k : Nat) (e0 : LI → Option R) (n : Nat) (v0 : Int) (v1 : LI) (v2 v3 : Int) (v4 : LI) : spec_DrawMostOf.l4 (R := R) k e0 (n + 1) v0 v1 v2 v3 v4 = spec_DrawMostOf.s4 k e0 (spec_DrawMostOf.l4 k e0 n) v0 v1 v2 v3 v4 := rfl
def spec_DrawMostOf.f (k : Nat) (a : LI) : Option (LI) :=
 (spec_l1New.f k a).bind fun r1 =>
 (spec_l1Below.f k r1.1 r1.2.1 (t2 r1) 6).bind fun r2 =>
 spec_DrawMostOf.l4 k (fun x4 =>
  some x4) k r2.1 r2.2.1 (t2 r2).1 (t3 r2) []

def impl_MostOf.s3 {R : Type} (k : Nat) (v0 v2 : LI) (v3 : Int) (e0 : Int → Option R) (rec : Int → Int → Option R) (v1 v4 : Int) : Option R :=
 bif decide (v4 < v3) then
  chk ((decide (0 ≤ v4)) && (decide (v4 < (v2.length : Int)))) <|
  bif decide (v1 < 0) then
   rec v4 (IntKind.wrap .i64 (v4 + 1))
  else
   chk ((decide (0 ≤ v1)) && (decide (v1 < (v0.length : Int)))) <|
   bif decide ((v2.getD v4.toNat 0) > (v0.getD v1.toNat 0)) then
    rec v4 (IntKind.wrap .i64 (v4 + 1))
   else
    rec v1 (IntKind.wrap .i64 (v4 + 1))
 else
  e0 v1
def impl_MostOf.l3 {R : Type} (k : Nat) (v0 v2 : LI) (v3 : Int) (e0 : Int → Option R) (n : Nat) (v1 v4 : Int) : Option R :=
 V.iter (A := Int × Int) (fun rec a => impl_MostOf.s3 k v0 v2 v3 e0 (fun c0 c1 => rec (c0, c1)) a.1 a.2) n (v1, v4)
theorem impl_MostOf.l3_succ {R : Type} (k : Nat) (v0 v2 : LI) (v3 : Int) (e0 : Int → Option R) (n : Nat) (v1 v4 : Int) : impl_MostOf.l3 (R := R) k v0 v2 v3 e0 (n + 1) v1 v4 = impl_MostOf.s3 k v0 v2 v3 e0 (impl_MostOf.l3 k v0 v2 v3 e0 n) v1 v4 := rfl
def impl_MostOf.f (k : Nat) (a : LI) : Option (Int) :=
 impl_MostOf.l3 k a a (a.length : Int) (fun x1 =>
  some x1) k (-1) 0

def spec_DrawIsGame.f (k : Nat) (a : LI) : Option (Int × Int × Bool × Bool × LI × LI × Int × Int × LL × LI × LI × Int × Int × Int) :=
 (spec_l1New.f k a).bind fun r1 =>
 (spec_l24Draw.f k r1.1 r1.2.1 (t2 r1)).bind fun r2 =>
 some (r2.1, r2.2.1, (t2 r2).1, (t3 r2).1, (t4 r2).1, (t5 r2).1, (t6 r2).1, (t7 r2).1, (t8 r2).1, (t9 r2).1, (t9 r2.2).1, (t9 (t2 r2)).1, (t9 (t3 r2)).1, (t9 (t4 r2)).1)

def spec_DrawBestFor.f (k : Nat) (a : LI) : Option (Int × Int × Bool × Bool × LI × LI × Int × Int × LL × LI × LI × Int × Int × Int) :=
 (spec_DrawIsGame.f k a).bind fun r1 =>
 some (r1.1, r1.2.1, (t2 r1).1, (t3 r1).1, (t4 r1).1, (t5 r1).1, (t6 r1).1, (t7 r1).1, (t8 r1).1, (t9 r1).1, (t9 r1.2).1, (t9 (t2 r1)).1, (t9 (t3 r1)).1, (t9 (t4 r1)))

def impl_BestFor.s5 {R : Type} (k : Nat) (v3 v4 : Int) (v5 v6 : Bool) (v7 v8 : LI) (v9 v10 : Int) (v11 : LL) (v12 v13 : LI) (v14 v15 v16 : Int) (e0 : Int → Option R) (rec : Int → Int → Int → Option R) (v0 v1 v2 : Int) : Option R :=
 bif decide (v2 < 3) then
  (impl_AutoMove.f k v3 v4 v5 v6 v7 v8 v9 v10 v11 v12 v13 v14 v15 v16 v2).bind fun r3 =>
  (impl_Playable.f k r3.1 r3.2.1 (t2 r3).1 (t3 r3).1 (t4 r3).1 (t5 r3).1 (t6 r3).1 (t7 r3).1 (t8 r3).1 (t9 r3).1 (t9 r3.2).1 (t9 (t2 r3)).1 (t9 (t3 r3)).1 (t9 (t4 r3)).1).bind fun r4 =>
  bif decide ((r4.length : Int) < v1) then
   rec v2 (r4.length : Int) (IntKind.wrap .i64 (v2 + 1))
  else
   rec v0 v1 (IntKind.wrap .i64 (v2 + 1))
 else
  e0 v0
def impl_BestFor.l5 {R : Type} (k : Nat) (v3 v4 : Int) (v5 v6 : Bool) (v7 v8 : LI) (v9 v10 : Int) (v11 : LL) (v12 v13 : LI) (v14 v15 v16 : Int) (e0 : Int → Option R) (n : Nat) (v0 v1 v2 : Int) : Option R :=
 V.iter (A := Int × Int × Int) (fun rec a => impl_BestFor.s5 k v3 v4 v5 v6 v7 v8 v9 v10 v11 v12 v13 v14 v15 v16 e0 (fun c0 c1 c2 => rec (c0, c1, c2)) a.1 a.2.1 (t2 a)) n (v0, v1, v2)
theorem impl_BestFor.l5_succ {R : Type} (k : Nat) (v3 v4 : Int) (v5 v6 : Bool) (v7 v8 : LI) (v9 v10 : Int) (v11 : LL) (v12 v13 : LI) (v14 v15 v16 : Int) (e0 : Int → Option R) (n : Nat) (v0 v1 v2 : Int) : impl_BestFor.l5 (R := R) k v3 v4 v5 v6 v7 v8 v9 v10 v11 v12 v13 v14 v15 v16 e0 (n + 1) v0 v1 v2 = impl_BestFor.s5 k v3 v4 v5 v6 v7 v8 v9 v10 v11 v12 v13 v14 v15 v16 e0 (impl_BestFor.l5 k v3 v4 v5 v6 v7 v8 v9 v10 v11 v12 v13 v14 v15 v16 e0 n) v0 v1 v2 := rfl
def impl_BestFor.f (k : Nat) (a0 a1 : Int) (a2 a3 : Bool) (a4 a5 : LI) (a6 a7 : Int) (a8 : LL) (a9 a10 : LI) (a11 a12 a13 : Int) : Option (Int) :=
 (impl_IsGame.f k a0 a1 a2 a3 a4 a5 a6 a7 a8 a9 a10 a11 a12 a13).bind fun r1 =>
 bif (!r1) then
  some (-1)
 else
  (impl_IsEnded.f k a0 a1 a2 a3 a4 a5 a6 a7 a8 a9 a10 a11 a12 a13).bind fun r2 =>
  bif r2 then
   some (-1)
  else
   impl_BestFor.l5 k a0 a1 a2 a3 a4 a5 a6 a7 a8 a9 a10 a11 a12 a13 (fun x5 =>
    some x5) k 0 53 0

def laws_FnChoosing.s13 {R : Type} (k : Nat) (v1 : Int) (v5 : LI) (e0 e1 : Option R) (rec : Int → Option R) (v2 : Int) : Option R :=
 bif decide (v2 < (v5.length : Int)) then
  chk ((decide (0 ≤ v2)) && (decide (v2 < (v5.length : Int)))) <|
  chk ((decide (0 ≤ v1)) && (decide (v1 < (v5.length : Int)))) <|
  bif decide ((v5.getD v2.toNat 0) > (v5.getD v1.toNat 0)) then
   e0
  else
   rec (IntKind.wrap .i64 (v2 + 1))
 else
  e1
def laws_FnChoosing.l13 {R : Type} (k : Nat) (v1 : Int) (v5 : LI) (e0 e1 : Option R) (n : Nat) (v2 : Int) : Option R :=
 V.iter (A := Int) (fun rec a => laws_FnChoosing.s13 k v1 v5 e0 e1 (fun c0 => rec c0) a) n v2
theorem laws_FnChoosing.l13_succ {R : Type} (k : Nat) (v1 : Int) (v5 : LI) (e0 e1 : Option R) (n : Nat) (v2 : Int) : laws_FnChoosing.l13 (R := R) k v1 v5 e0 e1 (n + 1) v2 = laws_FnChoosing.s13 k v1 v5 e0 e1 (laws_FnChoosing.l13 k v1 v5 e0 e1 n) v2 := rfl
def laws_FnChoosing.f (k : Nat) (a : LI) : Option (Bool) :=
 (laws_big.f k a).bind fun r1 =>
 bif r1 then
  some true
 else
  (spec_DrawAutoMove.f k a).bind fun r2 =>
  (impl_ChoiceOf.f k r2.1 r2.2.1 (t2 r2).1 (t3 r2).1 (t4 r2).1 (t5 r2).1 (t6 r2).1 (t7 r2).1 (t8 r2).1 (t9 r2).1 (t9 r2.2).1 (t9 (t2 r2)).1 (t9 (t3 r2)).1 (t9 (t4 r2)).1 (t9 (t5 r2))).bind fun r3 =>
  (impl_AutoMove.f k r2.1 r2.2.1 (t2 r2).1 (t3 r2).1 (t4 r2).1 (t5 r2).1 (t6 r2).1 (t7 r2).1 (t8 r2).1 (t9 r2).1 (t9 r2.2).1 (t9 (t2 r2)).1 (t9 (t3 r2)).1 (t9 (t4 r2)).1 (t9 (t5 r2))).bind fun r4 =>
  bif decide (r3 ≥ 0) then
   (impl_Playable.f k r2.1 r2.2.1 (t2 r2).1 (t3 r2).1 (t4 r2).1 (t5 r2).1 (t6 r2).1 (t7 r2).1 (t8 r2).1 (t9 r2).1 (t9 r2.2).1 (t9 (t2 r2)).1 (t9 (t3 r2)).1 (t9 (t4 r2)).1).bind fun r5 =>
   (laws_contains.f k r5 r3).bind fun r6 =>
   bif (!r6) then
    some false
   else
    (impl_IsGame.f k r2.1 r2.2.1 (t2 r2).1 (t3 r2).1 (t4 r2).1 (t5 r2).1 (t6 r2).1 (t7 r2).1 (t8 r2).1 (t9 r2).1 (t9 r2.2).1 (t9 (t2 r2)).1 (t9 (t3 r2)).1 (t9 (t4 r2)).1).bind fun r7 =>
    bif r7 then
     (impl_IsEnded.f k r2.1 r2.2.1 (t2 r2).1 (t3 r2).1 (t4 r2).1 (t5 r2).1 (t6 r2).1 (t7 r2).1 (t8 r2).1 (t9 r2).1 (t9 r2.2).1 (t9 (t2 r2)).1 (t9 (t3 r2)).1 (t9 (t4 r2)).1).bind fun r8 =>
     bif (!((t9 (t5 r4)) == (!r8))) then
      some false
     else
      bif (t9 (t5 r4)) then
       (impl_IsGame.f k r4.1 r4.2.1 (t2 r4).1 (t3 r4).1 (t4 r4).1 (t5 r4).1 (t6 r4).1 (t7 r4).1 (t8 r4).1 (t9 r4).1 (t9 r4.2).1 (t9 (t2 r4)).1 (t9 (t3 r4)).1 (t9 (t4 r4)).1).bind fun r9 =>
       bif (!r9) then
        some false
       else
        (spec_DrawSuitCounts.f k a).bind fun r10 =>
        (impl_SuitCounts.f k r10).bind fun r11 =>
        (spec_DrawMostOf.f k a).bind fun r12 =>
        (impl_MostOf.f k r12).bind fun r13 =>
        laws_FnChoosing.l13 k r13 r12 (some false) ((spec_DrawBestFor.f k a).bind fun r14 =>
         (impl_BestFor.f k r14.1 r14.2.1 (t2 r14).1 (t3 r14).1 (t4 r14).1 (t5 r14).1 (t6 r14).1 (t7 r14).1 (t8 r14).1 (t9 r14).1 (t9 r14.2).1 (t9 (t2 r14)).1 (t9 (t3 r14)).1 (t9 (t4 r14))).bind fun r15 =>
         (laws_sum.f k r11).bind fun r16 =>
         bif decide (r16 ≤ (r10.length : Int)) then
          (impl_IsHand.f k r10).bind fun r17 =>
          bif (!r17) then
           (impl_IsGame.f k r14.1 r14.2.1 (t2 r14).1 (t3 r14).1 (t4 r14).1 (t5 r14).1 (t6 r14).1 (t7 r14).1 (t8 r14).1 (t9 r14).1 (t9 r14.2).1 (t9 (t2 r14)).1 (t9 (t3 r14)).1 (t9 (t4 r14))).bind fun r18 =>
           bif r18 then
            (impl_IsEnded.f k r14.1 r14.2.1 (t2 r14).1 (t3 r14).1 (t4 r14).1 (t5 r14).1 (t6 r14).1 (t7 r14).1 (t8 r14).1 (t9 r14).1 (t9 r14.2).1 (t9 (t2 r14)).1 (t9 (t3 r14)).1 (t9 (t4 r14))).bind fun r19 =>
            some ((decide (r15 ≥ 0)) == (!r19))
           else
            some ((decide (r15 ≥ 0)) == false)
          else
           (laws_sum.f k r11).bind fun r20 =>
           bif (r20 == (r10.length : Int)) then
            (impl_IsGame.f k r14.1 r14.2.1 (t2 r14).1 (t3 r14).1 (t4 r14).1 (t5 r14).1 (t6 r14).1 (t7 r14).1 (t8 r14).1 (t9 r14).1 (t9 r14.2).1 (t9 (t2 r14)).1 (t9 (t3 r14)).1 (t9 (t4 r14))).bind fun r21 =>
            bif r21 then
             (impl_IsEnded.f k r14.1 r14.2.1 (t2 r14).1 (t3 r14).1 (t4 r14).1 (t5 r14).1 (t6 r14).1 (t7 r14).1 (t8 r14).1 (t9 r14).1 (t9 r14.2).1 (t9 (t2 r14)).1 (t9 (t3 r14)).1 (t9 (t4 r14))).bind fun r22 =>
             some ((decide (r15 ≥ 0)) == (!r22))
            else
             some ((decide (r15 ≥ 0)) == false)
           else
            some false
         else
          some false) k 0
      else
       (spec_DrawSuitCounts.f k a).bind fun r23 =>
       (impl_SuitCounts.f k r23).bind fun r24 =>
       (spec_DrawMostOf.f k a).bind fun r25 =>
       (impl_MostOf.f k r25).bind fun r26 =>
       laws_FnChoosing.l13 k r26 r25 (some false) ((spec_DrawBestFor.f k a).bind fun r27 =>
        (impl_BestFor.f k r27.1 r27.2.1 (t2 r27).1 (t3 r27).1 (t4 r27).1 (t5 r27).1 (t6 r27).1 (t7 r27).1 (t8 r27).1 (t9 r27).1 (t9 r27.2).1 (t9 (t2 r27)).1 (t9 (t3 r27)).1 (t9 (t4 r27))).bind fun r28 =>
        (laws_sum.f k r24).bind fun r29 =>
        bif decide (r29 ≤ (r23.length : Int)) then
         (impl_IsHand.f k r23).bind fun r30 =>
         bif (!r30) then
          (impl_IsGame.f k r27.1 r27.2.1 (t2 r27).1 (t3 r27).1 (t4 r27).1 (t5 r27).1 (t6 r27).1 (t7 r27).1 (t8 r27).1 (t9 r27).1 (t9 r27.2).1 (t9 (t2 r27)).1 (t9 (t3 r27)).1 (t9 (t4 r27))).bind fun r31 =>
          bif r31 then
           (impl_IsEnded.f k r27.1 r27.2.1 (t2 r27).1 (t3 r27).1 (t4 r27).1 (t5 r27).1 (t6 r27).1 (t7 r27).1 (t8 r27).1 (t9 r27).1 (t9 r27.2).1 (t9 (t2 r27)).1 (t9 (t3 r27)).1 (t9 (t4 r27))).bind fun r32 =>
           some ((decide (r28 ≥ 0)) == (!r32))
          else
           some ((decide (r28 ≥ 0)) == false)
         else
          (laws_sum.f k r24).bind fun r33 =>
          bif (r33 == (r23.length : Int)) then
           (impl_IsGame.f k r27.1 r27.2.1 (t2 r27).1 (t3 r27).1 (t4 r27).1 (t5 r27).1 (t6 r27).1 (t7 r27).1 (t8 r27).1 (t9 r27).1 (t9 r27.2).1 (t9 (t2 r27)).1 (t9 (t3 r27)).1 (t9 (t4 r27))).bind fun r34 =>
           bif r34 then
            (impl_IsEnded.f k r27.1 r27.2.1 (t2 r27).1 (t3 r27).1 (t4 r27).1 (t5 r27).1 (t6 r27).1 (t7 r27).1 (t8 r27).1 (t9 r27).1 (t9 r27.2).1 (t9 (t2 r27)).1 (t9 (t3 r27)).1 (t9 (t4 r27))).bind fun r35 =>
            some ((decide (r28 ≥ 0)) == (!r35))
           else
            some ((decide (r28 ≥ 0)) == false)
          else
           some false
        else
         some false) k 0
    else
     bif (!((t9 (t5 r4)) == false)) then
      some false
     else
      bif (t9 (t5 r4)) then
       (impl_IsGame.f k r4.1 r4.2.1 (t2 r4).1 (t3 r4).1 (t4 r4).1 (t5 r4).1 (t6 r4).1 (t7 r4).1 (t8 r4).1 (t9 r4).1 (t9 r4.2).1 (t9 (t2 r4)).1 (t9 (t3 r4)).1 (t9 (t4 r4)).1).bind fun r36 =>
       bif (!r36) then
        some false
       else
        (spec_DrawSuitCounts.f k a).bind fun r37 =>
        (impl_SuitCounts.f k r37).bind fun r38 =>
        (spec_DrawMostOf.f k a).bind fun r39 =>
        (impl_MostOf.f k r39).bind fun r40 =>
        laws_FnChoosing.l13 k r40 r39 (some false) ((spec_DrawBestFor.f k a).bind fun r41 =>
         (impl_BestFor.f k r41.1 r41.2.1 (t2 r41).1 (t3 r41).1 (t4 r41).1 (t5 r41).1 (t6 r41).1 (t7 r41).1 (t8 r41).1 (t9 r41).1 (t9 r41.2).1 (t9 (t2 r41)).1 (t9 (t3 r41)).1 (t9 (t4 r41))).bind fun r42 =>
         (laws_sum.f k r38).bind fun r43 =>
         bif decide (r43 ≤ (r37.length : Int)) then
          (impl_IsHand.f k r37).bind fun r44 =>
          bif (!r44) then
           (impl_IsGame.f k r41.1 r41.2.1 (t2 r41).1 (t3 r41).1 (t4 r41).1 (t5 r41).1 (t6 r41).1 (t7 r41).1 (t8 r41).1 (t9 r41).1 (t9 r41.2).1 (t9 (t2 r41)).1 (t9 (t3 r41)).1 (t9 (t4 r41))).bind fun r45 =>
           bif r45 then
            (impl_IsEnded.f k r41.1 r41.2.1 (t2 r41).1 (t3 r41).1 (t4 r41).1 (t5 r41).1 (t6 r41).1 (t7 r41).1 (t8 r41).1 (t9 r41).1 (t9 r41.2).1 (t9 (t2 r41)).1 (t9 (t3 r41)).1 (t9 (t4 r41))).bind fun r46 =>
            some ((decide (r42 ≥ 0)) == (!r46))
           else
            some ((decide (r42 ≥ 0)) == false)
          else
           (laws_sum.f k r38).bind fun r47 =>
           bif (r47 == (r37.length : Int)) then
            (impl_IsGame.f k r41.1 r41.2.1 (t2 r41).1 (t3 r41).1 (t4 r41).1 (t5 r41).1 (t6 r41).1 (t7 r41).1 (t8 r41).1 (t9 r41).1 (t9 r41.2).1 (t9 (t2 r41)).1 (t9 (t3 r41)).1 (t9 (t4 r41))).bind fun r48 =>
            bif r48 then
             (impl_IsEnded.f k r41.1 r41.2.1 (t2 r41).1 (t3 r41).1 (t4 r41).1 (t5 r41).1 (t6 r41).1 (t7 r41).1 (t8 r41).1 (t9 r41).1 (t9 r41.2).1 (t9 (t2 r41)).1 (t9 (t3 r41)).1 (t9 (t4 r41))).bind fun r49 =>
             some ((decide (r42 ≥ 0)) == (!r49))
            else
             some ((decide (r42 ≥ 0)) == false)
           else
            some false
         else
          some false) k 0
      else
       (spec_DrawSuitCounts.f k a).bind fun r50 =>
       (impl_SuitCounts.f k r50).bind fun r51 =>
       (spec_DrawMostOf.f k a).bind fun r52 =>
       (impl_MostOf.f k r52).bind fun r53 =>
       laws_FnChoosing.l13 k r53 r52 (some false) ((spec_DrawBestFor.f k a).bind fun r54 =>
        (impl_BestFor.f k r54.1 r54.2.1 (t2 r54).1 (t3 r54).1 (t4 r54).1 (t5 r54).1 (t6 r54).1 (t7 r54).1 (t8 r54).1 (t9 r54).1 (t9 r54.2).1 (t9 (t2 r54)).1 (t9 (t3 r54)).1 (t9 (t4 r54))).bind fun r55 =>
        (laws_sum.f k r51).bind fun r56 =>
        bif decide (r56 ≤ (r50.length : Int)) then
         (impl_IsHand.f k r50).bind fun r57 =>
         bif (!r57) then
          (impl_IsGame.f k r54.1 r54.2.1 (t2 r54).1 (t3 r54).1 (t4 r54).1 (t5 r54).1 (t6 r54).1 (t7 r54).1 (t8 r54).1 (t9 r54).1 (t9 r54.2).1 (t9 (t2 r54)).1 (t9 (t3 r54)).1 (t9 (t4 r54))).bind fun r58 =>
          bif r58 then
           (impl_IsEnded.f k r54.1 r54.2.1 (t2 r54).1 (t3 r54).1 (t4 r54).1 (t5 r54).1 (t6 r54).1 (t7 r54).1 (t8 r54).1 (t9 r54).1 (t9 r54.2).1 (t9 (t2 r54)).1 (t9 (t3 r54)).1 (t9 (t4 r54))).bind fun r59 =>
           some ((decide (r55 ≥ 0)) == (!r59))
          else
           some ((decide (r55 ≥ 0)) == false)
         else
          (laws_sum.f k r51).bind fun r60 =>
          bif (r60 == (r50.length : Int)) then
           (impl_IsGame.f k r54.1 r54.2.1 (t2 r54).1 (t3 r54).1 (t4 r54).1 (t5 r54).1 (t6 r54).1 (t7 r54).1 (t8 r54).1 (t9 r54).1 (t9 r54.2).1 (t9 (t2 r54)).1 (t9 (t3 r54)).1 (t9 (t4 r54))).bind fun r61 =>
           bif r61 then
            (impl_IsEnded.f k r54.1 r54.2.1 (t2 r54).1 (t3 r54).1 (t4 r54).1 (t5 r54).1 (t6 r54).1 (t7 r54).1 (t8 r54).1 (t9 r54).1 (t9 r54.2).1 (t9 (t2 r54)).1 (t9 (t3 r54)).1 (t9 (t4 r54))).bind fun r62 =>
            some ((decide (r55 ≥ 0)) == (!r62))
           else
            some ((decide (r55 ≥ 0)) == false)
          else
           some false
        else
         some false) k 0
  else
   (impl_IsGame.f k r2.1 r2.2.1 (t2 r2).1 (t3 r2).1 (t4 r2).1 (t5 r2).1 (t6 r2).1 (t7 r2).1 (t8 r2).1 (t9 r2).1 (t9 r2.2).1 (t9 (t2 r2)).1 (t9 (t3 r2)).1 (t9 (t4 r2)).1).bind fun r63 =>
   bif r63 then
    (impl_IsEnded.f k r2.1 r2.2.1 (t2 r2).1 (t3 r2).1 (t4 r2).1 (t5 r2).1 (t6 r2).1 (t7 r2).1 (t8 r2).1 (t9 r2).1 (t9 r2.2).1 (t9 (t2 r2)).1 (t9 (t3 r2)).1 (t9 (t4 r2)).1).bind fun r64 =>
    bif (!((t9 (t5 r4)) == (!r64))) then
     some false
    else
     bif (t9 (t5 r4)) then
      (impl_IsGame.f k r4.1 r4.2.1 (t2 r4).1 (t3 r4).1 (t4 r4).1 (t5 r4).1 (t6 r4).1 (t7 r4).1 (t8 r4).1 (t9 r4).1 (t9 r4.2).1 (t9 (t2 r4)).1 (t9 (t3 r4)).1 (t9 (t4 r4)).1).bind fun r65 =>
      bif (!r65) then
       some false
      else
       (spec_DrawSuitCounts.f k a).bind fun r66 =>
       (impl_SuitCounts.f k r66).bind fun r67 =>
       (spec_DrawMostOf.f k a).bind fun r68 =>
       (impl_MostOf.f k r68).bind fun r69 =>
       laws_FnChoosing.l13 k r69 r68 (some false) ((spec_DrawBestFor.f k a).bind fun r70 =>
        (impl_BestFor.f k r70.1 r70.2.1 (t2 r70).1 (t3 r70).1 (t4 r70).1 (t5 r70).1 (t6 r70).1 (t7 r70).1 (t8 r70).1 (t9 r70).1 (t9 r70.2).1 (t9 (t2 r70)).1 (t9 (t3 r70)).1 (t9 (t4 r70))).bind fun r71 =>
        (laws_sum.f k r67).bind fun r72 =>
        bif decide (r72 ≤ (r66.length : Int)) then
         (impl_IsHand.f k r66).bind fun r73 =>
         bif (!r73) then
          (impl_IsGame.f k r70.1 r70.2.1 (t2 r70).1 (t3 r70).1 (t4 r70).1 (t5 r70).1 (t6 r70).1 (t7 r70).1 (t8 r70).1 (t9 r70).1 (t9 r70.2).1 (t9 (t2 r70)).1 (t9 (t3 r70)).1 (t9 (t4 r70))).bind fun r74 =>
          bif r74 then
           (impl_IsEnded.f k r70.1 r70.2.1 (t2 r70).1 (t3 r70).1 (t4 r70).1 (t5 r70).1 (t6 r70).1 (t7 r70).1 (t8 r70).1 (t9 r70).1 (t9 r70.2).1 (t9 (t2 r70)).1 (t9 (t3 r70)).1 (t9 (t4 r70))).bind fun r75 =>
           some ((decide (r71 ≥ 0)) == (!r75))
          else
           some ((decide (r71 ≥ 0)) == false)
         else
          (laws_sum.f k r67).bind fun r76 =>
          bif (r76 == (r66.length : Int)) then
           (impl_IsGame.f k r70.1 r70.2.1 (t2 r70).1 (t3 r70).1 (t4 r70).1 (t5 r70).1 (t6 r70).1 (t7 r70).1 (t8 r70).1 (t9 r70).1 (t9 r70.2).1 (t9 (t2 r70)).1 (t9 (t3 r70)).1 (t9 (t4 r70))).bind fun r77 =>
           bif r77 then
            (impl_IsEnded.f k r70.1 r70.2.1 (t2 r70).1 (t3 r70).1 (t4 r70).1 (t5 r70).1 (t6 r70).1 (t7 r70).1 (t8 r70).1 (t9 r70).1 (t9 r70.2).1 (t9 (t2 r70)).1 (t9 (t3 r70)).1 (t9 (t4 r70))).bind fun r78 =>
            some ((decide (r71 ≥ 0)) == (!r78))
           else
            some ((decide (r71 ≥ 0)) == false)
          else
           some false
        else
         some false) k 0
     else
      (spec_DrawSuitCounts.f k a).bind fun r79 =>
      (impl_SuitCounts.f k r79).bind fun r80 =>
      (spec_DrawMostOf.f k a).bind fun r81 =>
      (impl_MostOf.f k r81).bind fun r82 =>
      laws_FnChoosing.l13 k r82 r81 (some false) ((spec_DrawBestFor.f k a).bind fun r83 =>
       (impl_BestFor.f k r83.1 r83.2.1 (t2 r83).1 (t3 r83).1 (t4 r83).1 (t5 r83).1 (t6 r83).1 (t7 r83).1 (t8 r83).1 (t9 r83).1 (t9 r83.2).1 (t9 (t2 r83)).1 (t9 (t3 r83)).1 (t9 (t4 r83))).bind fun r84 =>
       (laws_sum.f k r80).bind fun r85 =>
       bif decide (r85 ≤ (r79.length : Int)) then
        (impl_IsHand.f k r79).bind fun r86 =>
        bif (!r86) then
         (impl_IsGame.f k r83.1 r83.2.1 (t2 r83).1 (t3 r83).1 (t4 r83).1 (t5 r83).1 (t6 r83).1 (t7 r83).1 (t8 r83).1 (t9 r83).1 (t9 r83.2).1 (t9 (t2 r83)).1 (t9 (t3 r83)).1 (t9 (t4 r83))).bind fun r87 =>
         bif r87 then
          (impl_IsEnded.f k r83.1 r83.2.1 (t2 r83).1 (t3 r83).1 (t4 r83).1 (t5 r83).1 (t6 r83).1 (t7 r83).1 (t8 r83).1 (t9 r83).1 (t9 r83.2).1 (t9 (t2 r83)).1 (t9 (t3 r83)).1 (t9 (t4 r83))).bind fun r88 =>
          some ((decide (r84 ≥ 0)) == (!r88))
         else
          some ((decide (r84 ≥ 0)) == false)
        else
         (laws_sum.f k r80).bind fun r89 =>
         bif (r89 == (r79.length : Int)) then
          (impl_IsGame.f k r83.1 r83.2.1 (t2 r83).1 (t3 r83).1 (t4 r83).1 (t5 r83).1 (t6 r83).1 (t7 r83).1 (t8 r83).1 (t9 r83).1 (t9 r83.2).1 (t9 (t2 r83)).1 (t9 (t3 r83)).1 (t9 (t4 r83))).bind fun r90 =>
          bif r90 then
           (impl_IsEnded.f k r83.1 r83.2.1 (t2 r83).1 (t3 r83).1 (t4 r83).1 (t5 r83).1 (t6 r83).1 (t7 r83).1 (t8 r83).1 (t9 r83).1 (t9 r83.2).1 (t9 (t2 r83)).1 (t9 (t3 r83)).1 (t9 (t4 r83))).bind fun r91 =>
           some ((decide (r84 ≥ 0)) == (!r91))
          else
           some ((decide (r84 ≥ 0)) == false)
         else
          some false
       else
        some false) k 0
   else
    bif (!((t9 (t5 r4)) == false)) then
     some false
    else
     bif (t9 (t5 r4)) then
      (impl_IsGame.f k r4.1 r4.2.1 (t2 r4).1 (t3 r4).1 (t4 r4).1 (t5 r4).1 (t6 r4).1 (t7 r4).1 (t8 r4).1 (t9 r4).1 (t9 r4.2).1 (t9 (t2 r4)).1 (t9 (t3 r4)).1 (t9 (t4 r4)).1).bind fun r92 =>
      bif (!r92) then
       some false
      else
       (spec_DrawSuitCounts.f k a).bind fun r93 =>
       (impl_SuitCounts.f k r93).bind fun r94 =>
       (spec_DrawMostOf.f k a).bind fun r95 =>
       (impl_MostOf.f k r95).bind fun r96 =>
       laws_FnChoosing.l13 k r96 r95 (some false) ((spec_DrawBestFor.f k a).bind fun r97 =>
        (impl_BestFor.f k r97.1 r97.2.1 (t2 r97).1 (t3 r97).1 (t4 r97).1 (t5 r97).1 (t6 r97).1 (t7 r97).1 (t8 r97).1 (t9 r97).1 (t9 r97.2).1 (t9 (t2 r97)).1 (t9 (t3 r97)).1 (t9 (t4 r97))).bind fun r98 =>
        (laws_sum.f k r94).bind fun r99 =>
        bif decide (r99 ≤ (r93.length : Int)) then
         (impl_IsHand.f k r93).bind fun r100 =>
         bif (!r100) then
          (impl_IsGame.f k r97.1 r97.2.1 (t2 r97).1 (t3 r97).1 (t4 r97).1 (t5 r97).1 (t6 r97).1 (t7 r97).1 (t8 r97).1 (t9 r97).1 (t9 r97.2).1 (t9 (t2 r97)).1 (t9 (t3 r97)).1 (t9 (t4 r97))).bind fun r101 =>
          bif r101 then
           (impl_IsEnded.f k r97.1 r97.2.1 (t2 r97).1 (t3 r97).1 (t4 r97).1 (t5 r97).1 (t6 r97).1 (t7 r97).1 (t8 r97).1 (t9 r97).1 (t9 r97.2).1 (t9 (t2 r97)).1 (t9 (t3 r97)).1 (t9 (t4 r97))).bind fun r102 =>
           some ((decide (r98 ≥ 0)) == (!r102))
          else
           some ((decide (r98 ≥ 0)) == false)
         else
          (laws_sum.f k r94).bind fun r103 =>
          bif (r103 == (r93.length : Int)) then
           (impl_IsGame.f k r97.1 r97.2.1 (t2 r97).1 (t3 r97).1 (t4 r97).1 (t5 r97).1 (t6 r97).1 (t7 r97).1 (t8 r97).1 (t9 r97).1 (t9 r97.2).1 (t9 (t2 r97)).1 (t9 (t3 r97)).1 (t9 (t4 r97))).bind fun r104 =>
           bif r104 then
            (impl_IsEnded.f k r97.1 r97.2.1 (t2 r97).1 (t3 r97).1 (t4 r97).1 (t5 r97).1 (t6 r97).1 (t7 r97).1 (t8 r97).1 (t9 r97).1 (t9 r97.2).1 (t9 (t2 r97)).1 (t9 (t3 r97)).1 (t9 (t4 r97))).bind fun r105 =>
            some ((decide (r98 ≥ 0)) == (!r105))
           else
            some ((decide (r98 ≥ 0)) == false)
          else
           some false
        else
         some false) k 0
     else
      (spec_DrawSuitCounts.f k a).bind fun r106 =>
      (impl_SuitCounts.f k r106).bind fun r107 =>
      (spec_DrawMostOf.f k a).bind fun r108 =>
      (impl_MostOf.f k r108).bind fun r109 =>
      laws_FnChoosing.l13 k r109 r108 (some false) ((spec_DrawBestFor.f k a).bind fun r110 =>
       (impl_BestFor.f k r110.1 r110.2.1 (t2 r110).1 (t3 r110).1 (t4 r110).1 (t5 r110).1 (t6 r110).1 (t7 r110).1 (t8 r110).1 (t9 r110).1 (t9 r110.2).1 (t9 (t2 r110)).1 (t9 (t3 r110)).1 (t9 (t4 r110))).bind fun r111 =>
       (laws_sum.f k r107).bind fun r112 =>
       bif decide (r112 ≤ (r106.length : Int)) then
        (impl_IsHand.f k r106).bind fun r113 =>
        bif (!r113) then
         (impl_IsGame.f k r110.1 r110.2.1 (t2 r110).1 (t3 r110).1 (t4 r110).1 (t5 r110).1 (t6 r110).1 (t7 r110).1 (t8 r110).1 (t9 r110).1 (t9 r110.2).1 (t9 (t2 r110)).1 (t9 (t3 r110)).1 (t9 (t4 r110))).bind fun r114 =>
         bif r114 then
          (impl_IsEnded.f k r110.1 r110.2.1 (t2 r110).1 (t3 r110).1 (t4 r110).1 (t5 r110).1 (t6 r110).1 (t7 r110).1 (t8 r110).1 (t9 r110).1 (t9 r110.2).1 (t9 (t2 r110)).1 (t9 (t3 r110)).1 (t9 (t4 r110))).bind fun r115 =>
          some ((decide (r111 ≥ 0)) == (!r115))
         else
          some ((decide (r111 ≥ 0)) == false)
        else
         (laws_sum.f k r107).bind fun r116 =>
         bif (r116 == (r106.length : Int)) then
          (impl_IsGame.f k r110.1 r110.2.1 (t2 r110).1 (t3 r110).1 (t4 r110).1 (t5 r110).1 (t6 r110).1 (t7 r110).1 (t8 r110).1 (t9 r110).1 (t9 r110.2).1 (t9 (t2 r110)).1 (t9 (t3 r110)).1 (t9 (t4 r110))).bind fun r117 =>
          bif r117 then
           (impl_IsEnded.f k r110.1 r110.2.1 (t2 r110).1 (t3 r110).1 (t4 r110).1 (t5 r110).1 (t6 r110).1 (t7 r110).1 (t8 r110).1 (t9 r110).1 (t9 r110.2).1 (t9 (t2 r110)).1 (t9 (t3 r110)).1 (t9 (t4 r110))).bind fun r118 =>
           some ((decide (r111 ≥ 0)) == (!r118))
          else
           some ((decide (r111 ≥ 0)) == false)
         else
          some false
       else
        some false) k 0
end Go.Proofs.Ytfmmdbnkeadieaa
