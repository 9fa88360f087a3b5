/- Plain Lean functions, printed by a program out of the Go functions' translation: what each computes, without program and memory. -/
import Derived.Test.YtfbafmeeejmgoaaDoorVEval
import Derived.Test.YtfbafmeeejmgoaaDoorVExt
set_option linter.unusedVariables false
namespace Go.Proofs.YtfbafmeeejmgoaaDoor
open Go Go.Proofs.YtfbafmeeejmgoaaDoor.V

def spec_l1In.f (k : Nat) (a g i : Int) : Option (Bool) :=
 bif decide (a ≥ g) then
  some (decide (a ≤ i))
 else
  some false

def spec_IsCard.f (k : Nat) (a : Int) : Option (Bool) :=
 (spec_l1In.f k a 0 51).bind fun r1 =>
 some r1

def spec_RankOf.f (k : Nat) (a : Int) : Option (Int) :=
 (spec_IsCard.f k a).bind fun r1 =>
 bif (!r1) then
  some (-1)
 else
  some (a.tmod 13)

def spec_l14Count.s3 {R : Type} (k : Nat) (v0 : LI) (e0 : LI → Option R) (rec : Int → LI → Option R) (v1 : Int) (v2 : LI) : Option R :=
 bif decide (v1 < (v0.length : Int)) then
  chk ((decide (0 ≤ v1)) && (decide (v1 < (v0.length : Int)))) <|
  (spec_RankOf.f k (v0.getD v1.toNat 0)).bind fun r1 =>
  chk ((decide (0 ≤ r1)) && (decide (r1 < (v2.length : Int)))) <|
  chk ((decide (0 ≤ r1)) && (decide (r1 < (v2.length : Int)))) <|
  rec (IntKind.wrap .i64 (v1 + 1)) (v2.set r1.toNat (IntKind.wrap .i64 ((v2.getD r1.toNat 0) + 1)))
 else
  e0 v2
def spec_l14Count.l3 {R : Type} (k : Nat) (v0 : LI) (e0 : LI → Option R) (n : Nat) (v1 : Int) (v2 : LI) : Option R :=
 V.iter (A := Int × LI) (fun rec a => spec_l14Count.s3 k v0 e0 (fun c0 c1 => rec (c0, c1)) a.1 a.2) n (v1, v2)
theorem spec_l14Count.l3_succ {R : Type} (k : Nat) (v0 : LI) (e0 : LI → Option R) (n : Nat) (v1 : Int) (v2 : LI) : spec_l14Count.l3 (R := R) k v0 e0 (n + 1) v1 v2 = spec_l14Count.s3 k v0 e0 (spec_l14Count.l3 k v0 e0 n) v1 v2 := rfl
def spec_l14Count.f (k : Nat) (a : LI) : Option (LI) :=
 spec_l14Count.l3 k a (fun x2 =>
  some x2) k 0 (List.replicate 13 0)

def spec_l14Straight.s6 {R : Type} (k : Nat) (v0 : LI) (v1 : Int) (e0 : Bool → Option R) (rec : Bool → Int → Option R) (v2 : Bool) (v3 : Int) : Option R :=
 bif decide (v3 < 5) then
  bif decide ((IntKind.wrap .i64 (v1 - v3)) < 0) then
   bif v2 then
    chk (decide (12 < (v0.length : Int))) <|
    rec ((v0.getD 12 0) == 1) (IntKind.wrap .i64 (v3 + 1))
   else
    rec false (IntKind.wrap .i64 (v3 + 1))
  else
   bif v2 then
    chk ((decide (0 ≤ (IntKind.wrap .i64 (v1 - v3)))) && (decide ((IntKind.wrap .i64 (v1 - v3)) < (v0.length : Int)))) <|
    rec ((v0.getD ((IntKind.wrap .i64 (v1 - v3)).toNat) 0) == 1) (IntKind.wrap .i64 (v3 + 1))
   else
    rec false (IntKind.wrap .i64 (v3 + 1))
 else
  e0 v2
def spec_l14Straight.l6 {R : Type} (k : Nat) (v0 : LI) (v1 : Int) (e0 : Bool → Option R) (n : Nat) (v2 : Bool) (v3 : Int) : Option R :=
 V.iter (A := Bool × Int) (fun rec a => spec_l14Straight.s6 k v0 v1 e0 (fun c0 c1 => rec (c0, c1)) a.1 a.2) n (v2, v3)
theorem spec_l14Straight.l6_succ {R : Type} (k : Nat) (v0 : LI) (v1 : Int) (e0 : Bool → Option R) (n : Nat) (v2 : Bool) (v3 : Int) : spec_l14Straight.l6 (R := R) k v0 v1 e0 (n + 1) v2 v3 = spec_l14Straight.s6 k v0 v1 e0 (spec_l14Straight.l6 k v0 v1 e0 n) v2 v3 := rfl
def spec_l14Straight.s2 {R : Type} (k : Nat) (v0 : LI) (e0 : Int → Option R) (e1 : Option R) (rec : Int → Option R) (v1 : Int) : Option R :=
 bif decide (v1 ≥ 3) then
  spec_l14Straight.l6 k v0 v1 (fun x1 =>
   bif x1 then
    e0 v1
   else
    rec (IntKind.wrap .i64 (v1 - 1))) k true 0
 else
  e1
def spec_l14Straight.l2 {R : Type} (k : Nat) (v0 : LI) (e0 : Int → Option R) (e1 : Option R) (n : Nat) (v1 : Int) : Option R :=
 V.iter (A := Int) (fun rec a => spec_l14Straight.s2 k v0 e0 e1 (fun c0 => rec c0) a) n v1
theorem spec_l14Straight.l2_succ {R : Type} (k : Nat) (v0 : LI) (e0 : Int → Option R) (e1 : Option R) (n : Nat) (v1 : Int) : spec_l14Straight.l2 (R := R) k v0 e0 e1 (n + 1) v1 = spec_l14Straight.s2 k v0 e0 e1 (spec_l14Straight.l2 k v0 e0 e1 n) v1 := rfl
def spec_l14Straight.f (k : Nat) (a : LI) : Option (Int) :=
 spec_l14Straight.l2 k a (fun x2 =>
  some x2) (some (-1)) k 12

def spec_HasCard.s2 {R : Type} (k : Nat) (v0 : LI) (v1 : Int) (e0 e1 : Option R) (rec : Int → Option R) (v2 : Int) : Option R :=
 bif decide (v2 < (v0.length : Int)) then
  chk ((decide (0 ≤ v2)) && (decide (v2 < (v0.length : Int)))) <|
  bif ((v0.getD v2.toNat 0) == v1) then
   e0
  else
   rec (IntKind.wrap .i64 (v2 + 1))
 else
  e1
def spec_HasCard.l2 {R : Type} (k : Nat) (v0 : LI) (v1 : Int) (e0 e1 : Option R) (n : Nat) (v2 : Int) : Option R :=
 V.iter (A := Int) (fun rec a => spec_HasCard.s2 k v0 v1 e0 e1 (fun c0 => rec c0) a) n v2
theorem spec_HasCard.l2_succ {R : Type} (k : Nat) (v0 : LI) (v1 : Int) (e0 e1 : Option R) (n : Nat) (v2 : Int) : spec_HasCard.l2 (R := R) k v0 v1 e0 e1 (n + 1) v2 = spec_HasCard.s2 k v0 v1 e0 e1 (spec_HasCard.l2 k v0 v1 e0 e1 n) v2 := rfl
def spec_HasCard.f (k : Nat) (a : LI) (g : Int) : Option (Bool) :=
 spec_HasCard.l2 k a g (some true) (some false) k 0

def spec_IsHand.s2 {R : Type} (k : Nat) (v0 : LI) (e0 e1 : Option R) (rec : Int → Option R) (v1 : Int) : Option R :=
 bif decide (v1 < (v0.length : Int)) then
  chk ((decide (0 ≤ v1)) && (decide (v1 < (v0.length : Int)))) <|
  (spec_IsCard.f k (v0.getD v1.toNat 0)).bind fun r1 =>
  bif (!r1) then
   e0
  else
   chk ((decide (0 ≤ v1)) && (decide (v1 ≤ (v0.length : Int)))) <|
   chk ((decide (0 ≤ v1)) && (decide (v1 < (v0.length : Int)))) <|
   (spec_HasCard.f k (v0.take v1.toNat) (v0.getD v1.toNat 0)).bind fun r2 =>
   bif r2 then
    e0
   else
    rec (IntKind.wrap .i64 (v1 + 1))
 else
  e1
def spec_IsHand.l2 {R : Type} (k : Nat) (v0 : LI) (e0 e1 : Option R) (n : Nat) (v1 : Int) : Option R :=
 V.iter (A := Int) (fun rec a => spec_IsHand.s2 k v0 e0 e1 (fun c0 => rec c0) a) n v1
theorem spec_IsHand.l2_succ {R : Type} (k : Nat) (v0 : LI) (e0 e1 : Option R) (n : Nat) (v1 : Int) : spec_IsHand.l2 (R := R) k v0 e0 e1 (n + 1) v1 = spec_IsHand.s2 k v0 e0 e1 (spec_IsHand.l2 k v0 e0 e1 n) v1 := rfl
def spec_IsHand.f (k : Nat) (a : LI) : Option (Bool) :=
 spec_IsHand.l2 k a (some false) (some true) k 0

def spec_SuitOf.f (k : Nat) (a : Int) : Option (Int) :=
 (spec_IsCard.f k a).bind fun r1 =>
 bif (!r1) then
  some (-1)
 else
  some (IntKind.wrap .i64 (a.tdiv 13))

def spec_l14Flush.s2 {R : Type} (k : Nat) (v0 : LI) (e0 e1 : Option R) (rec : Int → Option R) (v1 : Int) : Option R :=
 bif decide (v1 < (v0.length : Int)) then
  chk ((decide (0 ≤ v1)) && (decide (v1 < (v0.length : Int)))) <|
  (spec_SuitOf.f k (v0.getD v1.toNat 0)).bind fun r1 =>
  chk (decide (0 < (v0.length : Int))) <|
  (spec_SuitOf.f k (v0.getD 0 0)).bind fun r2 =>
  bif (r1 != r2) then
   e0
  else
   rec (IntKind.wrap .i64 (v1 + 1))
 else
  e1
def spec_l14Flush.l2 {R : Type} (k : Nat) (v0 : LI) (e0 e1 : Option R) (n : Nat) (v1 : Int) : Option R :=
 V.iter (A := Int) (fun rec a => spec_l14Flush.s2 k v0 e0 e1 (fun c0 => rec c0) a) n v1
theorem spec_l14Flush.l2_succ {R : Type} (k : Nat) (v0 : LI) (e0 e1 : Option R) (n : Nat) (v1 : Int) : spec_l14Flush.l2 (R := R) k v0 e0 e1 (n + 1) v1 = spec_l14Flush.s2 k v0 e0 e1 (spec_l14Flush.l2 k v0 e0 e1 n) v1 := rfl
def spec_l14Flush.f (k : Nat) (a : LI) : Option (Bool) :=
 spec_l14Flush.l2 k a (some false) (some true) k 1

def spec_l14Has.s3 {R : Type} (k : Nat) (v0 : LI) (v1 : Int) (e0 : Int → Option R) (rec : Int → Int → Option R) (v2 v3 : Int) : Option R :=
 bif decide (v3 < (v0.length : Int)) then
  chk ((decide (0 ≤ v3)) && (decide (v3 < (v0.length : Int)))) <|
  bif ((v0.getD v3.toNat 0) == v1) then
   rec (IntKind.wrap .i64 (v2 + 1)) (IntKind.wrap .i64 (v3 + 1))
  else
   rec v2 (IntKind.wrap .i64 (v3 + 1))
 else
  e0 v2
def spec_l14Has.l3 {R : Type} (k : Nat) (v0 : LI) (v1 : Int) (e0 : Int → Option R) (n : Nat) (v2 v3 : Int) : Option R :=
 V.iter (A := Int × Int) (fun rec a => spec_l14Has.s3 k v0 v1 e0 (fun c0 c1 => rec (c0, c1)) a.1 a.2) n (v2, v3)
theorem spec_l14Has.l3_succ {R : Type} (k : Nat) (v0 : LI) (v1 : Int) (e0 : Int → Option R) (n : Nat) (v2 v3 : Int) : spec_l14Has.l3 (R := R) k v0 v1 e0 (n + 1) v2 v3 = spec_l14Has.s3 k v0 v1 e0 (spec_l14Has.l3 k v0 v1 e0 n) v2 v3 := rfl
def spec_l14Has.f (k : Nat) (a : LI) (g : Int) : Option (Int) :=
 spec_l14Has.l3 k a g (fun x1 =>
  some x1) k 0 0

def spec_KindOf.f (k : Nat) (a : LI) : Option (Int) :=
 (spec_IsHand.f k a).bind fun r1 =>
 bif (!r1) then
  some (-1)
 else
  bif ((a.length : Int) != 5) then
   some (-1)
  else
   (spec_l14Count.f k a).bind fun r2 =>
   (spec_l14Straight.f k r2).bind fun r3 =>
   bif decide (r3 ≥ 0) then
    (spec_l14Flush.f k a).bind fun r4 =>
    bif r4 then
     some 8
    else
     (spec_l14Has.f k r2 4).bind fun r5 =>
     bif (r5 == 1) then
      some 7
     else
      (spec_l14Has.f k r2 3).bind fun r6 =>
      bif (r6 == 1) then
       (spec_l14Has.f k r2 2).bind fun r7 =>
       bif (r7 == 1) then
        some 6
       else
        (spec_l14Flush.f k a).bind fun r8 =>
        bif r8 then
         some 5
        else
         (spec_l14Straight.f k r2).bind fun r9 =>
         bif decide (r9 ≥ 0) then
          some 4
         else
          (spec_l14Has.f k r2 3).bind fun r10 =>
          bif (r10 == 1) then
           some 3
          else
           (spec_l14Has.f k r2 2).bind fun r11 =>
           bif (r11 == 2) then
            some 2
           else
            (spec_l14Has.f k r2 2).bind fun r12 =>
            bif (r12 == 1) then
             some 1
            else
             some 0
      else
       (spec_l14Flush.f k a).bind fun r13 =>
       bif r13 then
        some 5
       else
        (spec_l14Straight.f k r2).bind fun r14 =>
        bif decide (r14 ≥ 0) then
         some 4
        else
         (spec_l14Has.f k r2 3).bind fun r15 =>
         bif (r15 == 1) then
          some 3
         else
          (spec_l14Has.f k r2 2).bind fun r16 =>
          bif (r16 == 2) then
           some 2
          else
           (spec_l14Has.f k r2 2).bind fun r17 =>
           bif (r17 == 1) then
            some 1
           else
            some 0
   else
    (spec_l14Has.f k r2 4).bind fun r18 =>
    bif (r18 == 1) then
     some 7
    else
     (spec_l14Has.f k r2 3).bind fun r19 =>
     bif (r19 == 1) then
      (spec_l14Has.f k r2 2).bind fun r20 =>
      bif (r20 == 1) then
       some 6
      else
       (spec_l14Flush.f k a).bind fun r21 =>
       bif r21 then
        some 5
       else
        (spec_l14Straight.f k r2).bind fun r22 =>
        bif decide (r22 ≥ 0) then
         some 4
        else
         (spec_l14Has.f k r2 3).bind fun r23 =>
         bif (r23 == 1) then
          some 3
         else
          (spec_l14Has.f k r2 2).bind fun r24 =>
          bif (r24 == 2) then
           some 2
          else
           (spec_l14Has.f k r2 2).bind fun r25 =>
           bif (r25 == 1) then
            some 1
           else
            some 0
     else
      (spec_l14Flush.f k a).bind fun r26 =>
      bif r26 then
       some 5
      else
       (spec_l14Straight.f k r2).bind fun r27 =>
       bif decide (r27 ≥ 0) then
        some 4
       else
        (spec_l14Has.f k r2 3).bind fun r28 =>
        bif (r28 == 1) then
         some 3
        else
         (spec_l14Has.f k r2 2).bind fun r29 =>
         bif (r29 == 2) then
          some 2
         else
          (spec_l14Has.f k r2 2).bind fun r30 =>
          bif (r30 == 1) then
           some 1
          else
           some 0

def spec_KeyOf.s12 {R : Type} (k : Nat) (v0 : Int) (v2 : LI) (e0 : LI → Option R) (rec : Int → LI → Option R) (v1 : Int) (v3 : LI) : Option R :=
 bif decide (v1 ≥ 0) then
  chk ((decide (0 ≤ v1)) && (decide (v1 < (v2.length : Int)))) <|
  bif ((v2.getD v1.toNat 0) == v0) then
   chk (decide ((v3.length + 1) * 8 ≤ room)) <|
   rec (IntKind.wrap .i64 (v1 - 1)) (v3 ++ [v1])
  else
   rec (IntKind.wrap .i64 (v1 - 1)) v3
 else
  e0 v3
def spec_KeyOf.l12 {R : Type} (k : Nat) (v0 : Int) (v2 : LI) (e0 : LI → Option R) (n : Nat) (v1 : Int) (v3 : LI) : Option R :=
 V.iter (A := Int × LI) (fun rec a => spec_KeyOf.s12 k v0 v2 e0 (fun c0 c1 => rec (c0, c1)) a.1 a.2) n (v1, v3)
theorem spec_KeyOf.l12_succ {R : Type} (k : Nat) (v0 : Int) (v2 : LI) (e0 : LI → Option R) (n : Nat) (v1 : Int) (v3 : LI) : spec_KeyOf.l12 (R := R) k v0 v2 e0 (n + 1) v1 v3 = spec_KeyOf.s12 k v0 v2 e0 (spec_KeyOf.l12 k v0 v2 e0 n) v1 v3 := rfl
def spec_KeyOf.s9 {R : Type} (k : Nat) (v1 : LI) (e0 : LI → Option R) (rec : Int → LI → Option R) (v0 : Int) (v2 : LI) : Option R :=
 bif decide (v0 ≥ 1) then
  spec_KeyOf.l12 k v0 v1 (fun x5 =>
   rec (IntKind.wrap .i64 (v0 - 1)) x5) k 12 v2
 else
  e0 v2
def spec_KeyOf.l9 {R : Type} (k : Nat) (v1 : LI) (e0 : LI → Option R) (n : Nat) (v0 : Int) (v2 : LI) : Option R :=
 V.iter (A := Int × LI) (fun rec a => spec_KeyOf.s9 k v1 e0 (fun c0 c1 => rec (c0, c1)) a.1 a.2) n (v0, v2)
theorem spec_KeyOf.l9_succ {R : Type} (k : Nat) (v1 : LI) (e0 : LI → Option R) (n : Nat) (v0 : Int) (v2 : LI) : spec_KeyOf.l9 (R := R) k v1 e0 (n + 1) v0 v2 = spec_KeyOf.s9 k v1 e0 (spec_KeyOf.l9 k v1 e0 n) v0 v2 := rfl
def spec_KeyOf.f (k : Nat) (a : LI) : Option (LI) :=
 (spec_KindOf.f k a).bind fun r1 =>
 bif decide (r1 < 0) then
  some ([])
 else
  (spec_l14Count.f k a).bind fun r2 =>
  bif (r1 == 4) then
   (spec_l14Straight.f k r2).bind fun r3 =>
   some ([r1, r3])
  else
   bif (r1 == 8) then
    (spec_l14Straight.f k r2).bind fun r4 =>
    some ([r1, r4])
   else
    spec_KeyOf.l9 k r2 (fun x6 =>
     some x6) k 4 [r1]

def spec_KindName.f (k : Nat) (a : Int) : Option (ByteArray) :=
 (spec_l1In.f k a 0 8).bind fun r1 =>
 bif (!r1) then
  some ByteArray.empty
 else
  chk ((decide (0 ≤ a)) && (decide (a < 9))) <|
  some (([(⟨#[104, 105, 103, 104]⟩ : ByteArray), (⟨#[112, 97, 105, 114]⟩ : ByteArray), (⟨#[116, 119, 111]⟩ : ByteArray), (⟨#[116, 104, 114, 101, 101]⟩ : ByteArray), (⟨#[115, 116, 114, 97, 105, 103, 104, 116]⟩ : ByteArray), (⟨#[102, 108, 117, 115, 104]⟩ : ByteArray), (⟨#[102, 117, 108, 108]⟩ : ByteArray), (⟨#[102, 111, 117, 114]⟩ : ByteArray), (⟨#[115, 116, 114, 97, 105, 103, 104, 116, 102, 108, 117, 115, 104]⟩ : ByteArray)]).getD a.toNat ByteArray.empty)

def spec_l39Join.s3 {R : Type} (k : Nat) (v0 : List ByteArray) (v1 : ByteArray) (e0 : ByteArray → Option R) (rec : ByteArray → Int → Option R) (v2 : ByteArray) (v3 : Int) : Option R :=
 bif decide (v3 < (v0.length : Int)) then
  bif decide (v3 > 0) then
   chk (decide (v2.size + v1.size ≤ maxI)) <|
   chk ((decide (0 ≤ v3)) && (decide (v3 < (v0.length : Int)))) <|
   chk (decide ((v2 ++ v1).size + (v0.getD v3.toNat ByteArray.empty).size ≤ maxI)) <|
   rec ((v2 ++ v1) ++ (v0.getD v3.toNat ByteArray.empty)) (IntKind.wrap .i64 (v3 + 1))
  else
   chk ((decide (0 ≤ v3)) && (decide (v3 < (v0.length : Int)))) <|
   chk (decide (v2.size + (v0.getD v3.toNat ByteArray.empty).size ≤ maxI)) <|
   rec (v2 ++ (v0.getD v3.toNat ByteArray.empty)) (IntKind.wrap .i64 (v3 + 1))
 else
  e0 v2
def spec_l39Join.l3 {R : Type} (k : Nat) (v0 : List ByteArray) (v1 : ByteArray) (e0 : ByteArray → Option R) (n : Nat) (v2 : ByteArray) (v3 : Int) : Option R :=
 V.iter (A := ByteArray × Int) (fun rec a => spec_l39Join.s3 k v0 v1 e0 (fun c0 c1 => rec (c0, c1)) a.1 a.2) n (v2, v3)
theorem spec_l39Join.l3_succ {R : Type} (k : Nat) (v0 : List ByteArray) (v1 : ByteArray) (e0 : ByteArray → Option R) (n : Nat) (v2 : ByteArray) (v3 : Int) : spec_l39Join.l3 (R := R) k v0 v1 e0 (n + 1) v2 v3 = spec_l39Join.s3 k v0 v1 e0 (spec_l39Join.l3 k v0 v1 e0 n) v2 v3 := rfl
def spec_l39Join.f (k : Nat) (a : List ByteArray) (g : ByteArray) : Option (ByteArray) :=
 spec_l39Join.l3 k a g (fun x1 =>
  bif ((a.length : Int) == 0) then
   some (⟨#[45]⟩ : ByteArray)
  else
   some x1) k ByteArray.empty 0

def spec_FormatInt.s5 {R : Type} (k : Nat) (e0 : ByteArray → Option R) (rec : ByteArray → Int → Option R) (v1 : ByteArray) (v2 : Int) : Option R :=
 bif (v2 != 0) then
  bif decide ((v2.tmod 10) < 0) then
   chk (decide ((strOf [IntKind.wrap .u8 (IntKind.wrap .i64 (48 + (IntKind.wrap .i64 (0 - (v2.tmod 10)))))]).size + v1.size ≤ maxI)) <|
   rec ((strOf [IntKind.wrap .u8 (IntKind.wrap .i64 (48 + (IntKind.wrap .i64 (0 - (v2.tmod 10)))))]) ++ v1) (IntKind.wrap .i64 (v2.tdiv 10))
  else
   chk (decide ((strOf [IntKind.wrap .u8 (IntKind.wrap .i64 (48 + (v2.tmod 10)))]).size + v1.size ≤ maxI)) <|
   rec ((strOf [IntKind.wrap .u8 (IntKind.wrap .i64 (48 + (v2.tmod 10)))]) ++ v1) (IntKind.wrap .i64 (v2.tdiv 10))
 else
  e0 v1
def spec_FormatInt.l5 {R : Type} (k : Nat) (e0 : ByteArray → Option R) (n : Nat) (v1 : ByteArray) (v2 : Int) : Option R :=
 V.iter (A := ByteArray × Int) (fun rec a => spec_FormatInt.s5 k e0 (fun c0 c1 => rec (c0, c1)) a.1 a.2) n (v1, v2)
theorem spec_FormatInt.l5_succ {R : Type} (k : Nat) (e0 : ByteArray → Option R) (n : Nat) (v1 : ByteArray) (v2 : Int) : spec_FormatInt.l5 (R := R) k e0 (n + 1) v1 v2 = spec_FormatInt.s5 k e0 (spec_FormatInt.l5 k e0 n) v1 v2 := rfl
def spec_FormatInt.f (k : Nat) (a : Int) : Option (ByteArray) :=
 bif (a == 0) then
  some (⟨#[48]⟩ : ByteArray)
 else
  spec_FormatInt.l5 k (fun x1 =>
   bif decide (a < 0) then
    chk (decide ((⟨#[45]⟩ : ByteArray).size + x1.size ≤ maxI)) <|
    some ((⟨#[45]⟩ : ByteArray) ++ x1)
   else
    some x1) k ByteArray.empty a

def spec_l39Numbers.s3 {R : Type} (k : Nat) (v0 : LI) (e0 : List ByteArray → Option R) (rec : Int → List ByteArray → Option R) (v1 : Int) (v2 : List ByteArray) : Option R :=
 bif decide (v1 < (v0.length : Int)) then
  chk ((decide (0 ≤ v1)) && (decide (v1 < (v0.length : Int)))) <|
  (spec_FormatInt.f k (v0.getD v1.toNat 0)).bind fun r1 =>
  chk (decide ((v2.length + 1) * 16 ≤ room)) <|
  rec (IntKind.wrap .i64 (v1 + 1)) (v2 ++ [r1])
 else
  e0 v2
def spec_l39Numbers.l3 {R : Type} (k : Nat) (v0 : LI) (e0 : List ByteArray → Option R) (n : Nat) (v1 : Int) (v2 : List ByteArray) : Option R :=
 V.iter (A := Int × List ByteArray) (fun rec a => spec_l39Numbers.s3 k v0 e0 (fun c0 c1 => rec (c0, c1)) a.1 a.2) n (v1, v2)
theorem spec_l39Numbers.l3_succ {R : Type} (k : Nat) (v0 : LI) (e0 : List ByteArray → Option R) (n : Nat) (v1 : Int) (v2 : List ByteArray) : spec_l39Numbers.l3 (R := R) k v0 e0 (n + 1) v1 v2 = spec_l39Numbers.s3 k v0 e0 (spec_l39Numbers.l3 k v0 e0 n) v1 v2 := rfl
def spec_l39Numbers.f (k : Nat) (a : LI) : Option (List ByteArray) :=
 spec_l39Numbers.l3 k a (fun x2 =>
  some x2) k 0 []

def spec_FormatKey.f (k : Nat) (a : LI) : Option (ByteArray) :=
 (spec_KeyOf.f k a).bind fun r1 =>
 bif ((r1.length : Int) == 0) then
  some (⟨#[45]⟩ : ByteArray)
 else
  chk (decide (0 < (r1.length : Int))) <|
  (spec_KindName.f k (r1.getD 0 0)).bind fun r2 =>
  chk (decide (r2.size + (⟨#[58]⟩ : ByteArray).size ≤ maxI)) <|
  chk ((decide (0 ≤ (r1.length : Int))) && (decide ((r1.length : Int) ≤ (r1.length : Int)))) <|
  chk (decide (1 ≤ (r1.length : Int))) <|
  (spec_l39Numbers.f k ((r1.take ((r1.length : Int).toNat)).drop 1)).bind fun r3 =>
  (spec_l39Join.f k r3 (⟨#[44]⟩ : ByteArray)).bind fun r4 =>
  chk (decide ((r2 ++ (⟨#[58]⟩ : ByteArray)).size + r4.size ≤ maxI)) <|
  some ((r2 ++ (⟨#[58]⟩ : ByteArray)) ++ r4)

def laws_toIntS.s3 {R : Type} (k : Nat) (v0 : LI) (e0 : LI → Option R) (rec : Int → LI → Option R) (v1 : Int) (v2 : LI) : Option R :=
 bif decide (v1 < (v0.length : Int)) then
  chk ((decide (0 ≤ v1)) && (decide (v1 < (v0.length : Int)))) <|
  chk ((decide (0 ≤ v1)) && (decide (v1 < (v2.length : Int)))) <|
  rec (IntKind.wrap .i64 (v1 + 1)) (v2.set v1.toNat (v0.getD v1.toNat 0))
 else
  e0 v2
def laws_toIntS.l3 {R : Type} (k : Nat) (v0 : LI) (e0 : LI → Option R) (n : Nat) (v1 : Int) (v2 : LI) : Option R :=
 V.iter (A := Int × LI) (fun rec a => laws_toIntS.s3 k v0 e0 (fun c0 c1 => rec (c0, c1)) a.1 a.2) n (v1, v2)
theorem laws_toIntS.l3_succ {R : Type} (k : Nat) (v0 : LI) (e0 : LI → Option R) (n : Nat) (v1 : Int) (v2 : LI) : laws_toIntS.l3 (R := R) k v0 e0 (n + 1) v1 v2 = laws_toIntS.s3 k v0 e0 (laws_toIntS.l3 k v0 e0 n) v1 v2 := rfl
def laws_toIntS.f (k : Nat) (a : LI) : Option (LI) :=
 chk ((decide (0 ≤ (a.length : Int))) && (decide (((a.length : Int).toNat) * 8 ≤ room))) <|
 laws_toIntS.l3 k a (fun x1 =>
  some x1) k 0 (List.replicate ((a.length : Int).toNat) 0)

def impl_InRange.f (k : Nat) (a g i : Int) : Option (Bool) :=
 bif decide (g ≤ a) then
  some (decide (a ≤ i))
 else
  some false

def impl_IsCard.f (k : Nat) (a : Int) : Option (Bool) :=
 (impl_InRange.f k a 0 51).bind fun r1 =>
 some r1

def impl_RankOf.f (k : Nat) (a : Int) : Option (Int) :=
 (impl_IsCard.f k a).bind fun r1 =>
 bif (!r1) then
  some (-1)
 else
  some (a.tmod 13)

def impl_ranked.s3 {R : Type} (k : Nat) (v0 : LI) (v1 : Int) (e0 : LI → Option R) (rec : Int → LI → Option R) (v2 : Int) (v3 : LI) : Option R :=
 bif decide (v2 < v1) then
  chk ((decide (0 ≤ v2)) && (decide (v2 < (v0.length : Int)))) <|
  (impl_RankOf.f k (v0.getD v2.toNat 0)).bind fun r1 =>
  chk ((decide (0 ≤ r1)) && (decide (r1 < 13))) <|
  chk ((decide (0 ≤ r1)) && (decide (r1 < 13))) <|
  rec (IntKind.wrap .i64 (v2 + 1)) (v3.set r1.toNat (IntKind.wrap .i64 ((v3.getD r1.toNat 0) + 1)))
 else
  e0 v3
def impl_ranked.l3 {R : Type} (k : Nat) (v0 : LI) (v1 : Int) (e0 : LI → Option R) (n : Nat) (v2 : Int) (v3 : LI) : Option R :=
 V.iter (A := Int × LI) (fun rec a => impl_ranked.s3 k v0 v1 e0 (fun c0 c1 => rec (c0, c1)) a.1 a.2) n (v2, v3)
theorem impl_ranked.l3_succ {R : Type} (k : Nat) (v0 : LI) (v1 : Int) (e0 : LI → Option R) (n : Nat) (v2 : Int) (v3 : LI) : impl_ranked.l3 (R := R) k v0 v1 e0 (n + 1) v2 v3 = impl_ranked.s3 k v0 v1 e0 (impl_ranked.l3 k v0 v1 e0 n) v2 v3 := rfl
def impl_ranked.s12 {R : Type} (k : Nat) (v0 : Int) (v2 : LI) (e0 : LI → LI → Option R) (rec : Int → LI → LI → Option R) (v1 : Int) (v3 v4 : LI) : Option R :=
 bif decide (v1 ≥ 0) then
  chk ((decide (0 ≤ v1)) && (decide (v1 < 13))) <|
  bif ((v2.getD v1.toNat 0) == v0) then
   chk (decide ((v3.length + 1) * 8 ≤ room)) <|
   chk (decide ((v4.length + 1) * 8 ≤ room)) <|
   rec (IntKind.wrap .i64 (v1 - 1)) (v3 ++ [v1]) (v4 ++ [v0])
  else
   rec (IntKind.wrap .i64 (v1 - 1)) v3 v4
 else
  e0 v3 v4
def impl_ranked.l12 {R : Type} (k : Nat) (v0 : Int) (v2 : LI) (e0 : LI → LI → Option R) (n : Nat) (v1 : Int) (v3 v4 : LI) : Option R :=
 V.iter (A := Int × LI × LI) (fun rec a => impl_ranked.s12 k v0 v2 e0 (fun c0 c1 c2 => rec (c0, c1, c2)) a.1 a.2.1 (t2 a)) n (v1, v3, v4)
theorem impl_ranked.l12_succ {R : Type} (k : Nat) (v0 : Int) (v2 : LI) (e0 : LI → LI → Option R) (n : Nat) (v1 : Int) (v3 v4 : LI) : impl_ranked.l12 (R := R) k v0 v2 e0 (n + 1) v1 v3 v4 = impl_ranked.s12 k v0 v2 e0 (impl_ranked.l12 k v0 v2 e0 n) v1 v3 v4 := rfl
def impl_ranked.s9 {R : Type} (k : Nat) (v1 : LI) (e0 : LI → LI → Option R) (rec : Int → LI → LI → Option R) (v0 : Int) (v2 v3 : LI) : Option R :=
 bif decide (v0 ≥ 1) then
  impl_ranked.l12 k v0 v1 (fun x3 x4 =>
   rec (IntKind.wrap .i64 (v0 - 1)) x3 x4) k 12 v2 v3
 else
  e0 v2 v3
def impl_ranked.l9 {R : Type} (k : Nat) (v1 : LI) (e0 : LI → LI → Option R) (n : Nat) (v0 : Int) (v2 v3 : LI) : Option R :=
 V.iter (A := Int × LI × LI) (fun rec a => impl_ranked.s9 k v1 e0 (fun c0 c1 c2 => rec (c0, c1, c2)) a.1 a.2.1 (t2 a)) n (v0, v2, v3)
theorem impl_ranked.l9_succ {R : Type} (k : Nat) (v1 : LI) (e0 : LI → LI → Option R) (n : Nat) (v0 : Int) (v2 v3 : LI) : impl_ranked.l9 (R := R) k v1 e0 (n + 1) v0 v2 v3 = impl_ranked.s9 k v1 e0 (impl_ranked.l9 k v1 e0 n) v0 v2 v3 := rfl
def impl_ranked.f (k : Nat) (a : LI) : Option (LI × LI) :=
 impl_ranked.l3 k a (a.length : Int) (fun x2 =>
  impl_ranked.l9 k x2 (fun x5 x6 =>
   some (x5, x6)) k 4 [] []) k 0 [0, 0, 0, 0, 0, 0, 0, 0, 0, 0, 0, 0, 0]

def impl_EqualInts.s4 {R : Type} (k : Nat) (v0 v1 : LI) (v2 : Int) (e0 e1 : Option R) (rec : Int → Option R) (v3 : Int) : Option R :=
 bif decide (v3 < v2) then
  chk ((decide (0 ≤ v3)) && (decide (v3 < (v0.length : Int)))) <|
  chk ((decide (0 ≤ v3)) && (decide (v3 < (v1.length : Int)))) <|
  bif ((v0.getD v3.toNat 0) != (v1.getD v3.toNat 0)) then
   e0
  else
   rec (IntKind.wrap .i64 (v3 + 1))
 else
  e1
def impl_EqualInts.l4 {R : Type} (k : Nat) (v0 v1 : LI) (v2 : Int) (e0 e1 : Option R) (n : Nat) (v3 : Int) : Option R :=
 V.iter (A := Int) (fun rec a => impl_EqualInts.s4 k v0 v1 v2 e0 e1 (fun c0 => rec c0) a) n v3
theorem impl_EqualInts.l4_succ {R : Type} (k : Nat) (v0 v1 : LI) (v2 : Int) (e0 e1 : Option R) (n : Nat) (v3 : Int) : impl_EqualInts.l4 (R := R) k v0 v1 v2 e0 e1 (n + 1) v3 = impl_EqualInts.s4 k v0 v1 v2 e0 e1 (impl_EqualInts.l4 k v0 v1 v2 e0 e1 n) v3 := rfl
def impl_EqualInts.f (k : Nat) (a g : LI) : Option (Bool) :=
 bif ((a.length : Int) != (g.length : Int)) then
  some false
 else
  impl_EqualInts.l4 k a g (a.length : Int) (some false) (some true) k 0

def impl_straight.f (k : Nat) (a : LI) : Option (Int) :=
 bif ((a.length : Int) != 5) then
  some (-1)
 else
  chk (decide (0 < (a.length : Int))) <|
  chk (decide (4 < (a.length : Int))) <|
  bif ((IntKind.wrap .i64 ((a.getD 0 0) - (a.getD 4 0))) == 4) then
   chk (decide (0 < (a.length : Int))) <|
   some (a.getD 0 0)
  else
   (impl_EqualInts.f k a [12, 3, 2, 1, 0]).bind fun r1 =>
   bif r1 then
    some 3
   else
    some (-1)

def impl_IsHand.s3 {R : Type} (k : Nat) (v0 : LI) (v1 : Int) (e0 e1 : Option R) (rec : Int → List Bool → Option R) (v2 : Int) (v3 : List Bool) : Option R :=
 bif decide (v2 < v1) then
  chk ((decide (0 ≤ v2)) && (decide (v2 < (v0.length : Int)))) <|
  (impl_IsCard.f k (v0.getD v2.toNat 0)).bind fun r1 =>
  bif (!r1) then
   e0
  else
   chk ((decide (0 ≤ (v0.getD v2.toNat 0))) && (decide ((v0.getD v2.toNat 0) < 52))) <|
   bif (v3.getD ((v0.getD v2.toNat 0).toNat) false) then
    e0
   else
    chk ((decide (0 ≤ (v0.getD v2.toNat 0))) && (decide ((v0.getD v2.toNat 0) < 52))) <|
    rec (IntKind.wrap .i64 (v2 + 1)) (v3.set ((v0.getD v2.toNat 0).toNat) true)
 else
  e1
def impl_IsHand.l3 {R : Type} (k : Nat) (v0 : LI) (v1 : Int) (e0 e1 : Option R) (n : Nat) (v2 : Int) (v3 : List Bool) : Option R :=
 V.iter (A := Int × List Bool) (fun rec a => impl_IsHand.s3 k v0 v1 e0 e1 (fun c0 c1 => rec (c0, c1)) a.1 a.2) n (v2, v3)
theorem impl_IsHand.l3_succ {R : Type} (k : Nat) (v0 : LI) (v1 : Int) (e0 e1 : Option R) (n : Nat) (v2 : Int) (v3 : List Bool) : impl_IsHand.l3 (R := R) k v0 v1 e0 e1 (n + 1) v2 v3 = impl_IsHand.s3 k v0 v1 e0 e1 (impl_IsHand.l3 k v0 v1 e0 e1 n) v2 v3 := rfl
def impl_IsHand.f (k : Nat) (a : LI) : Option (Bool) :=
 impl_IsHand.l3 k a (a.length : Int) (some false) (some true) k 0 [false, false, false, false, false, false, false, false, false, false, false, false, false, false, false, false, false, false, false, false, false, false, false, false, false, false, false, false, false, false, false, false, false, false, false, false, false, false, false, false, false, false, false, false, false, false, false, false, false, false, false, false]

def impl_SuitOf.f (k : Nat) (a : Int) : Option (Int) :=
 (impl_IsCard.f k a).bind fun r1 =>
 bif (!r1) then
  some (-1)
 else
  some (IntKind.wrap .i64 (a.tdiv 13))

def impl_KindOf.s6 {R : Type} (k : Nat) (v0 v2 : LI) (v3 : Int) (e0 : Bool → Option R) (rec : Bool → Int → Option R) (v1 : Bool) (v4 : Int) : Option R :=
 bif decide (v4 < v3) then
  chk ((decide (0 ≤ v4)) && (decide (v4 < (v2.length : Int)))) <|
  bif v1 then
   (impl_SuitOf.f k (v2.getD v4.toNat 0)).bind fun r5 =>
   chk (decide (0 < (v0.length : Int))) <|
   (impl_SuitOf.f k (v0.getD 0 0)).bind fun r6 =>
   rec (r5 == r6) (IntKind.wrap .i64 (v4 + 1))
  else
   rec false (IntKind.wrap .i64 (v4 + 1))
 else
  e0 v1
def impl_KindOf.l6 {R : Type} (k : Nat) (v0 v2 : LI) (v3 : Int) (e0 : Bool → Option R) (n : Nat) (v1 : Bool) (v4 : Int) : Option R :=
 V.iter (A := Bool × Int) (fun rec a => impl_KindOf.s6 k v0 v2 v3 e0 (fun c0 c1 => rec (c0, c1)) a.1 a.2) n (v1, v4)
theorem impl_KindOf.l6_succ {R : Type} (k : Nat) (v0 v2 : LI) (v3 : Int) (e0 : Bool → Option R) (n : Nat) (v1 : Bool) (v4 : Int) : impl_KindOf.l6 (R := R) k v0 v2 v3 e0 (n + 1) v1 v4 = impl_KindOf.s6 k v0 v2 v3 e0 (impl_KindOf.l6 k v0 v2 v3 e0 n) v1 v4 := rfl
def impl_KindOf.f (k : Nat) (a : LI) : Option (Int) :=
 (impl_IsHand.f k a).bind fun r1 =>
 bif (!r1) then
  some (-1)
 else
  bif ((a.length : Int) != 5) then
   some (-1)
  else
   (impl_ranked.f k a).bind fun r2 =>
   impl_KindOf.l6 k a a (a.length : Int) (fun x7 =>
    (impl_straight.f k r2.1).bind fun r8 =>
    bif decide (r8 ≥ 0) then
     bif x7 then
      some 8
     else
      chk (decide (0 < (r2.2.length : Int))) <|
      bif ((r2.2.getD 0 0) == 4) then
       some 7
      else
       chk (decide (0 < (r2.2.length : Int))) <|
       bif ((r2.2.getD 0 0) == 3) then
        chk (decide (1 < (r2.2.length : Int))) <|
        bif ((r2.2.getD 1 0) == 2) then
         some 6
        else
         bif x7 then
          some 5
         else
          bif decide (r8 ≥ 0) then
           some 4
          else
           chk (decide (0 < (r2.2.length : Int))) <|
           bif ((r2.2.getD 0 0) == 3) then
            some 3
           else
            chk (decide (0 < (r2.2.length : Int))) <|
            bif ((r2.2.getD 0 0) == 2) then
             chk (decide (1 < (r2.2.length : Int))) <|
             bif ((r2.2.getD 1 0) == 2) then
              some 2
             else
              chk (decide (0 < (r2.2.length : Int))) <|
              bif ((r2.2.getD 0 0) == 2) then
               some 1
              else
               some 0
            else
             chk (decide (0 < (r2.2.length : Int))) <|
             bif ((r2.2.getD 0 0) == 2) then
              some 1
             else
              some 0
       else
        bif x7 then
         some 5
        else
         bif decide (r8 ≥ 0) then
          some 4
         else
          chk (decide (0 < (r2.2.length : Int))) <|
          bif ((r2.2.getD 0 0) == 3) then
           some 3
          else
           chk (decide (0 < (r2.2.length : Int))) <|
           bif ((r2.2.getD 0 0) == 2) then
            chk (decide (1 < (r2.2.length : Int))) <|
            bif ((r2.2.getD 1 0) == 2) then
             some 2
            else
             chk (decide (0 < (r2.2.length : Int))) <|
             bif ((r2.2.getD 0 0) == 2) then
              some 1
             else
              some 0
           else
            chk (decide (0 < (r2.2.length : Int))) <|
            bif ((r2.2.getD 0 0) == 2) then
             some 1
            else
             some 0
    else
     chk (decide (0 < (r2.2.length : Int))) <|
     bif ((r2.2.getD 0 0) == 4) then
      some 7
     else
      chk (decide (0 < (r2.2.length : Int))) <|
      bif ((r2.2.getD 0 0) == 3) then
       chk (decide (1 < (r2.2.length : Int))) <|
       bif ((r2.2.getD 1 0) == 2) then
        some 6
       else
        bif x7 then
         some 5
        else
         bif decide (r8 ≥ 0) then
          some 4
         else
          chk (decide (0 < (r2.2.length : Int))) <|
          bif ((r2.2.getD 0 0) == 3) then
           some 3
          else
           chk (decide (0 < (r2.2.length : Int))) <|
           bif ((r2.2.getD 0 0) == 2) then
            chk (decide (1 < (r2.2.length : Int))) <|
            bif ((r2.2.getD 1 0) == 2) then
             some 2
            else
             chk (decide (0 < (r2.2.length : Int))) <|
             bif ((r2.2.getD 0 0) == 2) then
              some 1
             else
              some 0
           else
            chk (decide (0 < (r2.2.length : Int))) <|
            bif ((r2.2.getD 0 0) == 2) then
             some 1
            else
             some 0
      else
       bif x7 then
        some 5
       else
        bif decide (r8 ≥ 0) then
         some 4
        else
         chk (decide (0 < (r2.2.length : Int))) <|
         bif ((r2.2.getD 0 0) == 3) then
          some 3
         else
          chk (decide (0 < (r2.2.length : Int))) <|
          bif ((r2.2.getD 0 0) == 2) then
           chk (decide (1 < (r2.2.length : Int))) <|
           bif ((r2.2.getD 1 0) == 2) then
            some 2
           else
            chk (decide (0 < (r2.2.length : Int))) <|
            bif ((r2.2.getD 0 0) == 2) then
             some 1
            else
             some 0
          else
           chk (decide (0 < (r2.2.length : Int))) <|
           bif ((r2.2.getD 0 0) == 2) then
            some 1
           else
            some 0) k true 0

def impl_KeyOf.f (k : Nat) (a : LI) : Option (LI) :=
 (impl_KindOf.f k a).bind fun r1 =>
 bif decide (r1 < 0) then
  some ([])
 else
  (impl_ranked.f k a).bind fun r2 =>
  (impl_straight.f k r2.1).bind fun r3 =>
  bif decide (r3 ≥ 0) then
   some ([r1, r3])
  else
   chk (decide ((1 + r2.1.length) * 8 ≤ room)) <|
   some ([r1] ++ r2.1)

def impl_KindName.f (k : Nat) (a : Int) : Option (ByteArray) :=
 (impl_InRange.f k a 0 8).bind fun r1 =>
 bif (!r1) then
  some ByteArray.empty
 else
  chk ((decide (0 ≤ a)) && (decide (a < 9))) <|
  some (([(⟨#[104, 105, 103, 104]⟩ : ByteArray), (⟨#[112, 97, 105, 114]⟩ : ByteArray), (⟨#[116, 119, 111]⟩ : ByteArray), (⟨#[116, 104, 114, 101, 101]⟩ : ByteArray), (⟨#[115, 116, 114, 97, 105, 103, 104, 116]⟩ : ByteArray), (⟨#[102, 108, 117, 115, 104]⟩ : ByteArray), (⟨#[102, 117, 108, 108]⟩ : ByteArray), (⟨#[102, 111, 117, 114]⟩ : ByteArray), (⟨#[115, 116, 114, 97, 105, 103, 104, 116, 102, 108, 117, 115, 104]⟩ : ByteArray)]).getD a.toNat ByteArray.empty)

def strings_Join.f (k : Nat) (a0 : List ByteArray) (a1 : ByteArray) : Option (ByteArray) :=
  chk (Nat.ble a0.length 140737488355328 && Nat.ble (joinB a0 a1).size 140737488355328) <| some (joinB a0 a1)

def strconv_Itoa.f (k : Nat) (a0 : Int) : Option (ByteArray) :=
  chk (decide ((-9223372036854775808 : Int) ≤ a0) && decide (a0 ≤ 9223372036854775807)) <| some (itoaB a0)

def impl_FormatInt.f (k : Nat) (a : Int) : Option (ByteArray) :=
 (strconv_Itoa.f k a).bind fun r1 =>
 some r1

def impl_numbersText.s3 {R : Type} (k : Nat) (v1 : LI) (v2 : Int) (e0 : List ByteArray → Option R) (rec : Int → List ByteArray → Option R) (v3 : Int) (v4 : List ByteArray) : Option R :=
 bif decide (v3 < v2) then
  chk ((decide (0 ≤ v3)) && (decide (v3 < (v1.length : Int)))) <|
  (impl_FormatInt.f k (v1.getD v3.toNat 0)).bind fun r1 =>
  chk (decide ((v4.length + 1) * 16 ≤ room)) <|
  rec (IntKind.wrap .i64 (v3 + 1)) (v4 ++ [r1])
 else
  e0 v4
def impl_numbersText.l3 {R : Type} (k : Nat) (v1 : LI) (v2 : Int) (e0 : List ByteArray → Option R) (n : Nat) (v3 : Int) (v4 : List ByteArray) : Option R :=
 V.iter (A := Int × List ByteArray) (fun rec a => impl_numbersText.s3 k v1 v2 e0 (fun c0 c1 => rec (c0, c1)) a.1 a.2) n (v3, v4)
theorem impl_numbersText.l3_succ {R : Type} (k : Nat) (v1 : LI) (v2 : Int) (e0 : List ByteArray → Option R) (n : Nat) (v3 : Int) (v4 : List ByteArray) : impl_numbersText.l3 (R := R) k v1 v2 e0 (n + 1) v3 v4 = impl_numbersText.s3 k v1 v2 e0 (impl_numbersText.l3 k v1 v2 e0 n) v3 v4 := rfl
def impl_numbersText.f (k : Nat) (a : LI) (g : ByteArray) : Option (ByteArray) :=
 impl_numbersText.l3 k a (a.length : Int) (fun x2 =>
  (strings_Join.f k x2 g).bind fun r3 =>
  some r3) k 0 []

def impl_FormatKey.f (k : Nat) (a : LI) : Option (ByteArray) :=
 (impl_KeyOf.f k a).bind fun r1 =>
 bif ((r1.length : Int) == 0) then
  some (⟨#[45]⟩ : ByteArray)
 else
  chk (decide (0 < (r1.length : Int))) <|
  (impl_KindName.f k (r1.getD 0 0)).bind fun r2 =>
  chk (decide (r2.size + (⟨#[58]⟩ : ByteArray).size ≤ maxI)) <|
  chk ((decide (0 ≤ (r1.length : Int))) && (decide ((r1.length : Int) ≤ (r1.length : Int)))) <|
  chk (decide (1 ≤ (r1.length : Int))) <|
  (impl_numbersText.f k ((r1.take ((r1.length : Int).toNat)).drop 1) (⟨#[44]⟩ : ByteArray)).bind fun r3 =>
  chk (decide ((r2 ++ (⟨#[58]⟩ : ByteArray)).size + r3.size ≤ maxI)) <|
  some ((r2 ++ (⟨#[58]⟩ : ByteArray)) ++ r3)

def laws_eqIntS.s4 {R : Type} (k : Nat) (v0 v1 : LI) (e0 e1 : Option R) (rec : Int → Option R) (v2 : Int) : Option R :=
 bif decide (v2 < (v0.length : Int)) then
  chk ((decide (0 ≤ v2)) && (decide (v2 < (v0.length : Int)))) <|
  chk ((decide (0 ≤ v2)) && (decide (v2 < (v1.length : Int)))) <|
  bif ((v0.getD v2.toNat 0) != (v1.getD v2.toNat 0)) then
   e0
  else
   rec (IntKind.wrap .i64 (v2 + 1))
 else
  e1
def laws_eqIntS.l4 {R : Type} (k : Nat) (v0 v1 : LI) (e0 e1 : Option R) (n : Nat) (v2 : Int) : Option R :=
 V.iter (A := Int) (fun rec a => laws_eqIntS.s4 k v0 v1 e0 e1 (fun c0 => rec c0) a) n v2
theorem laws_eqIntS.l4_succ {R : Type} (k : Nat) (v0 v1 : LI) (e0 e1 : Option R) (n : Nat) (v2 : Int) : laws_eqIntS.l4 (R := R) k v0 v1 e0 e1 (n + 1) v2 = laws_eqIntS.s4 k v0 v1 e0 e1 (laws_eqIntS.l4 k v0 v1 e0 e1 n) v2 := rfl
def laws_eqIntS.f (k : Nat) (a g : LI) : Option (Bool) :=
 bif ((a.length : Int) != (g.length : Int)) then
  some false
 else
  laws_eqIntS.l4 k a g (some false) (some true) k 0

def laws_FnExactFormatKey.f (k : Nat) (a : LI) : Option (Bool) :=
 bif decide ((a.length : Int) > 1048576) then
  some true
 else
  (laws_toIntS.f k a).bind fun r1 =>
  (spec_FormatKey.f k r1).bind fun r2 =>
  (laws_toIntS.f k a).bind fun r3 =>
  (impl_FormatKey.f k r3).bind fun r4 =>
  bif (!(r4.toList == r2.toList)) then
   some false
  else
   (laws_toIntS.f k a).bind fun r5 =>
   (laws_eqIntS.f k r3 r5).bind fun r6 =>
   bif (!r6) then
    some false
   else
    some true
end Go.Proofs.YtfbafmeeejmgoaaDoor
