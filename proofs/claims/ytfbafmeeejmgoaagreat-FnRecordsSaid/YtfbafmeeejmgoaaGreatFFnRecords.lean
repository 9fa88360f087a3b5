/- Plain Lean functions, printed by a program out of the Go functions' translation: what each computes, without program and memory. -/
import Derived.Test.YtfbafmeeejmgoaaGreatVEval
import Derived.Test.YtfbafmeeejmgoaaGreatVExt
set_option linter.unusedVariables false
namespace Go.Proofs.YtfbafmeeejmgoaaGreat
open Go Go.Proofs.YtfbafmeeejmgoaaGreat.V

def laws_big.f (k : Nat) (a : LI) : Option (Bool) :=
 some (decide ((a.length : Int) > 1048576))

def spec_l1New.s3 {R : Type} (k : Nat) (v0 : LI) (e0 : Int → Option R) (rec : Int → Int → Option R) (v1 v2 : Int) : Option R :=
 bif decide (v2 < (v0.length : Int)) then
  bif decide (v2 < 4000) then
   chk ((decide (0 ≤ v2)) && (decide (v2 < (v0.length : Int)))) <|
   rec (ibits .and .i64 (IntKind.wrap .i64 ((IntKind.wrap .i64 ((IntKind.wrap .i64 (v1 * 137)) + (IntKind.wrap .i64 (v0.getD v2.toNat 0)))) + 11)) 1073741823) (IntKind.wrap .i64 (v2 + 1))
  else
   e0 v1
 else
  e0 v1
def spec_l1New.l3 {R : Type} (k : Nat) (v0 : LI) (e0 : Int → Option R) (n : Nat) (v1 v2 : Int) : Option R :=
 V.iter (A := Int × Int) (fun rec a => spec_l1New.s3 k v0 e0 (fun c0 c1 => rec (c0, c1)) a.1 a.2) n (v1, v2)
theorem spec_l1New.l3_succ {R : Type} (k : Nat) (v0 : LI) (e0 : Int → Option R) (n : Nat) (v1 v2 : Int) : spec_l1New.l3 (R := R) k v0 e0 (n + 1) v1 v2 = spec_l1New.s3 k v0 e0 (spec_l1New.l3 k v0 e0 n) v1 v2 := rfl
def spec_l1New.f (k : Nat) (a : LI) : Option (LI × Int × Int) :=
 spec_l1New.l3 k a (fun x1 =>
  some (a, 0, x1)) k (IntKind.wrap .i64 (193017 + (a.length : Int))) 0

def spec_l1Byte.f (k : Nat) (a0 : LI) (a1 a2 : Int) : Option (Int × LI × Int × Int) :=
 bif decide (a1 < (a0.length : Int)) then
  chk ((decide (0 ≤ a1)) && (decide (a1 < (a0.length : Int)))) <|
  some (ibits .and .i64 (IntKind.wrap .i64 ((ibits .and .i64 (ibits .xor .i64 ((IntKind.wrap .i64 ((IntKind.wrap .i64 (a2 * 6364136223846793005)) + 1442695040888963407)).fdiv (2 ^ (min 33 (IntKind.bits .i64)))) ((IntKind.wrap .i64 ((IntKind.wrap .i64 (a2 * 6364136223846793005)) + 1442695040888963407)).fdiv (2 ^ (min 47 (IntKind.bits .i64))))) 255) + (IntKind.wrap .i64 (a0.getD a1.toNat 0)))) 255, a0, IntKind.wrap .i64 (a1 + 1), IntKind.wrap .i64 ((IntKind.wrap .i64 (a2 * 6364136223846793005)) + 1442695040888963407))
 else
  some (ibits .and .i64 (ibits .xor .i64 ((IntKind.wrap .i64 ((IntKind.wrap .i64 (a2 * 6364136223846793005)) + 1442695040888963407)).fdiv (2 ^ (min 33 (IntKind.bits .i64)))) ((IntKind.wrap .i64 ((IntKind.wrap .i64 (a2 * 6364136223846793005)) + 1442695040888963407)).fdiv (2 ^ (min 47 (IntKind.bits .i64))))) 255, a0, a1, IntKind.wrap .i64 ((IntKind.wrap .i64 (a2 * 6364136223846793005)) + 1442695040888963407))

def spec_l1Below.f (k : Nat) (a0 : LI) (a1 a2 g : Int) : Option (Int × LI × Int × Int) :=
 bif decide (g ≤ 0) then
  some (0, a0, a1, a2)
 else
  bif decide (g ≤ 256) then
   (spec_l1Byte.f k a0 a1 a2).bind fun r1 =>
   chk (!(decide (g = 0))) <|
   some (r1.1.tmod g, r1.2.1, (t2 r1).1, (t3 r1))
  else
   (spec_l1Byte.f k a0 a1 a2).bind fun r2 =>
   (spec_l1Byte.f k r2.2.1 (t2 r2).1 (t3 r2)).bind fun r3 =>
   (spec_l1Byte.f k r3.2.1 (t2 r3).1 (t3 r3)).bind fun r4 =>
   chk (!(decide (g = 0))) <|
   some ((IntKind.wrap .i64 ((IntKind.wrap .i64 ((IntKind.wrap .i64 (r2.1 * 65536)) + (IntKind.wrap .i64 (r3.1 * 256)))) + r4.1)).tmod g, r4.2.1, (t2 r4).1, (t3 r4))

def spec_l1Once.f (k : Nat) (a0 : LI) (a1 a2 g : Int) : Option (Bool × LI × Int × Int) :=
 (spec_l1Below.f k a0 a1 a2 g).bind fun r1 =>
 some (r1.1 == 0, r1.2.1, (t2 r1).1, (t3 r1))

def spec_EasyRules.f (k : Nat) : Option (Int × Int × Bool × Bool × LI × LI × Int × Int) :=
 some (3, 5, true, true, [206], [212], 1, 200)

def spec_l1Int.f (k : Nat) (a0 : LI) (a1 a2 : Int) (g : LI) : Option (Int × LI × Int × Int) :=
 (spec_l1Below.f k a0 a1 a2 (g.length : Int)).bind fun r1 =>
 chk ((decide (0 ≤ r1.1)) && (decide (r1.1 < (g.length : Int)))) <|
 some (g.getD r1.1.toNat 0, r1.2.1, (t2 r1).1, (t3 r1))

def spec_l8Leaves.f (k : Nat) (a0 : LI) (a1 a2 : Int) : Option (Int × LI × Int × Int) :=
 (spec_l1Below.f k a0 a1 a2 4).bind fun r1 =>
 (spec_l1Below.f k r1.2.1 (t2 r1).1 (t3 r1) 13).bind fun r2 =>
 (spec_l1Below.f k r2.2.1 (t2 r2).1 (t3 r2) 13).bind fun r3 =>
 (spec_l1Int.f k r3.2.1 (t2 r3).1 (t3 r3) [IntKind.wrap .i64 (100 + r1.1), IntKind.wrap .i64 (200 + r2.1), IntKind.wrap .i64 (300 + r3.1), 400]).bind fun r4 =>
 some (r4.1, r4.2.1, (t2 r4).1, (t3 r4))

def spec_l8Draw.b (k : Nat) (self : LI → Int → Int → Int → Option (LI × LI × Int × Int)) (a0 : LI) (a1 a2 g : Int) : Option (LI × LI × Int × Int) :=
 bif (g == 0) then
  (spec_l8Leaves.f k a0 a1 a2).bind fun r1 =>
  some ([r1.1], r1.2.1, (t2 r1).1, (t3 r1))
 else
  (spec_l1Once.f k a0 a1 a2 4).bind fun r2 =>
  bif r2.1 then
   (spec_l8Leaves.f k r2.2.1 (t2 r2).1 (t3 r2)).bind fun r3 =>
   some ([r3.1], r3.2.1, (t2 r3).1, (t3 r3))
  else
   (spec_l1Once.f k r2.2.1 (t2 r2).1 (t3 r2) 4).bind fun r4 =>
   bif r4.1 then
    (self r4.2.1 (t2 r4).1 (t3 r4) (IntKind.wrap .i64 (g - 1))).bind fun r5 =>
    chk (decide ((r5.1.length + 1) * 8 ≤ room)) <|
    some (r5.1 ++ [(-1)], r5.2.1, (t2 r5).1, (t3 r5))
   else
    (self r4.2.1 (t2 r4).1 (t3 r4) (IntKind.wrap .i64 (g - 1))).bind fun r6 =>
    (self r6.2.1 (t2 r6).1 (t3 r6) (IntKind.wrap .i64 (g - 1))).bind fun r7 =>
    chk (decide ((r6.1.length + r7.1.length) * 8 ≤ room)) <|
    (spec_l1Below.f k r7.2.1 (t2 r7).1 (t3 r7) 2).bind fun r8 =>
    chk (decide ((((r6.1 ++ r7.1).length) + 1) * 8 ≤ room)) <|
    some ((r6.1 ++ r7.1) ++ [IntKind.wrap .i64 ((-2) - r8.1)], r8.2.1, (t2 r8).1, (t3 r8))
def spec_l8Draw.g (k : Nat) : Nat → LI → Int → Int → Int → Option (LI × LI × Int × Int)
 | 0 => fun _ _ _ _ => none
 | n + 1 => spec_l8Draw.b k (spec_l8Draw.g k n)
def spec_l8Draw.f (k : Nat) : LI → Int → Int → Int → Option (LI × LI × Int × Int) := spec_l8Draw.g k k

def spec_l22Draw.f (k : Nat) (a0 : LI) (a1 a2 : Int) : Option (Int × Int × Bool × Bool × LI × LI × Int × Int × LI × Int × Int) :=
 (spec_l1Below.f k a0 a1 a2 4).bind fun r1 =>
 (spec_l1Below.f k r1.2.1 (t2 r1).1 (t3 r1) 6).bind fun r2 =>
 (spec_l1Once.f k r2.2.1 (t2 r2).1 (t3 r2) 2).bind fun r3 =>
 (spec_l1Below.f k r3.2.1 (t2 r3).1 (t3 r3) 2).bind fun r4 =>
 (spec_l1Below.f k r4.2.1 (t2 r4).1 (t3 r4) 60).bind fun r5 =>
 (spec_l1Once.f k r5.2.1 (t2 r5).1 (t3 r5) 2).bind fun r6 =>
 bif r6.1 then
  (spec_l8Draw.f k r6.2.1 (t2 r6).1 (t3 r6) 1).bind fun r7 =>
  (spec_l1Once.f k r7.2.1 (t2 r7).1 (t3 r7) 2).bind fun r8 =>
  bif r8.1 then
   (spec_l8Draw.f k r8.2.1 (t2 r8).1 (t3 r8) 1).bind fun r9 =>
   some (IntKind.wrap .i64 (2 + r1.1), IntKind.wrap .i64 (1 + r2.1), r3.1, true, r7.1, r9.1, IntKind.wrap .i64 (1 + r4.1), IntKind.wrap .i64 (20 + r5.1), r9.2.1, (t2 r9).1, (t3 r9))
  else
   some (IntKind.wrap .i64 (2 + r1.1), IntKind.wrap .i64 (1 + r2.1), r3.1, true, r7.1, [], IntKind.wrap .i64 (1 + r4.1), IntKind.wrap .i64 (20 + r5.1), r8.2.1, (t2 r8).1, (t3 r8))
 else
  (spec_l1Once.f k r6.2.1 (t2 r6).1 (t3 r6) 2).bind fun r10 =>
  bif r10.1 then
   (spec_l8Draw.f k r10.2.1 (t2 r10).1 (t3 r10) 1).bind fun r11 =>
   some (IntKind.wrap .i64 (2 + r1.1), IntKind.wrap .i64 (1 + r2.1), r3.1, true, [], r11.1, IntKind.wrap .i64 (1 + r4.1), IntKind.wrap .i64 (20 + r5.1), r11.2.1, (t2 r11).1, (t3 r11))
  else
   some (IntKind.wrap .i64 (2 + r1.1), IntKind.wrap .i64 (1 + r2.1), r3.1, true, [], [], IntKind.wrap .i64 (1 + r4.1), IntKind.wrap .i64 (20 + r5.1), r10.2.1, (t2 r10).1, (t3 r10))

def spec_HasCard.s2 {R : Type} (k : Nat) (v0 : LI) (v1 : Int) (e0 e1 : Option R) (rec : Int → Option R) (v2 : Int) : Option R :=
 bif decide (v2 < (v0.length : Int)) then
  chk ((decide (0 ≤ v2)) && (decide (v2 < (v0.length : Int)))) <|
  bif ((v0.getD v2.toNat 0) == v1) then
   e0
  else
   rec (IntKind.wrap .i64 (v2 + 1))
 else
  e1
def spec_HasCard.l2 {R : Type} (k : Nat) (v0 : LI) (v1 : Int) (e0 e1 : Option R) (n : Nat) (v2 : Int) : Option R :=
 V.iter (A := Int) (fun rec a => spec_HasCard.s2 k v0 v1 e0 e1 (fun c0 => rec c0) a) n v2
theorem spec_HasCard.l2_succ {R : Type} (k : Nat) (v0 : LI) (v1 : Int) (e0 e1 : Option R) (n : Nat) (v2 : Int) : spec_HasCard.l2 (R := R) k v0 v1 e0 e1 (n + 1) v2 = spec_HasCard.s2 k v0 v1 e0 e1 (spec_HasCard.l2 k v0 v1 e0 e1 n) v2 := rfl
def spec_HasCard.f (k : Nat) (a : LI) (g : Int) : Option (Bool) :=
 spec_HasCard.l2 k a g (some true) (some false) k 0

def spec_l1In.f (k : Nat) (a g i : Int) : Option (Bool) :=
 bif decide (a ≥ g) then
  some (decide (a ≤ i))
 else
  some false

def spec_IsCard.f (k : Nat) (a : Int) : Option (Bool) :=
 (spec_l1In.f k a 0 51).bind fun r1 =>
 some r1

def spec_IsHand.s2 {R : Type} (k : Nat) (v0 : LI) (e0 e1 : Option R) (rec : Int → Option R) (v1 : Int) : Option R :=
 bif decide (v1 < (v0.length : Int)) then
  chk ((decide (0 ≤ v1)) && (decide (v1 < (v0.length : Int)))) <|
  (spec_IsCard.f k (v0.getD v1.toNat 0)).bind fun r1 =>
  bif (!r1) then
   e0
  else
   chk ((decide (0 ≤ v1)) && (decide (v1 ≤ (v0.length : Int)))) <|
   chk ((decide (0 ≤ v1)) && (decide (v1 < (v0.length : Int)))) <|
   (spec_HasCard.f k (v0.take v1.toNat) (v0.getD v1.toNat 0)).bind fun r2 =>
   bif r2 then
    e0
   else
    rec (IntKind.wrap .i64 (v1 + 1))
 else
  e1
def spec_IsHand.l2 {R : Type} (k : Nat) (v0 : LI) (e0 e1 : Option R) (n : Nat) (v1 : Int) : Option R :=
 V.iter (A := Int) (fun rec a => spec_IsHand.s2 k v0 e0 e1 (fun c0 => rec c0) a) n v1
theorem spec_IsHand.l2_succ {R : Type} (k : Nat) (v0 : LI) (e0 e1 : Option R) (n : Nat) (v1 : Int) : spec_IsHand.l2 (R := R) k v0 e0 e1 (n + 1) v1 = spec_IsHand.s2 k v0 e0 e1 (spec_IsHand.l2 k v0 e0 e1 n) v1 := rfl
def spec_IsHand.f (k : Nat) (a : LI) : Option (Bool) :=
 spec_IsHand.l2 k a (some false) (some true) k 0

def spec_l8Leaf.f (k : Nat) (a : Int) : Option (Bool) :=
 (spec_l1In.f k a 100 103).bind fun r1 =>
 bif r1 then
  some true
 else
  (spec_l1In.f k a 200 212).bind fun r2 =>
  bif r2 then
   some true
  else
   (spec_l1In.f k a 300 312).bind fun r3 =>
   bif r3 then
    some true
   else
    some (a == 400)

def spec_IsPattern.s3 {R : Type} (k : Nat) (v0 : LI) (e0 e1 : Int → Option R) (rec : Int → Int → Option R) (v1 v2 : Int) : Option R :=
 bif decide (v2 < (v0.length : Int)) then
  chk ((decide (0 ≤ v2)) && (decide (v2 < (v0.length : Int)))) <|
  (spec_l8Leaf.f k (v0.getD v2.toNat 0)).bind fun r1 =>
  bif r1 then
   rec (IntKind.wrap .i64 (v1 + 1)) (IntKind.wrap .i64 (v2 + 1))
  else
   chk ((decide (0 ≤ v2)) && (decide (v2 < (v0.length : Int)))) <|
   bif ((v0.getD v2.toNat 0) == (-1)) then
    bif decide (v1 ≥ 1) then
     rec v1 (IntKind.wrap .i64 (v2 + 1))
    else
     chk ((decide (0 ≤ v2)) && (decide (v2 < (v0.length : Int)))) <|
     bif ((v0.getD v2.toNat 0) == (-2)) then
      bif decide (v1 ≥ 2) then
       rec (IntKind.wrap .i64 (v1 - 1)) (IntKind.wrap .i64 (v2 + 1))
      else
       e0 v1
     else
      chk ((decide (0 ≤ v2)) && (decide (v2 < (v0.length : Int)))) <|
      bif ((v0.getD v2.toNat 0) == (-3)) then
       bif decide (v1 ≥ 2) then
        rec (IntKind.wrap .i64 (v1 - 1)) (IntKind.wrap .i64 (v2 + 1))
       else
        e0 v1
      else
       e0 v1
   else
    chk ((decide (0 ≤ v2)) && (decide (v2 < (v0.length : Int)))) <|
    bif ((v0.getD v2.toNat 0) == (-2)) then
     bif decide (v1 ≥ 2) then
      rec (IntKind.wrap .i64 (v1 - 1)) (IntKind.wrap .i64 (v2 + 1))
     else
      e0 v1
    else
     chk ((decide (0 ≤ v2)) && (decide (v2 < (v0.length : Int)))) <|
     bif ((v0.getD v2.toNat 0) == (-3)) then
      bif decide (v1 ≥ 2) then
       rec (IntKind.wrap .i64 (v1 - 1)) (IntKind.wrap .i64 (v2 + 1))
      else
       e0 v1
     else
      e0 v1
 else
  e1 v1
def spec_IsPattern.l3 {R : Type} (k : Nat) (v0 : LI) (e0 e1 : Int → Option R) (n : Nat) (v1 v2 : Int) : Option R :=
 V.iter (A := Int × Int) (fun rec a => spec_IsPattern.s3 k v0 e0 e1 (fun c0 c1 => rec (c0, c1)) a.1 a.2) n (v1, v2)
theorem spec_IsPattern.l3_succ {R : Type} (k : Nat) (v0 : LI) (e0 e1 : Int → Option R) (n : Nat) (v1 v2 : Int) : spec_IsPattern.l3 (R := R) k v0 e0 e1 (n + 1) v1 v2 = spec_IsPattern.s3 k v0 e0 e1 (spec_IsPattern.l3 k v0 e0 e1 n) v1 v2 := rfl
def spec_IsPattern.f (k : Nat) (a : LI) : Option (Bool) :=
 spec_IsPattern.l3 k a (fun x2 =>
  some false) (fun x3 =>
  bif (x3 == 1) then
   some (decide ((a.length : Int) ≤ 20))
  else
   some false) k 0 0

def spec_l22Pattern.f (k : Nat) (a : LI) : Option (Bool) :=
 bif ((a.length : Int) == 0) then
  some true
 else
  (spec_IsPattern.f k a).bind fun r1 =>
  some r1

def spec_IsRules.f (k : Nat) (a0 a1 : Int) (a2 a3 : Bool) (a4 a5 : LI) (a6 a7 : Int) : Option (Bool) :=
 (spec_l1In.f k a0 2 6).bind fun r1 =>
 bif r1 then
  (spec_l1In.f k a1 1 8).bind fun r2 =>
  bif r2 then
   bif a2 then
    (spec_l22Pattern.f k a4).bind fun r3 =>
    bif r3 then
     (spec_l22Pattern.f k a5).bind fun r4 =>
     bif r4 then
      (spec_l1In.f k a6 1 4).bind fun r5 =>
      bif r5 then
       (spec_l1In.f k a7 1 400).bind fun r6 =>
       some r6
      else
       some false
     else
      some false
    else
     some false
   else
    bif a3 then
     (spec_l22Pattern.f k a4).bind fun r7 =>
     bif r7 then
      (spec_l22Pattern.f k a5).bind fun r8 =>
      bif r8 then
       (spec_l1In.f k a6 1 4).bind fun r9 =>
       bif r9 then
        (spec_l1In.f k a7 1 400).bind fun r10 =>
        some r10
       else
        some false
      else
       some false
     else
      some false
    else
     some false
  else
   some false
 else
  some false

def spec_Dealt.s9 {R : Type} (k : Nat) (v0 : LI) (v1 v2 v3 : Int) (e0 : LI → Option R) (rec : Int → LI → Option R) (v4 : Int) (v6 : LI) : Option R :=
 bif decide (v4 < v2) then
  chk ((decide (0 ≤ (IntKind.wrap .i64 ((IntKind.wrap .i64 (v4 * v1)) + v3)))) && (decide ((IntKind.wrap .i64 ((IntKind.wrap .i64 (v4 * v1)) + v3)) < (v0.length : Int)))) <|
  chk (decide ((v6.length + 1) * 8 ≤ room)) <|
  rec (IntKind.wrap .i64 (v4 + 1)) (v6 ++ [v0.getD ((IntKind.wrap .i64 ((IntKind.wrap .i64 (v4 * v1)) + v3)).toNat) 0])
 else
  e0 v6
def spec_Dealt.l9 {R : Type} (k : Nat) (v0 : LI) (v1 v2 v3 : Int) (e0 : LI → Option R) (n : Nat) (v4 : Int) (v6 : LI) : Option R :=
 V.iter (A := Int × LI) (fun rec a => spec_Dealt.s9 k v0 v1 v2 v3 e0 (fun c0 c1 => rec (c0, c1)) a.1 a.2) n (v4, v6)
theorem spec_Dealt.l9_succ {R : Type} (k : Nat) (v0 : LI) (v1 v2 v3 : Int) (e0 : LI → Option R) (n : Nat) (v4 : Int) (v6 : LI) : spec_Dealt.l9 (R := R) k v0 v1 v2 v3 e0 (n + 1) v4 v6 = spec_Dealt.s9 k v0 v1 v2 v3 e0 (spec_Dealt.l9 k v0 v1 v2 v3 e0 n) v4 v6 := rfl
def spec_Dealt.s5 {R : Type} (k : Nat) (v0 : LI) (v1 v2 : Int) (e0 : LL → Option R) (rec : Int → LL → Option R) (v3 : Int) (v4 : LL) : Option R :=
 bif decide (v3 < v1) then
  spec_Dealt.l9 k v0 v1 v2 v3 (fun x4 =>
   chk (decide ((v4.length + 1) * 24 ≤ room)) <|
   rec (IntKind.wrap .i64 (v3 + 1)) (v4 ++ [x4])) k 0 []
 else
  e0 v4
def spec_Dealt.l5 {R : Type} (k : Nat) (v0 : LI) (v1 v2 : Int) (e0 : LL → Option R) (n : Nat) (v3 : Int) (v4 : LL) : Option R :=
 V.iter (A := Int × LL) (fun rec a => spec_Dealt.s5 k v0 v1 v2 e0 (fun c0 c1 => rec (c0, c1)) a.1 a.2) n (v3, v4)
theorem spec_Dealt.l5_succ {R : Type} (k : Nat) (v0 : LI) (v1 v2 : Int) (e0 : LL → Option R) (n : Nat) (v3 : Int) (v4 : LL) : spec_Dealt.l5 (R := R) k v0 v1 v2 e0 (n + 1) v3 v4 = spec_Dealt.s5 k v0 v1 v2 e0 (spec_Dealt.l5 k v0 v1 v2 e0 n) v3 v4 := rfl
def spec_Dealt.f (k : Nat) (a : LI) (g i : Int) : Option (LL × LI × Bool) :=
 (spec_IsHand.f k a).bind fun r1 =>
 bif (!r1) then
  chk (decide ((0 + a.length) * 8 ≤ room)) <|
  some ([], [] ++ a, false)
 else
  (spec_l1In.f k g 1 6).bind fun r2 =>
  bif (!r2) then
   chk (decide ((0 + a.length) * 8 ≤ room)) <|
   some ([], [] ++ a, false)
  else
   (spec_l1In.f k i 0 20).bind fun r3 =>
   bif (!r3) then
    chk (decide ((0 + a.length) * 8 ≤ room)) <|
    some ([], [] ++ a, false)
   else
    bif decide ((IntKind.wrap .i64 (g * i)) > (a.length : Int)) then
     chk (decide ((0 + a.length) * 8 ≤ room)) <|
     some ([], [] ++ a, false)
    else
     spec_Dealt.l5 k a g i (fun x5 =>
      chk ((decide (0 ≤ (IntKind.wrap .i64 (g * i)))) && (decide ((IntKind.wrap .i64 (g * i)) ≤ (a.length : Int)))) <|
      chk (decide ((0 + ((a.drop ((IntKind.wrap .i64 (g * i)).toNat)).length)) * 8 ≤ room)) <|
      some (x5, [] ++ (a.drop ((IntKind.wrap .i64 (g * i)).toNat)), true)) k 0 []

def spec_l22Copy.f (k : Nat) (a0 a1 : Int) (a2 a3 : Bool) (a4 a5 : LI) (a6 a7 : Int) : Option (Int × Int × Bool × Bool × LI × LI × Int × Int) :=
 chk (decide ((0 + a4.length) * 8 ≤ room)) <|
 chk (decide ((0 + a5.length) * 8 ≤ room)) <|
 some (a0, a1, a2, a3, [] ++ a4, [] ++ a5, a6, a7)

def spec_NewGame.f (k : Nat) (a0 a1 : Int) (a2 a3 : Bool) (a4 a5 : LI) (a6 a7 : Int) (g : LI) : Option (Int × Int × Bool × Bool × LI × LI × Int × Int × LL × LI × LI × Int × Int × Int × Bool) :=
 (spec_IsRules.f k a0 a1 a2 a3 a4 a5 a6 a7).bind fun r1 =>
 bif (!r1) then
  some (0, 0, false, false, [], [], 0, 0, [], [], [], 0, 0, 0, false)
 else
  (spec_IsHand.f k g).bind fun r2 =>
  bif (!r2) then
   some (0, 0, false, false, [], [], 0, 0, [], [], [], 0, 0, 0, false)
  else
   bif ((g.length : Int) != 52) then
    some (0, 0, false, false, [], [], 0, 0, [], [], [], 0, 0, 0, false)
   else
    (spec_Dealt.f k g a0 a1).bind fun r3 =>
    (spec_l22Copy.f k a0 a1 a2 a3 a4 a5 a6 a7).bind fun r4 =>
    chk (decide (1 ≤ (r3.2.1.length : Int))) <|
    chk (decide ((0 + (((r3.2.1.take 1).drop 0).length)) * 8 ≤ room)) <|
    chk ((decide (0 ≤ (r3.2.1.length : Int))) && (decide ((r3.2.1.length : Int) ≤ (r3.2.1.length : Int)))) <|
    chk (decide (1 ≤ (r3.2.1.length : Int))) <|
    chk (decide ((0 + (((r3.2.1.take ((r3.2.1.length : Int).toNat)).drop 1).length)) * 8 ≤ room)) <|
    some (r4.1, r4.2.1, (t2 r4).1, (t3 r4).1, (t4 r4).1, (t5 r4).1, (t6 r4).1, (t7 r4), r3.1, [] ++ ((r3.2.1.take ((r3.2.1.length : Int).toNat)).drop 1), [] ++ ((r3.2.1.take 1).drop 0), 0, 0, 0, true)

def spec_Mod.f (k : Nat) (a g : Int) : Option (Int) :=
 (spec_l1In.f k g 1 1000000000000).bind fun r1 =>
 bif (!r1) then
  some 0
 else
  chk (!(decide (g = 0))) <|
  chk (!(decide (g = 0))) <|
  some ((IntKind.wrap .i64 ((a.tmod g) + g)).tmod g)

def spec_Hash.s3 {R : Type} (k : Nat) (v0 : LI) (e0 : Int → Option R) (rec : Int → Int → Option R) (v1 v2 : Int) : Option R :=
 bif decide (v2 < (v0.length : Int)) then
  chk ((decide (0 ≤ v2)) && (decide (v2 < (v0.length : Int)))) <|
  (spec_Mod.f k (v0.getD v2.toNat 0) 2147483647).bind fun r1 =>
  rec ((IntKind.wrap .i64 ((IntKind.wrap .i64 ((IntKind.wrap .i64 (v1 * 1000003)) + r1)) + 13)).tmod 2147483647) (IntKind.wrap .i64 (v2 + 1))
 else
  e0 v1
def spec_Hash.l3 {R : Type} (k : Nat) (v0 : LI) (e0 : Int → Option R) (n : Nat) (v1 v2 : Int) : Option R :=
 V.iter (A := Int × Int) (fun rec a => spec_Hash.s3 k v0 e0 (fun c0 c1 => rec (c0, c1)) a.1 a.2) n (v1, v2)
theorem spec_Hash.l3_succ {R : Type} (k : Nat) (v0 : LI) (e0 : Int → Option R) (n : Nat) (v1 v2 : Int) : spec_Hash.l3 (R := R) k v0 e0 (n + 1) v1 v2 = spec_Hash.s3 k v0 e0 (spec_Hash.l3 k v0 e0 n) v1 v2 := rfl
def spec_Hash.f (k : Nat) (a : LI) : Option (Int) :=
 spec_Hash.l3 k a (fun x2 =>
  some x2) k 11 0

def spec_Shuffled.s3 {R : Type} (k : Nat) (v0 : Int) (e0 : LI → Option R) (rec : Int → LI → Option R) (v1 : Int) (v2 : LI) : Option R :=
 bif decide (v1 > 0) then
  (spec_Hash.f k [v0, v1]).bind fun r1 =>
  (spec_Mod.f k r1 (IntKind.wrap .i64 (v1 + 1))).bind fun r2 =>
  chk ((decide (0 ≤ v1)) && (decide (v1 < (v2.length : Int)))) <|
  chk ((decide (0 ≤ r2)) && (decide (r2 < (v2.length : Int)))) <|
  chk ((decide (0 ≤ v1)) && (decide (v1 < (v2.length : Int)))) <|
  chk ((decide (0 ≤ r2)) && (decide (r2 < ((v2.set v1.toNat (v2.getD r2.toNat 0)).length : Int)))) <|
  rec (IntKind.wrap .i64 (v1 - 1)) ((v2.set v1.toNat (v2.getD r2.toNat 0)).set r2.toNat (v2.getD v1.toNat 0))
 else
  e0 v2
def spec_Shuffled.l3 {R : Type} (k : Nat) (v0 : Int) (e0 : LI → Option R) (n : Nat) (v1 : Int) (v2 : LI) : Option R :=
 V.iter (A := Int × LI) (fun rec a => spec_Shuffled.s3 k v0 e0 (fun c0 c1 => rec (c0, c1)) a.1 a.2) n (v1, v2)
theorem spec_Shuffled.l3_succ {R : Type} (k : Nat) (v0 : Int) (e0 : LI → Option R) (n : Nat) (v1 : Int) (v2 : LI) : spec_Shuffled.l3 (R := R) k v0 e0 (n + 1) v1 v2 = spec_Shuffled.s3 k v0 e0 (spec_Shuffled.l3 k v0 e0 n) v1 v2 := rfl
def spec_Shuffled.f (k : Nat) (a : LI) (g : Int) : Option (LI) :=
 chk (decide ((0 + a.length) * 8 ≤ room)) <|
 spec_Shuffled.l3 k g (fun x3 =>
  some x3) k (IntKind.wrap .i64 ((([] ++ a).length : Int) - 1)) ([] ++ a)

def spec_Missing.s3 {R : Type} (k : Nat) (v0 : LI) (e0 : LI → Option R) (rec : Int → LI → Option R) (v1 : Int) (v2 : LI) : Option R :=
 bif decide (v1 < 52) then
  (spec_HasCard.f k v0 v1).bind fun r1 =>
  bif (!r1) then
   chk (decide ((v2.length + 1) * 8 ≤ room)) <|
   rec (IntKind.wrap .i64 (v1 + 1)) (v2 ++ [v1])
  else
   rec (IntKind.wrap .i64 (v1 + 1)) v2
 else
  e0 v2
def spec_Missing.l3 {R : Type} (k : Nat) (v0 : LI) (e0 : LI → Option R) (n : Nat) (v1 : Int) (v2 : LI) : Option R :=
 V.iter (A := Int × LI) (fun rec a => spec_Missing.s3 k v0 e0 (fun c0 c1 => rec (c0, c1)) a.1 a.2) n (v1, v2)
theorem spec_Missing.l3_succ {R : Type} (k : Nat) (v0 : LI) (e0 : LI → Option R) (n : Nat) (v1 : Int) (v2 : LI) : spec_Missing.l3 (R := R) k v0 e0 (n + 1) v1 v2 = spec_Missing.s3 k v0 e0 (spec_Missing.l3 k v0 e0 n) v1 v2 := rfl
def spec_Missing.f (k : Nat) (a : LI) : Option (LI) :=
 spec_Missing.l3 k a (fun x2 =>
  some x2) k 0 []

def spec_FullDeck.f (k : Nat) : Option (LI) :=
 (spec_Missing.f k []).bind fun r1 =>
 some r1

def spec_l24Start.f (k : Nat) (a0 : LI) (a1 a2 : Int) : Option (Int × Int × Bool × Bool × LI × LI × Int × Int × LL × LI × LI × Int × Int × Int × LI × Int × Int) :=
 (spec_EasyRules.f k).bind fun r1 =>
 (spec_l1Once.f k a0 a1 a2 2).bind fun r2 =>
 bif r2.1 then
  (spec_l22Draw.f k r2.2.1 (t2 r2).1 (t3 r2)).bind fun r3 =>
  (spec_FullDeck.f k).bind fun r4 =>
  (spec_l1Below.f k (t8 r3).1 (t9 r3).1 (t9 r3.2) 999).bind fun r5 =>
  (spec_Shuffled.f k r4 r5.1).bind fun r6 =>
  (spec_NewGame.f k r3.1 r3.2.1 (t2 r3).1 (t3 r3).1 (t4 r3).1 (t5 r3).1 (t6 r3).1 (t7 r3).1 r6).bind fun r7 =>
  some (r7.1, r7.2.1, (t2 r7).1, (t3 r7).1, (t4 r7).1, (t5 r7).1, (t6 r7).1, (t7 r7).1, (t8 r7).1, (t9 r7).1, (t9 r7.2).1, (t9 (t2 r7)).1, (t9 (t3 r7)).1, (t9 (t4 r7)).1, r5.2.1, (t2 r5).1, (t3 r5))
 else
  (spec_FullDeck.f k).bind fun r8 =>
  (spec_l1Below.f k r2.2.1 (t2 r2).1 (t3 r2) 999).bind fun r9 =>
  (spec_Shuffled.f k r8 r9.1).bind fun r10 =>
  (spec_NewGame.f k r1.1 r1.2.1 (t2 r1).1 (t3 r1).1 (t4 r1).1 (t5 r1).1 (t6 r1).1 (t7 r1) r10).bind fun r11 =>
  some (r11.1, r11.2.1, (t2 r11).1, (t3 r11).1, (t4 r11).1, (t5 r11).1, (t6 r11).1, (t7 r11).1, (t8 r11).1, (t9 r11).1, (t9 r11.2).1, (t9 (t2 r11)).1, (t9 (t3 r11)).1, (t9 (t4 r11)).1, r9.2.1, (t2 r9).1, (t3 r9))

def spec_l26Kinds.s3 {R : Type} (k : Nat) (e0 : LI → LI → Int → Int → Option R) (rec : Int → LI → Int → Int → LI → Option R) (v0 : Int) (v1 : LI) (v2 v3 : Int) (v4 : LI) : Option R :=
 bif decide (v0 > 0) then
  (spec_l1Below.f k v1 v2 v3 5).bind fun r2 =>
  chk (decide ((v4.length + 1) * 8 ≤ room)) <|
  rec (IntKind.wrap .i64 (v0 - 1)) r2.2.1 (t2 r2).1 (t3 r2) (v4 ++ [r2.1])
 else
  e0 v4 v1 v2 v3
def spec_l26Kinds.l3 {R : Type} (k : Nat) (e0 : LI → LI → Int → Int → Option R) (n : Nat) (v0 : Int) (v1 : LI) (v2 v3 : Int) (v4 : LI) : Option R :=
 V.iter (A := Int × LI × Int × Int × LI) (fun rec a => spec_l26Kinds.s3 k e0 (fun c0 c1 c2 c3 c4 => rec (c0, c1, c2, c3, c4)) a.1 a.2.1 (t2 a).1 (t3 a).1 (t4 a)) n (v0, v1, v2, v3, v4)
theorem spec_l26Kinds.l3_succ {R : Type} (k : Nat) (e0 : LI → LI → Int → Int → Option R) (n : Nat) (v0 : Int) (v1 : LI) (v2 v3 : Int) (v4 : LI) : spec_l26Kinds.l3 (R := R) k e0 (n + 1) v0 v1 v2 v3 v4 = spec_l26Kinds.s3 k e0 (spec_l26Kinds.l3 k e0 n) v0 v1 v2 v3 v4 := rfl
def spec_l26Kinds.f (k : Nat) (a0 : LI) (a1 a2 : Int) : Option (LI × LI × Int × Int) :=
 (spec_l1Below.f k a0 a1 a2 7).bind fun r1 =>
 spec_l26Kinds.l3 k (fun x3 x4 x5 x6 =>
  some (x3, x4, x5, x6)) k r1.1 r1.2.1 (t2 r1).1 (t3 r1) []

def spec_l4Card.f (k : Nat) (a0 : LI) (a1 a2 : Int) : Option (Int × LI × Int × Int) :=
 (spec_l1Below.f k a0 a1 a2 52).bind fun r1 =>
 (spec_l1Below.f k r1.2.1 (t2 r1).1 (t3 r1) 52).bind fun r2 =>
 (spec_l1Below.f k r2.2.1 (t2 r2).1 (t3 r2) 52).bind fun r3 =>
 (spec_l1Int.f k r3.2.1 (t2 r3).1 (t3 r3) [r1.1, r2.1, r3.1, 0, 51, 52, (-1), 9223372036854775807]).bind fun r4 =>
 some (r4.1, r4.2.1, (t2 r4).1, (t3 r4))

def spec_l8Any.f (k : Nat) (a0 : LI) (a1 a2 : Int) : Option (LI × LI × Int × Int) :=
 (spec_l8Draw.f k a0 a1 a2 2).bind fun r1 =>
 (spec_l1Below.f k r1.2.1 (t2 r1).1 (t3 r1) 10).bind fun r2 =>
 bif (r2.1 == 0) then
  (spec_l1Below.f k r2.2.1 (t2 r2).1 (t3 r2) (r1.1.length : Int)).bind fun r3 =>
  (spec_l1Int.f k r3.2.1 (t2 r3).1 (t3 r3) [104, 99, 213, 313, 401, (-4), (-2), 9223372036854775807]).bind fun r4 =>
  chk ((decide (0 ≤ r3.1)) && (decide (r3.1 < (r1.1.length : Int)))) <|
  some (r1.1.set r3.1.toNat r4.1, r4.2.1, (t2 r4).1, (t3 r4))
 else
  bif (r2.1 == 1) then
   chk ((decide (0 ≤ (r1.1.length : Int))) && (decide ((r1.1.length : Int) ≤ (r1.1.length : Int)))) <|
   chk (decide (1 ≤ (r1.1.length : Int))) <|
   some ((r1.1.take ((r1.1.length : Int).toNat)).drop 1, r2.2.1, (t2 r2).1, (t3 r2))
  else
   some (r1.1, r2.2.1, (t2 r2).1, (t3 r2))

def spec_l22Any.f (k : Nat) (a0 : LI) (a1 a2 : Int) : Option (Int × Int × Bool × Bool × LI × LI × Int × Int × LI × Int × Int) :=
 (spec_l22Draw.f k a0 a1 a2).bind fun r1 =>
 (spec_l1Below.f k (t8 r1).1 (t9 r1).1 (t9 r1.2) 14).bind fun r2 =>
 bif (r2.1 == 0) then
  (spec_l1Int.f k r2.2.1 (t2 r2).1 (t3 r2) [1, 6, 7]).bind fun r3 =>
  some (r3.1, r1.2.1, (t2 r1).1, (t3 r1).1, (t4 r1).1, (t5 r1).1, (t6 r1).1, (t7 r1).1, r3.2.1, (t2 r3).1, (t3 r3))
 else
  bif (r2.1 == 1) then
   (spec_l1Int.f k r2.2.1 (t2 r2).1 (t3 r2) [0, 8, 9]).bind fun r4 =>
   some (r1.1, r4.1, (t2 r1).1, (t3 r1).1, (t4 r1).1, (t5 r1).1, (t6 r1).1, (t7 r1).1, r4.2.1, (t2 r4).1, (t3 r4))
  else
   bif (r2.1 == 2) then
    some (r1.1, r1.2.1, (t2 r1).1, false, (t4 r1).1, (t5 r1).1, (t6 r1).1, (t7 r1).1, r2.2.1, (t2 r2).1, (t3 r2))
   else
    bif (r2.1 == 3) then
     (spec_l8Any.f k r2.2.1 (t2 r2).1 (t3 r2)).bind fun r5 =>
     some (r1.1, r1.2.1, (t2 r1).1, (t3 r1).1, r5.1, (t5 r1).1, (t6 r1).1, (t7 r1).1, r5.2.1, (t2 r5).1, (t3 r5))
    else
     bif (r2.1 == 4) then
      (spec_l1Int.f k r2.2.1 (t2 r2).1 (t3 r2) [0, 4, 5]).bind fun r6 =>
      some (r1.1, r1.2.1, (t2 r1).1, (t3 r1).1, (t4 r1).1, (t5 r1).1, r6.1, (t7 r1).1, r6.2.1, (t2 r6).1, (t3 r6))
     else
      bif (r2.1 == 5) then
       (spec_l1Int.f k r2.2.1 (t2 r2).1 (t3 r2) [0, 400, 401]).bind fun r7 =>
       some (r1.1, r1.2.1, (t2 r1).1, (t3 r1).1, (t4 r1).1, (t5 r1).1, (t6 r1).1, r7.1, r7.2.1, (t2 r7).1, (t3 r7))
      else
       some (r1.1, r1.2.1, (t2 r1).1, (t3 r1).1, (t4 r1).1, (t5 r1).1, (t6 r1).1, (t7 r1).1, r2.2.1, (t2 r2).1, (t3 r2))

def spec_IsGame.s5 {R : Type} (k : Nat) (v9 : LL) (e0 : LI → Option R) (rec : Int → LI → Option R) (v0 : Int) (v15 : LI) : Option R :=
 bif decide (v0 < (v9.length : Int)) then
  chk ((decide (0 ≤ v0)) && (decide (v0 < (v9.length : Int)))) <|
  chk (decide ((v15.length + ((v9.getD v0.toNat []).length)) * 8 ≤ room)) <|
  rec (IntKind.wrap .i64 (v0 + 1)) (v15 ++ (v9.getD v0.toNat []))
 else
  e0 v15
def spec_IsGame.l5 {R : Type} (k : Nat) (v9 : LL) (e0 : LI → Option R) (n : Nat) (v0 : Int) (v15 : LI) : Option R :=
 V.iter (A := Int × LI) (fun rec a => spec_IsGame.s5 k v9 e0 (fun c0 c1 => rec (c0, c1)) a.1 a.2) n (v0, v15)
theorem spec_IsGame.l5_succ {R : Type} (k : Nat) (v9 : LL) (e0 : LI → Option R) (n : Nat) (v0 : Int) (v15 : LI) : spec_IsGame.l5 (R := R) k v9 e0 (n + 1) v0 v15 = spec_IsGame.s5 k v9 e0 (spec_IsGame.l5 k v9 e0 n) v0 v15 := rfl
def spec_IsGame.f (k : Nat) (a0 a1 : Int) (a2 a3 : Bool) (a4 a5 : LI) (a6 a7 : Int) (a8 : LL) (a9 a10 : LI) (a11 a12 a13 : Int) : Option (Bool) :=
 (spec_IsRules.f k a0 a1 a2 a3 a4 a5 a6 a7).bind fun r1 =>
 bif (!r1) then
  some false
 else
  bif ((a8.length : Int) != a0) then
   some false
  else
   bif ((a10.length : Int) == 0) then
    some false
   else
    (spec_l1In.f k a11 0 (IntKind.wrap .i64 (a0 - 1))).bind fun r2 =>
    bif (!r2) then
     some false
    else
     (spec_l1In.f k a12 0 a7).bind fun r3 =>
     bif (!r3) then
      some false
     else
      (spec_l1In.f k a13 0 a12).bind fun r4 =>
      bif (!r4) then
       some false
      else
       chk (decide ((0 + a9.length) * 8 ≤ room)) <|
       chk (decide (((([] ++ a9).length) + a10.length) * 8 ≤ room)) <|
       spec_IsGame.l5 k a8 (fun x5 =>
        bif ((x5.length : Int) == 52) then
         (spec_IsHand.f k x5).bind fun r6 =>
         some r6
        else
         some false) k 0 (([] ++ a9) ++ a10)

def spec_l24First.s2 {R : Type} (k : Nat) (v9 : LL) (e0 : Int → Option R) (e1 : Option R) (rec : Int → Option R) (v0 : Int) : Option R :=
 bif decide (v0 < (v9.length : Int)) then
  chk ((decide (0 ≤ v0)) && (decide (v0 < (v9.length : Int)))) <|
  bif (((v9.getD v0.toNat []).length : Int) == 0) then
   e0 v0
  else
   rec (IntKind.wrap .i64 (v0 + 1))
 else
  e1
def spec_l24First.l2 {R : Type} (k : Nat) (v9 : LL) (e0 : Int → Option R) (e1 : Option R) (n : Nat) (v0 : Int) : Option R :=
 V.iter (A := Int) (fun rec a => spec_l24First.s2 k v9 e0 e1 (fun c0 => rec c0) a) n v0
theorem spec_l24First.l2_succ {R : Type} (k : Nat) (v9 : LL) (e0 : Int → Option R) (e1 : Option R) (n : Nat) (v0 : Int) : spec_l24First.l2 (R := R) k v9 e0 e1 (n + 1) v0 = spec_l24First.s2 k v9 e0 e1 (spec_l24First.l2 k v9 e0 e1 n) v0 := rfl
def spec_l24First.f (k : Nat) (a0 a1 : Int) (a2 a3 : Bool) (a4 a5 : LI) (a6 a7 : Int) (a8 : LL) (a9 a10 : LI) (a11 a12 a13 : Int) : Option (Int) :=
 spec_l24First.l2 k a8 (fun x1 =>
  some x1) (some (-1)) k 0

def spec_l24Over.f (k : Nat) (a0 a1 : Int) (a2 a3 : Bool) (a4 a5 : LI) (a6 a7 : Int) (a8 : LL) (a9 a10 : LI) (a11 a12 a13 : Int) : Option (Bool) :=
 (spec_l24First.f k a0 a1 a2 a3 a4 a5 a6 a7 a8 a9 a10 a11 a12 a13).bind fun r1 =>
 bif decide (r1 ≥ 0) then
  some true
 else
  bif (a12 == a7) then
   some true
  else
   some (decide (a13 ≥ a0))

def spec_Sorted.s6 {R : Type} (k : Nat) (v0 : LI) (v1 : Int) (v3 : LI) (e0 rec : Int → Option R) (v2 : Int) : Option R :=
 bif decide (v2 > 0) then
  chk ((decide (0 ≤ (IntKind.wrap .i64 (v2 - 1)))) && (decide ((IntKind.wrap .i64 (v2 - 1)) < (v3.length : Int)))) <|
  chk ((decide (0 ≤ v1)) && (decide (v1 < (v0.length : Int)))) <|
  bif decide ((v3.getD ((IntKind.wrap .i64 (v2 - 1)).toNat) 0) > (v0.getD v1.toNat 0)) then
   rec (IntKind.wrap .i64 (v2 - 1))
  else
   e0 v2
 else
  e0 v2
def spec_Sorted.l6 {R : Type} (k : Nat) (v0 : LI) (v1 : Int) (v3 : LI) (e0 : Int → Option R) (n : Nat) (v2 : Int) : Option R :=
 V.iter (A := Int) (fun rec a => spec_Sorted.s6 k v0 v1 v3 e0 (fun c0 => rec c0) a) n v2
theorem spec_Sorted.l6_succ {R : Type} (k : Nat) (v0 : LI) (v1 : Int) (v3 : LI) (e0 : Int → Option R) (n : Nat) (v2 : Int) : spec_Sorted.l6 (R := R) k v0 v1 v3 e0 (n + 1) v2 = spec_Sorted.s6 k v0 v1 v3 e0 (spec_Sorted.l6 k v0 v1 v3 e0 n) v2 := rfl
def spec_Sorted.s3 {R : Type} (k : Nat) (v0 : LI) (e0 : LI → Option R) (rec : Int → LI → Option R) (v1 : Int) (v2 : LI) : Option R :=
 bif decide (v1 < (v0.length : Int)) then
  spec_Sorted.l6 k v0 v1 v2 (fun x1 =>
   chk ((decide (0 ≤ x1)) && (decide (x1 ≤ (v2.length : Int)))) <|
   chk (decide (0 ≤ x1)) <|
   chk (decide ((0 + (((v2.take x1.toNat).drop 0).length)) * 8 ≤ room)) <|
   chk ((decide (0 ≤ v1)) && (decide (v1 < (v0.length : Int)))) <|
   chk (decide (((([] ++ ((v2.take x1.toNat).drop 0)).length) + 1) * 8 ≤ room)) <|
   chk ((decide (0 ≤ (v2.length : Int))) && (decide ((v2.length : Int) ≤ (v2.length : Int)))) <|
   chk ((decide (0 ≤ x1)) && (decide (x1 ≤ (v2.length : Int)))) <|
   chk (decide ((((([] ++ ((v2.take x1.toNat).drop 0)) ++ [v0.getD v1.toNat 0]).length) + (((v2.take ((v2.length : Int).toNat)).drop x1.toNat).length)) * 8 ≤ room)) <|
   rec (IntKind.wrap .i64 (v1 + 1)) ((([] ++ ((v2.take x1.toNat).drop 0)) ++ [v0.getD v1.toNat 0]) ++ ((v2.take ((v2.length : Int).toNat)).drop x1.toNat))) k (v2.length : Int)
 else
  e0 v2
def spec_Sorted.l3 {R : Type} (k : Nat) (v0 : LI) (e0 : LI → Option R) (n : Nat) (v1 : Int) (v2 : LI) : Option R :=
 V.iter (A := Int × LI) (fun rec a => spec_Sorted.s3 k v0 e0 (fun c0 c1 => rec (c0, c1)) a.1 a.2) n (v1, v2)
theorem spec_Sorted.l3_succ {R : Type} (k : Nat) (v0 : LI) (e0 : LI → Option R) (n : Nat) (v1 : Int) (v2 : LI) : spec_Sorted.l3 (R := R) k v0 e0 (n + 1) v1 v2 = spec_Sorted.s3 k v0 e0 (spec_Sorted.l3 k v0 e0 n) v1 v2 := rfl
def spec_Sorted.f (k : Nat) (a : LI) : Option (LI) :=
 spec_Sorted.l3 k a (fun x2 =>
  some x2) k 0 []

def spec_SuitOf.f (k : Nat) (a : Int) : Option (Int) :=
 (spec_IsCard.f k a).bind fun r1 =>
 bif (!r1) then
  some (-1)
 else
  some (IntKind.wrap .i64 (a.tdiv 13))

def spec_RankOf.f (k : Nat) (a : Int) : Option (Int) :=
 (spec_IsCard.f k a).bind fun r1 =>
 bif (!r1) then
  some (-1)
 else
  some (a.tmod 13)

def spec_IsRed.f (k : Nat) (a : Int) : Option (Bool) :=
 (spec_SuitOf.f k a).bind fun r1 =>
 (spec_l1In.f k r1 1 2).bind fun r2 =>
 some r2

def spec_l8Value.f (k : Nat) (a g : Int) : Option (Bool) :=
 bif (a == 400) then
  (spec_IsRed.f k g).bind fun r1 =>
  some r1
 else
  bif decide (a ≥ 300) then
   (spec_RankOf.f k g).bind fun r2 =>
   some (decide (r2 ≥ (IntKind.wrap .i64 (a - 300))))
  else
   bif decide (a ≥ 200) then
    (spec_RankOf.f k g).bind fun r3 =>
    some (r3 == (IntKind.wrap .i64 (a - 200)))
   else
    (spec_SuitOf.f k g).bind fun r4 =>
    some (r4 == (IntKind.wrap .i64 (a - 100)))

def spec_Matches.s5 {R : Type} (k : Nat) (v0 : LI) (v1 : Int) (e0 : List Bool → Option R) (rec : Int → List Bool → Option R) (v2 : Int) (v3 : List Bool) : Option R :=
 bif decide (v2 < (v0.length : Int)) then
  chk ((decide (0 ≤ v2)) && (decide (v2 < (v0.length : Int)))) <|
  bif ((v0.getD v2.toNat 0) == (-1)) then
   chk ((decide (0 ≤ (IntKind.wrap .i64 ((v3.length : Int) - 1)))) && (decide ((IntKind.wrap .i64 ((v3.length : Int) - 1)) < (v3.length : Int)))) <|
   chk ((decide (0 ≤ (IntKind.wrap .i64 ((v3.length : Int) - 1)))) && (decide ((IntKind.wrap .i64 ((v3.length : Int) - 1)) < (v3.length : Int)))) <|
   rec (IntKind.wrap .i64 (v2 + 1)) (v3.set ((IntKind.wrap .i64 ((v3.length : Int) - 1)).toNat) (!(v3.getD ((IntKind.wrap .i64 ((v3.length : Int) - 1)).toNat) false)))
  else
   bif ((v0.getD v2.toNat 0) == (-2)) then
    chk ((decide (0 ≤ (IntKind.wrap .i64 ((v3.length : Int) - 2)))) && (decide ((IntKind.wrap .i64 ((v3.length : Int) - 2)) ≤ (v3.length : Int)))) <|
    chk (decide (0 ≤ (IntKind.wrap .i64 ((v3.length : Int) - 2)))) <|
    chk ((decide (0 ≤ (IntKind.wrap .i64 ((v3.length : Int) - 2)))) && (decide ((IntKind.wrap .i64 ((v3.length : Int) - 2)) < (v3.length : Int)))) <|
    bif (v3.getD ((IntKind.wrap .i64 ((v3.length : Int) - 2)).toNat) false) then
     chk ((decide (0 ≤ (IntKind.wrap .i64 ((v3.length : Int) - 1)))) && (decide ((IntKind.wrap .i64 ((v3.length : Int) - 1)) < (v3.length : Int)))) <|
     chk (decide ((((v3.take ((IntKind.wrap .i64 ((v3.length : Int) - 2)).toNat)).length) + 1) * 1 ≤ room)) <|
     rec (IntKind.wrap .i64 (v2 + 1)) ((v3.take ((IntKind.wrap .i64 ((v3.length : Int) - 2)).toNat)) ++ [v3.getD ((IntKind.wrap .i64 ((v3.length : Int) - 1)).toNat) false])
    else
     chk (decide ((((v3.take ((IntKind.wrap .i64 ((v3.length : Int) - 2)).toNat)).length) + 1) * 1 ≤ room)) <|
     rec (IntKind.wrap .i64 (v2 + 1)) ((v3.take ((IntKind.wrap .i64 ((v3.length : Int) - 2)).toNat)) ++ [false])
   else
    bif ((v0.getD v2.toNat 0) == (-3)) then
     chk ((decide (0 ≤ (IntKind.wrap .i64 ((v3.length : Int) - 2)))) && (decide ((IntKind.wrap .i64 ((v3.length : Int) - 2)) ≤ (v3.length : Int)))) <|
     chk (decide (0 ≤ (IntKind.wrap .i64 ((v3.length : Int) - 2)))) <|
     chk ((decide (0 ≤ (IntKind.wrap .i64 ((v3.length : Int) - 2)))) && (decide ((IntKind.wrap .i64 ((v3.length : Int) - 2)) < (v3.length : Int)))) <|
     bif (v3.getD ((IntKind.wrap .i64 ((v3.length : Int) - 2)).toNat) false) then
      chk (decide ((((v3.take ((IntKind.wrap .i64 ((v3.length : Int) - 2)).toNat)).length) + 1) * 1 ≤ room)) <|
      rec (IntKind.wrap .i64 (v2 + 1)) ((v3.take ((IntKind.wrap .i64 ((v3.length : Int) - 2)).toNat)) ++ [true])
     else
      chk ((decide (0 ≤ (IntKind.wrap .i64 ((v3.length : Int) - 1)))) && (decide ((IntKind.wrap .i64 ((v3.length : Int) - 1)) < (v3.length : Int)))) <|
      chk (decide ((((v3.take ((IntKind.wrap .i64 ((v3.length : Int) - 2)).toNat)).length) + 1) * 1 ≤ room)) <|
      rec (IntKind.wrap .i64 (v2 + 1)) ((v3.take ((IntKind.wrap .i64 ((v3.length : Int) - 2)).toNat)) ++ [v3.getD ((IntKind.wrap .i64 ((v3.length : Int) - 1)).toNat) false])
    else
     chk ((decide (0 ≤ v2)) && (decide (v2 < (v0.length : Int)))) <|
     (spec_l8Value.f k (v0.getD v2.toNat 0) v1).bind fun r3 =>
     chk (decide ((v3.length + 1) * 1 ≤ room)) <|
     rec (IntKind.wrap .i64 (v2 + 1)) (v3 ++ [r3])
 else
  e0 v3
def spec_Matches.l5 {R : Type} (k : Nat) (v0 : LI) (v1 : Int) (e0 : List Bool → Option R) (n : Nat) (v2 : Int) (v3 : List Bool) : Option R :=
 V.iter (A := Int × List Bool) (fun rec a => spec_Matches.s5 k v0 v1 e0 (fun c0 c1 => rec (c0, c1)) a.1 a.2) n (v2, v3)
theorem spec_Matches.l5_succ {R : Type} (k : Nat) (v0 : LI) (v1 : Int) (e0 : List Bool → Option R) (n : Nat) (v2 : Int) (v3 : List Bool) : spec_Matches.l5 (R := R) k v0 v1 e0 (n + 1) v2 v3 = spec_Matches.s5 k v0 v1 e0 (spec_Matches.l5 k v0 v1 e0 n) v2 v3 := rfl
def spec_Matches.f (k : Nat) (a : LI) (g : Int) : Option (Bool) :=
 (spec_IsPattern.f k a).bind fun r1 =>
 bif (!r1) then
  some false
 else
  (spec_IsCard.f k g).bind fun r2 =>
  bif (!r2) then
   some false
  else
   spec_Matches.l5 k a g (fun x4 =>
    chk (decide (0 < (x4.length : Int))) <|
    some (x4.getD 0 false)) k 0 []

def spec_FitsOn.f (k : Nat) (a0 a1 : Int) (a2 a3 : Bool) (a4 a5 : LI) (a6 a7 g i : Int) : Option (Bool) :=
 (spec_IsRules.f k a0 a1 a2 a3 a4 a5 a6 a7).bind fun r1 =>
 bif (!r1) then
  some false
 else
  (spec_IsCard.f k g).bind fun r2 =>
  bif (!r2) then
   some false
  else
   (spec_IsCard.f k i).bind fun r3 =>
   bif (!r3) then
    some false
   else
    bif a2 then
     (spec_SuitOf.f k i).bind fun r4 =>
     (spec_SuitOf.f k g).bind fun r5 =>
     bif (r4 == r5) then
      some true
     else
      bif a3 then
       (spec_RankOf.f k i).bind fun r6 =>
       (spec_RankOf.f k g).bind fun r7 =>
       bif (r6 == r7) then
        some true
       else
        (spec_Matches.f k a4 i).bind fun r8 =>
        some r8
      else
       (spec_Matches.f k a4 i).bind fun r9 =>
       some r9
    else
     bif a3 then
      (spec_RankOf.f k i).bind fun r10 =>
      (spec_RankOf.f k g).bind fun r11 =>
      bif (r10 == r11) then
       some true
      else
       (spec_Matches.f k a4 i).bind fun r12 =>
       some r12
     else
      (spec_Matches.f k a4 i).bind fun r13 =>
      some r13

def spec_Playable.s6 {R : Type} (k : Nat) (v1 v2 : Int) (v3 v4 : Bool) (v5 v6 : LI) (v7 v8 : Int) (v11 v16 : LI) (e0 : LI → Option R) (rec : Int → LI → Option R) (v0 : Int) (v15 : LI) : Option R :=
 bif decide (v0 < (v16.length : Int)) then
  chk ((decide (0 ≤ (IntKind.wrap .i64 ((v11.length : Int) - 1)))) && (decide ((IntKind.wrap .i64 ((v11.length : Int) - 1)) < (v11.length : Int)))) <|
  chk ((decide (0 ≤ v0)) && (decide (v0 < (v16.length : Int)))) <|
  (spec_FitsOn.f k v1 v2 v3 v4 v5 v6 v7 v8 (v11.getD ((IntKind.wrap .i64 ((v11.length : Int) - 1)).toNat) 0) (v16.getD v0.toNat 0)).bind fun r4 =>
  bif r4 then
   chk ((decide (0 ≤ v0)) && (decide (v0 < (v16.length : Int)))) <|
   chk (decide ((v15.length + 1) * 8 ≤ room)) <|
   rec (IntKind.wrap .i64 (v0 + 1)) (v15 ++ [v16.getD v0.toNat 0])
  else
   rec (IntKind.wrap .i64 (v0 + 1)) v15
 else
  e0 v15
def spec_Playable.l6 {R : Type} (k : Nat) (v1 v2 : Int) (v3 v4 : Bool) (v5 v6 : LI) (v7 v8 : Int) (v11 v16 : LI) (e0 : LI → Option R) (n : Nat) (v0 : Int) (v15 : LI) : Option R :=
 V.iter (A := Int × LI) (fun rec a => spec_Playable.s6 k v1 v2 v3 v4 v5 v6 v7 v8 v11 v16 e0 (fun c0 c1 => rec (c0, c1)) a.1 a.2) n (v0, v15)
theorem spec_Playable.l6_succ {R : Type} (k : Nat) (v1 v2 : Int) (v3 v4 : Bool) (v5 v6 : LI) (v7 v8 : Int) (v11 v16 : LI) (e0 : LI → Option R) (n : Nat) (v0 : Int) (v15 : LI) : spec_Playable.l6 (R := R) k v1 v2 v3 v4 v5 v6 v7 v8 v11 v16 e0 (n + 1) v0 v15 = spec_Playable.s6 k v1 v2 v3 v4 v5 v6 v7 v8 v11 v16 e0 (spec_Playable.l6 k v1 v2 v3 v4 v5 v6 v7 v8 v11 v16 e0 n) v0 v15 := rfl
def spec_Playable.f (k : Nat) (a0 a1 : Int) (a2 a3 : Bool) (a4 a5 : LI) (a6 a7 : Int) (a8 : LL) (a9 a10 : LI) (a11 a12 a13 : Int) : Option (LI) :=
 (spec_IsGame.f k a0 a1 a2 a3 a4 a5 a6 a7 a8 a9 a10 a11 a12 a13).bind fun r1 =>
 bif (!r1) then
  some ([])
 else
  (spec_l24Over.f k a0 a1 a2 a3 a4 a5 a6 a7 a8 a9 a10 a11 a12 a13).bind fun r2 =>
  bif r2 then
   some ([])
  else
   chk ((decide (0 ≤ a11)) && (decide (a11 < (a8.length : Int)))) <|
   (spec_Sorted.f k (a8.getD a11.toNat [])).bind fun r3 =>
   spec_Playable.l6 k a0 a1 a2 a3 a4 a5 a6 a7 a10 r3 (fun x5 =>
    some x5) k 0 []

def spec_Without.s3 {R : Type} (k : Nat) (v0 : LI) (v1 : Int) (e0 : LI → Option R) (rec : Int → LI → Option R) (v2 : Int) (v3 : LI) : Option R :=
 bif decide (v2 < (v0.length : Int)) then
  chk ((decide (0 ≤ v2)) && (decide (v2 < (v0.length : Int)))) <|
  bif ((v0.getD v2.toNat 0) != v1) then
   chk ((decide (0 ≤ v2)) && (decide (v2 < (v0.length : Int)))) <|
   chk (decide ((v3.length + 1) * 8 ≤ room)) <|
   rec (IntKind.wrap .i64 (v2 + 1)) (v3 ++ [v0.getD v2.toNat 0])
  else
   rec (IntKind.wrap .i64 (v2 + 1)) v3
 else
  e0 v3
def spec_Without.l3 {R : Type} (k : Nat) (v0 : LI) (v1 : Int) (e0 : LI → Option R) (n : Nat) (v2 : Int) (v3 : LI) : Option R :=
 V.iter (A := Int × LI) (fun rec a => spec_Without.s3 k v0 v1 e0 (fun c0 c1 => rec (c0, c1)) a.1 a.2) n (v2, v3)
theorem spec_Without.l3_succ {R : Type} (k : Nat) (v0 : LI) (v1 : Int) (e0 : LI → Option R) (n : Nat) (v2 : Int) (v3 : LI) : spec_Without.l3 (R := R) k v0 v1 e0 (n + 1) v2 v3 = spec_Without.s3 k v0 v1 e0 (spec_Without.l3 k v0 v1 e0 n) v2 v3 := rfl
def spec_Without.f (k : Nat) (a : LI) (g : Int) : Option (LI) :=
 spec_Without.l3 k a g (fun x1 =>
  some x1) k 0 []

def spec_l15Copy.s3 {R : Type} (k : Nat) (v0 : LL) (e0 : LL → Option R) (rec : Int → LL → Option R) (v1 : Int) (v2 : LL) : Option R :=
 bif decide (v1 < (v0.length : Int)) then
  chk ((decide (0 ≤ v1)) && (decide (v1 < (v0.length : Int)))) <|
  chk (decide ((0 + ((v0.getD v1.toNat []).length)) * 8 ≤ room)) <|
  chk (decide ((v2.length + 1) * 24 ≤ room)) <|
  rec (IntKind.wrap .i64 (v1 + 1)) (v2 ++ ([[] ++ (v0.getD v1.toNat [])]))
 else
  e0 v2
def spec_l15Copy.l3 {R : Type} (k : Nat) (v0 : LL) (e0 : LL → Option R) (n : Nat) (v1 : Int) (v2 : LL) : Option R :=
 V.iter (A := Int × LL) (fun rec a => spec_l15Copy.s3 k v0 e0 (fun c0 c1 => rec (c0, c1)) a.1 a.2) n (v1, v2)
theorem spec_l15Copy.l3_succ {R : Type} (k : Nat) (v0 : LL) (e0 : LL → Option R) (n : Nat) (v1 : Int) (v2 : LL) : spec_l15Copy.l3 (R := R) k v0 e0 (n + 1) v1 v2 = spec_l15Copy.s3 k v0 e0 (spec_l15Copy.l3 k v0 e0 n) v1 v2 := rfl
def spec_l15Copy.f (k : Nat) (a : LL) : Option (LL) :=
 spec_l15Copy.l3 k a (fun x1 =>
  some x1) k 0 []

def spec_l24Copy.f (k : Nat) (a0 a1 : Int) (a2 a3 : Bool) (a4 a5 : LI) (a6 a7 : Int) (a8 : LL) (a9 a10 : LI) (a11 a12 a13 : Int) : Option (Int × Int × Bool × Bool × LI × LI × Int × Int × LL × LI × LI × Int × Int × Int) :=
 (spec_l22Copy.f k a0 a1 a2 a3 a4 a5 a6 a7).bind fun r1 =>
 (spec_l15Copy.f k a8).bind fun r2 =>
 chk (decide ((0 + a9.length) * 8 ≤ room)) <|
 chk (decide ((0 + a10.length) * 8 ≤ room)) <|
 some (r1.1, r1.2.1, (t2 r1).1, (t3 r1).1, (t4 r1).1, (t5 r1).1, (t6 r1).1, (t7 r1), r2, [] ++ a9, [] ++ a10, a11, a12, a13)

def spec_DoesSkip.f (k : Nat) (a0 a1 : Int) (a2 a3 : Bool) (a4 a5 : LI) (a6 a7 g : Int) : Option (Bool) :=
 (spec_IsRules.f k a0 a1 a2 a3 a4 a5 a6 a7).bind fun r1 =>
 bif r1 then
  (spec_Matches.f k a5 g).bind fun r2 =>
  some r2
 else
  some false

def spec_PlayOn.f (k : Nat) (a0 a1 : Int) (a2 a3 : Bool) (a4 a5 : LI) (a6 a7 : Int) (a8 : LL) (a9 a10 : LI) (a11 a12 a13 g : Int) : Option (Int × Int × Bool × Bool × LI × LI × Int × Int × LL × LI × LI × Int × Int × Int × Bool) :=
 (spec_l24Copy.f k a0 a1 a2 a3 a4 a5 a6 a7 a8 a9 a10 a11 a12 a13).bind fun r1 =>
 (spec_Playable.f k a0 a1 a2 a3 a4 a5 a6 a7 a8 a9 a10 a11 a12 a13).bind fun r2 =>
 (spec_HasCard.f k r2 g).bind fun r3 =>
 bif (!r3) then
  some (r1.1, r1.2.1, (t2 r1).1, (t3 r1).1, (t4 r1).1, (t5 r1).1, (t6 r1).1, (t7 r1).1, (t8 r1).1, (t9 r1).1, (t9 r1.2).1, (t9 (t2 r1)).1, (t9 (t3 r1)).1, (t9 (t4 r1)), false)
 else
  chk ((decide (0 ≤ a11)) && (decide (a11 < (a8.length : Int)))) <|
  (spec_Without.f k (a8.getD a11.toNat []) g).bind fun r4 =>
  chk ((decide (0 ≤ a11)) && (decide (a11 < ((t8 r1).1.length : Int)))) <|
  chk (decide (((t9 r1.2).1.length + 1) * 8 ≤ room)) <|
  (spec_DoesSkip.f k a0 a1 a2 a3 a4 a5 a6 a7 g).bind fun r5 =>
  bif r5 then
   chk (!(decide (a0 = 0))) <|
   some (r1.1, r1.2.1, (t2 r1).1, (t3 r1).1, (t4 r1).1, (t5 r1).1, (t6 r1).1, (t7 r1).1, (t8 r1).1.set a11.toNat r4, (t9 r1).1, (t9 r1.2).1 ++ [g], (IntKind.wrap .i64 (a11 + 2)).tmod a0, IntKind.wrap .i64 (a12 + 1), 0, true)
  else
   chk (!(decide (a0 = 0))) <|
   some (r1.1, r1.2.1, (t2 r1).1, (t3 r1).1, (t4 r1).1, (t5 r1).1, (t6 r1).1, (t7 r1).1, (t8 r1).1.set a11.toNat r4, (t9 r1).1, (t9 r1.2).1 ++ [g], (IntKind.wrap .i64 (a11 + 1)).tmod a0, IntKind.wrap .i64 (a12 + 1), 0, true)

def spec_TakeCards.s6 {R : Type} (k : Nat) (v8 v13 : Int) (e0 : Int → LL → LI → LI → Option R) (rec : Int → Int → LL → LI → LI → Option R) (v0 v1 : Int) (v36 : LL) (v37 v38 : LI) : Option R :=
 bif decide (v1 < v8) then
  bif ((v37.length : Int) == 0) then
   chk ((decide (0 ≤ (IntKind.wrap .i64 ((v38.length : Int) - 1)))) && (decide ((IntKind.wrap .i64 ((v38.length : Int) - 1)) ≤ (v38.length : Int)))) <|
   chk (decide (0 ≤ (IntKind.wrap .i64 ((v38.length : Int) - 1)))) <|
   chk (decide ((0 + (((v38.take ((IntKind.wrap .i64 ((v38.length : Int) - 1)).toNat)).drop 0).length)) * 8 ≤ room)) <|
   chk ((decide (0 ≤ (v38.length : Int))) && (decide ((v38.length : Int) ≤ (v38.length : Int)))) <|
   chk ((decide (0 ≤ (IntKind.wrap .i64 ((v38.length : Int) - 1)))) && (decide ((IntKind.wrap .i64 ((v38.length : Int) - 1)) ≤ (v38.length : Int)))) <|
   chk (decide ((0 + (((v38.take ((v38.length : Int).toNat)).drop ((IntKind.wrap .i64 ((v38.length : Int) - 1)).toNat)).length)) * 8 ≤ room)) <|
   bif ((([] ++ ((v38.take ((IntKind.wrap .i64 ((v38.length : Int) - 1)).toNat)).drop 0)).length : Int) == 0) then
    e0 v0 v36 ([] ++ ((v38.take ((IntKind.wrap .i64 ((v38.length : Int) - 1)).toNat)).drop 0)) ([] ++ ((v38.take ((v38.length : Int).toNat)).drop ((IntKind.wrap .i64 ((v38.length : Int) - 1)).toNat)))
   else
    chk ((decide (0 ≤ v13)) && (decide (v13 < (v36.length : Int)))) <|
    chk (decide (0 < (([] ++ ((v38.take ((IntKind.wrap .i64 ((v38.length : Int) - 1)).toNat)).drop 0)).length : Int))) <|
    chk (decide ((((v36.getD v13.toNat []).length) + 1) * 8 ≤ room)) <|
    chk ((decide (0 ≤ v13)) && (decide (v13 < (v36.length : Int)))) <|
    chk (v13.toNat == v13.toNat) <|
    chk ((decide (0 ≤ (([] ++ ((v38.take ((IntKind.wrap .i64 ((v38.length : Int) - 1)).toNat)).drop 0)).length : Int))) && (decide ((([] ++ ((v38.take ((IntKind.wrap .i64 ((v38.length : Int) - 1)).toNat)).drop 0)).length : Int) ≤ (([] ++ ((v38.take ((IntKind.wrap .i64 ((v38.length : Int) - 1)).toNat)).drop 0)).length : Int)))) <|
    chk (decide (1 ≤ (([] ++ ((v38.take ((IntKind.wrap .i64 ((v38.length : Int) - 1)).toNat)).drop 0)).length : Int))) <|
    chk (decide ((0 + (((([] ++ ((v38.take ((IntKind.wrap .i64 ((v38.length : Int) - 1)).toNat)).drop 0)).take ((([] ++ ((v38.take ((IntKind.wrap .i64 ((v38.length : Int) - 1)).toNat)).drop 0)).length : Int).toNat)).drop 1).length)) * 8 ≤ room)) <|
    rec (IntKind.wrap .i64 (v0 + 1)) (IntKind.wrap .i64 (v1 + 1)) (v36.set v13.toNat ((v36.getD v13.toNat []) ++ ([([] ++ ((v38.take ((IntKind.wrap .i64 ((v38.length : Int) - 1)).toNat)).drop 0)).getD 0 0]))) ([] ++ ((([] ++ ((v38.take ((IntKind.wrap .i64 ((v38.length : Int) - 1)).toNat)).drop 0)).take ((([] ++ ((v38.take ((IntKind.wrap .i64 ((v38.length : Int) - 1)).toNat)).drop 0)).length : Int).toNat)).drop 1)) ([] ++ ((v38.take ((v38.length : Int).toNat)).drop ((IntKind.wrap .i64 ((v38.length : Int) - 1)).toNat)))
  else
   bif ((v37.length : Int) == 0) then
    e0 v0 v36 v37 v38
   else
    chk ((decide (0 ≤ v13)) && (decide (v13 < (v36.length : Int)))) <|
    chk (decide (0 < (v37.length : Int))) <|
    chk (decide ((((v36.getD v13.toNat []).length) + 1) * 8 ≤ room)) <|
    chk ((decide (0 ≤ v13)) && (decide (v13 < (v36.length : Int)))) <|
    chk (v13.toNat == v13.toNat) <|
    chk ((decide (0 ≤ (v37.length : Int))) && (decide ((v37.length : Int) ≤ (v37.length : Int)))) <|
    chk (decide (1 ≤ (v37.length : Int))) <|
    chk (decide ((0 + (((v37.take ((v37.length : Int).toNat)).drop 1).length)) * 8 ≤ room)) <|
    rec (IntKind.wrap .i64 (v0 + 1)) (IntKind.wrap .i64 (v1 + 1)) (v36.set v13.toNat ((v36.getD v13.toNat []) ++ [v37.getD 0 0])) ([] ++ ((v37.take ((v37.length : Int).toNat)).drop 1)) v38
 else
  e0 v0 v36 v37 v38
def spec_TakeCards.l6 {R : Type} (k : Nat) (v8 v13 : Int) (e0 : Int → LL → LI → LI → Option R) (n : Nat) (v0 v1 : Int) (v36 : LL) (v37 v38 : LI) : Option R :=
 V.iter (A := Int × Int × LL × LI × LI) (fun rec a => spec_TakeCards.s6 k v8 v13 e0 (fun c0 c1 c2 c3 c4 => rec (c0, c1, c2, c3, c4)) a.1 a.2.1 (t2 a).1 (t3 a).1 (t4 a)) n (v0, v1, v36, v37, v38)
theorem spec_TakeCards.l6_succ {R : Type} (k : Nat) (v8 v13 : Int) (e0 : Int → LL → LI → LI → Option R) (n : Nat) (v0 v1 : Int) (v36 : LL) (v37 v38 : LI) : spec_TakeCards.l6 (R := R) k v8 v13 e0 (n + 1) v0 v1 v36 v37 v38 = spec_TakeCards.s6 k v8 v13 e0 (spec_TakeCards.l6 k v8 v13 e0 n) v0 v1 v36 v37 v38 := rfl
def spec_TakeCards.f (k : Nat) (a0 a1 : Int) (a2 a3 : Bool) (a4 a5 : LI) (a6 a7 : Int) (a8 : LL) (a9 a10 : LI) (a11 a12 a13 : Int) : Option (Int × Int × Bool × Bool × LI × LI × Int × Int × LL × LI × LI × Int × Int × Int × Bool) :=
 (spec_l24Copy.f k a0 a1 a2 a3 a4 a5 a6 a7 a8 a9 a10 a11 a12 a13).bind fun r1 =>
 (spec_IsGame.f k a0 a1 a2 a3 a4 a5 a6 a7 a8 a9 a10 a11 a12 a13).bind fun r2 =>
 bif (!r2) then
  some (r1.1, r1.2.1, (t2 r1).1, (t3 r1).1, (t4 r1).1, (t5 r1).1, (t6 r1).1, (t7 r1).1, (t8 r1).1, (t9 r1).1, (t9 r1.2).1, (t9 (t2 r1)).1, (t9 (t3 r1)).1, (t9 (t4 r1)), false)
 else
  (spec_l24Over.f k a0 a1 a2 a3 a4 a5 a6 a7 a8 a9 a10 a11 a12 a13).bind fun r3 =>
  bif r3 then
   some (r1.1, r1.2.1, (t2 r1).1, (t3 r1).1, (t4 r1).1, (t5 r1).1, (t6 r1).1, (t7 r1).1, (t8 r1).1, (t9 r1).1, (t9 r1.2).1, (t9 (t2 r1)).1, (t9 (t3 r1)).1, (t9 (t4 r1)), false)
  else
   spec_TakeCards.l6 k a6 a11 (fun x4 x5 x6 x7 =>
    bif (x4 == 0) then
     chk (!(decide (a0 = 0))) <|
     some (r1.1, r1.2.1, (t2 r1).1, (t3 r1).1, (t4 r1).1, (t5 r1).1, (t6 r1).1, (t7 r1).1, x5, x6, x7, (IntKind.wrap .i64 (a11 + 1)).tmod a0, IntKind.wrap .i64 (a12 + 1), IntKind.wrap .i64 (a13 + 1), true)
    else
     chk (!(decide (a0 = 0))) <|
     some (r1.1, r1.2.1, (t2 r1).1, (t3 r1).1, (t4 r1).1, (t5 r1).1, (t6 r1).1, (t7 r1).1, x5, x6, x7, (IntKind.wrap .i64 (a11 + 1)).tmod a0, IntKind.wrap .i64 (a12 + 1), 0, true)) k 0 0 (t8 r1).1 (t9 r1).1 (t9 r1.2).1

def spec_l24Draw.s3 {R : Type} (k : Nat) (e0 : LI → Int → Int → Int → Int → Bool → Bool → Int → Int → Int → Int → Int → LI → LI → LL → LI → LI → Option R) (rec : Int → LI → Int → Int → Int → Int → Bool → Bool → Int → Int → Int → Int → Int → LI → LI → LL → LI → LI → Option R) (v0 : Int) (v1 : LI) (v2 v3 v13 v14 : Int) (v15 v16 : Bool) (v17 v18 v19 v20 v21 : Int) (v22 v23 : LI) (v24 : LL) (v25 v26 : LI) : Option R :=
 bif decide (v0 > 0) then
  (spec_Playable.f k v13 v14 v15 v16 v22 v23 v17 v18 v24 v25 v26 v19 v20 v21).bind fun r3 =>
  bif decide ((r3.length : Int) > 0) then
   (spec_l1Once.f k v1 v2 v3 4).bind fun r4 =>
   bif (!r4.1) then
    (spec_l1Below.f k r4.2.1 (t2 r4).1 (t3 r4) (r3.length : Int)).bind fun r5 =>
    chk ((decide (0 ≤ r5.1)) && (decide (r5.1 < (r3.length : Int)))) <|
    (spec_PlayOn.f k v13 v14 v15 v16 v22 v23 v17 v18 v24 v25 v26 v19 v20 v21 (r3.getD r5.1.toNat 0)).bind fun r6 =>
    rec (IntKind.wrap .i64 (v0 - 1)) r5.2.1 (t2 r5).1 (t3 r5) r6.1 r6.2.1 (t2 r6).1 (t3 r6).1 (t6 r6).1 (t7 r6).1 (t9 (t2 r6)).1 (t9 (t3 r6)).1 (t9 (t4 r6)).1 (t4 r6).1 (t5 r6).1 (t8 r6).1 (t9 r6).1 (t9 r6.2).1
   else
    (spec_TakeCards.f k v13 v14 v15 v16 v22 v23 v17 v18 v24 v25 v26 v19 v20 v21).bind fun r7 =>
    rec (IntKind.wrap .i64 (v0 - 1)) r4.2.1 (t2 r4).1 (t3 r4) r7.1 r7.2.1 (t2 r7).1 (t3 r7).1 (t6 r7).1 (t7 r7).1 (t9 (t2 r7)).1 (t9 (t3 r7)).1 (t9 (t4 r7)).1 (t4 r7).1 (t5 r7).1 (t8 r7).1 (t9 r7).1 (t9 r7.2).1
  else
   (spec_TakeCards.f k v13 v14 v15 v16 v22 v23 v17 v18 v24 v25 v26 v19 v20 v21).bind fun r8 =>
   rec (IntKind.wrap .i64 (v0 - 1)) v1 v2 v3 r8.1 r8.2.1 (t2 r8).1 (t3 r8).1 (t6 r8).1 (t7 r8).1 (t9 (t2 r8)).1 (t9 (t3 r8)).1 (t9 (t4 r8)).1 (t4 r8).1 (t5 r8).1 (t8 r8).1 (t9 r8).1 (t9 r8.2).1
 else
  e0 v1 v2 v3 v13 v14 v15 v16 v17 v18 v19 v20 v21 v22 v23 v24 v25 v26
def spec_l24Draw.l3 {R : Type} (k : Nat) (e0 : LI → Int → Int → Int → Int → Bool → Bool → Int → Int → Int → Int → Int → LI → LI → LL → LI → LI → Option R) (n : Nat) (v0 : Int) (v1 : LI) (v2 v3 v13 v14 : Int) (v15 v16 : Bool) (v17 v18 v19 v20 v21 : Int) (v22 v23 : LI) (v24 : LL) (v25 v26 : LI) : Option R :=
 V.iter (A := Int × LI × Int × Int × Int × Int × Bool × Bool × Int × Int × Int × Int × Int × LI × LI × LL × LI × LI) (fun rec a => spec_l24Draw.s3 k e0 (fun c0 c1 c2 c3 c4 c5 c6 c7 c8 c9 c10 c11 c12 c13 c14 c15 c16 c17 => rec (c0, c1, c2, c3, c4, c5, c6, c7, c8, c9, c10, c11, c12, c13, c14, c15, c16, c17)) a.1 a.2.1 (t2 a).1 (t3 a).1 (t4 a).1 (t5 a).1 (t6 a).1 (t7 a).1 (t8 a).1 (t9 a).1 (t9 a.2).1 (t9 (t2 a)).1 (t9 (t3 a)).1 (t9 (t4 a)).1 (t9 (t5 a)).1 (t9 (t6 a)).1 (t9 (t7 a)).1 (t9 (t8 a))) n (v0, v1, v2, v3, v13, v14, v15, v16, v17, v18, v19, v20, v21, v22, v23, v24, v25, v26)
theorem spec_l24Draw.l3_succ {R : Type} (k : Nat) (e0 : LI → Int → Int → Int → Int → Bool → Bool → Int → Int → Int → Int → Int → LI → LI → LL → LI → LI → Option R) (n : Nat) (v0 : Int) (v1 : LI) (v2 v3 v13 v14 : Int) (v15 v16 : Bool) (v17 v18 v19 v20 v21 : Int) (v22 v23 : LI) (v24 : LL) (v25 v26 : LI) : spec_l24Draw.l3 (R := R) k e0 (n + 1) v0 v1 v2 v3 v13 v14 v15 v16 v17 v18 v19 v20 v21 v22 v23 v24 v25 v26 = spec_l24Draw.s3 k e0 (spec_l24Draw.l3 k e0 n) v0 v1 v2 v3 v13 v14 v15 v16 v17 v18 v19 v20 v21 v22 v23 v24 v25 v26 := rfl
def spec_l24Draw.f (k : Nat) (a0 : LI) (a1 a2 : Int) : Option (Int × Int × Bool × Bool × LI × LI × Int × Int × LL × LI × LI × Int × Int × Int × LI × Int × Int) :=
 (spec_l24Start.f k a0 a1 a2).bind fun r1 =>
 (spec_l1Below.f k (t9 (t5 r1)).1 (t9 (t6 r1)).1 (t9 (t7 r1)) 14).bind fun r2 =>
 spec_l24Draw.l3 k (fun x9 x10 x11 x12 x13 x14 x15 x16 x17 x18 x19 x20 x21 x22 x23 x24 x25 =>
  (spec_l1Below.f k x9 x10 x11 14).bind fun r26 =>
  bif (r26.1 == 0) then
   (spec_l1Int.f k r26.2.1 (t2 r26).1 (t3 r26) [(-1), 6]).bind fun r27 =>
   some (x12, x13, x14, x15, x21, x22, x16, x17, x23, x24, x25, r27.1, x19, x20, r27.2.1, (t2 r27).1, (t3 r27))
  else
   bif (r26.1 == 1) then
    some (x12, x13, x14, x15, x21, x22, x16, x17, x23, x24, x25, x18, x17, x20, r26.2.1, (t2 r26).1, (t3 r26))
   else
    bif (r26.1 == 2) then
     (spec_l4Card.f k r26.2.1 (t2 r26).1 (t3 r26)).bind fun r28 =>
     chk (decide ((x24.length + 1) * 8 ≤ room)) <|
     some (x12, x13, x14, x15, x21, x22, x16, x17, x23, x24 ++ [r28.1], x25, x18, x19, x20, r28.2.1, (t2 r28).1, (t3 r28))
    else
     bif (r26.1 == 3) then
      (spec_l22Any.f k r26.2.1 (t2 r26).1 (t3 r26)).bind fun r29 =>
      some (r29.1, r29.2.1, (t2 r29).1, (t3 r29).1, (t4 r29).1, (t5 r29).1, (t6 r29).1, (t7 r29).1, x23, x24, x25, x18, x19, x20, (t8 r29).1, (t9 r29).1, (t9 r29.2))
     else
      bif (r26.1 == 4) then
       chk (decide ((x25.length + x24.length) * 8 ≤ room)) <|
       some (x12, x13, x14, x15, x21, x22, x16, x17, x23, [], x25 ++ x24, x18, x19, x20, r26.2.1, (t2 r26).1, (t3 r26))
      else
       some (x12, x13, x14, x15, x21, x22, x16, x17, x23, x24, x25, x18, x19, x20, r26.2.1, (t2 r26).1, (t3 r26))) k r2.1 r2.2.1 (t2 r2).1 (t3 r2) r1.1 r1.2.1 (t2 r1).1 (t3 r1).1 (t6 r1).1 (t7 r1).1 (t9 (t2 r1)).1 (t9 (t3 r1)).1 (t9 (t4 r1)).1 (t4 r1).1 (t5 r1).1 (t8 r1).1 (t9 r1).1 (t9 r1.2).1

def spec_DrawPlayOut.f (k : Nat) (a : LI) : Option (Int × Int × Bool × Bool × LI × LI × Int × Int × LL × LI × LI × Int × Int × Int × LI) :=
 (spec_l1New.f k a).bind fun r1 =>
 (spec_l24Start.f k r1.1 r1.2.1 (t2 r1)).bind fun r2 =>
 (spec_l1Once.f k (t9 (t5 r2)).1 (t9 (t6 r2)).1 (t9 (t7 r2)) 6).bind fun r3 =>
 bif r3.1 then
  (spec_l24Draw.f k r3.2.1 (t2 r3).1 (t3 r3)).bind fun r4 =>
  (spec_l26Kinds.f k (t9 (t5 r4)).1 (t9 (t6 r4)).1 (t9 (t7 r4))).bind fun r5 =>
  some (r4.1, r4.2.1, (t2 r4).1, (t3 r4).1, (t4 r4).1, (t5 r4).1, (t6 r4).1, (t7 r4).1, (t8 r4).1, (t9 r4).1, (t9 r4.2).1, (t9 (t2 r4)).1, (t9 (t3 r4)).1, (t9 (t4 r4)).1, r5.1)
 else
  (spec_l26Kinds.f k r3.2.1 (t2 r3).1 (t3 r3)).bind fun r6 =>
  some (r2.1, r2.2.1, (t2 r2).1, (t3 r2).1, (t4 r2).1, (t5 r2).1, (t6 r2).1, (t7 r2).1, (t8 r2).1, (t9 r2).1, (t9 r2.2).1, (t9 (t2 r2)).1, (t9 (t3 r2)).1, (t9 (t4 r2)).1, r6.1)

def spec_DrawRecordOut.f (k : Nat) (a : LI) : Option (Int × Int × Bool × Bool × LI × LI × Int × Int × LL × LI × LI × Int × Int × Int × LI) :=
 (spec_DrawPlayOut.f k a).bind fun r1 =>
 some (r1.1, r1.2.1, (t2 r1).1, (t3 r1).1, (t4 r1).1, (t5 r1).1, (t6 r1).1, (t7 r1).1, (t8 r1).1, (t9 r1).1, (t9 r1.2).1, (t9 (t2 r1)).1, (t9 (t3 r1)).1, (t9 (t4 r1)).1, (t9 (t5 r1)))

def impl_InRange.f (k : Nat) (a g i : Int) : Option (Bool) :=
 bif decide (g ≤ a) then
  some (decide (a ≤ i))
 else
  some false

def impl_isTest.f (k : Nat) (a : Int) : Option (Bool) :=
 (impl_InRange.f k a 100 103).bind fun r1 =>
 bif r1 then
  some true
 else
  (impl_InRange.f k a 200 212).bind fun r2 =>
  bif r2 then
   some true
  else
   (impl_InRange.f k a 300 312).bind fun r3 =>
   bif r3 then
    some true
   else
    some (a == 400)

def impl_IsPattern.s3 {R : Type} (k : Nat) (v2 : LI) (v3 : Int) (e0 e1 : Int → Option R) (rec : Int → Int → Option R) (v1 v4 : Int) : Option R :=
 bif decide (v4 < v3) then
  chk ((decide (0 ≤ v4)) && (decide (v4 < (v2.length : Int)))) <|
  (impl_isTest.f k (v2.getD v4.toNat 0)).bind fun r1 =>
  bif r1 then
   rec (IntKind.wrap .i64 (v1 + 1)) (IntKind.wrap .i64 (v4 + 1))
  else
   bif ((v2.getD v4.toNat 0) == (-1)) then
    bif decide (v1 ≥ 1) then
     rec v1 (IntKind.wrap .i64 (v4 + 1))
    else
     bif ((v2.getD v4.toNat 0) == (-2)) then
      bif decide (v1 ≥ 2) then
       rec (IntKind.wrap .i64 (v1 - 1)) (IntKind.wrap .i64 (v4 + 1))
      else
       e0 v1
     else
      bif ((v2.getD v4.toNat 0) == (-3)) then
       bif decide (v1 ≥ 2) then
        rec (IntKind.wrap .i64 (v1 - 1)) (IntKind.wrap .i64 (v4 + 1))
       else
        e0 v1
      else
       e0 v1
   else
    bif ((v2.getD v4.toNat 0) == (-2)) then
     bif decide (v1 ≥ 2) then
      rec (IntKind.wrap .i64 (v1 - 1)) (IntKind.wrap .i64 (v4 + 1))
     else
      e0 v1
    else
     bif ((v2.getD v4.toNat 0) == (-3)) then
      bif decide (v1 ≥ 2) then
       rec (IntKind.wrap .i64 (v1 - 1)) (IntKind.wrap .i64 (v4 + 1))
      else
       e0 v1
     else
      e0 v1
 else
  e1 v1
def impl_IsPattern.l3 {R : Type} (k : Nat) (v2 : LI) (v3 : Int) (e0 e1 : Int → Option R) (n : Nat) (v1 v4 : Int) : Option R :=
 V.iter (A := Int × Int) (fun rec a => impl_IsPattern.s3 k v2 v3 e0 e1 (fun c0 c1 => rec (c0, c1)) a.1 a.2) n (v1, v4)
theorem impl_IsPattern.l3_succ {R : Type} (k : Nat) (v2 : LI) (v3 : Int) (e0 e1 : Int → Option R) (n : Nat) (v1 v4 : Int) : impl_IsPattern.l3 (R := R) k v2 v3 e0 e1 (n + 1) v1 v4 = impl_IsPattern.s3 k v2 v3 e0 e1 (impl_IsPattern.l3 k v2 v3 e0 e1 n) v1 v4 := rfl
def impl_IsPattern.f (k : Nat) (a : LI) : Option (Bool) :=
 impl_IsPattern.l3 k a (a.length : Int) (fun x2 =>
  some false) (fun x3 =>
  (impl_InRange.f k (a.length : Int) 1 20).bind fun r4 =>
  bif r4 then
   some (x3 == 1)
  else
   some false) k 0 0

def impl_isMaybe.f (k : Nat) (a : LI) : Option (Bool) :=
 bif ((a.length : Int) == 0) then
  some true
 else
  (impl_IsPattern.f k a).bind fun r1 =>
  some r1

def impl_IsRules.f (k : Nat) (a0 a1 : Int) (a2 a3 : Bool) (a4 a5 : LI) (a6 a7 : Int) : Option (Bool) :=
 (impl_InRange.f k a0 2 6).bind fun r1 =>
 bif r1 then
  (impl_InRange.f k a1 1 8).bind fun r2 =>
  bif r2 then
   bif a2 then
    (impl_isMaybe.f k a4).bind fun r3 =>
    bif r3 then
     (impl_isMaybe.f k a5).bind fun r4 =>
     bif r4 then
      (impl_InRange.f k a6 1 4).bind fun r5 =>
      bif r5 then
       (impl_InRange.f k a7 1 400).bind fun r6 =>
       some r6
      else
       some false
     else
      some false
    else
     some false
   else
    bif a3 then
     (impl_isMaybe.f k a4).bind fun r7 =>
     bif r7 then
      (impl_isMaybe.f k a5).bind fun r8 =>
      bif r8 then
       (impl_InRange.f k a6 1 4).bind fun r9 =>
       bif r9 then
        (impl_InRange.f k a7 1 400).bind fun r10 =>
        some r10
       else
        some false
      else
       some false
     else
      some false
    else
     some false
  else
   some false
 else
  some false

def impl_TotalCards.s3 {R : Type} (k : Nat) (v1 : LL) (v2 : Int) (e0 : Int → Option R) (rec : Int → Int → Option R) (v0 v3 : Int) : Option R :=
 bif decide (v3 < v2) then
  chk ((decide (0 ≤ v3)) && (decide (v3 < (v1.length : Int)))) <|
  rec (IntKind.wrap .i64 (v0 + ((v1.getD v3.toNat []).length : Int))) (IntKind.wrap .i64 (v3 + 1))
 else
  e0 v0
def impl_TotalCards.l3 {R : Type} (k : Nat) (v1 : LL) (v2 : Int) (e0 : Int → Option R) (n : Nat) (v0 v3 : Int) : Option R :=
 V.iter (A := Int × Int) (fun rec a => impl_TotalCards.s3 k v1 v2 e0 (fun c0 c1 => rec (c0, c1)) a.1 a.2) n (v0, v3)
theorem impl_TotalCards.l3_succ {R : Type} (k : Nat) (v1 : LL) (v2 : Int) (e0 : Int → Option R) (n : Nat) (v0 v3 : Int) : impl_TotalCards.l3 (R := R) k v1 v2 e0 (n + 1) v0 v3 = impl_TotalCards.s3 k v1 v2 e0 (impl_TotalCards.l3 k v1 v2 e0 n) v0 v3 := rfl
def impl_TotalCards.f (k : Nat) (a : LL) : Option (Int) :=
 impl_TotalCards.l3 k a (a.length : Int) (fun x1 =>
  some x1) k 0 0

def impl_IsCard.f (k : Nat) (a : Int) : Option (Bool) :=
 (impl_InRange.f k a 0 51).bind fun r1 =>
 some r1

def impl_IsHand.s3 {R : Type} (k : Nat) (v0 : LI) (v1 : Int) (e0 e1 : Option R) (rec : Int → List Bool → Option R) (v2 : Int) (v3 : List Bool) : Option R :=
 bif decide (v2 < v1) then
  chk ((decide (0 ≤ v2)) && (decide (v2 < (v0.length : Int)))) <|
  (impl_IsCard.f k (v0.getD v2.toNat 0)).bind fun r1 =>
  bif (!r1) then
   e0
  else
   chk ((decide (0 ≤ (v0.getD v2.toNat 0))) && (decide ((v0.getD v2.toNat 0) < 52))) <|
   bif (v3.getD ((v0.getD v2.toNat 0).toNat) false) then
    e0
   else
    chk ((decide (0 ≤ (v0.getD v2.toNat 0))) && (decide ((v0.getD v2.toNat 0) < 52))) <|
    rec (IntKind.wrap .i64 (v2 + 1)) (v3.set ((v0.getD v2.toNat 0).toNat) true)
 else
  e1
def impl_IsHand.l3 {R : Type} (k : Nat) (v0 : LI) (v1 : Int) (e0 e1 : Option R) (n : Nat) (v2 : Int) (v3 : List Bool) : Option R :=
 V.iter (A := Int × List Bool) (fun rec a => impl_IsHand.s3 k v0 v1 e0 e1 (fun c0 c1 => rec (c0, c1)) a.1 a.2) n (v2, v3)
theorem impl_IsHand.l3_succ {R : Type} (k : Nat) (v0 : LI) (v1 : Int) (e0 e1 : Option R) (n : Nat) (v2 : Int) (v3 : List Bool) : impl_IsHand.l3 (R := R) k v0 v1 e0 e1 (n + 1) v2 v3 = impl_IsHand.s3 k v0 v1 e0 e1 (impl_IsHand.l3 k v0 v1 e0 e1 n) v2 v3 := rfl
def impl_IsHand.f (k : Nat) (a : LI) : Option (Bool) :=
 impl_IsHand.l3 k a (a.length : Int) (some false) (some true) k 0 [false, false, false, false, false, false, false, false, false, false, false, false, false, false, false, false, false, false, false, false, false, false, false, false, false, false, false, false, false, false, false, false, false, false, false, false, false, false, false, false, false, false, false, false, false, false, false, false, false, false, false, false]

def impl_AllApart.s3 {R : Type} (k : Nat) (v0 : LL) (v1 : Int) (e0 : LI → Option R) (rec : Int → LI → Option R) (v2 : Int) (v3 : LI) : Option R :=
 bif decide (v2 < v1) then
  chk ((decide (0 ≤ v2)) && (decide (v2 < (v0.length : Int)))) <|
  chk (decide ((v3.length + ((v0.getD v2.toNat []).length)) * 8 ≤ room)) <|
  rec (IntKind.wrap .i64 (v2 + 1)) (v3 ++ (v0.getD v2.toNat []))
 else
  e0 v3
def impl_AllApart.l3 {R : Type} (k : Nat) (v0 : LL) (v1 : Int) (e0 : LI → Option R) (n : Nat) (v2 : Int) (v3 : LI) : Option R :=
 V.iter (A := Int × LI) (fun rec a => impl_AllApart.s3 k v0 v1 e0 (fun c0 c1 => rec (c0, c1)) a.1 a.2) n (v2, v3)
theorem impl_AllApart.l3_succ {R : Type} (k : Nat) (v0 : LL) (v1 : Int) (e0 : LI → Option R) (n : Nat) (v2 : Int) (v3 : LI) : impl_AllApart.l3 (R := R) k v0 v1 e0 (n + 1) v2 v3 = impl_AllApart.s3 k v0 v1 e0 (impl_AllApart.l3 k v0 v1 e0 n) v2 v3 := rfl
def impl_AllApart.f (k : Nat) (a : LL) : Option (Bool) :=
 impl_AllApart.l3 k a (a.length : Int) (fun x1 =>
  (impl_IsHand.f k x1).bind fun r2 =>
  some r2) k 0 []

def impl_isWhole.f (k : Nat) (a : LL) : Option (Bool) :=
 (impl_AllApart.f k a).bind fun r1 =>
 bif r1 then
  (impl_TotalCards.f k a).bind fun r2 =>
  some (r2 == 52)
 else
  some false

def impl_copyOf.f (k : Nat) (a : LI) : Option (LI) :=
 chk (decide ((0 + a.length) * 8 ≤ room)) <|
 some ([] ++ a)

def impl_copyRows.s3 {R : Type} (k : Nat) (v0 : LL) (v1 : Int) (e0 : LL → Option R) (rec : Int → LL → Option R) (v2 : Int) (v3 : LL) : Option R :=
 bif decide (v2 < v1) then
  chk ((decide (0 ≤ v2)) && (decide (v2 < (v0.length : Int)))) <|
  (impl_copyOf.f k (v0.getD v2.toNat [])).bind fun r1 =>
  chk (decide ((v3.length + 1) * 24 ≤ room)) <|
  rec (IntKind.wrap .i64 (v2 + 1)) (v3 ++ [r1])
 else
  e0 v3
def impl_copyRows.l3 {R : Type} (k : Nat) (v0 : LL) (v1 : Int) (e0 : LL → Option R) (n : Nat) (v2 : Int) (v3 : LL) : Option R :=
 V.iter (A := Int × LL) (fun rec a => impl_copyRows.s3 k v0 v1 e0 (fun c0 c1 => rec (c0, c1)) a.1 a.2) n (v2, v3)
theorem impl_copyRows.l3_succ {R : Type} (k : Nat) (v0 : LL) (v1 : Int) (e0 : LL → Option R) (n : Nat) (v2 : Int) (v3 : LL) : impl_copyRows.l3 (R := R) k v0 v1 e0 (n + 1) v2 v3 = impl_copyRows.s3 k v0 v1 e0 (impl_copyRows.l3 k v0 v1 e0 n) v2 v3 := rfl
def impl_copyRows.f (k : Nat) (a : LL) : Option (LL) :=
 impl_copyRows.l3 k a (a.length : Int) (fun x2 =>
  some x2) k 0 []

def impl_IsGame.f (k : Nat) (a0 a1 : Int) (a2 a3 : Bool) (a4 a5 : LI) (a6 a7 : Int) (a8 : LL) (a9 a10 : LI) (a11 a12 a13 : Int) : Option (Bool) :=
 (impl_IsRules.f k a0 a1 a2 a3 a4 a5 a6 a7).bind fun r1 =>
 bif r1 then
  bif ((a8.length : Int) == a0) then
   (impl_copyRows.f k a8).bind fun r2 =>
   chk (decide ((r2.length + 2) * 24 ≤ room)) <|
   (impl_isWhole.f k (r2 ++ [a9, a10])).bind fun r3 =>
   bif r3 then
    bif decide ((a10.length : Int) > 0) then
     (impl_InRange.f k a11 0 (IntKind.wrap .i64 ((a8.length : Int) - 1))).bind fun r4 =>
     bif r4 then
      (impl_InRange.f k a12 0 a7).bind fun r5 =>
      bif r5 then
       (impl_InRange.f k a13 0 a12).bind fun r6 =>
       some r6
      else
       some false
     else
      some false
    else
     some false
   else
    some false
  else
   some false
 else
  some false

def impl_Rules_copied.f (k : Nat) (a0 a1 : Int) (a2 a3 : Bool) (a4 a5 : LI) (a6 a7 : Int) : Option (Int × Int × Bool × Bool × LI × LI × Int × Int) :=
 (impl_copyOf.f k a4).bind fun r1 =>
 (impl_copyOf.f k a5).bind fun r2 =>
 some (a0, a1, a2, a3, r1, r2, a6, a7)

def impl_Game_copied.f (k : Nat) (a0 a1 : Int) (a2 a3 : Bool) (a4 a5 : LI) (a6 a7 : Int) (a8 : LL) (a9 a10 : LI) (a11 a12 a13 : Int) : Option (Int × Int × Bool × Bool × LI × LI × Int × Int × LL × LI × LI × Int × Int × Int) :=
 (impl_Rules_copied.f k a0 a1 a2 a3 a4 a5 a6 a7).bind fun r1 =>
 (impl_copyRows.f k a8).bind fun r2 =>
 (impl_copyOf.f k a9).bind fun r3 =>
 (impl_copyOf.f k a10).bind fun r4 =>
 some (r1.1, r1.2.1, (t2 r1).1, (t3 r1).1, (t4 r1).1, (t5 r1).1, (t6 r1).1, (t7 r1), r2, r3, r4, a11, a12, a13)

def impl_Winner.s4 {R : Type} (k : Nat) (v0 : LL) (v1 : Int) (e0 : Int → Option R) (e1 : Option R) (rec : Int → Option R) (v2 : Int) : Option R :=
 bif decide (v2 < v1) then
  chk ((decide (0 ≤ v2)) && (decide (v2 < (v0.length : Int)))) <|
  bif (((v0.getD v2.toNat []).length : Int) == 0) then
   e0 v2
  else
   rec (IntKind.wrap .i64 (v2 + 1))
 else
  e1
def impl_Winner.l4 {R : Type} (k : Nat) (v0 : LL) (v1 : Int) (e0 : Int → Option R) (e1 : Option R) (n : Nat) (v2 : Int) : Option R :=
 V.iter (A := Int) (fun rec a => impl_Winner.s4 k v0 v1 e0 e1 (fun c0 => rec c0) a) n v2
theorem impl_Winner.l4_succ {R : Type} (k : Nat) (v0 : LL) (v1 : Int) (e0 : Int → Option R) (e1 : Option R) (n : Nat) (v2 : Int) : impl_Winner.l4 (R := R) k v0 v1 e0 e1 (n + 1) v2 = impl_Winner.s4 k v0 v1 e0 e1 (impl_Winner.l4 k v0 v1 e0 e1 n) v2 := rfl
def impl_Winner.f (k : Nat) (a0 a1 : Int) (a2 a3 : Bool) (a4 a5 : LI) (a6 a7 : Int) (a8 : LL) (a9 a10 : LI) (a11 a12 a13 : Int) : Option (Int) :=
 (impl_IsGame.f k a0 a1 a2 a3 a4 a5 a6 a7 a8 a9 a10 a11 a12 a13).bind fun r1 =>
 bif (!r1) then
  some (-1)
 else
  impl_Winner.l4 k a8 (a8.length : Int) (fun x2 =>
   some x2) (some (-1)) k 0

def impl_IsEnded.f (k : Nat) (a0 a1 : Int) (a2 a3 : Bool) (a4 a5 : LI) (a6 a7 : Int) (a8 : LL) (a9 a10 : LI) (a11 a12 a13 : Int) : Option (Bool) :=
 (impl_IsGame.f k a0 a1 a2 a3 a4 a5 a6 a7 a8 a9 a10 a11 a12 a13).bind fun r1 =>
 bif r1 then
  (impl_Winner.f k a0 a1 a2 a3 a4 a5 a6 a7 a8 a9 a10 a11 a12 a13).bind fun r2 =>
  bif decide (r2 ≥ 0) then
   some true
  else
   bif (a12 == a7) then
    some true
   else
    some (decide (a13 ≥ a0))
 else
  some false

def impl_SuitOf.f (k : Nat) (a : Int) : Option (Int) :=
 (impl_IsCard.f k a).bind fun r1 =>
 bif (!r1) then
  some (-1)
 else
  some (IntKind.wrap .i64 (a.tdiv 13))

def impl_Sorted.s6 {R : Type} (k : Nat) (v0 : Int) (v5 : LI) (e0 rec : Int → Option R) (v1 : Int) : Option R :=
 bif decide (v1 > 0) then
  chk ((decide (0 ≤ (IntKind.wrap .i64 (v1 - 1)))) && (decide ((IntKind.wrap .i64 (v1 - 1)) < (v5.length : Int)))) <|
  bif decide ((v5.getD ((IntKind.wrap .i64 (v1 - 1)).toNat) 0) > v0) then
   rec (IntKind.wrap .i64 (v1 - 1))
  else
   e0 v1
 else
  e0 v1
def impl_Sorted.l6 {R : Type} (k : Nat) (v0 : Int) (v5 : LI) (e0 : Int → Option R) (n : Nat) (v1 : Int) : Option R :=
 V.iter (A := Int) (fun rec a => impl_Sorted.s6 k v0 v5 e0 (fun c0 => rec c0) a) n v1
theorem impl_Sorted.l6_succ {R : Type} (k : Nat) (v0 : Int) (v5 : LI) (e0 : Int → Option R) (n : Nat) (v1 : Int) : impl_Sorted.l6 (R := R) k v0 v5 e0 (n + 1) v1 = impl_Sorted.s6 k v0 v5 e0 (impl_Sorted.l6 k v0 v5 e0 n) v1 := rfl
def impl_Sorted.s3 {R : Type} (k : Nat) (v0 : LI) (v1 : Int) (e0 : LI → Option R) (rec : Int → LI → Option R) (v2 : Int) (v3 : LI) : Option R :=
 bif decide (v2 < v1) then
  chk ((decide (0 ≤ v2)) && (decide (v2 < (v0.length : Int)))) <|
  impl_Sorted.l6 k (v0.getD v2.toNat 0) v3 (fun x1 =>
   chk (decide ((v3.length + 1) * 8 ≤ room)) <|
   chk ((decide (0 ≤ ((v3 ++ [0]).length : Int))) && (decide (((v3 ++ [0]).length : Int) ≤ ((v3 ++ [0]).length : Int)))) <|
   chk ((decide (0 ≤ (IntKind.wrap .i64 (x1 + 1)))) && (decide ((IntKind.wrap .i64 (x1 + 1)) ≤ ((v3 ++ [0]).length : Int)))) <|
   chk ((decide (0 ≤ ((v3 ++ [0]).length : Int))) && (decide (((v3 ++ [0]).length : Int) ≤ ((v3 ++ [0]).length : Int)))) <|
   chk ((decide (0 ≤ x1)) && (decide (x1 ≤ ((v3 ++ [0]).length : Int)))) <|
   chk ((decide (0 ≤ x1)) && (decide (x1 < ((((v3 ++ [0]).take ((IntKind.wrap .i64 (x1 + 1)).toNat)) ++ (((((v3 ++ [0]).take (((v3 ++ [0]).length : Int).toNat)).drop x1.toNat).take ((((v3 ++ [0]).length : Int).toNat) - ((IntKind.wrap .i64 (x1 + 1)).toNat))) ++ ((v3 ++ [0]).drop (((IntKind.wrap .i64 (x1 + 1)).toNat) + (min ((((v3 ++ [0]).length : Int).toNat) - x1.toNat) ((((v3 ++ [0]).length : Int).toNat) - ((IntKind.wrap .i64 (x1 + 1)).toNat))))))).length : Int)))) <|
   rec (IntKind.wrap .i64 (v2 + 1)) ((((v3 ++ [0]).take ((IntKind.wrap .i64 (x1 + 1)).toNat)) ++ (((((v3 ++ [0]).take (((v3 ++ [0]).length : Int).toNat)).drop x1.toNat).take ((((v3 ++ [0]).length : Int).toNat) - ((IntKind.wrap .i64 (x1 + 1)).toNat))) ++ ((v3 ++ [0]).drop (((IntKind.wrap .i64 (x1 + 1)).toNat) + (min ((((v3 ++ [0]).length : Int).toNat) - x1.toNat) ((((v3 ++ [0]).length : Int).toNat) - ((IntKind.wrap .i64 (x1 + 1)).toNat))))))).set x1.toNat (v0.getD v2.toNat 0))) k (v3.length : Int)
 else
  e0 v3
def impl_Sorted.l3 {R : Type} (k : Nat) (v0 : LI) (v1 : Int) (e0 : LI → Option R) (n : Nat) (v2 : Int) (v3 : LI) : Option R :=
 V.iter (A := Int × LI) (fun rec a => impl_Sorted.s3 k v0 v1 e0 (fun c0 c1 => rec (c0, c1)) a.1 a.2) n (v2, v3)
theorem impl_Sorted.l3_succ {R : Type} (k : Nat) (v0 : LI) (v1 : Int) (e0 : LI → Option R) (n : Nat) (v2 : Int) (v3 : LI) : impl_Sorted.l3 (R := R) k v0 v1 e0 (n + 1) v2 v3 = impl_Sorted.s3 k v0 v1 e0 (impl_Sorted.l3 k v0 v1 e0 n) v2 v3 := rfl
def impl_Sorted.f (k : Nat) (a : LI) : Option (LI) :=
 impl_Sorted.l3 k a (a.length : Int) (fun x2 =>
  some x2) k 0 []

def impl_RankOf.f (k : Nat) (a : Int) : Option (Int) :=
 (impl_IsCard.f k a).bind fun r1 =>
 bif (!r1) then
  some (-1)
 else
  some (a.tmod 13)

def impl_IsRed.f (k : Nat) (a : Int) : Option (Bool) :=
 (impl_SuitOf.f k a).bind fun r1 =>
 bif (r1 == 1) then
  some true
 else
  (impl_SuitOf.f k a).bind fun r2 =>
  some (r2 == 2)

def impl_asks.f (k : Nat) (a g : Int) : Option (Bool) :=
 bif (a == 400) then
  (impl_IsRed.f k g).bind fun r1 =>
  some r1
 else
  bif decide (a ≥ 300) then
   (impl_RankOf.f k g).bind fun r2 =>
   some (decide (r2 ≥ (IntKind.wrap .i64 (a - 300))))
  else
   bif decide (a ≥ 200) then
    (impl_RankOf.f k g).bind fun r3 =>
    some (r3 == (IntKind.wrap .i64 (a - 200)))
   else
    (impl_SuitOf.f k g).bind fun r4 =>
    some (r4 == (IntKind.wrap .i64 (a - 100)))

def impl_Matches.s5 {R : Type} (k : Nat) (v0 : Int) (v1 : LI) (v2 : Int) (e0 : List Bool → Option R) (rec : Int → List Bool → Option R) (v3 : Int) (v4 : List Bool) : Option R :=
 bif decide (v3 < v2) then
  chk ((decide (0 ≤ v3)) && (decide (v3 < (v1.length : Int)))) <|
  bif ((v1.getD v3.toNat 0) == (-1)) then
   chk ((decide (0 ≤ (IntKind.wrap .i64 ((v4.length : Int) - 1)))) && (decide ((IntKind.wrap .i64 ((v4.length : Int) - 1)) < (v4.length : Int)))) <|
   chk ((decide (0 ≤ (IntKind.wrap .i64 ((v4.length : Int) - 1)))) && (decide ((IntKind.wrap .i64 ((v4.length : Int) - 1)) < (v4.length : Int)))) <|
   rec (IntKind.wrap .i64 (v3 + 1)) (v4.set ((IntKind.wrap .i64 ((v4.length : Int) - 1)).toNat) (!(v4.getD ((IntKind.wrap .i64 ((v4.length : Int) - 1)).toNat) false)))
  else
   bif ((v1.getD v3.toNat 0) == (-2)) then
    chk ((decide (0 ≤ (IntKind.wrap .i64 ((v4.length : Int) - 2)))) && (decide ((IntKind.wrap .i64 ((v4.length : Int) - 2)) ≤ (v4.length : Int)))) <|
    chk (decide (0 ≤ (IntKind.wrap .i64 ((v4.length : Int) - 2)))) <|
    chk ((decide (0 ≤ (IntKind.wrap .i64 ((v4.length : Int) - 2)))) && (decide ((IntKind.wrap .i64 ((v4.length : Int) - 2)) < (v4.length : Int)))) <|
    bif (v4.getD ((IntKind.wrap .i64 ((v4.length : Int) - 2)).toNat) false) then
     chk ((decide (0 ≤ (IntKind.wrap .i64 ((v4.length : Int) - 1)))) && (decide ((IntKind.wrap .i64 ((v4.length : Int) - 1)) < (v4.length : Int)))) <|
     chk (decide ((((v4.take ((IntKind.wrap .i64 ((v4.length : Int) - 2)).toNat)).length) + 1) * 1 ≤ room)) <|
     rec (IntKind.wrap .i64 (v3 + 1)) ((v4.take ((IntKind.wrap .i64 ((v4.length : Int) - 2)).toNat)) ++ [v4.getD ((IntKind.wrap .i64 ((v4.length : Int) - 1)).toNat) false])
    else
     chk (decide ((((v4.take ((IntKind.wrap .i64 ((v4.length : Int) - 2)).toNat)).length) + 1) * 1 ≤ room)) <|
     rec (IntKind.wrap .i64 (v3 + 1)) ((v4.take ((IntKind.wrap .i64 ((v4.length : Int) - 2)).toNat)) ++ [false])
   else
    bif ((v1.getD v3.toNat 0) == (-3)) then
     chk ((decide (0 ≤ (IntKind.wrap .i64 ((v4.length : Int) - 2)))) && (decide ((IntKind.wrap .i64 ((v4.length : Int) - 2)) ≤ (v4.length : Int)))) <|
     chk (decide (0 ≤ (IntKind.wrap .i64 ((v4.length : Int) - 2)))) <|
     chk ((decide (0 ≤ (IntKind.wrap .i64 ((v4.length : Int) - 2)))) && (decide ((IntKind.wrap .i64 ((v4.length : Int) - 2)) < (v4.length : Int)))) <|
     bif (v4.getD ((IntKind.wrap .i64 ((v4.length : Int) - 2)).toNat) false) then
      chk (decide ((((v4.take ((IntKind.wrap .i64 ((v4.length : Int) - 2)).toNat)).length) + 1) * 1 ≤ room)) <|
      rec (IntKind.wrap .i64 (v3 + 1)) ((v4.take ((IntKind.wrap .i64 ((v4.length : Int) - 2)).toNat)) ++ [true])
     else
      chk ((decide (0 ≤ (IntKind.wrap .i64 ((v4.length : Int) - 1)))) && (decide ((IntKind.wrap .i64 ((v4.length : Int) - 1)) < (v4.length : Int)))) <|
      chk (decide ((((v4.take ((IntKind.wrap .i64 ((v4.length : Int) - 2)).toNat)).length) + 1) * 1 ≤ room)) <|
      rec (IntKind.wrap .i64 (v3 + 1)) ((v4.take ((IntKind.wrap .i64 ((v4.length : Int) - 2)).toNat)) ++ [v4.getD ((IntKind.wrap .i64 ((v4.length : Int) - 1)).toNat) false])
    else
     (impl_asks.f k (v1.getD v3.toNat 0) v0).bind fun r3 =>
     chk (decide ((v4.length + 1) * 1 ≤ room)) <|
     rec (IntKind.wrap .i64 (v3 + 1)) (v4 ++ [r3])
 else
  e0 v4
def impl_Matches.l5 {R : Type} (k : Nat) (v0 : Int) (v1 : LI) (v2 : Int) (e0 : List Bool → Option R) (n : Nat) (v3 : Int) (v4 : List Bool) : Option R :=
 V.iter (A := Int × List Bool) (fun rec a => impl_Matches.s5 k v0 v1 v2 e0 (fun c0 c1 => rec (c0, c1)) a.1 a.2) n (v3, v4)
theorem impl_Matches.l5_succ {R : Type} (k : Nat) (v0 : Int) (v1 : LI) (v2 : Int) (e0 : List Bool → Option R) (n : Nat) (v3 : Int) (v4 : List Bool) : impl_Matches.l5 (R := R) k v0 v1 v2 e0 (n + 1) v3 v4 = impl_Matches.s5 k v0 v1 v2 e0 (impl_Matches.l5 k v0 v1 v2 e0 n) v3 v4 := rfl
def impl_Matches.f (k : Nat) (a : LI) (g : Int) : Option (Bool) :=
 (impl_IsPattern.f k a).bind fun r1 =>
 bif (!r1) then
  some false
 else
  (impl_IsCard.f k g).bind fun r2 =>
  bif (!r2) then
   some false
  else
   impl_Matches.l5 k g a (a.length : Int) (fun x4 =>
    chk (decide (0 < (x4.length : Int))) <|
    some (x4.getD 0 false)) k 0 []

def impl_FitsOn.f (k : Nat) (a0 a1 : Int) (a2 a3 : Bool) (a4 a5 : LI) (a6 a7 g i : Int) : Option (Bool) :=
 (impl_IsRules.f k a0 a1 a2 a3 a4 a5 a6 a7).bind fun r1 =>
 bif (!r1) then
  some false
 else
  (impl_IsCard.f k g).bind fun r2 =>
  bif (!r2) then
   some false
  else
   (impl_IsCard.f k i).bind fun r3 =>
   bif (!r3) then
    some false
   else
    bif a2 then
     (impl_SuitOf.f k i).bind fun r4 =>
     (impl_SuitOf.f k g).bind fun r5 =>
     bif (r4 == r5) then
      some true
     else
      bif a3 then
       (impl_RankOf.f k i).bind fun r6 =>
       (impl_RankOf.f k g).bind fun r7 =>
       bif (r6 == r7) then
        some true
       else
        (impl_Matches.f k a4 i).bind fun r8 =>
        some r8
      else
       (impl_Matches.f k a4 i).bind fun r9 =>
       some r9
    else
     bif a3 then
      (impl_RankOf.f k i).bind fun r10 =>
      (impl_RankOf.f k g).bind fun r11 =>
      bif (r10 == r11) then
       some true
      else
       (impl_Matches.f k a4 i).bind fun r12 =>
       some r12
     else
      (impl_Matches.f k a4 i).bind fun r13 =>
      some r13

def impl_Playable.s5 {R : Type} (k : Nat) (v0 v2 v3 : Int) (v4 v5 : Bool) (v6 v7 : LI) (v8 v9 : Int) (v12 v17 : LI) (e0 : LI → Option R) (rec : Int → LI → Option R) (v1 : Int) (v16 : LI) : Option R :=
 bif decide (v1 < v0) then
  chk ((decide (0 ≤ v1)) && (decide (v1 < (v17.length : Int)))) <|
  chk ((decide (0 ≤ (IntKind.wrap .i64 ((v12.length : Int) - 1)))) && (decide ((IntKind.wrap .i64 ((v12.length : Int) - 1)) < (v12.length : Int)))) <|
  (impl_FitsOn.f k v2 v3 v4 v5 v6 v7 v8 v9 (v12.getD ((IntKind.wrap .i64 ((v12.length : Int) - 1)).toNat) 0) (v17.getD v1.toNat 0)).bind fun r4 =>
  bif r4 then
   chk (decide ((v16.length + 1) * 8 ≤ room)) <|
   rec (IntKind.wrap .i64 (v1 + 1)) (v16 ++ [v17.getD v1.toNat 0])
  else
   rec (IntKind.wrap .i64 (v1 + 1)) v16
 else
  e0 v16
def impl_Playable.l5 {R : Type} (k : Nat) (v0 v2 v3 : Int) (v4 v5 : Bool) (v6 v7 : LI) (v8 v9 : Int) (v12 v17 : LI) (e0 : LI → Option R) (n : Nat) (v1 : Int) (v16 : LI) : Option R :=
 V.iter (A := Int × LI) (fun rec a => impl_Playable.s5 k v0 v2 v3 v4 v5 v6 v7 v8 v9 v12 v17 e0 (fun c0 c1 => rec (c0, c1)) a.1 a.2) n (v1, v16)
theorem impl_Playable.l5_succ {R : Type} (k : Nat) (v0 v2 v3 : Int) (v4 v5 : Bool) (v6 v7 : LI) (v8 v9 : Int) (v12 v17 : LI) (e0 : LI → Option R) (n : Nat) (v1 : Int) (v16 : LI) : impl_Playable.l5 (R := R) k v0 v2 v3 v4 v5 v6 v7 v8 v9 v12 v17 e0 (n + 1) v1 v16 = impl_Playable.s5 k v0 v2 v3 v4 v5 v6 v7 v8 v9 v12 v17 e0 (impl_Playable.l5 k v0 v2 v3 v4 v5 v6 v7 v8 v9 v12 v17 e0 n) v1 v16 := rfl
def impl_Playable.f (k : Nat) (a0 a1 : Int) (a2 a3 : Bool) (a4 a5 : LI) (a6 a7 : Int) (a8 : LL) (a9 a10 : LI) (a11 a12 a13 : Int) : Option (LI) :=
 (impl_IsGame.f k a0 a1 a2 a3 a4 a5 a6 a7 a8 a9 a10 a11 a12 a13).bind fun r1 =>
 bif (!r1) then
  some ([])
 else
  (impl_IsEnded.f k a0 a1 a2 a3 a4 a5 a6 a7 a8 a9 a10 a11 a12 a13).bind fun r2 =>
  bif r2 then
   some ([])
  else
   chk ((decide (0 ≤ a11)) && (decide (a11 < (a8.length : Int)))) <|
   (impl_Sorted.f k (a8.getD a11.toNat [])).bind fun r3 =>
   impl_Playable.l5 k (r3.length : Int) a0 a1 a2 a3 a4 a5 a6 a7 a10 r3 (fun x5 =>
    some x5) k 0 []

def impl_SuitCounts.s3 {R : Type} (k : Nat) (v0 : LI) (v1 : Int) (e0 : LI → Option R) (rec : Int → LI → Option R) (v2 : Int) (v3 : LI) : Option R :=
 bif decide (v2 < v1) then
  chk ((decide (0 ≤ v2)) && (decide (v2 < (v0.length : Int)))) <|
  (impl_IsCard.f k (v0.getD v2.toNat 0)).bind fun r1 =>
  bif r1 then
   (impl_SuitOf.f k (v0.getD v2.toNat 0)).bind fun r2 =>
   chk ((decide (0 ≤ r2)) && (decide (r2 < (v3.length : Int)))) <|
   chk ((decide (0 ≤ r2)) && (decide (r2 < (v3.length : Int)))) <|
   rec (IntKind.wrap .i64 (v2 + 1)) (v3.set r2.toNat (IntKind.wrap .i64 ((v3.getD r2.toNat 0) + 1)))
  else
   rec (IntKind.wrap .i64 (v2 + 1)) v3
 else
  e0 v3
def impl_SuitCounts.l3 {R : Type} (k : Nat) (v0 : LI) (v1 : Int) (e0 : LI → Option R) (n : Nat) (v2 : Int) (v3 : LI) : Option R :=
 V.iter (A := Int × LI) (fun rec a => impl_SuitCounts.s3 k v0 v1 e0 (fun c0 c1 => rec (c0, c1)) a.1 a.2) n (v2, v3)
theorem impl_SuitCounts.l3_succ {R : Type} (k : Nat) (v0 : LI) (v1 : Int) (e0 : LI → Option R) (n : Nat) (v2 : Int) (v3 : LI) : impl_SuitCounts.l3 (R := R) k v0 v1 e0 (n + 1) v2 v3 = impl_SuitCounts.s3 k v0 v1 e0 (impl_SuitCounts.l3 k v0 v1 e0 n) v2 v3 := rfl
def impl_SuitCounts.f (k : Nat) (a : LI) : Option (LI) :=
 impl_SuitCounts.l3 k a (a.length : Int) (fun x3 =>
  some x3) k 0 [0, 0, 0, 0]

def impl_ChoiceOf.s12 {R : Type} (k : Nat) (v1 : Int) (v3 v4 : LI) (e0 : Int → Option R) (rec : Int → Int → Option R) (v0 v2 : Int) : Option R :=
 bif decide (v2 < v1) then
  chk ((decide (0 ≤ v2)) && (decide (v2 < (v4.length : Int)))) <|
  (impl_SuitOf.f k (v4.getD v2.toNat 0)).bind fun r3 =>
  chk ((decide (0 ≤ r3)) && (decide (r3 < (v3.length : Int)))) <|
  (impl_SuitOf.f k v0).bind fun r4 =>
  chk ((decide (0 ≤ r4)) && (decide (r4 < (v3.length : Int)))) <|
  bif decide ((v3.getD r3.toNat 0) > (v3.getD r4.toNat 0)) then
   rec (v4.getD v2.toNat 0) (IntKind.wrap .i64 (v2 + 1))
  else
   rec v0 (IntKind.wrap .i64 (v2 + 1))
 else
  e0 v0
def impl_ChoiceOf.l12 {R : Type} (k : Nat) (v1 : Int) (v3 v4 : LI) (e0 : Int → Option R) (n : Nat) (v0 v2 : Int) : Option R :=
 V.iter (A := Int × Int) (fun rec a => impl_ChoiceOf.s12 k v1 v3 v4 e0 (fun c0 c1 => rec (c0, c1)) a.1 a.2) n (v0, v2)
theorem impl_ChoiceOf.l12_succ {R : Type} (k : Nat) (v1 : Int) (v3 v4 : LI) (e0 : Int → Option R) (n : Nat) (v0 v2 : Int) : impl_ChoiceOf.l12 (R := R) k v1 v3 v4 e0 (n + 1) v0 v2 = impl_ChoiceOf.s12 k v1 v3 v4 e0 (impl_ChoiceOf.l12 k v1 v3 v4 e0 n) v0 v2 := rfl
def impl_ChoiceOf.f (k : Nat) (a0 a1 : Int) (a2 a3 : Bool) (a4 a5 : LI) (a6 a7 : Int) (a8 : LL) (a9 a10 : LI) (a11 a12 a13 g : Int) : Option (Int) :=
 (impl_Playable.f k a0 a1 a2 a3 a4 a5 a6 a7 a8 a9 a10 a11 a12 a13).bind fun r1 =>
 bif ((r1.length : Int) == 0) then
  some (-1)
 else
  bif (g == 0) then
   chk (decide (0 < (r1.length : Int))) <|
   some (r1.getD 0 0)
  else
   bif (g == 1) then
    chk ((decide (0 ≤ (IntKind.wrap .i64 ((r1.length : Int) - 1)))) && (decide ((IntKind.wrap .i64 ((r1.length : Int) - 1)) < (r1.length : Int)))) <|
    some (r1.getD ((IntKind.wrap .i64 ((r1.length : Int) - 1)).toNat) 0)
   else
    bif (g == 2) then
     chk ((decide (0 ≤ a11)) && (decide (a11 < (a8.length : Int)))) <|
     (impl_SuitCounts.f k (a8.getD a11.toNat [])).bind fun r2 =>
     chk (decide (0 < (r1.length : Int))) <|
     impl_ChoiceOf.l12 k (r1.length : Int) r2 r1 (fun x5 =>
      some x5) k (r1.getD 0 0) 0
    else
     some (-1)

def impl_kindAt.f (k : Nat) (a : LI) (g : Int) : Option (Int) :=
 bif decide (g < (a.length : Int)) then
  chk ((decide (0 ≤ g)) && (decide (g < (a.length : Int)))) <|
  some (a.getD g.toNat 0)
 else
  some 3

def impl_TakeCards.s6 {R : Type} (k : Nat) (v1 v14 : Int) (e0 : Int → LL → LI → LI → Option R) (rec : Int → Int → LL → LI → LI → Option R) (v0 v2 : Int) (v37 : LL) (v38 v39 : LI) : Option R :=
 bif decide (v2 < v1) then
  bif ((v38.length : Int) == 0) then
   chk ((decide (0 ≤ (IntKind.wrap .i64 ((v39.length : Int) - 1)))) && (decide ((IntKind.wrap .i64 ((v39.length : Int) - 1)) ≤ (v39.length : Int)))) <|
   chk (decide (0 ≤ (IntKind.wrap .i64 ((v39.length : Int) - 1)))) <|
   (impl_copyOf.f k ((v39.take ((IntKind.wrap .i64 ((v39.length : Int) - 1)).toNat)).drop 0)).bind fun r4 =>
   chk ((decide (0 ≤ (v39.length : Int))) && (decide ((v39.length : Int) ≤ (v39.length : Int)))) <|
   chk ((decide (0 ≤ (IntKind.wrap .i64 ((v39.length : Int) - 1)))) && (decide ((IntKind.wrap .i64 ((v39.length : Int) - 1)) ≤ (v39.length : Int)))) <|
   (impl_copyOf.f k ((v39.take ((v39.length : Int).toNat)).drop ((IntKind.wrap .i64 ((v39.length : Int) - 1)).toNat))).bind fun r5 =>
   bif ((r4.length : Int) == 0) then
    e0 v0 v37 r4 r5
   else
    chk ((decide (0 ≤ v14)) && (decide (v14 < (v37.length : Int)))) <|
    chk (decide (0 < (r4.length : Int))) <|
    chk (decide ((((v37.getD v14.toNat []).length) + 1) * 8 ≤ room)) <|
    chk ((decide (0 ≤ v14)) && (decide (v14 < (v37.length : Int)))) <|
    chk (v14.toNat == v14.toNat) <|
    chk ((decide (0 ≤ (r4.length : Int))) && (decide ((r4.length : Int) ≤ (r4.length : Int)))) <|
    chk (decide (1 ≤ (r4.length : Int))) <|
    (impl_copyOf.f k ((r4.take ((r4.length : Int).toNat)).drop 1)).bind fun r6 =>
    rec (IntKind.wrap .i64 (v0 + 1)) (IntKind.wrap .i64 (v2 + 1)) (v37.set v14.toNat ((v37.getD v14.toNat []) ++ [r4.getD 0 0])) r6 r5
  else
   bif ((v38.length : Int) == 0) then
    e0 v0 v37 v38 v39
   else
    chk ((decide (0 ≤ v14)) && (decide (v14 < (v37.length : Int)))) <|
    chk (decide (0 < (v38.length : Int))) <|
    chk (decide ((((v37.getD v14.toNat []).length) + 1) * 8 ≤ room)) <|
    chk ((decide (0 ≤ v14)) && (decide (v14 < (v37.length : Int)))) <|
    chk (v14.toNat == v14.toNat) <|
    chk ((decide (0 ≤ (v38.length : Int))) && (decide ((v38.length : Int) ≤ (v38.length : Int)))) <|
    chk (decide (1 ≤ (v38.length : Int))) <|
    (impl_copyOf.f k ((v38.take ((v38.length : Int).toNat)).drop 1)).bind fun r7 =>
    rec (IntKind.wrap .i64 (v0 + 1)) (IntKind.wrap .i64 (v2 + 1)) (v37.set v14.toNat ((v37.getD v14.toNat []) ++ [v38.getD 0 0])) r7 v39
 else
  e0 v0 v37 v38 v39
def impl_TakeCards.l6 {R : Type} (k : Nat) (v1 v14 : Int) (e0 : Int → LL → LI → LI → Option R) (n : Nat) (v0 v2 : Int) (v37 : LL) (v38 v39 : LI) : Option R :=
 V.iter (A := Int × Int × LL × LI × LI) (fun rec a => impl_TakeCards.s6 k v1 v14 e0 (fun c0 c1 c2 c3 c4 => rec (c0, c1, c2, c3, c4)) a.1 a.2.1 (t2 a).1 (t3 a).1 (t4 a)) n (v0, v2, v37, v38, v39)
theorem impl_TakeCards.l6_succ {R : Type} (k : Nat) (v1 v14 : Int) (e0 : Int → LL → LI → LI → Option R) (n : Nat) (v0 v2 : Int) (v37 : LL) (v38 v39 : LI) : impl_TakeCards.l6 (R := R) k v1 v14 e0 (n + 1) v0 v2 v37 v38 v39 = impl_TakeCards.s6 k v1 v14 e0 (impl_TakeCards.l6 k v1 v14 e0 n) v0 v2 v37 v38 v39 := rfl
def impl_TakeCards.f (k : Nat) (a0 a1 : Int) (a2 a3 : Bool) (a4 a5 : LI) (a6 a7 : Int) (a8 : LL) (a9 a10 : LI) (a11 a12 a13 : Int) : Option (Int × Int × Bool × Bool × LI × LI × Int × Int × LL × LI × LI × Int × Int × Int × Bool) :=
 (impl_Game_copied.f k a0 a1 a2 a3 a4 a5 a6 a7 a8 a9 a10 a11 a12 a13).bind fun r1 =>
 (impl_IsGame.f k a0 a1 a2 a3 a4 a5 a6 a7 a8 a9 a10 a11 a12 a13).bind fun r2 =>
 bif (!r2) then
  some (r1.1, r1.2.1, (t2 r1).1, (t3 r1).1, (t4 r1).1, (t5 r1).1, (t6 r1).1, (t7 r1).1, (t8 r1).1, (t9 r1).1, (t9 r1.2).1, (t9 (t2 r1)).1, (t9 (t3 r1)).1, (t9 (t4 r1)), false)
 else
  (impl_IsEnded.f k a0 a1 a2 a3 a4 a5 a6 a7 a8 a9 a10 a11 a12 a13).bind fun r3 =>
  bif r3 then
   some (r1.1, r1.2.1, (t2 r1).1, (t3 r1).1, (t4 r1).1, (t5 r1).1, (t6 r1).1, (t7 r1).1, (t8 r1).1, (t9 r1).1, (t9 r1.2).1, (t9 (t2 r1)).1, (t9 (t3 r1)).1, (t9 (t4 r1)), false)
  else
   impl_TakeCards.l6 k a6 a11 (fun x8 x9 x10 x11 =>
    bif decide (x8 > 0) then
     chk (!(decide ((a8.length : Int) = 0))) <|
     some (r1.1, r1.2.1, (t2 r1).1, (t3 r1).1, (t4 r1).1, (t5 r1).1, (t6 r1).1, (t7 r1).1, x9, x10, x11, (IntKind.wrap .i64 (a11 + 1)).tmod (a8.length : Int), IntKind.wrap .i64 ((t9 (t3 r1)).1 + 1), 0, true)
    else
     chk (!(decide ((a8.length : Int) = 0))) <|
     some (r1.1, r1.2.1, (t2 r1).1, (t3 r1).1, (t4 r1).1, (t5 r1).1, (t6 r1).1, (t7 r1).1, x9, x10, x11, (IntKind.wrap .i64 (a11 + 1)).tmod (a8.length : Int), IntKind.wrap .i64 ((t9 (t3 r1)).1 + 1), IntKind.wrap .i64 ((t9 (t4 r1)) + 1), true)) k 0 0 (t8 r1).1 (t9 r1).1 (t9 r1.2).1

def impl_PlaceOf.s2 {R : Type} (k : Nat) (v0 : Int) (v1 : LI) (v2 : Int) (e0 : Int → Option R) (e1 : Option R) (rec : Int → Option R) (v3 : Int) : Option R :=
 bif decide (v3 < v2) then
  chk ((decide (0 ≤ v3)) && (decide (v3 < (v1.length : Int)))) <|
  bif ((v1.getD v3.toNat 0) == v0) then
   e0 v3
  else
   rec (IntKind.wrap .i64 (v3 + 1))
 else
  e1
def impl_PlaceOf.l2 {R : Type} (k : Nat) (v0 : Int) (v1 : LI) (v2 : Int) (e0 : Int → Option R) (e1 : Option R) (n : Nat) (v3 : Int) : Option R :=
 V.iter (A := Int) (fun rec a => impl_PlaceOf.s2 k v0 v1 v2 e0 e1 (fun c0 => rec c0) a) n v3
theorem impl_PlaceOf.l2_succ {R : Type} (k : Nat) (v0 : Int) (v1 : LI) (v2 : Int) (e0 : Int → Option R) (e1 : Option R) (n : Nat) (v3 : Int) : impl_PlaceOf.l2 (R := R) k v0 v1 v2 e0 e1 (n + 1) v3 = impl_PlaceOf.s2 k v0 v1 v2 e0 e1 (impl_PlaceOf.l2 k v0 v1 v2 e0 e1 n) v3 := rfl
def impl_PlaceOf.f (k : Nat) (a : LI) (g : Int) : Option (Int) :=
 impl_PlaceOf.l2 k g a (a.length : Int) (fun x1 =>
  some x1) (some (-1)) k 0

def impl_HasCard.f (k : Nat) (a : LI) (g : Int) : Option (Bool) :=
 (impl_PlaceOf.f k a g).bind fun r1 =>
 some (decide (r1 ≥ 0))

def impl_Without.s3 {R : Type} (k : Nat) (v0 : Int) (v1 : LI) (v2 : Int) (e0 : LI → Option R) (rec : Int → LI → Option R) (v3 : Int) (v4 : LI) : Option R :=
 bif decide (v3 < v2) then
  chk ((decide (0 ≤ v3)) && (decide (v3 < (v1.length : Int)))) <|
  bif ((v1.getD v3.toNat 0) != v0) then
   chk (decide ((v4.length + 1) * 8 ≤ room)) <|
   rec (IntKind.wrap .i64 (v3 + 1)) (v4 ++ [v1.getD v3.toNat 0])
  else
   rec (IntKind.wrap .i64 (v3 + 1)) v4
 else
  e0 v4
def impl_Without.l3 {R : Type} (k : Nat) (v0 : Int) (v1 : LI) (v2 : Int) (e0 : LI → Option R) (n : Nat) (v3 : Int) (v4 : LI) : Option R :=
 V.iter (A := Int × LI) (fun rec a => impl_Without.s3 k v0 v1 v2 e0 (fun c0 c1 => rec (c0, c1)) a.1 a.2) n (v3, v4)
theorem impl_Without.l3_succ {R : Type} (k : Nat) (v0 : Int) (v1 : LI) (v2 : Int) (e0 : LI → Option R) (n : Nat) (v3 : Int) (v4 : LI) : impl_Without.l3 (R := R) k v0 v1 v2 e0 (n + 1) v3 v4 = impl_Without.s3 k v0 v1 v2 e0 (impl_Without.l3 k v0 v1 v2 e0 n) v3 v4 := rfl
def impl_Without.f (k : Nat) (a : LI) (g : Int) : Option (LI) :=
 impl_Without.l3 k g a (a.length : Int) (fun x1 =>
  some x1) k 0 []

def impl_DoesSkip.f (k : Nat) (a0 a1 : Int) (a2 a3 : Bool) (a4 a5 : LI) (a6 a7 g : Int) : Option (Bool) :=
 (impl_IsRules.f k a0 a1 a2 a3 a4 a5 a6 a7).bind fun r1 =>
 bif r1 then
  (impl_Matches.f k a5 g).bind fun r2 =>
  some r2
 else
  some false

def impl_PlayOn.f (k : Nat) (a0 a1 : Int) (a2 a3 : Bool) (a4 a5 : LI) (a6 a7 : Int) (a8 : LL) (a9 a10 : LI) (a11 a12 a13 g : Int) : Option (Int × Int × Bool × Bool × LI × LI × Int × Int × LL × LI × LI × Int × Int × Int × Bool) :=
 (impl_Game_copied.f k a0 a1 a2 a3 a4 a5 a6 a7 a8 a9 a10 a11 a12 a13).bind fun r1 =>
 (impl_Playable.f k a0 a1 a2 a3 a4 a5 a6 a7 a8 a9 a10 a11 a12 a13).bind fun r2 =>
 (impl_HasCard.f k r2 g).bind fun r3 =>
 bif (!r3) then
  some (r1.1, r1.2.1, (t2 r1).1, (t3 r1).1, (t4 r1).1, (t5 r1).1, (t6 r1).1, (t7 r1).1, (t8 r1).1, (t9 r1).1, (t9 r1.2).1, (t9 (t2 r1)).1, (t9 (t3 r1)).1, (t9 (t4 r1)), false)
 else
  chk ((decide (0 ≤ a11)) && (decide (a11 < ((t8 r1).1.length : Int)))) <|
  (impl_Without.f k ((t8 r1).1.getD a11.toNat []) g).bind fun r4 =>
  chk ((decide (0 ≤ a11)) && (decide (a11 < ((t8 r1).1.length : Int)))) <|
  chk (decide (((t9 r1.2).1.length + 1) * 8 ≤ room)) <|
  (impl_DoesSkip.f k a0 a1 a2 a3 a4 a5 a6 a7 g).bind fun r5 =>
  bif r5 then
   chk (!(decide ((a8.length : Int) = 0))) <|
   some (r1.1, r1.2.1, (t2 r1).1, (t3 r1).1, (t4 r1).1, (t5 r1).1, (t6 r1).1, (t7 r1).1, (t8 r1).1.set a11.toNat r4, (t9 r1).1, (t9 r1.2).1 ++ [g], (IntKind.wrap .i64 (a11 + 2)).tmod (a8.length : Int), IntKind.wrap .i64 ((t9 (t3 r1)).1 + 1), 0, true)
  else
   chk (!(decide ((a8.length : Int) = 0))) <|
   some (r1.1, r1.2.1, (t2 r1).1, (t3 r1).1, (t4 r1).1, (t5 r1).1, (t6 r1).1, (t7 r1).1, (t8 r1).1.set a11.toNat r4, (t9 r1).1, (t9 r1.2).1 ++ [g], (IntKind.wrap .i64 (a11 + 1)).tmod (a8.length : Int), IntKind.wrap .i64 ((t9 (t3 r1)).1 + 1), 0, true)

def impl_ReplayMove.f (k : Nat) (a0 a1 : Int) (a2 a3 : Bool) (a4 a5 : LI) (a6 a7 : Int) (a8 : LL) (a9 a10 : LI) (a11 a12 a13 g : Int) : Option (Int × Int × Bool × Bool × LI × LI × Int × Int × LL × LI × LI × Int × Int × Int × Bool) :=
 bif (g == (-1)) then
  (impl_TakeCards.f k a0 a1 a2 a3 a4 a5 a6 a7 a8 a9 a10 a11 a12 a13).bind fun r1 =>
  some (r1.1, r1.2.1, (t2 r1).1, (t3 r1).1, (t4 r1).1, (t5 r1).1, (t6 r1).1, (t7 r1).1, (t8 r1).1, (t9 r1).1, (t9 r1.2).1, (t9 (t2 r1)).1, (t9 (t3 r1)).1, (t9 (t4 r1)).1, (t9 (t5 r1)))
 else
  (impl_PlayOn.f k a0 a1 a2 a3 a4 a5 a6 a7 a8 a9 a10 a11 a12 a13 g).bind fun r2 =>
  some (r2.1, r2.2.1, (t2 r2).1, (t3 r2).1, (t4 r2).1, (t5 r2).1, (t6 r2).1, (t7 r2).1, (t8 r2).1, (t9 r2).1, (t9 r2.2).1, (t9 (t2 r2)).1, (t9 (t3 r2)).1, (t9 (t4 r2)).1, (t9 (t5 r2)))

def impl_RecordOut.s3 {R : Type} (k : Nat) (v0 : LI) (e0 : LI → Option R) (rec : LI → Int → Int → Bool → Bool → Int → Int → Int → Int → Int → LI → LI → LL → LI → LI → Option R) (v1 : LI) (v2 v3 : Int) (v4 v5 : Bool) (v6 v7 v8 v9 v10 : Int) (v11 v12 : LI) (v13 : LL) (v14 v15 : LI) : Option R :=
 (impl_IsGame.f k v2 v3 v4 v5 v11 v12 v6 v7 v13 v14 v15 v8 v9 v10).bind fun r2 =>
 bif r2 then
  (impl_IsEnded.f k v2 v3 v4 v5 v11 v12 v6 v7 v13 v14 v15 v8 v9 v10).bind fun r3 =>
  bif (!r3) then
   (impl_kindAt.f k v0 v8).bind fun r4 =>
   (impl_ChoiceOf.f k v2 v3 v4 v5 v11 v12 v6 v7 v13 v14 v15 v8 v9 v10 r4).bind fun r5 =>
   (impl_ReplayMove.f k v2 v3 v4 v5 v11 v12 v6 v7 v13 v14 v15 v8 v9 v10 r5).bind fun r6 =>
   chk (decide ((v1.length + 1) * 8 ≤ room)) <|
   rec (v1 ++ [r5]) r6.1 r6.2.1 (t2 r6).1 (t3 r6).1 (t6 r6).1 (t7 r6).1 (t9 (t2 r6)).1 (t9 (t3 r6)).1 (t9 (t4 r6)).1 (t4 r6).1 (t5 r6).1 (t8 r6).1 (t9 r6).1 (t9 r6.2).1
  else
   e0 v1
 else
  e0 v1
def impl_RecordOut.l3 {R : Type} (k : Nat) (v0 : LI) (e0 : LI → Option R) (n : Nat) (v1 : LI) (v2 v3 : Int) (v4 v5 : Bool) (v6 v7 v8 v9 v10 : Int) (v11 v12 : LI) (v13 : LL) (v14 v15 : LI) : Option R :=
 V.iter (A := LI × Int × Int × Bool × Bool × Int × Int × Int × Int × Int × LI × LI × LL × LI × LI) (fun rec a => impl_RecordOut.s3 k v0 e0 (fun c0 c1 c2 c3 c4 c5 c6 c7 c8 c9 c10 c11 c12 c13 c14 => rec (c0, c1, c2, c3, c4, c5, c6, c7, c8, c9, c10, c11, c12, c13, c14)) a.1 a.2.1 (t2 a).1 (t3 a).1 (t4 a).1 (t5 a).1 (t6 a).1 (t7 a).1 (t8 a).1 (t9 a).1 (t9 a.2).1 (t9 (t2 a)).1 (t9 (t3 a)).1 (t9 (t4 a)).1 (t9 (t5 a))) n (v1, v2, v3, v4, v5, v6, v7, v8, v9, v10, v11, v12, v13, v14, v15)
theorem impl_RecordOut.l3_succ {R : Type} (k : Nat) (v0 : LI) (e0 : LI → Option R) (n : Nat) (v1 : LI) (v2 v3 : Int) (v4 v5 : Bool) (v6 v7 v8 v9 v10 : Int) (v11 v12 : LI) (v13 : LL) (v14 v15 : LI) : impl_RecordOut.l3 (R := R) k v0 e0 (n + 1) v1 v2 v3 v4 v5 v6 v7 v8 v9 v10 v11 v12 v13 v14 v15 = impl_RecordOut.s3 k v0 e0 (impl_RecordOut.l3 k v0 e0 n) v1 v2 v3 v4 v5 v6 v7 v8 v9 v10 v11 v12 v13 v14 v15 := rfl
def impl_RecordOut.f (k : Nat) (a0 a1 : Int) (a2 a3 : Bool) (a4 a5 : LI) (a6 a7 : Int) (a8 : LL) (a9 a10 : LI) (a11 a12 a13 : Int) (g : LI) : Option (LI) :=
 (impl_Game_copied.f k a0 a1 a2 a3 a4 a5 a6 a7 a8 a9 a10 a11 a12 a13).bind fun r1 =>
 impl_RecordOut.l3 k g (fun x7 =>
  some x7) k [] r1.1 r1.2.1 (t2 r1).1 (t3 r1).1 (t6 r1).1 (t7 r1).1 (t9 (t2 r1)).1 (t9 (t3 r1)).1 (t9 (t4 r1)) (t4 r1).1 (t5 r1).1 (t8 r1).1 (t9 r1).1 (t9 r1.2).1

def impl_Replayed.s3 {R : Type} (k : Nat) (v1 : LI) (v2 : Int) (e0 : Int → Int → Int → Bool → Bool → Int → Int → Int → Int → Int → LI → LI → LL → LI → LI → Option R) (e1 : Int → Int → Bool → Bool → Int → Int → Int → Int → Int → LI → LI → LL → LI → LI → Option R) (rec : Int → Int → Int → Bool → Bool → Int → Int → Int → Int → Int → LI → LI → LL → LI → LI → Option R) (v3 v13 v14 : Int) (v15 v16 : Bool) (v17 v18 v19 v20 v21 : Int) (v22 v23 : LI) (v24 : LL) (v25 v26 : LI) : Option R :=
 bif decide (v3 < v2) then
  chk ((decide (0 ≤ v3)) && (decide (v3 < (v1.length : Int)))) <|
  (impl_ReplayMove.f k v13 v14 v15 v16 v22 v23 v17 v18 v24 v25 v26 v19 v20 v21 (v1.getD v3.toNat 0)).bind fun r2 =>
  bif (!(t9 (t5 r2))) then
   e0 v3 v13 v14 v15 v16 v17 v18 v19 v20 v21 v22 v23 v24 v25 v26
  else
   rec (IntKind.wrap .i64 (v3 + 1)) r2.1 r2.2.1 (t2 r2).1 (t3 r2).1 (t6 r2).1 (t7 r2).1 (t9 (t2 r2)).1 (t9 (t3 r2)).1 (t9 (t4 r2)).1 (t4 r2).1 (t5 r2).1 (t8 r2).1 (t9 r2).1 (t9 r2.2).1
 else
  e1 v13 v14 v15 v16 v17 v18 v19 v20 v21 v22 v23 v24 v25 v26
def impl_Replayed.l3 {R : Type} (k : Nat) (v1 : LI) (v2 : Int) (e0 : Int → Int → Int → Bool → Bool → Int → Int → Int → Int → Int → LI → LI → LL → LI → LI → Option R) (e1 : Int → Int → Bool → Bool → Int → Int → Int → Int → Int → LI → LI → LL → LI → LI → Option R) (n : Nat) (v3 v13 v14 : Int) (v15 v16 : Bool) (v17 v18 v19 v20 v21 : Int) (v22 v23 : LI) (v24 : LL) (v25 v26 : LI) : Option R :=
 V.iter (A := Int × Int × Int × Bool × Bool × Int × Int × Int × Int × Int × LI × LI × LL × LI × LI) (fun rec a => impl_Replayed.s3 k v1 v2 e0 e1 (fun c0 c1 c2 c3 c4 c5 c6 c7 c8 c9 c10 c11 c12 c13 c14 => rec (c0, c1, c2, c3, c4, c5, c6, c7, c8, c9, c10, c11, c12, c13, c14)) a.1 a.2.1 (t2 a).1 (t3 a).1 (t4 a).1 (t5 a).1 (t6 a).1 (t7 a).1 (t8 a).1 (t9 a).1 (t9 a.2).1 (t9 (t2 a)).1 (t9 (t3 a)).1 (t9 (t4 a)).1 (t9 (t5 a))) n (v3, v13, v14, v15, v16, v17, v18, v19, v20, v21, v22, v23, v24, v25, v26)
theorem impl_Replayed.l3_succ {R : Type} (k : Nat) (v1 : LI) (v2 : Int) (e0 : Int → Int → Int → Bool → Bool → Int → Int → Int → Int → Int → LI → LI → LL → LI → LI → Option R) (e1 : Int → Int → Bool → Bool → Int → Int → Int → Int → Int → LI → LI → LL → LI → LI → Option R) (n : Nat) (v3 v13 v14 : Int) (v15 v16 : Bool) (v17 v18 v19 v20 v21 : Int) (v22 v23 : LI) (v24 : LL) (v25 v26 : LI) : impl_Replayed.l3 (R := R) k v1 v2 e0 e1 (n + 1) v3 v13 v14 v15 v16 v17 v18 v19 v20 v21 v22 v23 v24 v25 v26 = impl_Replayed.s3 k v1 v2 e0 e1 (impl_Replayed.l3 k v1 v2 e0 e1 n) v3 v13 v14 v15 v16 v17 v18 v19 v20 v21 v22 v23 v24 v25 v26 := rfl
def impl_Replayed.f (k : Nat) (a0 a1 : Int) (a2 a3 : Bool) (a4 a5 : LI) (a6 a7 : Int) (a8 : LL) (a9 a10 : LI) (a11 a12 a13 : Int) (g : LI) : Option (Int × Int × Bool × Bool × LI × LI × Int × Int × LL × LI × LI × Int × Int × Int × Int) :=
 (impl_Game_copied.f k a0 a1 a2 a3 a4 a5 a6 a7 a8 a9 a10 a11 a12 a13).bind fun r1 =>
 impl_Replayed.l3 k g (g.length : Int) (fun x3 x4 x5 x6 x7 x8 x9 x10 x11 x12 x13 x14 x15 x16 x17 =>
  some (x4, x5, x6, x7, x13, x14, x8, x9, x15, x16, x17, x10, x11, x12, x3)) (fun x18 x19 x20 x21 x22 x23 x24 x25 x26 x27 x28 x29 x30 x31 =>
  some (x18, x19, x20, x21, x27, x28, x22, x23, x29, x30, x31, x24, x25, x26, (g.length : Int))) k 0 r1.1 r1.2.1 (t2 r1).1 (t3 r1).1 (t6 r1).1 (t7 r1).1 (t9 (t2 r1)).1 (t9 (t3 r1)).1 (t9 (t4 r1)) (t4 r1).1 (t5 r1).1 (t8 r1).1 (t9 r1).1 (t9 r1.2).1

def impl_EqualInts.s4 {R : Type} (k : Nat) (v0 v1 : LI) (v2 : Int) (e0 e1 : Option R) (rec : Int → Option R) (v3 : Int) : Option R :=
 bif decide (v3 < v2) then
  chk ((decide (0 ≤ v3)) && (decide (v3 < (v0.length : Int)))) <|
  chk ((decide (0 ≤ v3)) && (decide (v3 < (v1.length : Int)))) <|
  bif ((v0.getD v3.toNat 0) != (v1.getD v3.toNat 0)) then
   e0
  else
   rec (IntKind.wrap .i64 (v3 + 1))
 else
  e1
def impl_EqualInts.l4 {R : Type} (k : Nat) (v0 v1 : LI) (v2 : Int) (e0 e1 : Option R) (n : Nat) (v3 : Int) : Option R :=
 V.iter (A := Int) (fun rec a => impl_EqualInts.s4 k v0 v1 v2 e0 e1 (fun c0 => rec c0) a) n v3
theorem impl_EqualInts.l4_succ {R : Type} (k : Nat) (v0 v1 : LI) (v2 : Int) (e0 e1 : Option R) (n : Nat) (v3 : Int) : impl_EqualInts.l4 (R := R) k v0 v1 v2 e0 e1 (n + 1) v3 = impl_EqualInts.s4 k v0 v1 v2 e0 e1 (impl_EqualInts.l4 k v0 v1 v2 e0 e1 n) v3 := rfl
def impl_EqualInts.f (k : Nat) (a g : LI) : Option (Bool) :=
 bif ((a.length : Int) != (g.length : Int)) then
  some false
 else
  impl_EqualInts.l4 k a g (a.length : Int) (some false) (some true) k 0

def impl_EqualRules.f (k : Nat) (a0 a1 : Int) (a2 a3 : Bool) (a4 a5 : LI) (a6 a7 g0 g1 : Int) (g2 g3 : Bool) (g4 g5 : LI) (g6 g7 : Int) : Option (Bool) :=
 bif (a0 == g0) then
  bif (a1 == g1) then
   bif (a2 == g2) then
    bif (a3 == g3) then
     bif (a6 == g6) then
      bif (a7 == g7) then
       (impl_EqualInts.f k a4 g4).bind fun r1 =>
       bif r1 then
        (impl_EqualInts.f k a5 g5).bind fun r2 =>
        some r2
       else
        some false
      else
       some false
     else
      some false
    else
     some false
   else
    some false
  else
   some false
 else
  some false

def impl_sameRows.s4 {R : Type} (k : Nat) (v0 v1 : LL) (v2 : Int) (e0 e1 : Option R) (rec : Int → Option R) (v3 : Int) : Option R :=
 bif decide (v3 < v2) then
  chk ((decide (0 ≤ v3)) && (decide (v3 < (v0.length : Int)))) <|
  chk ((decide (0 ≤ v3)) && (decide (v3 < (v1.length : Int)))) <|
  (impl_EqualInts.f k (v0.getD v3.toNat []) (v1.getD v3.toNat [])).bind fun r1 =>
  bif (!r1) then
   e0
  else
   rec (IntKind.wrap .i64 (v3 + 1))
 else
  e1
def impl_sameRows.l4 {R : Type} (k : Nat) (v0 v1 : LL) (v2 : Int) (e0 e1 : Option R) (n : Nat) (v3 : Int) : Option R :=
 V.iter (A := Int) (fun rec a => impl_sameRows.s4 k v0 v1 v2 e0 e1 (fun c0 => rec c0) a) n v3
theorem impl_sameRows.l4_succ {R : Type} (k : Nat) (v0 v1 : LL) (v2 : Int) (e0 e1 : Option R) (n : Nat) (v3 : Int) : impl_sameRows.l4 (R := R) k v0 v1 v2 e0 e1 (n + 1) v3 = impl_sameRows.s4 k v0 v1 v2 e0 e1 (impl_sameRows.l4 k v0 v1 v2 e0 e1 n) v3 := rfl
def impl_sameRows.f (k : Nat) (a g : LL) : Option (Bool) :=
 bif ((a.length : Int) != (g.length : Int)) then
  some false
 else
  impl_sameRows.l4 k a g (a.length : Int) (some false) (some true) k 0

def impl_EqualGames.f (k : Nat) (a0 a1 : Int) (a2 a3 : Bool) (a4 a5 : LI) (a6 a7 : Int) (a8 : LL) (a9 a10 : LI) (a11 a12 a13 g0 g1 : Int) (g2 g3 : Bool) (g4 g5 : LI) (g6 g7 : Int) (g8 : LL) (g9 g10 : LI) (g11 g12 g13 : Int) : Option (Bool) :=
 (impl_EqualRules.f k a0 a1 a2 a3 a4 a5 a6 a7 g0 g1 g2 g3 g4 g5 g6 g7).bind fun r1 =>
 bif r1 then
  (impl_sameRows.f k a8 g8).bind fun r2 =>
  bif r2 then
   (impl_EqualInts.f k a9 g9).bind fun r3 =>
   bif r3 then
    (impl_EqualInts.f k a10 g10).bind fun r4 =>
    bif r4 then
     bif (a11 == g11) then
      bif (a12 == g12) then
       some (a13 == g13)
      else
       some false
     else
      some false
    else
     some false
   else
    some false
  else
   some false
 else
  some false

def impl_AutoMove.f (k : Nat) (a0 a1 : Int) (a2 a3 : Bool) (a4 a5 : LI) (a6 a7 : Int) (a8 : LL) (a9 a10 : LI) (a11 a12 a13 g : Int) : Option (Int × Int × Bool × Bool × LI × LI × Int × Int × LL × LI × LI × Int × Int × Int × Bool) :=
 (impl_ChoiceOf.f k a0 a1 a2 a3 a4 a5 a6 a7 a8 a9 a10 a11 a12 a13 g).bind fun r1 =>
 (impl_ReplayMove.f k a0 a1 a2 a3 a4 a5 a6 a7 a8 a9 a10 a11 a12 a13 r1).bind fun r2 =>
 some (r2.1, r2.2.1, (t2 r2).1, (t3 r2).1, (t4 r2).1, (t5 r2).1, (t6 r2).1, (t7 r2).1, (t8 r2).1, (t9 r2).1, (t9 r2.2).1, (t9 (t2 r2)).1, (t9 (t3 r2)).1, (t9 (t4 r2)).1, (t9 (t5 r2)))

def impl_PlayOut.s2 {R : Type} (k : Nat) (v0 : LI) (e0 rec : Int → Int → Bool → Bool → Int → Int → Int → Int → Int → LI → LI → LL → LI → LI → Option R) (v10 v11 : Int) (v12 v13 : Bool) (v14 v15 v16 v17 v18 : Int) (v19 v20 : LI) (v21 : LL) (v22 v23 : LI) : Option R :=
 (impl_IsGame.f k v10 v11 v12 v13 v19 v20 v14 v15 v21 v22 v23 v16 v17 v18).bind fun r2 =>
 bif r2 then
  (impl_IsEnded.f k v10 v11 v12 v13 v19 v20 v14 v15 v21 v22 v23 v16 v17 v18).bind fun r3 =>
  bif (!r3) then
   (impl_kindAt.f k v0 v16).bind fun r4 =>
   (impl_AutoMove.f k v10 v11 v12 v13 v19 v20 v14 v15 v21 v22 v23 v16 v17 v18 r4).bind fun r5 =>
   rec r5.1 r5.2.1 (t2 r5).1 (t3 r5).1 (t6 r5).1 (t7 r5).1 (t9 (t2 r5)).1 (t9 (t3 r5)).1 (t9 (t4 r5)).1 (t4 r5).1 (t5 r5).1 (t8 r5).1 (t9 r5).1 (t9 r5.2).1
  else
   e0 v10 v11 v12 v13 v14 v15 v16 v17 v18 v19 v20 v21 v22 v23
 else
  e0 v10 v11 v12 v13 v14 v15 v16 v17 v18 v19 v20 v21 v22 v23
def impl_PlayOut.l2 {R : Type} (k : Nat) (v0 : LI) (e0 : Int → Int → Bool → Bool → Int → Int → Int → Int → Int → LI → LI → LL → LI → LI → Option R) (n : Nat) (v10 v11 : Int) (v12 v13 : Bool) (v14 v15 v16 v17 v18 : Int) (v19 v20 : LI) (v21 : LL) (v22 v23 : LI) : Option R :=
 V.iter (A := Int × Int × Bool × Bool × Int × Int × Int × Int × Int × LI × LI × LL × LI × LI) (fun rec a => impl_PlayOut.s2 k v0 e0 (fun c0 c1 c2 c3 c4 c5 c6 c7 c8 c9 c10 c11 c12 c13 => rec (c0, c1, c2, c3, c4, c5, c6, c7, c8, c9, c10, c11, c12, c13)) a.1 a.2.1 (t2 a).1 (t3 a).1 (t4 a).1 (t5 a).1 (t6 a).1 (t7 a).1 (t8 a).1 (t9 a).1 (t9 a.2).1 (t9 (t2 a)).1 (t9 (t3 a)).1 (t9 (t4 a))) n (v10, v11, v12, v13, v14, v15, v16, v17, v18, v19, v20, v21, v22, v23)
theorem impl_PlayOut.l2_succ {R : Type} (k : Nat) (v0 : LI) (e0 : Int → Int → Bool → Bool → Int → Int → Int → Int → Int → LI → LI → LL → LI → LI → Option R) (n : Nat) (v10 v11 : Int) (v12 v13 : Bool) (v14 v15 v16 v17 v18 : Int) (v19 v20 : LI) (v21 : LL) (v22 v23 : LI) : impl_PlayOut.l2 (R := R) k v0 e0 (n + 1) v10 v11 v12 v13 v14 v15 v16 v17 v18 v19 v20 v21 v22 v23 = impl_PlayOut.s2 k v0 e0 (impl_PlayOut.l2 k v0 e0 n) v10 v11 v12 v13 v14 v15 v16 v17 v18 v19 v20 v21 v22 v23 := rfl
def impl_PlayOut.f (k : Nat) (a0 a1 : Int) (a2 a3 : Bool) (a4 a5 : LI) (a6 a7 : Int) (a8 : LL) (a9 a10 : LI) (a11 a12 a13 : Int) (g : LI) : Option (Int × Int × Bool × Bool × LI × LI × Int × Int × LL × LI × LI × Int × Int × Int) :=
 (impl_Game_copied.f k a0 a1 a2 a3 a4 a5 a6 a7 a8 a9 a10 a11 a12 a13).bind fun r1 =>
 impl_PlayOut.l2 k g (fun x6 x7 x8 x9 x10 x11 x12 x13 x14 x15 x16 x17 x18 x19 =>
  some (x6, x7, x8, x9, x15, x16, x10, x11, x17, x18, x19, x12, x13, x14)) k r1.1 r1.2.1 (t2 r1).1 (t3 r1).1 (t6 r1).1 (t7 r1).1 (t9 (t2 r1)).1 (t9 (t3 r1)).1 (t9 (t4 r1)) (t4 r1).1 (t5 r1).1 (t8 r1).1 (t9 r1).1 (t9 r1.2).1

def strings_IndexByte.f (k : Nat) (a0 : ByteArray) (a1 : Int) : Option (Int) :=
  some (indexB a0 a1)

def impl_ParseCard.f (k : Nat) (a : ByteArray) : Option (Int) :=
 bif ((a.size : Int) != 2) then
  some (-1)
 else
  chk (decide (0 < (a.size : Int))) <|
  (strings_IndexByte.f k (⟨#[50, 51, 52, 53, 54, 55, 56, 57, 84, 74, 81, 75, 65]⟩ : ByteArray) (sb a 0)).bind fun r1 =>
  chk (decide (1 < (a.size : Int))) <|
  (strings_IndexByte.f k (⟨#[99, 100, 104, 115]⟩ : ByteArray) (sb a 1)).bind fun r2 =>
  bif decide (r1 < 0) then
   some (-1)
  else
   bif decide (r2 < 0) then
    some (-1)
   else
    some (IntKind.wrap .i64 ((IntKind.wrap .i64 (r2 * 13)) + r1))

def impl_ParseRecord.s5 {R : Type} (k : Nat) (v0 : ByteArray) (e0 : LI → LI → Option R) (e1 : LI → Option R) (rec : Int → LI → Option R) (v1 : Int) (v2 : LI) : Option R :=
 bif decide (v1 < (v0.size : Int)) then
  chk ((decide (0 ≤ v1)) && (decide (v1 < (v0.size : Int)))) <|
  bif ((sb v0 v1.toNat) == 42) then
   chk (decide ((v2.length + 1) * 8 ≤ room)) <|
   rec (IntKind.wrap .i64 (v1 + 1)) (v2 ++ [(-1)])
  else
   bif decide ((IntKind.wrap .i64 (v1 + 2)) ≤ (v0.size : Int)) then
    chk ((decide (0 ≤ (IntKind.wrap .i64 (v1 + 2)))) && (decide ((IntKind.wrap .i64 (v1 + 2)) ≤ (v0.size : Int)))) <|
    chk ((decide (0 ≤ v1)) && (decide (v1 ≤ (IntKind.wrap .i64 (v1 + 2))))) <|
    (impl_ParseCard.f k (v0.extract v1.toNat ((IntKind.wrap .i64 (v1 + 2)).toNat))).bind fun r1 =>
    bif decide (r1 < 0) then
     e0 [] v2
    else
     chk (decide ((v2.length + 1) * 8 ≤ room)) <|
     rec (IntKind.wrap .i64 (v1 + 2)) (v2 ++ [r1])
   else
    e0 [] v2
 else
  e1 v2
def impl_ParseRecord.l5 {R : Type} (k : Nat) (v0 : ByteArray) (e0 : LI → LI → Option R) (e1 : LI → Option R) (n : Nat) (v1 : Int) (v2 : LI) : Option R :=
 V.iter (A := Int × LI) (fun rec a => impl_ParseRecord.s5 k v0 e0 e1 (fun c0 c1 => rec (c0, c1)) a.1 a.2) n (v1, v2)
theorem impl_ParseRecord.l5_succ {R : Type} (k : Nat) (v0 : ByteArray) (e0 : LI → LI → Option R) (e1 : LI → Option R) (n : Nat) (v1 : Int) (v2 : LI) : impl_ParseRecord.l5 (R := R) k v0 e0 e1 (n + 1) v1 v2 = impl_ParseRecord.s5 k v0 e0 e1 (impl_ParseRecord.l5 k v0 e0 e1 n) v1 v2 := rfl
def impl_ParseRecord.f (k : Nat) (a : ByteArray) : Option (LI × Bool) :=
 bif (a.toList == (⟨#[45]⟩ : ByteArray).toList) then
  some ([], true)
 else
  impl_ParseRecord.l5 k a (fun x2 x3 =>
   some (x2, false)) (fun x4 =>
   bif ((x4.length : Int) == 0) then
    some ([], false)
   else
    some (x4, true)) k 0 []

def impl_CardText.f (k : Nat) (a : Int) : Option (ByteArray) :=
 (impl_IsCard.f k a).bind fun r1 =>
 bif (!r1) then
  some ByteArray.empty
 else
  chk ((decide (0 ≤ (IntKind.wrap .i64 ((a.tmod 13) + 1)))) && (decide ((IntKind.wrap .i64 ((a.tmod 13) + 1)) ≤ 13))) <|
  chk ((decide (0 ≤ (a.tmod 13))) && (decide ((a.tmod 13) ≤ (IntKind.wrap .i64 ((a.tmod 13) + 1))))) <|
  chk ((decide (0 ≤ (IntKind.wrap .i64 ((IntKind.wrap .i64 (a.tdiv 13)) + 1)))) && (decide ((IntKind.wrap .i64 ((IntKind.wrap .i64 (a.tdiv 13)) + 1)) ≤ 4))) <|
  chk ((decide (0 ≤ (IntKind.wrap .i64 (a.tdiv 13)))) && (decide ((IntKind.wrap .i64 (a.tdiv 13)) ≤ (IntKind.wrap .i64 ((IntKind.wrap .i64 (a.tdiv 13)) + 1))))) <|
  chk (decide (((⟨#[50, 51, 52, 53, 54, 55, 56, 57, 84, 74, 81, 75, 65]⟩ : ByteArray).extract ((a.tmod 13).toNat) ((IntKind.wrap .i64 ((a.tmod 13) + 1)).toNat)).size + ((⟨#[99, 100, 104, 115]⟩ : ByteArray).extract ((IntKind.wrap .i64 (a.tdiv 13)).toNat) ((IntKind.wrap .i64 ((IntKind.wrap .i64 (a.tdiv 13)) + 1)).toNat)).size ≤ maxI)) <|
  some (((⟨#[50, 51, 52, 53, 54, 55, 56, 57, 84, 74, 81, 75, 65]⟩ : ByteArray).extract ((a.tmod 13).toNat) ((IntKind.wrap .i64 ((a.tmod 13) + 1)).toNat)) ++ ((⟨#[99, 100, 104, 115]⟩ : ByteArray).extract ((IntKind.wrap .i64 (a.tdiv 13)).toNat) ((IntKind.wrap .i64 ((IntKind.wrap .i64 (a.tdiv 13)) + 1)).toNat)))

def impl_listText.s5 {R : Type} (k : Nat) (v0 : Int) (v1 : ByteArray) (v3 : LI) (v4 : Int) (e0 : ByteArray → Option R) (rec : ByteArray → Int → Option R) (v2 : ByteArray) (v5 : Int) : Option R :=
 bif decide (v5 < v4) then
  chk ((decide (0 ≤ v5)) && (decide (v5 < (v3.length : Int)))) <|
  (impl_IsCard.f k (v3.getD v5.toNat 0)).bind fun r1 =>
  bif r1 then
   (impl_CardText.f k (v3.getD v5.toNat 0)).bind fun r2 =>
   chk (decide (v2.size + r2.size ≤ maxI)) <|
   rec (v2 ++ r2) (IntKind.wrap .i64 (v5 + 1))
  else
   bif ((v3.getD v5.toNat 0) == v0) then
    chk (decide (v2.size + v1.size ≤ maxI)) <|
    rec (v2 ++ v1) (IntKind.wrap .i64 (v5 + 1))
   else
    chk (decide (v2.size + (⟨#[63]⟩ : ByteArray).size ≤ maxI)) <|
    rec (v2 ++ (⟨#[63]⟩ : ByteArray)) (IntKind.wrap .i64 (v5 + 1))
 else
  e0 v2
def impl_listText.l5 {R : Type} (k : Nat) (v0 : Int) (v1 : ByteArray) (v3 : LI) (v4 : Int) (e0 : ByteArray → Option R) (n : Nat) (v2 : ByteArray) (v5 : Int) : Option R :=
 V.iter (A := ByteArray × Int) (fun rec a => impl_listText.s5 k v0 v1 v3 v4 e0 (fun c0 c1 => rec (c0, c1)) a.1 a.2) n (v2, v5)
theorem impl_listText.l5_succ {R : Type} (k : Nat) (v0 : Int) (v1 : ByteArray) (v3 : LI) (v4 : Int) (e0 : ByteArray → Option R) (n : Nat) (v2 : ByteArray) (v5 : Int) : impl_listText.l5 (R := R) k v0 v1 v3 v4 e0 (n + 1) v2 v5 = impl_listText.s5 k v0 v1 v3 v4 e0 (impl_listText.l5 k v0 v1 v3 v4 e0 n) v2 v5 := rfl
def impl_listText.f (k : Nat) (a : LI) (g : Int) (i : ByteArray) : Option (ByteArray) :=
 bif ((a.length : Int) == 0) then
  some (⟨#[45]⟩ : ByteArray)
 else
  impl_listText.l5 k g i a (a.length : Int) (fun x3 =>
   some x3) k ByteArray.empty 0

def impl_RecordText.f (k : Nat) (a : LI) : Option (ByteArray) :=
 (impl_listText.f k a (-1) (⟨#[42]⟩ : ByteArray)).bind fun r1 =>
 some r1

def laws_sameInts.s4 {R : Type} (k : Nat) (v0 v1 : LI) (e0 e1 : Option R) (rec : Int → Option R) (v2 : Int) : Option R :=
 bif decide (v2 < (v0.length : Int)) then
  chk ((decide (0 ≤ v2)) && (decide (v2 < (v0.length : Int)))) <|
  chk ((decide (0 ≤ v2)) && (decide (v2 < (v1.length : Int)))) <|
  bif ((v0.getD v2.toNat 0) != (v1.getD v2.toNat 0)) then
   e0
  else
   rec (IntKind.wrap .i64 (v2 + 1))
 else
  e1
def laws_sameInts.l4 {R : Type} (k : Nat) (v0 v1 : LI) (e0 e1 : Option R) (n : Nat) (v2 : Int) : Option R :=
 V.iter (A := Int) (fun rec a => laws_sameInts.s4 k v0 v1 e0 e1 (fun c0 => rec c0) a) n v2
theorem laws_sameInts.l4_succ {R : Type} (k : Nat) (v0 v1 : LI) (e0 e1 : Option R) (n : Nat) (v2 : Int) : laws_sameInts.l4 (R := R) k v0 v1 e0 e1 (n + 1) v2 = laws_sameInts.s4 k v0 v1 e0 e1 (laws_sameInts.l4 k v0 v1 e0 e1 n) v2 := rfl
def laws_sameInts.f (k : Nat) (a g : LI) : Option (Bool) :=
 bif ((a.length : Int) != (g.length : Int)) then
  some false
 else
  laws_sameInts.l4 k a g (some false) (some true) k 0

def spec_SuitCounts.s3 {R : Type} (k : Nat) (v0 : LI) (e0 : LI → Option R) (rec : Int → LI → Option R) (v1 : Int) (v2 : LI) : Option R :=
 bif decide (v1 < (v0.length : Int)) then
  chk ((decide (0 ≤ v1)) && (decide (v1 < (v0.length : Int)))) <|
  (spec_SuitOf.f k (v0.getD v1.toNat 0)).bind fun r1 =>
  bif decide (r1 ≥ 0) then
   chk ((decide (0 ≤ r1)) && (decide (r1 < (v2.length : Int)))) <|
   chk ((decide (0 ≤ r1)) && (decide (r1 < (v2.length : Int)))) <|
   rec (IntKind.wrap .i64 (v1 + 1)) (v2.set r1.toNat (IntKind.wrap .i64 ((v2.getD r1.toNat 0) + 1)))
  else
   rec (IntKind.wrap .i64 (v1 + 1)) v2
 else
  e0 v2
def spec_SuitCounts.l3 {R : Type} (k : Nat) (v0 : LI) (e0 : LI → Option R) (n : Nat) (v1 : Int) (v2 : LI) : Option R :=
 V.iter (A := Int × LI) (fun rec a => spec_SuitCounts.s3 k v0 e0 (fun c0 c1 => rec (c0, c1)) a.1 a.2) n (v1, v2)
theorem spec_SuitCounts.l3_succ {R : Type} (k : Nat) (v0 : LI) (e0 : LI → Option R) (n : Nat) (v1 : Int) (v2 : LI) : spec_SuitCounts.l3 (R := R) k v0 e0 (n + 1) v1 v2 = spec_SuitCounts.s3 k v0 e0 (spec_SuitCounts.l3 k v0 e0 n) v1 v2 := rfl
def spec_SuitCounts.f (k : Nat) (a : LI) : Option (LI) :=
 spec_SuitCounts.l3 k a (fun x2 =>
  some x2) k 0 [0, 0, 0, 0]

def spec_MostOf.s3 {R : Type} (k : Nat) (v0 : LI) (e0 : Int → Option R) (rec : Int → Int → Option R) (v1 v2 : Int) : Option R :=
 bif decide (v2 < (v0.length : Int)) then
  bif decide (v1 < 0) then
   rec v2 (IntKind.wrap .i64 (v2 + 1))
  else
   chk ((decide (0 ≤ v2)) && (decide (v2 < (v0.length : Int)))) <|
   chk ((decide (0 ≤ v1)) && (decide (v1 < (v0.length : Int)))) <|
   bif decide ((v0.getD v2.toNat 0) > (v0.getD v1.toNat 0)) then
    rec v2 (IntKind.wrap .i64 (v2 + 1))
   else
    rec v1 (IntKind.wrap .i64 (v2 + 1))
 else
  e0 v1
def spec_MostOf.l3 {R : Type} (k : Nat) (v0 : LI) (e0 : Int → Option R) (n : Nat) (v1 v2 : Int) : Option R :=
 V.iter (A := Int × Int) (fun rec a => spec_MostOf.s3 k v0 e0 (fun c0 c1 => rec (c0, c1)) a.1 a.2) n (v1, v2)
theorem spec_MostOf.l3_succ {R : Type} (k : Nat) (v0 : LI) (e0 : Int → Option R) (n : Nat) (v1 v2 : Int) : spec_MostOf.l3 (R := R) k v0 e0 (n + 1) v1 v2 = spec_MostOf.s3 k v0 e0 (spec_MostOf.l3 k v0 e0 n) v1 v2 := rfl
def spec_MostOf.f (k : Nat) (a : LI) : Option (Int) :=
 spec_MostOf.l3 k a (fun x1 =>
  some x1) k (-1) 0

def spec_ChoiceOf.s13 {R : Type} (k : Nat) (v1 v2 : LI) (e0 : LI → Option R) (rec : Int → LI → Option R) (v0 : Int) (v3 : LI) : Option R :=
 bif decide (v0 < (v1.length : Int)) then
  chk ((decide (0 ≤ v0)) && (decide (v0 < (v1.length : Int)))) <|
  (spec_SuitOf.f k (v1.getD v0.toNat 0)).bind fun r3 =>
  chk ((decide (0 ≤ r3)) && (decide (r3 < (v2.length : Int)))) <|
  chk (decide ((v3.length + 1) * 8 ≤ room)) <|
  rec (IntKind.wrap .i64 (v0 + 1)) (v3 ++ [v2.getD r3.toNat 0])
 else
  e0 v3
def spec_ChoiceOf.l13 {R : Type} (k : Nat) (v1 v2 : LI) (e0 : LI → Option R) (n : Nat) (v0 : Int) (v3 : LI) : Option R :=
 V.iter (A := Int × LI) (fun rec a => spec_ChoiceOf.s13 k v1 v2 e0 (fun c0 c1 => rec (c0, c1)) a.1 a.2) n (v0, v3)
theorem spec_ChoiceOf.l13_succ {R : Type} (k : Nat) (v1 v2 : LI) (e0 : LI → Option R) (n : Nat) (v0 : Int) (v3 : LI) : spec_ChoiceOf.l13 (R := R) k v1 v2 e0 (n + 1) v0 v3 = spec_ChoiceOf.s13 k v1 v2 e0 (spec_ChoiceOf.l13 k v1 v2 e0 n) v0 v3 := rfl
def spec_ChoiceOf.f (k : Nat) (a0 a1 : Int) (a2 a3 : Bool) (a4 a5 : LI) (a6 a7 : Int) (a8 : LL) (a9 a10 : LI) (a11 a12 a13 g : Int) : Option (Int) :=
 (spec_Playable.f k a0 a1 a2 a3 a4 a5 a6 a7 a8 a9 a10 a11 a12 a13).bind fun r1 =>
 bif ((r1.length : Int) == 0) then
  some (-1)
 else
  bif (g == 0) then
   chk (decide (0 < (r1.length : Int))) <|
   some (r1.getD 0 0)
  else
   bif (g == 1) then
    chk ((decide (0 ≤ (IntKind.wrap .i64 ((r1.length : Int) - 1)))) && (decide ((IntKind.wrap .i64 ((r1.length : Int) - 1)) < (r1.length : Int)))) <|
    some (r1.getD ((IntKind.wrap .i64 ((r1.length : Int) - 1)).toNat) 0)
   else
    bif (g == 2) then
     chk ((decide (0 ≤ a11)) && (decide (a11 < (a8.length : Int)))) <|
     (spec_SuitCounts.f k (a8.getD a11.toNat [])).bind fun r2 =>
     spec_ChoiceOf.l13 k r1 r2 (fun x4 =>
      (spec_MostOf.f k x4).bind fun r5 =>
      chk ((decide (0 ≤ r5)) && (decide (r5 < (r1.length : Int)))) <|
      some (r1.getD r5.toNat 0)) k 0 []
    else
     some (-1)

def spec_AutoMove.f (k : Nat) (a0 a1 : Int) (a2 a3 : Bool) (a4 a5 : LI) (a6 a7 : Int) (a8 : LL) (a9 a10 : LI) (a11 a12 a13 g : Int) : Option (Int × Int × Bool × Bool × LI × LI × Int × Int × LL × LI × LI × Int × Int × Int × Bool) :=
 (spec_ChoiceOf.f k a0 a1 a2 a3 a4 a5 a6 a7 a8 a9 a10 a11 a12 a13 g).bind fun r1 =>
 bif decide (r1 < 0) then
  (spec_TakeCards.f k a0 a1 a2 a3 a4 a5 a6 a7 a8 a9 a10 a11 a12 a13).bind fun r2 =>
  some (r2.1, r2.2.1, (t2 r2).1, (t3 r2).1, (t4 r2).1, (t5 r2).1, (t6 r2).1, (t7 r2).1, (t8 r2).1, (t9 r2).1, (t9 r2.2).1, (t9 (t2 r2)).1, (t9 (t3 r2)).1, (t9 (t4 r2)).1, (t9 (t5 r2)))
 else
  (spec_PlayOn.f k a0 a1 a2 a3 a4 a5 a6 a7 a8 a9 a10 a11 a12 a13 r1).bind fun r3 =>
  some (r3.1, r3.2.1, (t2 r3).1, (t3 r3).1, (t4 r3).1, (t5 r3).1, (t6 r3).1, (t7 r3).1, (t8 r3).1, (t9 r3).1, (t9 r3.2).1, (t9 (t2 r3)).1, (t9 (t3 r3)).1, (t9 (t4 r3)).1, (t9 (t5 r3)))

def spec_RecordOut.s2 {R : Type} (k : Nat) (v0 : LI) (e0 : LI → Option R) (rec : Int → Int → Bool → Bool → LI → LI → Int → Int → LL → LI → LI → Int → Int → Int → LI → Option R) (v1 v2 : Int) (v3 v4 : Bool) (v5 v6 : LI) (v7 v8 : Int) (v9 : LL) (v10 v11 : LI) (v12 v13 v14 : Int) (v15 : LI) : Option R :=
 (spec_IsGame.f k v1 v2 v3 v4 v5 v6 v7 v8 v9 v10 v11 v12 v13 v14).bind fun r1 =>
 bif r1 then
  (spec_l24Over.f k v1 v2 v3 v4 v5 v6 v7 v8 v9 v10 v11 v12 v13 v14).bind fun r2 =>
  bif (!r2) then
   bif decide (v12 < (v0.length : Int)) then
    chk ((decide (0 ≤ v12)) && (decide (v12 < (v0.length : Int)))) <|
    (spec_ChoiceOf.f k v1 v2 v3 v4 v5 v6 v7 v8 v9 v10 v11 v12 v13 v14 (v0.getD v12.toNat 0)).bind fun r3 =>
    chk (decide ((v15.length + 1) * 8 ≤ room)) <|
    (spec_AutoMove.f k v1 v2 v3 v4 v5 v6 v7 v8 v9 v10 v11 v12 v13 v14 (v0.getD v12.toNat 0)).bind fun r4 =>
    rec r4.1 r4.2.1 (t2 r4).1 (t3 r4).1 (t4 r4).1 (t5 r4).1 (t6 r4).1 (t7 r4).1 (t8 r4).1 (t9 r4).1 (t9 r4.2).1 (t9 (t2 r4)).1 (t9 (t3 r4)).1 (t9 (t4 r4)).1 (v15 ++ [r3])
   else
    (spec_ChoiceOf.f k v1 v2 v3 v4 v5 v6 v7 v8 v9 v10 v11 v12 v13 v14 3).bind fun r5 =>
    chk (decide ((v15.length + 1) * 8 ≤ room)) <|
    (spec_AutoMove.f k v1 v2 v3 v4 v5 v6 v7 v8 v9 v10 v11 v12 v13 v14 3).bind fun r6 =>
    rec r6.1 r6.2.1 (t2 r6).1 (t3 r6).1 (t4 r6).1 (t5 r6).1 (t6 r6).1 (t7 r6).1 (t8 r6).1 (t9 r6).1 (t9 r6.2).1 (t9 (t2 r6)).1 (t9 (t3 r6)).1 (t9 (t4 r6)).1 (v15 ++ [r5])
  else
   e0 v15
 else
  e0 v15
def spec_RecordOut.l2 {R : Type} (k : Nat) (v0 : LI) (e0 : LI → Option R) (n : Nat) (v1 v2 : Int) (v3 v4 : Bool) (v5 v6 : LI) (v7 v8 : Int) (v9 : LL) (v10 v11 : LI) (v12 v13 v14 : Int) (v15 : LI) : Option R :=
 V.iter (A := Int × Int × Bool × Bool × LI × LI × Int × Int × LL × LI × LI × Int × Int × Int × LI) (fun rec a => spec_RecordOut.s2 k v0 e0 (fun c0 c1 c2 c3 c4 c5 c6 c7 c8 c9 c10 c11 c12 c13 c14 => rec (c0, c1, c2, c3, c4, c5, c6, c7, c8, c9, c10, c11, c12, c13, c14)) a.1 a.2.1 (t2 a).1 (t3 a).1 (t4 a).1 (t5 a).1 (t6 a).1 (t7 a).1 (t8 a).1 (t9 a).1 (t9 a.2).1 (t9 (t2 a)).1 (t9 (t3 a)).1 (t9 (t4 a)).1 (t9 (t5 a))) n (v1, v2, v3, v4, v5, v6, v7, v8, v9, v10, v11, v12, v13, v14, v15)
theorem spec_RecordOut.l2_succ {R : Type} (k : Nat) (v0 : LI) (e0 : LI → Option R) (n : Nat) (v1 v2 : Int) (v3 v4 : Bool) (v5 v6 : LI) (v7 v8 : Int) (v9 : LL) (v10 v11 : LI) (v12 v13 v14 : Int) (v15 : LI) : spec_RecordOut.l2 (R := R) k v0 e0 (n + 1) v1 v2 v3 v4 v5 v6 v7 v8 v9 v10 v11 v12 v13 v14 v15 = spec_RecordOut.s2 k v0 e0 (spec_RecordOut.l2 k v0 e0 n) v1 v2 v3 v4 v5 v6 v7 v8 v9 v10 v11 v12 v13 v14 v15 := rfl
def spec_RecordOut.f (k : Nat) (a0 a1 : Int) (a2 a3 : Bool) (a4 a5 : LI) (a6 a7 : Int) (a8 : LL) (a9 a10 : LI) (a11 a12 a13 : Int) (g : LI) : Option (LI) :=
 spec_RecordOut.l2 k g (fun x7 =>
  some x7) k a0 a1 a2 a3 a4 a5 a6 a7 a8 a9 a10 a11 a12 a13 []

def spec_DrawReplayed.f (k : Nat) (a : LI) : Option (Int × Int × Bool × Bool × LI × LI × Int × Int × LL × LI × LI × Int × Int × Int × LI) :=
 (spec_l1New.f k a).bind fun r1 =>
 (spec_l24Start.f k r1.1 r1.2.1 (t2 r1)).bind fun r2 =>
 (spec_l26Kinds.f k (t9 (t5 r2)).1 (t9 (t6 r2)).1 (t9 (t7 r2))).bind fun r3 =>
 (spec_RecordOut.f k r2.1 r2.2.1 (t2 r2).1 (t3 r2).1 (t4 r2).1 (t5 r2).1 (t6 r2).1 (t7 r2).1 (t8 r2).1 (t9 r2).1 (t9 r2.2).1 (t9 (t2 r2)).1 (t9 (t3 r2)).1 (t9 (t4 r2)).1 r3.1).bind fun r4 =>
 bif decide ((r4.length : Int) > 0) then
  (spec_l1Once.f k r3.2.1 (t2 r3).1 (t3 r3) 3).bind fun r5 =>
  bif r5.1 then
   (spec_l1Below.f k r5.2.1 (t2 r5).1 (t3 r5) (r4.length : Int)).bind fun r6 =>
   (spec_l4Card.f k r6.2.1 (t2 r6).1 (t3 r6)).bind fun r7 =>
   chk ((decide (0 ≤ r6.1)) && (decide (r6.1 < (r4.length : Int)))) <|
   some (r2.1, r2.2.1, (t2 r2).1, (t3 r2).1, (t4 r2).1, (t5 r2).1, (t6 r2).1, (t7 r2).1, (t8 r2).1, (t9 r2).1, (t9 r2.2).1, (t9 (t2 r2)).1, (t9 (t3 r2)).1, (t9 (t4 r2)).1, r4.set r6.1.toNat r7.1)
  else
   some (r2.1, r2.2.1, (t2 r2).1, (t3 r2).1, (t4 r2).1, (t5 r2).1, (t6 r2).1, (t7 r2).1, (t8 r2).1, (t9 r2).1, (t9 r2.2).1, (t9 (t2 r2)).1, (t9 (t3 r2)).1, (t9 (t4 r2)).1, r4)
 else
  some (r2.1, r2.2.1, (t2 r2).1, (t3 r2).1, (t4 r2).1, (t5 r2).1, (t6 r2).1, (t7 r2).1, (t8 r2).1, (t9 r2).1, (t9 r2.2).1, (t9 (t2 r2)).1, (t9 (t3 r2)).1, (t9 (t4 r2)).1, r4)

def spec_CardText.f (k : Nat) (a : Int) : Option (ByteArray) :=
 (spec_IsCard.f k a).bind fun r1 =>
 bif (!r1) then
  some ByteArray.empty
 else
  (spec_RankOf.f k a).bind fun r2 =>
  (spec_SuitOf.f k a).bind fun r3 =>
  chk ((decide (0 ≤ (IntKind.wrap .i64 (r2 + 1)))) && (decide ((IntKind.wrap .i64 (r2 + 1)) ≤ 13))) <|
  chk ((decide (0 ≤ r2)) && (decide (r2 ≤ (IntKind.wrap .i64 (r2 + 1))))) <|
  chk ((decide (0 ≤ (IntKind.wrap .i64 (r3 + 1)))) && (decide ((IntKind.wrap .i64 (r3 + 1)) ≤ 4))) <|
  chk ((decide (0 ≤ r3)) && (decide (r3 ≤ (IntKind.wrap .i64 (r3 + 1))))) <|
  chk (decide (((⟨#[50, 51, 52, 53, 54, 55, 56, 57, 84, 74, 81, 75, 65]⟩ : ByteArray).extract r2.toNat ((IntKind.wrap .i64 (r2 + 1)).toNat)).size + ((⟨#[99, 100, 104, 115]⟩ : ByteArray).extract r3.toNat ((IntKind.wrap .i64 (r3 + 1)).toNat)).size ≤ maxI)) <|
  some (((⟨#[50, 51, 52, 53, 54, 55, 56, 57, 84, 74, 81, 75, 65]⟩ : ByteArray).extract r2.toNat ((IntKind.wrap .i64 (r2 + 1)).toNat)) ++ ((⟨#[99, 100, 104, 115]⟩ : ByteArray).extract r3.toNat ((IntKind.wrap .i64 (r3 + 1)).toNat)))

def spec_RecordText.s3 {R : Type} (k : Nat) (v0 : LI) (e0 : ByteArray → Option R) (rec : ByteArray → Int → Option R) (v1 : ByteArray) (v2 : Int) : Option R :=
 bif decide (v2 < (v0.length : Int)) then
  chk ((decide (0 ≤ v2)) && (decide (v2 < (v0.length : Int)))) <|
  bif ((v0.getD v2.toNat 0) == (-1)) then
   chk (decide (v1.size + (⟨#[42]⟩ : ByteArray).size ≤ maxI)) <|
   rec (v1 ++ (⟨#[42]⟩ : ByteArray)) (IntKind.wrap .i64 (v2 + 1))
  else
   chk ((decide (0 ≤ v2)) && (decide (v2 < (v0.length : Int)))) <|
   (spec_IsCard.f k (v0.getD v2.toNat 0)).bind fun r1 =>
   bif r1 then
    chk ((decide (0 ≤ v2)) && (decide (v2 < (v0.length : Int)))) <|
    (spec_CardText.f k (v0.getD v2.toNat 0)).bind fun r2 =>
    chk (decide (v1.size + r2.size ≤ maxI)) <|
    rec (v1 ++ r2) (IntKind.wrap .i64 (v2 + 1))
   else
    chk (decide (v1.size + (⟨#[63]⟩ : ByteArray).size ≤ maxI)) <|
    rec (v1 ++ (⟨#[63]⟩ : ByteArray)) (IntKind.wrap .i64 (v2 + 1))
 else
  e0 v1
def spec_RecordText.l3 {R : Type} (k : Nat) (v0 : LI) (e0 : ByteArray → Option R) (n : Nat) (v1 : ByteArray) (v2 : Int) : Option R :=
 V.iter (A := ByteArray × Int) (fun rec a => spec_RecordText.s3 k v0 e0 (fun c0 c1 => rec (c0, c1)) a.1 a.2) n (v1, v2)
theorem spec_RecordText.l3_succ {R : Type} (k : Nat) (v0 : LI) (e0 : ByteArray → Option R) (n : Nat) (v1 : ByteArray) (v2 : Int) : spec_RecordText.l3 (R := R) k v0 e0 (n + 1) v1 v2 = spec_RecordText.s3 k v0 e0 (spec_RecordText.l3 k v0 e0 n) v1 v2 := rfl
def spec_RecordText.f (k : Nat) (a : LI) : Option (ByteArray) :=
 spec_RecordText.l3 k a (fun x3 =>
  bif ((a.length : Int) == 0) then
   some (⟨#[45]⟩ : ByteArray)
  else
   some x3) k ByteArray.empty 0

def spec_l1Str.f (k : Nat) (a0 : LI) (a1 a2 : Int) (g : List ByteArray) : Option (ByteArray × LI × Int × Int) :=
 (spec_l1Below.f k a0 a1 a2 (g.length : Int)).bind fun r1 =>
 chk ((decide (0 ≤ r1.1)) && (decide (r1.1 < (g.length : Int)))) <|
 some (g.getD r1.1.toNat ByteArray.empty, r1.2.1, (t2 r1).1, (t3 r1))

def spec_DrawParseRecord.s4 {R : Type} (k : Nat) (e0 : LI → Int → Int → LI → Option R) (rec : Int → LI → Int → Int → LI → Option R) (v0 : Int) (v1 : LI) (v2 v3 : Int) (v4 : LI) : Option R :=
 bif decide (v0 > 0) then
  (spec_l1Below.f k v1 v2 v3 52).bind fun r3 =>
  (spec_l1Below.f k r3.2.1 (t2 r3).1 (t3 r3) 52).bind fun r4 =>
  (spec_l1Int.f k r4.2.1 (t2 r4).1 (t3 r4) [(-1), r3.1, r4.1, 52]).bind fun r5 =>
  chk (decide ((v4.length + 1) * 8 ≤ room)) <|
  rec (IntKind.wrap .i64 (v0 - 1)) r5.2.1 (t2 r5).1 (t3 r5) (v4 ++ [r5.1])
 else
  e0 v1 v2 v3 v4
def spec_DrawParseRecord.l4 {R : Type} (k : Nat) (e0 : LI → Int → Int → LI → Option R) (n : Nat) (v0 : Int) (v1 : LI) (v2 v3 : Int) (v4 : LI) : Option R :=
 V.iter (A := Int × LI × Int × Int × LI) (fun rec a => spec_DrawParseRecord.s4 k e0 (fun c0 c1 c2 c3 c4 => rec (c0, c1, c2, c3, c4)) a.1 a.2.1 (t2 a).1 (t3 a).1 (t4 a)) n (v0, v1, v2, v3, v4)
theorem spec_DrawParseRecord.l4_succ {R : Type} (k : Nat) (e0 : LI → Int → Int → LI → Option R) (n : Nat) (v0 : Int) (v1 : LI) (v2 v3 : Int) (v4 : LI) : spec_DrawParseRecord.l4 (R := R) k e0 (n + 1) v0 v1 v2 v3 v4 = spec_DrawParseRecord.s4 k e0 (spec_DrawParseRecord.l4 k e0 n) v0 v1 v2 v3 v4 := rfl
def spec_DrawParseRecord.f (k : Nat) (a : LI) : Option (ByteArray) :=
 (spec_l1New.f k a).bind fun r1 =>
 (spec_l1Below.f k r1.1 r1.2.1 (t2 r1) 6).bind fun r2 =>
 spec_DrawParseRecord.l4 k (fun x6 x7 x8 x9 =>
  (spec_RecordText.f k x9).bind fun r10 =>
  (spec_l1Str.f k x6 x7 x8 ([r10, r10, r10, ByteArray.empty, (⟨#[45]⟩ : ByteArray), (⟨#[42]⟩ : ByteArray), (⟨#[42, 42, 65, 99, 42]⟩ : ByteArray), (⟨#[65]⟩ : ByteArray), (⟨#[65, 99, 42, 75]⟩ : ByteArray), (⟨#[45, 45]⟩ : ByteArray), (⟨#[42, 45]⟩ : ByteArray)])).bind fun r11 =>
  some r11.1) k r2.1 r2.2.1 (t2 r2).1 (t3 r2) []

def laws_FnRecords.f (k : Nat) (a : LI) : Option (Bool) :=
 (laws_big.f k a).bind fun r1 =>
 bif r1 then
  some true
 else
  (spec_DrawRecordOut.f k a).bind fun r2 =>
  (impl_RecordOut.f k r2.1 r2.2.1 (t2 r2).1 (t3 r2).1 (t4 r2).1 (t5 r2).1 (t6 r2).1 (t7 r2).1 (t8 r2).1 (t9 r2).1 (t9 r2.2).1 (t9 (t2 r2)).1 (t9 (t3 r2)).1 (t9 (t4 r2)).1 (t9 (t5 r2))).bind fun r3 =>
  (impl_Replayed.f k r2.1 r2.2.1 (t2 r2).1 (t3 r2).1 (t4 r2).1 (t5 r2).1 (t6 r2).1 (t7 r2).1 (t8 r2).1 (t9 r2).1 (t9 r2.2).1 (t9 (t2 r2)).1 (t9 (t3 r2)).1 (t9 (t4 r2)).1 r3).bind fun r4 =>
  bif ((t9 (t5 r4)) != (r3.length : Int)) then
   some false
  else
   (impl_PlayOut.f k r2.1 r2.2.1 (t2 r2).1 (t3 r2).1 (t4 r2).1 (t5 r2).1 (t6 r2).1 (t7 r2).1 (t8 r2).1 (t9 r2).1 (t9 r2.2).1 (t9 (t2 r2)).1 (t9 (t3 r2)).1 (t9 (t4 r2)).1 (t9 (t5 r2))).bind fun r5 =>
   (impl_EqualGames.f k r4.1 r4.2.1 (t2 r4).1 (t3 r4).1 (t4 r4).1 (t5 r4).1 (t6 r4).1 (t7 r4).1 (t8 r4).1 (t9 r4).1 (t9 r4.2).1 (t9 (t2 r4)).1 (t9 (t3 r4)).1 (t9 (t4 r4)).1 r5.1 r5.2.1 (t2 r5).1 (t3 r5).1 (t4 r5).1 (t5 r5).1 (t6 r5).1 (t7 r5).1 (t8 r5).1 (t9 r5).1 (t9 r5.2).1 (t9 (t2 r5)).1 (t9 (t3 r5)).1 (t9 (t4 r5))).bind fun r6 =>
   bif (!r6) then
    some false
   else
    (impl_RecordText.f k r3).bind fun r7 =>
    (impl_ParseRecord.f k r7).bind fun r8 =>
    bif (!r8.2) then
     some false
    else
     (laws_sameInts.f k r8.1 r3).bind fun r9 =>
     bif (!r9) then
      some false
     else
      (spec_DrawReplayed.f k a).bind fun r10 =>
      (impl_Replayed.f k r10.1 r10.2.1 (t2 r10).1 (t3 r10).1 (t4 r10).1 (t5 r10).1 (t6 r10).1 (t7 r10).1 (t8 r10).1 (t9 r10).1 (t9 r10.2).1 (t9 (t2 r10)).1 (t9 (t3 r10)).1 (t9 (t4 r10)).1 (t9 (t5 r10))).bind fun r11 =>
      (spec_DrawParseRecord.f k a).bind fun r12 =>
      (impl_ParseRecord.f k r12).bind fun r13 =>
      bif decide ((t9 (t5 r11)) ≥ 0) then
       bif decide ((t9 (t5 r11)) ≤ ((t9 (t5 r10)).length : Int)) then
        (impl_IsGame.f k r10.1 r10.2.1 (t2 r10).1 (t3 r10).1 (t4 r10).1 (t5 r10).1 (t6 r10).1 (t7 r10).1 (t8 r10).1 (t9 r10).1 (t9 r10.2).1 (t9 (t2 r10)).1 (t9 (t3 r10)).1 (t9 (t4 r10)).1).bind fun r14 =>
        bif (!r14) then
         bif (!r13.2) then
          some true
         else
          (impl_RecordText.f k r13.1).bind fun r15 =>
          some (r15.toList == r12.toList)
        else
         (impl_IsGame.f k r11.1 r11.2.1 (t2 r11).1 (t3 r11).1 (t4 r11).1 (t5 r11).1 (t6 r11).1 (t7 r11).1 (t8 r11).1 (t9 r11).1 (t9 r11.2).1 (t9 (t2 r11)).1 (t9 (t3 r11)).1 (t9 (t4 r11)).1).bind fun r16 =>
         bif r16 then
          bif ((t9 (t3 r11)).1 == (IntKind.wrap .i64 ((t9 (t3 r10)).1 + (t9 (t5 r11))))) then
           bif (!r13.2) then
            some true
           else
            (impl_RecordText.f k r13.1).bind fun r17 =>
            some (r17.toList == r12.toList)
          else
           some false
         else
          some false
       else
        some false
      else
       some false
end Go.Proofs.YtfbafmeeejmgoaaGreat
