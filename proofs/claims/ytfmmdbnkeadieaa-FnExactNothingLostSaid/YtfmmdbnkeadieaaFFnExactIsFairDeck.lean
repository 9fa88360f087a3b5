/- Plain Lean functions, printed by a program out of the Go functions' translation: what each computes, without program and memory. -/
import Derived.Test.YtfmmdbnkeadieaaFFnExactRecordOut
import Derived.Test.YtfmmdbnkeadieaaFFnExactNothingLost
set_option linter.unusedVariables false
namespace Go.Proofs.Ytfmmdbnkeadieaa
open Go Go.Proofs.Ytfmmdbnkeadieaa.V

def spec_Mod.f (k : Nat) (a g : Int) : Option (Int) :=
 (spec_l1In.f k g 1 1000000000000).bind fun r1 =>
 bif (!r1) then
  some 0
 else
  chk (!(decide (g = 0))) <|
  chk (!(decide (g = 0))) <|
  some ((IntKind.wrap .i64 ((a.tmod g) + g)).tmod g)

def spec_Hash.s3 {R : Type} (k : Nat) (v0 : LI) (e0 : Int → Option R) (rec : Int → Int → Option R) (v1 v2 : Int) : Option R :=
 bif decide (v2 < (v0.length : Int)) then
  chk ((decide (0 ≤ v2)) && (decide (v2 < (v0.length : Int)))) <|
  (spec_Mod.f k (v0.getD v2.toNat 0) 2147483647).bind fun r1 =>
  rec ((IntKind.wrap .i64 ((IntKind.wrap .i64 ((IntKind.wrap .i64 (v1 * 1000003)) + r1)) + 13)).tmod 2147483647) (IntKind.wrap .i64 (v2 + 1))
 else
  e0 v1
def spec_Hash.l3 {R : Type} (k : Nat) (v0 : LI) (e0 : Int → Option R) (n : Nat) (v1 v2 : Int) : Option R :=
 V.iter (A := Int × Int) (fun rec a => spec_Hash.s3 k v0 e0 (fun c0 c1 => rec (c0, c1)) a.1 a.2) n (v1, v2)
theorem spec_Hash.l3_succ {R : Type} (k : Nat) (v0 : LI) (e0 : Int → Option R) (n : Nat) (v1 v2 : Int) : spec_Hash.l3 (R := R) k v0 e0 (n + 1) v1 v2 = spec_Hash.s3 k v0 e0 (spec_Hash.l3 k v0 e0 n) v1 v2 := rfl
def spec_Hash.f (k : Nat) (a : LI) : Option (Int) :=
 spec_Hash.l3 k a (fun x2 =>
  some x2) k 11 0

def spec_SeedSeal.f (k : Nat) (a g i : Int) : Option (Int) :=
 (spec_Hash.f k [a, g, i]).bind fun r1 =>
 some r1

def spec_IsOpened.f (k : Nat) (a g i j : Int) : Option (Bool) :=
 (spec_l1In.f k g 0 1000000).bind fun r1 =>
 bif r1 then
  (spec_l1In.f k i 0 1000000).bind fun r2 =>
  bif r2 then
   (spec_SeedSeal.f k a g i).bind fun r3 =>
   some (r3 == j)
  else
   some false
 else
  some false

def spec_AreOpened.s4 {R : Type} (k : Nat) (v0 v1 v2 : LI) (e0 e1 : Option R) (rec : Int → Option R) (v3 : Int) : Option R :=
 bif decide (v3 < (v0.length : Int)) then
  chk ((decide (0 ≤ v3)) && (decide (v3 < (v1.length : Int)))) <|
  chk ((decide (0 ≤ v3)) && (decide (v3 < (v2.length : Int)))) <|
  chk ((decide (0 ≤ v3)) && (decide (v3 < (v0.length : Int)))) <|
  (spec_IsOpened.f k v3 (v1.getD v3.toNat 0) (v2.getD v3.toNat 0) (v0.getD v3.toNat 0)).bind fun r2 =>
  bif (!r2) then
   e0
  else
   rec (IntKind.wrap .i64 (v3 + 1))
 else
  e1
def spec_AreOpened.l4 {R : Type} (k : Nat) (v0 v1 v2 : LI) (e0 e1 : Option R) (n : Nat) (v3 : Int) : Option R :=
 V.iter (A := Int) (fun rec a => spec_AreOpened.s4 k v0 v1 v2 e0 e1 (fun c0 => rec c0) a) n v3
theorem spec_AreOpened.l4_succ {R : Type} (k : Nat) (v0 v1 v2 : LI) (e0 e1 : Option R) (n : Nat) (v3 : Int) : spec_AreOpened.l4 (R := R) k v0 v1 v2 e0 e1 (n + 1) v3 = spec_AreOpened.s4 k v0 v1 v2 e0 e1 (spec_AreOpened.l4 k v0 v1 v2 e0 e1 n) v3 := rfl
def spec_AreOpened.f (k : Nat) (a g i : LI) : Option (Bool) :=
 (spec_l1In.f k (a.length : Int) 1 6).bind fun r1 =>
 bif (!r1) then
  some false
 else
  bif ((g.length : Int) != (a.length : Int)) then
   some false
  else
   bif ((i.length : Int) != (a.length : Int)) then
    some false
   else
    spec_AreOpened.l4 k a g i (some false) (some true) k 0

def spec_Shuffled.s3 {R : Type} (k : Nat) (v0 : Int) (e0 : LI → Option R) (rec : Int → LI → Option R) (v1 : Int) (v2 : LI) : Option R :=
 bif decide (v1 > 0) then
  (spec_Hash.f k [v0, v1]).bind fun r1 =>
  (spec_Mod.f k r1 (IntKind.wrap .i64 (v1 + 1))).bind fun r2 =>
  chk ((decide (0 ≤ v1)) && (decide (v1 < (v2.length : Int)))) <|
  chk ((decide (0 ≤ r2)) && (decide (r2 < (v2.length : Int)))) <|
  chk ((decide (0 ≤ v1)) && (decide (v1 < (v2.length : Int)))) <|
  chk ((decide (0 ≤ r2)) && (decide (r2 < ((v2.set v1.toNat (v2.getD r2.toNat 0)).length : Int)))) <|
  rec (IntKind.wrap .i64 (v1 - 1)) ((v2.set v1.toNat (v2.getD r2.toNat 0)).set r2.toNat (v2.getD v1.toNat 0))
 else
  e0 v2
def spec_Shuffled.l3 {R : Type} (k : Nat) (v0 : Int) (e0 : LI → Option R) (n : Nat) (v1 : Int) (v2 : LI) : Option R :=
 V.iter (A := Int × LI) (fun rec a => spec_Shuffled.s3 k v0 e0 (fun c0 c1 => rec (c0, c1)) a.1 a.2) n (v1, v2)
theorem spec_Shuffled.l3_succ {R : Type} (k : Nat) (v0 : Int) (e0 : LI → Option R) (n : Nat) (v1 : Int) (v2 : LI) : spec_Shuffled.l3 (R := R) k v0 e0 (n + 1) v1 v2 = spec_Shuffled.s3 k v0 e0 (spec_Shuffled.l3 k v0 e0 n) v1 v2 := rfl
def spec_Shuffled.f (k : Nat) (a : LI) (g : Int) : Option (LI) :=
 chk (decide ((0 + a.length) * 8 ≤ room)) <|
 spec_Shuffled.l3 k g (fun x3 =>
  some x3) k (IntKind.wrap .i64 ((([] ++ a).length : Int) - 1)) ([] ++ a)

def spec_Missing.s3 {R : Type} (k : Nat) (v0 : LI) (e0 : LI → Option R) (rec : Int → LI → Option R) (v1 : Int) (v2 : LI) : Option R :=
 bif decide (v1 < 52) then
  (spec_HasCard.f k v0 v1).bind fun r1 =>
  bif (!r1) then
   chk (decide ((v2.length + 1) * 8 ≤ room)) <|
   rec (IntKind.wrap .i64 (v1 + 1)) (v2 ++ [v1])
  else
   rec (IntKind.wrap .i64 (v1 + 1)) v2
 else
  e0 v2
def spec_Missing.l3 {R : Type} (k : Nat) (v0 : LI) (e0 : LI → Option R) (n : Nat) (v1 : Int) (v2 : LI) : Option R :=
 V.iter (A := Int × LI) (fun rec a => spec_Missing.s3 k v0 e0 (fun c0 c1 => rec (c0, c1)) a.1 a.2) n (v1, v2)
theorem spec_Missing.l3_succ {R : Type} (k : Nat) (v0 : LI) (e0 : LI → Option R) (n : Nat) (v1 : Int) (v2 : LI) : spec_Missing.l3 (R := R) k v0 e0 (n + 1) v1 v2 = spec_Missing.s3 k v0 e0 (spec_Missing.l3 k v0 e0 n) v1 v2 := rfl
def spec_Missing.f (k : Nat) (a : LI) : Option (LI) :=
 spec_Missing.l3 k a (fun x2 =>
  some x2) k 0 []

def spec_FullDeck.f (k : Nat) : Option (LI) :=
 (spec_Missing.f k []).bind fun r1 =>
 some r1

def spec_JointSeed.s3 {R : Type} (k : Nat) (v0 : LI) (e0 : Int → Option R) (rec : Int → Int → Option R) (v1 v2 : Int) : Option R :=
 bif decide (v2 < (v0.length : Int)) then
  chk ((decide (0 ≤ v2)) && (decide (v2 < (v0.length : Int)))) <|
  (spec_Mod.f k (v0.getD v2.toNat 0) 1000001).bind fun r1 =>
  rec ((IntKind.wrap .i64 (v1 + r1)).tmod 1000001) (IntKind.wrap .i64 (v2 + 1))
 else
  e0 v1
def spec_JointSeed.l3 {R : Type} (k : Nat) (v0 : LI) (e0 : Int → Option R) (n : Nat) (v1 v2 : Int) : Option R :=
 V.iter (A := Int × Int) (fun rec a => spec_JointSeed.s3 k v0 e0 (fun c0 c1 => rec (c0, c1)) a.1 a.2) n (v1, v2)
theorem spec_JointSeed.l3_succ {R : Type} (k : Nat) (v0 : LI) (e0 : Int → Option R) (n : Nat) (v1 v2 : Int) : spec_JointSeed.l3 (R := R) k v0 e0 (n + 1) v1 v2 = spec_JointSeed.s3 k v0 e0 (spec_JointSeed.l3 k v0 e0 n) v1 v2 := rfl
def spec_JointSeed.f (k : Nat) (a : LI) : Option (Int) :=
 spec_JointSeed.l3 k a (fun x2 =>
  some x2) k 0 0

def spec_JointDeck.f (k : Nat) (a g i : LI) : Option (LI × Bool) :=
 (spec_AreOpened.f k a g i).bind fun r1 =>
 bif (!r1) then
  some ([], false)
 else
  (spec_FullDeck.f k).bind fun r2 =>
  (spec_JointSeed.f k g).bind fun r3 =>
  (spec_Shuffled.f k r2 r3).bind fun r4 =>
  some (r4, true)

def spec_EqualInts.s4 {R : Type} (k : Nat) (v0 v1 : LI) (e0 e1 : Option R) (rec : Int → Option R) (v2 : Int) : Option R :=
 bif decide (v2 < (v0.length : Int)) then
  chk ((decide (0 ≤ v2)) && (decide (v2 < (v0.length : Int)))) <|
  chk ((decide (0 ≤ v2)) && (decide (v2 < (v1.length : Int)))) <|
  bif ((v0.getD v2.toNat 0) != (v1.getD v2.toNat 0)) then
   e0
  else
   rec (IntKind.wrap .i64 (v2 + 1))
 else
  e1
def spec_EqualInts.l4 {R : Type} (k : Nat) (v0 v1 : LI) (e0 e1 : Option R) (n : Nat) (v2 : Int) : Option R :=
 V.iter (A := Int) (fun rec a => spec_EqualInts.s4 k v0 v1 e0 e1 (fun c0 => rec c0) a) n v2
theorem spec_EqualInts.l4_succ {R : Type} (k : Nat) (v0 v1 : LI) (e0 e1 : Option R) (n : Nat) (v2 : Int) : spec_EqualInts.l4 (R := R) k v0 v1 e0 e1 (n + 1) v2 = spec_EqualInts.s4 k v0 v1 e0 e1 (spec_EqualInts.l4 k v0 v1 e0 e1 n) v2 := rfl
def spec_EqualInts.f (k : Nat) (a g : LI) : Option (Bool) :=
 bif ((a.length : Int) != (g.length : Int)) then
  some false
 else
  spec_EqualInts.l4 k a g (some false) (some true) k 0

def spec_IsFairDeck.f (k : Nat) (a0 a1 : Int) (a2 a3 : Bool) (a4 a5 : LI) (a6 a7 : Int) (a8 : LI) (a9 : Bool) (a10 : LI) (a11 a12 : Int) (a13 a14 : Bool) (a15 a16 : LI) (a17 a18 : Int) (a19 : LL) (a20 a21 : LI) (a22 a23 a24 : Int) (a25 : LI) (a26 : LL) (g i : LI) : Option (Bool) :=
 (spec_JointDeck.f k a8 g i).bind fun r1 =>
 bif r1.2 then
  bif a9 then
   (spec_EqualInts.f k r1.1 a10).bind fun r2 =>
   some r2
  else
   some false
 else
  some false

def impl_Mod.f (k : Nat) (a g : Int) : Option (Int) :=
 (impl_InRange.f k g 1 1000000000000).bind fun r1 =>
 bif (!r1) then
  some 0
 else
  chk (!(decide (g = 0))) <|
  chk (!(decide (g = 0))) <|
  some ((IntKind.wrap .i64 ((a.tmod g) + g)).tmod g)

def impl_Hash.s3 {R : Type} (k : Nat) (v1 : LI) (v2 : Int) (e0 : Int → Option R) (rec : Int → Int → Option R) (v0 v3 : Int) : Option R :=
 bif decide (v3 < v2) then
  chk ((decide (0 ≤ v3)) && (decide (v3 < (v1.length : Int)))) <|
  (impl_Mod.f k (v1.getD v3.toNat 0) 2147483647).bind fun r1 =>
  rec ((IntKind.wrap .i64 ((IntKind.wrap .i64 ((IntKind.wrap .i64 (v0 * 1000003)) + r1)) + 13)).tmod 2147483647) (IntKind.wrap .i64 (v3 + 1))
 else
  e0 v0
def impl_Hash.l3 {R : Type} (k : Nat) (v1 : LI) (v2 : Int) (e0 : Int → Option R) (n : Nat) (v0 v3 : Int) : Option R :=
 V.iter (A := Int × Int) (fun rec a => impl_Hash.s3 k v1 v2 e0 (fun c0 c1 => rec (c0, c1)) a.1 a.2) n (v0, v3)
theorem impl_Hash.l3_succ {R : Type} (k : Nat) (v1 : LI) (v2 : Int) (e0 : Int → Option R) (n : Nat) (v0 v3 : Int) : impl_Hash.l3 (R := R) k v1 v2 e0 (n + 1) v0 v3 = impl_Hash.s3 k v1 v2 e0 (impl_Hash.l3 k v1 v2 e0 n) v0 v3 := rfl
def impl_Hash.f (k : Nat) (a : LI) : Option (Int) :=
 impl_Hash.l3 k a (a.length : Int) (fun x2 =>
  some x2) k 11 0

def impl_SeedSeal.f (k : Nat) (a g i : Int) : Option (Int) :=
 (impl_Hash.f k [a, g, i]).bind fun r1 =>
 some r1

def impl_IsOpened.f (k : Nat) (a g i j : Int) : Option (Bool) :=
 (impl_InRange.f k g 0 1000000).bind fun r1 =>
 bif r1 then
  (impl_InRange.f k i 0 1000000).bind fun r2 =>
  bif r2 then
   (impl_SeedSeal.f k a g i).bind fun r3 =>
   some (r3 == j)
  else
   some false
 else
  some false

def impl_AreOpened.s5 {R : Type} (k : Nat) (v0 v1 v2 : LI) (v3 : Int) (e0 e1 : Option R) (rec : Int → Option R) (v4 : Int) : Option R :=
 bif decide (v4 < v3) then
  chk ((decide (0 ≤ v4)) && (decide (v4 < (v1.length : Int)))) <|
  chk ((decide (0 ≤ v4)) && (decide (v4 < (v2.length : Int)))) <|
  chk ((decide (0 ≤ v4)) && (decide (v4 < (v0.length : Int)))) <|
  (impl_IsOpened.f k v4 (v1.getD v4.toNat 0) (v2.getD v4.toNat 0) (v0.getD v4.toNat 0)).bind fun r2 =>
  bif (!r2) then
   e0
  else
   rec (IntKind.wrap .i64 (v4 + 1))
 else
  e1
def impl_AreOpened.l5 {R : Type} (k : Nat) (v0 v1 v2 : LI) (v3 : Int) (e0 e1 : Option R) (n : Nat) (v4 : Int) : Option R :=
 V.iter (A := Int) (fun rec a => impl_AreOpened.s5 k v0 v1 v2 v3 e0 e1 (fun c0 => rec c0) a) n v4
theorem impl_AreOpened.l5_succ {R : Type} (k : Nat) (v0 v1 v2 : LI) (v3 : Int) (e0 e1 : Option R) (n : Nat) (v4 : Int) : impl_AreOpened.l5 (R := R) k v0 v1 v2 v3 e0 e1 (n + 1) v4 = impl_AreOpened.s5 k v0 v1 v2 v3 e0 e1 (impl_AreOpened.l5 k v0 v1 v2 v3 e0 e1 n) v4 := rfl
def impl_AreOpened.f (k : Nat) (a g i : LI) : Option (Bool) :=
 (impl_InRange.f k (a.length : Int) 1 6).bind fun r1 =>
 bif (!r1) then
  some false
 else
  bif ((g.length : Int) != (a.length : Int)) then
   some false
  else
   bif ((i.length : Int) != (a.length : Int)) then
    some false
   else
    impl_AreOpened.l5 k a g i (a.length : Int) (some false) (some true) k 0

def impl_Shuffled.s3 {R : Type} (k : Nat) (v0 : Int) (e0 : LI → Option R) (rec : Int → LI → Option R) (v1 : Int) (v2 : LI) : Option R :=
 bif decide (v1 ≥ 1) then
  (impl_Hash.f k [v0, v1]).bind fun r2 =>
  (impl_Mod.f k r2 (IntKind.wrap .i64 (v1 + 1))).bind fun r3 =>
  chk ((decide (0 ≤ r3)) && (decide (r3 < (v2.length : Int)))) <|
  chk ((decide (0 ≤ v1)) && (decide (v1 < (v2.length : Int)))) <|
  chk ((decide (0 ≤ v1)) && (decide (v1 < (v2.length : Int)))) <|
  chk ((decide (0 ≤ r3)) && (decide (r3 < ((v2.set v1.toNat (v2.getD r3.toNat 0)).length : Int)))) <|
  rec (IntKind.wrap .i64 (v1 - 1)) ((v2.set v1.toNat (v2.getD r3.toNat 0)).set r3.toNat (v2.getD v1.toNat 0))
 else
  e0 v2
def impl_Shuffled.l3 {R : Type} (k : Nat) (v0 : Int) (e0 : LI → Option R) (n : Nat) (v1 : Int) (v2 : LI) : Option R :=
 V.iter (A := Int × LI) (fun rec a => impl_Shuffled.s3 k v0 e0 (fun c0 c1 => rec (c0, c1)) a.1 a.2) n (v1, v2)
theorem impl_Shuffled.l3_succ {R : Type} (k : Nat) (v0 : Int) (e0 : LI → Option R) (n : Nat) (v1 : Int) (v2 : LI) : impl_Shuffled.l3 (R := R) k v0 e0 (n + 1) v1 v2 = impl_Shuffled.s3 k v0 e0 (impl_Shuffled.l3 k v0 e0 n) v1 v2 := rfl
def impl_Shuffled.f (k : Nat) (a : LI) (g : Int) : Option (LI) :=
 (impl_copyOf.f k a).bind fun r1 =>
 impl_Shuffled.l3 k g (fun x4 =>
  some x4) k (IntKind.wrap .i64 ((r1.length : Int) - 1)) r1

def impl_Missing.s3 {R : Type} (k : Nat) (v0 : LI) (e0 : LI → Option R) (rec : Int → LI → Option R) (v1 : Int) (v2 : LI) : Option R :=
 bif decide (v1 < 52) then
  (impl_HasCard.f k v0 v1).bind fun r1 =>
  bif (!r1) then
   chk (decide ((v2.length + 1) * 8 ≤ room)) <|
   rec (IntKind.wrap .i64 (v1 + 1)) (v2 ++ [v1])
  else
   rec (IntKind.wrap .i64 (v1 + 1)) v2
 else
  e0 v2
def impl_Missing.l3 {R : Type} (k : Nat) (v0 : LI) (e0 : LI → Option R) (n : Nat) (v1 : Int) (v2 : LI) : Option R :=
 V.iter (A := Int × LI) (fun rec a => impl_Missing.s3 k v0 e0 (fun c0 c1 => rec (c0, c1)) a.1 a.2) n (v1, v2)
theorem impl_Missing.l3_succ {R : Type} (k : Nat) (v0 : LI) (e0 : LI → Option R) (n : Nat) (v1 : Int) (v2 : LI) : impl_Missing.l3 (R := R) k v0 e0 (n + 1) v1 v2 = impl_Missing.s3 k v0 e0 (impl_Missing.l3 k v0 e0 n) v1 v2 := rfl
def impl_Missing.f (k : Nat) (a : LI) : Option (LI) :=
 impl_Missing.l3 k a (fun x2 =>
  some x2) k 0 []

def impl_FullDeck.f (k : Nat) : Option (LI) :=
 (impl_Missing.f k []).bind fun r1 =>
 some r1

def impl_JointSeed.s3 {R : Type} (k : Nat) (v1 : LI) (v2 : Int) (e0 : Int → Option R) (rec : Int → Int → Option R) (v0 v3 : Int) : Option R :=
 bif decide (v3 < v2) then
  chk ((decide (0 ≤ v3)) && (decide (v3 < (v1.length : Int)))) <|
  (impl_Mod.f k (v1.getD v3.toNat 0) 1000001).bind fun r1 =>
  rec ((IntKind.wrap .i64 (v0 + r1)).tmod 1000001) (IntKind.wrap .i64 (v3 + 1))
 else
  e0 v0
def impl_JointSeed.l3 {R : Type} (k : Nat) (v1 : LI) (v2 : Int) (e0 : Int → Option R) (n : Nat) (v0 v3 : Int) : Option R :=
 V.iter (A := Int × Int) (fun rec a => impl_JointSeed.s3 k v1 v2 e0 (fun c0 c1 => rec (c0, c1)) a.1 a.2) n (v0, v3)
theorem impl_JointSeed.l3_succ {R : Type} (k : Nat) (v1 : LI) (v2 : Int) (e0 : Int → Option R) (n : Nat) (v0 v3 : Int) : impl_JointSeed.l3 (R := R) k v1 v2 e0 (n + 1) v0 v3 = impl_JointSeed.s3 k v1 v2 e0 (impl_JointSeed.l3 k v1 v2 e0 n) v0 v3 := rfl
def impl_JointSeed.f (k : Nat) (a : LI) : Option (Int) :=
 impl_JointSeed.l3 k a (a.length : Int) (fun x2 =>
  some x2) k 0 0

def impl_JointDeck.f (k : Nat) (a g i : LI) : Option (LI × Bool) :=
 (impl_AreOpened.f k a g i).bind fun r1 =>
 bif (!r1) then
  some ([], false)
 else
  (impl_FullDeck.f k).bind fun r2 =>
  (impl_JointSeed.f k g).bind fun r3 =>
  (impl_Shuffled.f k r2 r3).bind fun r4 =>
  some (r4, true)

def impl_EqualInts.s4 {R : Type} (k : Nat) (v0 v1 : LI) (v2 : Int) (e0 e1 : Option R) (rec : Int → Option R) (v3 : Int) : Option R :=
 bif decide (v3 < v2) then
  chk ((decide (0 ≤ v3)) && (decide (v3 < (v0.length : Int)))) <|
  chk ((decide (0 ≤ v3)) && (decide (v3 < (v1.length : Int)))) <|
  bif ((v0.getD v3.toNat 0) != (v1.getD v3.toNat 0)) then
   e0
  else
   rec (IntKind.wrap .i64 (v3 + 1))
 else
  e1
def impl_EqualInts.l4 {R : Type} (k : Nat) (v0 v1 : LI) (v2 : Int) (e0 e1 : Option R) (n : Nat) (v3 : Int) : Option R :=
 V.iter (A := Int) (fun rec a => impl_EqualInts.s4 k v0 v1 v2 e0 e1 (fun c0 => rec c0) a) n v3
theorem impl_EqualInts.l4_succ {R : Type} (k : Nat) (v0 v1 : LI) (v2 : Int) (e0 e1 : Option R) (n : Nat) (v3 : Int) : impl_EqualInts.l4 (R := R) k v0 v1 v2 e0 e1 (n + 1) v3 = impl_EqualInts.s4 k v0 v1 v2 e0 e1 (impl_EqualInts.l4 k v0 v1 v2 e0 e1 n) v3 := rfl
def impl_EqualInts.f (k : Nat) (a g : LI) : Option (Bool) :=
 bif ((a.length : Int) != (g.length : Int)) then
  some false
 else
  impl_EqualInts.l4 k a g (a.length : Int) (some false) (some true) k 0

def impl_IsFairDeck.f (k : Nat) (a0 a1 : Int) (a2 a3 : Bool) (a4 a5 : LI) (a6 a7 : Int) (a8 : LI) (a9 : Bool) (a10 : LI) (a11 a12 : Int) (a13 a14 : Bool) (a15 a16 : LI) (a17 a18 : Int) (a19 : LL) (a20 a21 : LI) (a22 a23 a24 : Int) (a25 : LI) (a26 : LL) (g i : LI) : Option (Bool) :=
 (impl_JointDeck.f k a8 g i).bind fun r1 =>
 bif a9 then
  bif r1.2 then
   (impl_EqualInts.f k r1.1 a10).bind fun r2 =>
   some r2
  else
   some false
 else
  some false

def laws_FnExactIsFairDeck.f (k : Nat) (a0 a1 : Int) (a2 a3 : Bool) (a4 a5 : LI) (a6 a7 : Int) (a8 : LI) (a9 : Bool) (a10 : LI) (a11 a12 : Int) (a13 a14 : Bool) (a15 a16 : LI) (a17 a18 : Int) (a19 : LL) (a20 a21 : LI) (a22 a23 a24 : Int) (a25 : LI) (a26 : LL) (g i : LI) : Option (Bool) :=
 bif decide ((g.length : Int) > 1048576) then
  some true
 else
  bif decide ((i.length : Int) > 1048576) then
   some true
  else
   (laws_szTable.f k a0 a1 a2 a3 a4 a5 a6 a7 a8 a9 a10 a11 a12 a13 a14 a15 a16 a17 a18 a19 a20 a21 a22 a23 a24 a25 a26 1048576).bind fun r1 =>
   bif decide (r1 < 0) then
    some true
   else
    (laws_toTable.f k a0 a1 a2 a3 a4 a5 a6 a7 a8 a9 a10 a11 a12 a13 a14 a15 a16 a17 a18 a19 a20 a21 a22 a23 a24 a25 a26).bind fun r2 =>
    (laws_toIntS.f k g).bind fun r3 =>
    (laws_toIntS.f k i).bind fun r4 =>
    (spec_IsFairDeck.f k r2.1 r2.2.1 (t2 r2).1 (t3 r2).1 (t4 r2).1 (t5 r2).1 (t6 r2).1 (t7 r2).1 (t8 r2).1 (t9 r2).1 (t9 r2.2).1 (t9 (t2 r2)).1 (t9 (t3 r2)).1 (t9 (t4 r2)).1 (t9 (t5 r2)).1 (t9 (t6 r2)).1 (t9 (t7 r2)).1 (t9 (t8 r2)).1 (t9 (t9 r2)).1 (t9 (t9 r2.2)).1 (t9 (t9 (t2 r2))).1 (t9 (t9 (t3 r2))).1 (t9 (t9 (t4 r2))).1 (t9 (t9 (t5 r2))).1 (t9 (t9 (t6 r2))).1 (t9 (t9 (t7 r2))).1 (t9 (t9 (t8 r2))) r3 r4).bind fun r5 =>
    (laws_toTable.f k a0 a1 a2 a3 a4 a5 a6 a7 a8 a9 a10 a11 a12 a13 a14 a15 a16 a17 a18 a19 a20 a21 a22 a23 a24 a25 a26).bind fun r6 =>
    (laws_toIntS.f k g).bind fun r7 =>
    (laws_toIntS.f k i).bind fun r8 =>
    (impl_IsFairDeck.f k r6.1 r6.2.1 (t2 r6).1 (t3 r6).1 (t4 r6).1 (t5 r6).1 (t6 r6).1 (t7 r6).1 (t8 r6).1 (t9 r6).1 (t9 r6.2).1 (t9 (t2 r6)).1 (t9 (t3 r6)).1 (t9 (t4 r6)).1 (t9 (t5 r6)).1 (t9 (t6 r6)).1 (t9 (t7 r6)).1 (t9 (t8 r6)).1 (t9 (t9 r6)).1 (t9 (t9 r6.2)).1 (t9 (t9 (t2 r6))).1 (t9 (t9 (t3 r6))).1 (t9 (t9 (t4 r6))).1 (t9 (t9 (t5 r6))).1 (t9 (t9 (t6 r6))).1 (t9 (t9 (t7 r6))).1 (t9 (t9 (t8 r6))) r7 r8).bind fun r9 =>
    bif (!(r9 == r5)) then
     some false
    else
     (laws_toTable.f k a0 a1 a2 a3 a4 a5 a6 a7 a8 a9 a10 a11 a12 a13 a14 a15 a16 a17 a18 a19 a20 a21 a22 a23 a24 a25 a26).bind fun r10 =>
     (laws_eqTable.f k r6.1 r6.2.1 (t2 r6).1 (t3 r6).1 (t4 r6).1 (t5 r6).1 (t6 r6).1 (t7 r6).1 (t8 r6).1 (t9 r6).1 (t9 r6.2).1 (t9 (t2 r6)).1 (t9 (t3 r6)).1 (t9 (t4 r6)).1 (t9 (t5 r6)).1 (t9 (t6 r6)).1 (t9 (t7 r6)).1 (t9 (t8 r6)).1 (t9 (t9 r6)).1 (t9 (t9 r6.2)).1 (t9 (t9 (t2 r6))).1 (t9 (t9 (t3 r6))).1 (t9 (t9 (t4 r6))).1 (t9 (t9 (t5 r6))).1 (t9 (t9 (t6 r6))).1 (t9 (t9 (t7 r6))).1 (t9 (t9 (t8 r6))) r10.1 r10.2.1 (t2 r10).1 (t3 r10).1 (t4 r10).1 (t5 r10).1 (t6 r10).1 (t7 r10).1 (t8 r10).1 (t9 r10).1 (t9 r10.2).1 (t9 (t2 r10)).1 (t9 (t3 r10)).1 (t9 (t4 r10)).1 (t9 (t5 r10)).1 (t9 (t6 r10)).1 (t9 (t7 r10)).1 (t9 (t8 r10)).1 (t9 (t9 r10)).1 (t9 (t9 r10.2)).1 (t9 (t9 (t2 r10))).1 (t9 (t9 (t3 r10))).1 (t9 (t9 (t4 r10))).1 (t9 (t9 (t5 r10))).1 (t9 (t9 (t6 r10))).1 (t9 (t9 (t7 r10))).1 (t9 (t9 (t8 r10)))).bind fun r11 =>
     bif (!r11) then
      some false
     else
      (laws_toIntS.f k g).bind fun r12 =>
      (laws_eqIntS.f k r7 r12).bind fun r13 =>
      bif (!r13) then
       some false
      else
       (laws_toIntS.f k i).bind fun r14 =>
       (laws_eqIntS.f k r8 r14).bind fun r15 =>
       bif (!r15) then
        some false
       else
        some true
end Go.Proofs.Ytfmmdbnkeadieaa
