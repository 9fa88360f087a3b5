/- Plain Lean functions, printed by a program out of the Go functions' translation: what each computes, without program and memory. -/
import Derived.Test.YtbblolalkpfapaaGreatFFnExactMatchWinner
import Derived.Test.YtbblolalkpfapaaGreatFFnExactStepSeal
import Derived.Test.YtbblolalkpfapaaGreatFFnExactBranch
set_option linter.unusedVariables false
namespace Go.Proofs.YtbblolalkpfapaaGreat
open Go Go.Proofs.YtbblolalkpfapaaGreat.V

def spec_SeedSeal.f (k : Nat) (a g i : Int) : Option (Int) :=
 (spec_Hash.f k [a, g, i]).bind fun r1 =>
 some r1

def spec_IsOpened.f (k : Nat) (a g i j : Int) : Option (Bool) :=
 (spec_l1In.f k g 0 1000000).bind fun r1 =>
 bif r1 then
  (spec_l1In.f k i 0 1000000).bind fun r2 =>
  bif r2 then
   (spec_SeedSeal.f k a g i).bind fun r3 =>
   some (r3 == j)
  else
   some false
 else
  some false

def spec_AreOpened.s4 {R : Type} (k : Nat) (v0 v1 v2 : LI) (e0 e1 : Option R) (rec : Int → Option R) (v3 : Int) : Option R :=
 bif decide (v3 < (v0.length : Int)) then
  chk ((decide (0 ≤ v3)) && (decide (v3 < (v1.length : Int)))) <|
  chk ((decide (0 ≤ v3)) && (decide (v3 < (v2.length : Int)))) <|
  chk ((decide (0 ≤ v3)) && (decide (v3 < (v0.length : Int)))) <|
  (spec_IsOpened.f k v3 (v1.getD v3.toNat 0) (v2.getD v3.toNat 0) (v0.getD v3.toNat 0)).bind fun r2 =>
  bif (!r2) then
   e0
  else
   rec (IntKind.wrap .i64 (v3 + 1))
 else
  e1
def spec_AreOpened.l4 {R : Type} (k : Nat) (v0 v1 v2 : LI) (e0 e1 : Option R) (n : Nat) (v3 : Int) : Option R :=
 V.iter (A := Int) (fun rec a => spec_AreOpened.s4 k v0 v1 v2 e0 e1 (fun c0 => rec c0) a) n v3
theorem spec_AreOpened.l4_succ {R : Type} (k : Nat) (v0 v1 v2 : LI) (e0 e1 : Option R) (n : Nat) (v3 : Int) : spec_AreOpened.l4 (R := R) k v0 v1 v2 e0 e1 (n + 1) v3 = spec_AreOpened.s4 k v0 v1 v2 e0 e1 (spec_AreOpened.l4 k v0 v1 v2 e0 e1 n) v3 := rfl
def spec_AreOpened.f (k : Nat) (a g i : LI) : Option (Bool) :=
 (spec_l1In.f k (a.length : Int) 1 6).bind fun r1 =>
 bif (!r1) then
  some false
 else
  bif ((g.length : Int) != (a.length : Int)) then
   some false
  else
   bif ((i.length : Int) != (a.length : Int)) then
    some false
   else
    spec_AreOpened.l4 k a g i (some false) (some true) k 0

def spec_JointSeed.s3 {R : Type} (k : Nat) (v0 : LI) (e0 : Int → Option R) (rec : Int → Int → Option R) (v1 v2 : Int) : Option R :=
 bif decide (v2 < (v0.length : Int)) then
  chk ((decide (0 ≤ v2)) && (decide (v2 < (v0.length : Int)))) <|
  (spec_Mod.f k (v0.getD v2.toNat 0) 1000001).bind fun r1 =>
  rec ((IntKind.wrap .i64 (v1 + r1)).tmod 1000001) (IntKind.wrap .i64 (v2 + 1))
 else
  e0 v1
def spec_JointSeed.l3 {R : Type} (k : Nat) (v0 : LI) (e0 : Int → Option R) (n : Nat) (v1 v2 : Int) : Option R :=
 V.iter (A := Int × Int) (fun rec a => spec_JointSeed.s3 k v0 e0 (fun c0 c1 => rec (c0, c1)) a.1 a.2) n (v1, v2)
theorem spec_JointSeed.l3_succ {R : Type} (k : Nat) (v0 : LI) (e0 : Int → Option R) (n : Nat) (v1 v2 : Int) : spec_JointSeed.l3 (R := R) k v0 e0 (n + 1) v1 v2 = spec_JointSeed.s3 k v0 e0 (spec_JointSeed.l3 k v0 e0 n) v1 v2 := rfl
def spec_JointSeed.f (k : Nat) (a : LI) : Option (Int) :=
 spec_JointSeed.l3 k a (fun x2 =>
  some x2) k 0 0

def spec_JointDeck.f (k : Nat) (a g i : LI) : Option (LI × Bool) :=
 (spec_AreOpened.f k a g i).bind fun r1 =>
 bif (!r1) then
  some ([], false)
 else
  (spec_FullDeck.f k).bind fun r2 =>
  (spec_JointSeed.f k g).bind fun r3 =>
  (spec_Shuffled.f k r2 r3).bind fun r4 =>
  some (r4, true)

def spec_IsSealed.f (k : Nat) (a0 a1 : Int) (a2 a3 : Bool) (a4 a5 : LI) (a6 a7 : Int) (a8 : LI) (a9 : Bool) (a10 : LI) (a11 a12 : Int) (a13 a14 : Bool) (a15 a16 : LI) (a17 a18 : Int) (a19 : LL) (a20 a21 : LI) (a22 a23 a24 : Int) (a25 : LI) (a26 : LL) : Option (Bool) :=
 bif ((a8.length : Int) == a0) then
  some (!a9)
 else
  some false

def spec_StepDeal.f (k : Nat) (a0 a1 : Int) (a2 a3 : Bool) (a4 a5 : LI) (a6 a7 : Int) (a8 : LI) (a9 : Bool) (a10 : LI) (a11 a12 : Int) (a13 a14 : Bool) (a15 a16 : LI) (a17 a18 : Int) (a19 : LL) (a20 a21 : LI) (a22 a23 a24 : Int) (a25 : LI) (a26 : LL) (g i : LI) : Option (Int × Int × Bool × Bool × LI × LI × Int × Int × LI × Bool × LI × Int × Int × Bool × Bool × LI × LI × Int × Int × LL × LI × LI × Int × Int × Int × LI × LL × Bool) :=
 (spec_l33Copy.f k a0 a1 a2 a3 a4 a5 a6 a7 a8 a9 a10 a11 a12 a13 a14 a15 a16 a17 a18 a19 a20 a21 a22 a23 a24 a25 a26).bind fun r1 =>
 (spec_JointDeck.f k a8 g i).bind fun r2 =>
 (spec_NewGame.f k a0 a1 a2 a3 a4 a5 a6 a7 r2.1).bind fun r3 =>
 bif r2.2 then
  bif (t9 (t5 r3)) then
   (spec_IsSealed.f k a0 a1 a2 a3 a4 a5 a6 a7 a8 a9 a10 a11 a12 a13 a14 a15 a16 a17 a18 a19 a20 a21 a22 a23 a24 a25 a26).bind fun r4 =>
   (spec_l34Done.f k a0 a1 a2 a3 a4 a5 a6 a7 a8 a9 a10 a11 a12 a13 a14 a15 a16 a17 a18 a19 a20 a21 a22 a23 a24 a25 a26 r1.1 r1.2.1 (t2 r1).1 (t3 r1).1 (t4 r1).1 (t5 r1).1 (t6 r1).1 (t7 r1).1 (t8 r1).1 true r2.1 r3.1 r3.2.1 (t2 r3).1 (t3 r3).1 (t4 r3).1 (t5 r3).1 (t6 r3).1 (t7 r3).1 (t8 r3).1 (t9 r3).1 (t9 r3.2).1 (t9 (t2 r3)).1 (t9 (t3 r3)).1 (t9 (t4 r3)).1 (t9 (t9 (t7 r1))).1 (t9 (t9 (t8 r1))) r4).bind fun r5 =>
   some (r5.1, r5.2.1, (t2 r5).1, (t3 r5).1, (t4 r5).1, (t5 r5).1, (t6 r5).1, (t7 r5).1, (t8 r5).1, (t9 r5).1, (t9 r5.2).1, (t9 (t2 r5)).1, (t9 (t3 r5)).1, (t9 (t4 r5)).1, (t9 (t5 r5)).1, (t9 (t6 r5)).1, (t9 (t7 r5)).1, (t9 (t8 r5)).1, (t9 (t9 r5)).1, (t9 (t9 r5.2)).1, (t9 (t9 (t2 r5))).1, (t9 (t9 (t3 r5))).1, (t9 (t9 (t4 r5))).1, (t9 (t9 (t5 r5))).1, (t9 (t9 (t6 r5))).1, (t9 (t9 (t7 r5))).1, (t9 (t9 (t8 r5))).1, (t9 (t9 (t9 r5))))
  else
   (spec_l34Done.f k a0 a1 a2 a3 a4 a5 a6 a7 a8 a9 a10 a11 a12 a13 a14 a15 a16 a17 a18 a19 a20 a21 a22 a23 a24 a25 a26 r1.1 r1.2.1 (t2 r1).1 (t3 r1).1 (t4 r1).1 (t5 r1).1 (t6 r1).1 (t7 r1).1 (t8 r1).1 true r2.1 r3.1 r3.2.1 (t2 r3).1 (t3 r3).1 (t4 r3).1 (t5 r3).1 (t6 r3).1 (t7 r3).1 (t8 r3).1 (t9 r3).1 (t9 r3.2).1 (t9 (t2 r3)).1 (t9 (t3 r3)).1 (t9 (t4 r3)).1 (t9 (t9 (t7 r1))).1 (t9 (t9 (t8 r1))) false).bind fun r6 =>
   some (r6.1, r6.2.1, (t2 r6).1, (t3 r6).1, (t4 r6).1, (t5 r6).1, (t6 r6).1, (t7 r6).1, (t8 r6).1, (t9 r6).1, (t9 r6.2).1, (t9 (t2 r6)).1, (t9 (t3 r6)).1, (t9 (t4 r6)).1, (t9 (t5 r6)).1, (t9 (t6 r6)).1, (t9 (t7 r6)).1, (t9 (t8 r6)).1, (t9 (t9 r6)).1, (t9 (t9 r6.2)).1, (t9 (t9 (t2 r6))).1, (t9 (t9 (t3 r6))).1, (t9 (t9 (t4 r6))).1, (t9 (t9 (t5 r6))).1, (t9 (t9 (t6 r6))).1, (t9 (t9 (t7 r6))).1, (t9 (t9 (t8 r6))).1, (t9 (t9 (t9 r6))))
 else
  (spec_l34Done.f k a0 a1 a2 a3 a4 a5 a6 a7 a8 a9 a10 a11 a12 a13 a14 a15 a16 a17 a18 a19 a20 a21 a22 a23 a24 a25 a26 r1.1 r1.2.1 (t2 r1).1 (t3 r1).1 (t4 r1).1 (t5 r1).1 (t6 r1).1 (t7 r1).1 (t8 r1).1 true r2.1 r3.1 r3.2.1 (t2 r3).1 (t3 r3).1 (t4 r3).1 (t5 r3).1 (t6 r3).1 (t7 r3).1 (t8 r3).1 (t9 r3).1 (t9 r3.2).1 (t9 (t2 r3)).1 (t9 (t3 r3)).1 (t9 (t4 r3)).1 (t9 (t9 (t7 r1))).1 (t9 (t9 (t8 r1))) false).bind fun r7 =>
  some (r7.1, r7.2.1, (t2 r7).1, (t3 r7).1, (t4 r7).1, (t5 r7).1, (t6 r7).1, (t7 r7).1, (t8 r7).1, (t9 r7).1, (t9 r7.2).1, (t9 (t2 r7)).1, (t9 (t3 r7)).1, (t9 (t4 r7)).1, (t9 (t5 r7)).1, (t9 (t6 r7)).1, (t9 (t7 r7)).1, (t9 (t8 r7)).1, (t9 (t9 r7)).1, (t9 (t9 r7.2)).1, (t9 (t9 (t2 r7))).1, (t9 (t9 (t3 r7))).1, (t9 (t9 (t4 r7))).1, (t9 (t9 (t5 r7))).1, (t9 (t9 (t6 r7))).1, (t9 (t9 (t7 r7))).1, (t9 (t9 (t8 r7))).1, (t9 (t9 (t9 r7))))

def impl_SeedSeal.f (k : Nat) (a g i : Int) : Option (Int) :=
 (impl_Hash.f k [a, g, i]).bind fun r1 =>
 some r1

def impl_IsOpened.f (k : Nat) (a g i j : Int) : Option (Bool) :=
 (impl_InRange.f k g 0 1000000).bind fun r1 =>
 bif r1 then
  (impl_InRange.f k i 0 1000000).bind fun r2 =>
  bif r2 then
   (impl_SeedSeal.f k a g i).bind fun r3 =>
   some (r3 == j)
  else
   some false
 else
  some false

def impl_AreOpened.s5 {R : Type} (k : Nat) (v0 v1 v2 : LI) (v3 : Int) (e0 e1 : Option R) (rec : Int → Option R) (v4 : Int) : Option R :=
 bif decide (v4 < v3) then
  chk ((decide (0 ≤ v4)) && (decide (v4 < (v1.length : Int)))) <|
  chk ((decide (0 ≤ v4)) && (decide (v4 < (v2.length : Int)))) <|
  chk ((decide (0 ≤ v4)) && (decide (v4 < (v0.length : Int)))) <|
  (impl_IsOpened.f k v4 (v1.getD v4.toNat 0) (v2.getD v4.toNat 0) (v0.getD v4.toNat 0)).bind fun r2 =>
  bif (!r2) then
   e0
  else
   rec (IntKind.wrap .i64 (v4 + 1))
 else
  e1
def impl_AreOpened.l5 {R : Type} (k : Nat) (v0 v1 v2 : LI) (v3 : Int) (e0 e1 : Option R) (n : Nat) (v4 : Int) : Option R :=
 V.iter (A := Int) (fun rec a => impl_AreOpened.s5 k v0 v1 v2 v3 e0 e1 (fun c0 => rec c0) a) n v4
theorem impl_AreOpened.l5_succ {R : Type} (k : Nat) (v0 v1 v2 : LI) (v3 : Int) (e0 e1 : Option R) (n : Nat) (v4 : Int) : impl_AreOpened.l5 (R := R) k v0 v1 v2 v3 e0 e1 (n + 1) v4 = impl_AreOpened.s5 k v0 v1 v2 v3 e0 e1 (impl_AreOpened.l5 k v0 v1 v2 v3 e0 e1 n) v4 := rfl
def impl_AreOpened.f (k : Nat) (a g i : LI) : Option (Bool) :=
 (impl_InRange.f k (a.length : Int) 1 6).bind fun r1 =>
 bif (!r1) then
  some false
 else
  bif ((g.length : Int) != (a.length : Int)) then
   some false
  else
   bif ((i.length : Int) != (a.length : Int)) then
    some false
   else
    impl_AreOpened.l5 k a g i (a.length : Int) (some false) (some true) k 0

def impl_JointSeed.s3 {R : Type} (k : Nat) (v1 : LI) (v2 : Int) (e0 : Int → Option R) (rec : Int → Int → Option R) (v0 v3 : Int) : Option R :=
 bif decide (v3 < v2) then
  chk ((decide (0 ≤ v3)) && (decide (v3 < (v1.length : Int)))) <|
  (impl_Mod.f k (v1.getD v3.toNat 0) 1000001).bind fun r1 =>
  rec ((IntKind.wrap .i64 (v0 + r1)).tmod 1000001) (IntKind.wrap .i64 (v3 + 1))
 else
  e0 v0
def impl_JointSeed.l3 {R : Type} (k : Nat) (v1 : LI) (v2 : Int) (e0 : Int → Option R) (n : Nat) (v0 v3 : Int) : Option R :=
 V.iter (A := Int × Int) (fun rec a => impl_JointSeed.s3 k v1 v2 e0 (fun c0 c1 => rec (c0, c1)) a.1 a.2) n (v0, v3)
theorem impl_JointSeed.l3_succ {R : Type} (k : Nat) (v1 : LI) (v2 : Int) (e0 : Int → Option R) (n : Nat) (v0 v3 : Int) : impl_JointSeed.l3 (R := R) k v1 v2 e0 (n + 1) v0 v3 = impl_JointSeed.s3 k v1 v2 e0 (impl_JointSeed.l3 k v1 v2 e0 n) v0 v3 := rfl
def impl_JointSeed.f (k : Nat) (a : LI) : Option (Int) :=
 impl_JointSeed.l3 k a (a.length : Int) (fun x2 =>
  some x2) k 0 0

def impl_JointDeck.f (k : Nat) (a g i : LI) : Option (LI × Bool) :=
 (impl_AreOpened.f k a g i).bind fun r1 =>
 bif (!r1) then
  some ([], false)
 else
  (impl_FullDeck.f k).bind fun r2 =>
  (impl_JointSeed.f k g).bind fun r3 =>
  (impl_Shuffled.f k r2 r3).bind fun r4 =>
  some (r4, true)

def impl_IsSealed.f (k : Nat) (a0 a1 : Int) (a2 a3 : Bool) (a4 a5 : LI) (a6 a7 : Int) (a8 : LI) (a9 : Bool) (a10 : LI) (a11 a12 : Int) (a13 a14 : Bool) (a15 a16 : LI) (a17 a18 : Int) (a19 : LL) (a20 a21 : LI) (a22 a23 a24 : Int) (a25 : LI) (a26 : LL) : Option (Bool) :=
 bif ((a8.length : Int) == a0) then
  some (!a9)
 else
  some false

def impl_StepDeal.f (k : Nat) (a0 a1 : Int) (a2 a3 : Bool) (a4 a5 : LI) (a6 a7 : Int) (a8 : LI) (a9 : Bool) (a10 : LI) (a11 a12 : Int) (a13 a14 : Bool) (a15 a16 : LI) (a17 a18 : Int) (a19 : LL) (a20 a21 : LI) (a22 a23 a24 : Int) (a25 : LI) (a26 : LL) (g i : LI) : Option (Int × Int × Bool × Bool × LI × LI × Int × Int × LI × Bool × LI × Int × Int × Bool × Bool × LI × LI × Int × Int × LL × LI × LI × Int × Int × Int × LI × LL × Bool) :=
 (impl_Table_copied.f k a0 a1 a2 a3 a4 a5 a6 a7 a8 a9 a10 a11 a12 a13 a14 a15 a16 a17 a18 a19 a20 a21 a22 a23 a24 a25 a26).bind fun r1 =>
 (impl_JointDeck.f k a8 g i).bind fun r2 =>
 (impl_NewGame.f k a0 a1 a2 a3 a4 a5 a6 a7 r2.1).bind fun r3 =>
 (impl_IsSealed.f k a0 a1 a2 a3 a4 a5 a6 a7 a8 a9 a10 a11 a12 a13 a14 a15 a16 a17 a18 a19 a20 a21 a22 a23 a24 a25 a26).bind fun r4 =>
 bif r4 then
  bif r2.2 then
   (impl_Table_becomes.f k a0 a1 a2 a3 a4 a5 a6 a7 a8 a9 a10 a11 a12 a13 a14 a15 a16 a17 a18 a19 a20 a21 a22 a23 a24 a25 a26 r1.1 r1.2.1 (t2 r1).1 (t3 r1).1 (t4 r1).1 (t5 r1).1 (t6 r1).1 (t7 r1).1 (t8 r1).1 true r2.1 r3.1 r3.2.1 (t2 r3).1 (t3 r3).1 (t4 r3).1 (t5 r3).1 (t6 r3).1 (t7 r3).1 (t8 r3).1 (t9 r3).1 (t9 r3.2).1 (t9 (t2 r3)).1 (t9 (t3 r3)).1 (t9 (t4 r3)).1 [] (t9 (t9 (t8 r1))) (t9 (t5 r3))).bind fun r5 =>
   some (r5.1, r5.2.1, (t2 r5).1, (t3 r5).1, (t4 r5).1, (t5 r5).1, (t6 r5).1, (t7 r5).1, (t8 r5).1, (t9 r5).1, (t9 r5.2).1, (t9 (t2 r5)).1, (t9 (t3 r5)).1, (t9 (t4 r5)).1, (t9 (t5 r5)).1, (t9 (t6 r5)).1, (t9 (t7 r5)).1, (t9 (t8 r5)).1, (t9 (t9 r5)).1, (t9 (t9 r5.2)).1, (t9 (t9 (t2 r5))).1, (t9 (t9 (t3 r5))).1, (t9 (t9 (t4 r5))).1, (t9 (t9 (t5 r5))).1, (t9 (t9 (t6 r5))).1, (t9 (t9 (t7 r5))).1, (t9 (t9 (t8 r5))).1, (t9 (t9 (t9 r5))))
  else
   (impl_Table_becomes.f k a0 a1 a2 a3 a4 a5 a6 a7 a8 a9 a10 a11 a12 a13 a14 a15 a16 a17 a18 a19 a20 a21 a22 a23 a24 a25 a26 r1.1 r1.2.1 (t2 r1).1 (t3 r1).1 (t4 r1).1 (t5 r1).1 (t6 r1).1 (t7 r1).1 (t8 r1).1 true r2.1 r3.1 r3.2.1 (t2 r3).1 (t3 r3).1 (t4 r3).1 (t5 r3).1 (t6 r3).1 (t7 r3).1 (t8 r3).1 (t9 r3).1 (t9 r3.2).1 (t9 (t2 r3)).1 (t9 (t3 r3)).1 (t9 (t4 r3)).1 [] (t9 (t9 (t8 r1))) false).bind fun r6 =>
   some (r6.1, r6.2.1, (t2 r6).1, (t3 r6).1, (t4 r6).1, (t5 r6).1, (t6 r6).1, (t7 r6).1, (t8 r6).1, (t9 r6).1, (t9 r6.2).1, (t9 (t2 r6)).1, (t9 (t3 r6)).1, (t9 (t4 r6)).1, (t9 (t5 r6)).1, (t9 (t6 r6)).1, (t9 (t7 r6)).1, (t9 (t8 r6)).1, (t9 (t9 r6)).1, (t9 (t9 r6.2)).1, (t9 (t9 (t2 r6))).1, (t9 (t9 (t3 r6))).1, (t9 (t9 (t4 r6))).1, (t9 (t9 (t5 r6))).1, (t9 (t9 (t6 r6))).1, (t9 (t9 (t7 r6))).1, (t9 (t9 (t8 r6))).1, (t9 (t9 (t9 r6))))
 else
  (impl_Table_becomes.f k a0 a1 a2 a3 a4 a5 a6 a7 a8 a9 a10 a11 a12 a13 a14 a15 a16 a17 a18 a19 a20 a21 a22 a23 a24 a25 a26 r1.1 r1.2.1 (t2 r1).1 (t3 r1).1 (t4 r1).1 (t5 r1).1 (t6 r1).1 (t7 r1).1 (t8 r1).1 true r2.1 r3.1 r3.2.1 (t2 r3).1 (t3 r3).1 (t4 r3).1 (t5 r3).1 (t6 r3).1 (t7 r3).1 (t8 r3).1 (t9 r3).1 (t9 r3.2).1 (t9 (t2 r3)).1 (t9 (t3 r3)).1 (t9 (t4 r3)).1 [] (t9 (t9 (t8 r1))) false).bind fun r7 =>
  some (r7.1, r7.2.1, (t2 r7).1, (t3 r7).1, (t4 r7).1, (t5 r7).1, (t6 r7).1, (t7 r7).1, (t8 r7).1, (t9 r7).1, (t9 r7.2).1, (t9 (t2 r7)).1, (t9 (t3 r7)).1, (t9 (t4 r7)).1, (t9 (t5 r7)).1, (t9 (t6 r7)).1, (t9 (t7 r7)).1, (t9 (t8 r7)).1, (t9 (t9 r7)).1, (t9 (t9 r7.2)).1, (t9 (t9 (t2 r7))).1, (t9 (t9 (t3 r7))).1, (t9 (t9 (t4 r7))).1, (t9 (t9 (t5 r7))).1, (t9 (t9 (t6 r7))).1, (t9 (t9 (t7 r7))).1, (t9 (t9 (t8 r7))).1, (t9 (t9 (t9 r7))))

def laws_FnExactStepDeal.f (k : Nat) (a0 a1 : Int) (a2 a3 : Bool) (a4 a5 : LI) (a6 a7 : Int) (a8 : LI) (a9 : Bool) (a10 : LI) (a11 a12 : Int) (a13 a14 : Bool) (a15 a16 : LI) (a17 a18 : Int) (a19 : LL) (a20 a21 : LI) (a22 a23 a24 : Int) (a25 : LI) (a26 : LL) (g i : LI) : Option (Bool) :=
 bif decide ((g.length : Int) > 1048576) then
  some true
 else
  bif decide ((i.length : Int) > 1048576) then
   some true
  else
   (laws_szTable.f k a0 a1 a2 a3 a4 a5 a6 a7 a8 a9 a10 a11 a12 a13 a14 a15 a16 a17 a18 a19 a20 a21 a22 a23 a24 a25 a26 1048576).bind fun r1 =>
   bif decide (r1 < 0) then
    some true
   else
    (laws_toTable.f k a0 a1 a2 a3 a4 a5 a6 a7 a8 a9 a10 a11 a12 a13 a14 a15 a16 a17 a18 a19 a20 a21 a22 a23 a24 a25 a26).bind fun r2 =>
    (laws_toIntS.f k g).bind fun r3 =>
    (laws_toIntS.f k i).bind fun r4 =>
    (spec_StepDeal.f k r2.1 r2.2.1 (t2 r2).1 (t3 r2).1 (t4 r2).1 (t5 r2).1 (t6 r2).1 (t7 r2).1 (t8 r2).1 (t9 r2).1 (t9 r2.2).1 (t9 (t2 r2)).1 (t9 (t3 r2)).1 (t9 (t4 r2)).1 (t9 (t5 r2)).1 (t9 (t6 r2)).1 (t9 (t7 r2)).1 (t9 (t8 r2)).1 (t9 (t9 r2)).1 (t9 (t9 r2.2)).1 (t9 (t9 (t2 r2))).1 (t9 (t9 (t3 r2))).1 (t9 (t9 (t4 r2))).1 (t9 (t9 (t5 r2))).1 (t9 (t9 (t6 r2))).1 (t9 (t9 (t7 r2))).1 (t9 (t9 (t8 r2))) r3 r4).bind fun r5 =>
    (laws_toTable.f k a0 a1 a2 a3 a4 a5 a6 a7 a8 a9 a10 a11 a12 a13 a14 a15 a16 a17 a18 a19 a20 a21 a22 a23 a24 a25 a26).bind fun r6 =>
    (laws_toIntS.f k g).bind fun r7 =>
    (laws_toIntS.f k i).bind fun r8 =>
    (impl_StepDeal.f k r6.1 r6.2.1 (t2 r6).1 (t3 r6).1 (t4 r6).1 (t5 r6).1 (t6 r6).1 (t7 r6).1 (t8 r6).1 (t9 r6).1 (t9 r6.2).1 (t9 (t2 r6)).1 (t9 (t3 r6)).1 (t9 (t4 r6)).1 (t9 (t5 r6)).1 (t9 (t6 r6)).1 (t9 (t7 r6)).1 (t9 (t8 r6)).1 (t9 (t9 r6)).1 (t9 (t9 r6.2)).1 (t9 (t9 (t2 r6))).1 (t9 (t9 (t3 r6))).1 (t9 (t9 (t4 r6))).1 (t9 (t9 (t5 r6))).1 (t9 (t9 (t6 r6))).1 (t9 (t9 (t7 r6))).1 (t9 (t9 (t8 r6))) r7 r8).bind fun r9 =>
    (laws_eqTable.f k r9.1 r9.2.1 (t2 r9).1 (t3 r9).1 (t4 r9).1 (t5 r9).1 (t6 r9).1 (t7 r9).1 (t8 r9).1 (t9 r9).1 (t9 r9.2).1 (t9 (t2 r9)).1 (t9 (t3 r9)).1 (t9 (t4 r9)).1 (t9 (t5 r9)).1 (t9 (t6 r9)).1 (t9 (t7 r9)).1 (t9 (t8 r9)).1 (t9 (t9 r9)).1 (t9 (t9 r9.2)).1 (t9 (t9 (t2 r9))).1 (t9 (t9 (t3 r9))).1 (t9 (t9 (t4 r9))).1 (t9 (t9 (t5 r9))).1 (t9 (t9 (t6 r9))).1 (t9 (t9 (t7 r9))).1 (t9 (t9 (t8 r9))).1 r5.1 r5.2.1 (t2 r5).1 (t3 r5).1 (t4 r5).1 (t5 r5).1 (t6 r5).1 (t7 r5).1 (t8 r5).1 (t9 r5).1 (t9 r5.2).1 (t9 (t2 r5)).1 (t9 (t3 r5)).1 (t9 (t4 r5)).1 (t9 (t5 r5)).1 (t9 (t6 r5)).1 (t9 (t7 r5)).1 (t9 (t8 r5)).1 (t9 (t9 r5)).1 (t9 (t9 r5.2)).1 (t9 (t9 (t2 r5))).1 (t9 (t9 (t3 r5))).1 (t9 (t9 (t4 r5))).1 (t9 (t9 (t5 r5))).1 (t9 (t9 (t6 r5))).1 (t9 (t9 (t7 r5))).1 (t9 (t9 (t8 r5))).1).bind fun r10 =>
    bif (!r10) then
     some false
    else
     bif (!((t9 (t9 (t9 r9))) == (t9 (t9 (t9 r5))))) then
      some false
     else
      (laws_toTable.f k a0 a1 a2 a3 a4 a5 a6 a7 a8 a9 a10 a11 a12 a13 a14 a15 a16 a17 a18 a19 a20 a21 a22 a23 a24 a25 a26).bind fun r11 =>
      (laws_eqTable.f k r6.1 r6.2.1 (t2 r6).1 (t3 r6).1 (t4 r6).1 (t5 r6).1 (t6 r6).1 (t7 r6).1 (t8 r6).1 (t9 r6).1 (t9 r6.2).1 (t9 (t2 r6)).1 (t9 (t3 r6)).1 (t9 (t4 r6)).1 (t9 (t5 r6)).1 (t9 (t6 r6)).1 (t9 (t7 r6)).1 (t9 (t8 r6)).1 (t9 (t9 r6)).1 (t9 (t9 r6.2)).1 (t9 (t9 (t2 r6))).1 (t9 (t9 (t3 r6))).1 (t9 (t9 (t4 r6))).1 (t9 (t9 (t5 r6))).1 (t9 (t9 (t6 r6))).1 (t9 (t9 (t7 r6))).1 (t9 (t9 (t8 r6))) r11.1 r11.2.1 (t2 r11).1 (t3 r11).1 (t4 r11).1 (t5 r11).1 (t6 r11).1 (t7 r11).1 (t8 r11).1 (t9 r11).1 (t9 r11.2).1 (t9 (t2 r11)).1 (t9 (t3 r11)).1 (t9 (t4 r11)).1 (t9 (t5 r11)).1 (t9 (t6 r11)).1 (t9 (t7 r11)).1 (t9 (t8 r11)).1 (t9 (t9 r11)).1 (t9 (t9 r11.2)).1 (t9 (t9 (t2 r11))).1 (t9 (t9 (t3 r11))).1 (t9 (t9 (t4 r11))).1 (t9 (t9 (t5 r11))).1 (t9 (t9 (t6 r11))).1 (t9 (t9 (t7 r11))).1 (t9 (t9 (t8 r11)))).bind fun r12 =>
      bif (!r12) then
       some false
      else
       (laws_toIntS.f k g).bind fun r13 =>
       (laws_eqIntS.f k r7 r13).bind fun r14 =>
       bif (!r14) then
        some false
       else
        (laws_toIntS.f k i).bind fun r15 =>
        (laws_eqIntS.f k r8 r15).bind fun r16 =>
        bif (!r16) then
         some false
        else
         (laws_markTable.f k r6.1 r6.2.1 (t2 r6).1 (t3 r6).1 (t4 r6).1 (t5 r6).1 (t6 r6).1 (t7 r6).1 (t8 r6).1 (t9 r6).1 (t9 r6.2).1 (t9 (t2 r6)).1 (t9 (t3 r6)).1 (t9 (t4 r6)).1 (t9 (t5 r6)).1 (t9 (t6 r6)).1 (t9 (t7 r6)).1 (t9 (t8 r6)).1 (t9 (t9 r6)).1 (t9 (t9 r6.2)).1 (t9 (t9 (t2 r6))).1 (t9 (t9 (t3 r6))).1 (t9 (t9 (t4 r6))).1 (t9 (t9 (t5 r6))).1 (t9 (t9 (t6 r6))).1 (t9 (t9 (t7 r6))).1 (t9 (t9 (t8 r6))) 1).bind fun r17 =>
         (laws_markIntS.f k r7 r17.1).bind fun r18 =>
         (laws_markIntS.f k r8 r18.1).bind fun r19 =>
         bif decide (r19.1 < 0) then
          some false
         else
          (laws_eqTable.f k r9.1 r9.2.1 (t2 r9).1 (t3 r9).1 (t4 r9).1 (t5 r9).1 (t6 r9).1 (t7 r9).1 (t8 r9).1 (t9 r9).1 (t9 r9.2).1 (t9 (t2 r9)).1 (t9 (t3 r9)).1 (t9 (t4 r9)).1 (t9 (t5 r9)).1 (t9 (t6 r9)).1 (t9 (t7 r9)).1 (t9 (t8 r9)).1 (t9 (t9 r9)).1 (t9 (t9 r9.2)).1 (t9 (t9 (t2 r9))).1 (t9 (t9 (t3 r9))).1 (t9 (t9 (t4 r9))).1 (t9 (t9 (t5 r9))).1 (t9 (t9 (t6 r9))).1 (t9 (t9 (t7 r9))).1 (t9 (t9 (t8 r9))).1 r5.1 r5.2.1 (t2 r5).1 (t3 r5).1 (t4 r5).1 (t5 r5).1 (t6 r5).1 (t7 r5).1 (t8 r5).1 (t9 r5).1 (t9 r5.2).1 (t9 (t2 r5)).1 (t9 (t3 r5)).1 (t9 (t4 r5)).1 (t9 (t5 r5)).1 (t9 (t6 r5)).1 (t9 (t7 r5)).1 (t9 (t8 r5)).1 (t9 (t9 r5)).1 (t9 (t9 r5.2)).1 (t9 (t9 (t2 r5))).1 (t9 (t9 (t3 r5))).1 (t9 (t9 (t4 r5))).1 (t9 (t9 (t5 r5))).1 (t9 (t9 (t6 r5))).1 (t9 (t9 (t7 r5))).1 (t9 (t9 (t8 r5))).1).bind fun r20 =>
          bif (!r20) then
           some false
          else
           bif (!((t9 (t9 (t9 r9))) == (t9 (t9 (t9 r5))))) then
            some false
           else
            (laws_markTable.f k r9.1 r9.2.1 (t2 r9).1 (t3 r9).1 (t4 r9).1 (t5 r9).1 (t6 r9).1 (t7 r9).1 (t8 r9).1 (t9 r9).1 (t9 r9.2).1 (t9 (t2 r9)).1 (t9 (t3 r9)).1 (t9 (t4 r9)).1 (t9 (t5 r9)).1 (t9 (t6 r9)).1 (t9 (t7 r9)).1 (t9 (t8 r9)).1 (t9 (t9 r9)).1 (t9 (t9 r9.2)).1 (t9 (t9 (t2 r9))).1 (t9 (t9 (t3 r9))).1 (t9 (t9 (t4 r9))).1 (t9 (t9 (t5 r9))).1 (t9 (t9 (t6 r9))).1 (t9 (t9 (t7 r9))).1 (t9 (t9 (t8 r9))).1 1).bind fun r21 =>
            (laws_heldTable.f k r9.1 r9.2.1 (t2 r9).1 (t3 r9).1 (t5 r21).1 (t6 r21).1 (t6 r9).1 (t7 r9).1 (t9 r21).1 (t9 r9).1 (t9 (t2 r21)).1 (t9 (t2 r9)).1 (t9 (t3 r9)).1 (t9 (t4 r9)).1 (t9 (t5 r9)).1 (t9 (t7 r21)).1 (t9 (t8 r21)).1 (t9 (t8 r9)).1 (t9 (t9 r9)).1 (t9 (t9 (t2 r21))).1 (t9 (t9 (t3 r21))).1 (t9 (t9 (t4 r21))).1 (t9 (t9 (t4 r9))).1 (t9 (t9 (t5 r9))).1 (t9 (t9 (t6 r9))).1 (t9 (t9 (t8 r21))).1 (t9 (t9 (t9 r21))) 1).bind fun r22 =>
            bif decide (r22 < 0) then
             some false
            else
             bif (r22 != r21.1) then
              some false
             else
              (laws_toTable.f k a0 a1 a2 a3 a4 a5 a6 a7 a8 a9 a10 a11 a12 a13 a14 a15 a16 a17 a18 a19 a20 a21 a22 a23 a24 a25 a26).bind fun r23 =>
              (laws_toIntS.f k g).bind fun r24 =>
              (laws_toIntS.f k i).bind fun r25 =>
              (impl_StepDeal.f k r23.1 r23.2.1 (t2 r23).1 (t3 r23).1 (t4 r23).1 (t5 r23).1 (t6 r23).1 (t7 r23).1 (t8 r23).1 (t9 r23).1 (t9 r23.2).1 (t9 (t2 r23)).1 (t9 (t3 r23)).1 (t9 (t4 r23)).1 (t9 (t5 r23)).1 (t9 (t6 r23)).1 (t9 (t7 r23)).1 (t9 (t8 r23)).1 (t9 (t9 r23)).1 (t9 (t9 r23.2)).1 (t9 (t9 (t2 r23))).1 (t9 (t9 (t3 r23))).1 (t9 (t9 (t4 r23))).1 (t9 (t9 (t5 r23))).1 (t9 (t9 (t6 r23))).1 (t9 (t9 (t7 r23))).1 (t9 (t9 (t8 r23))) r24 r25).bind fun r26 =>
              (laws_eqTable.f k r26.1 r26.2.1 (t2 r26).1 (t3 r26).1 (t4 r26).1 (t5 r26).1 (t6 r26).1 (t7 r26).1 (t8 r26).1 (t9 r26).1 (t9 r26.2).1 (t9 (t2 r26)).1 (t9 (t3 r26)).1 (t9 (t4 r26)).1 (t9 (t5 r26)).1 (t9 (t6 r26)).1 (t9 (t7 r26)).1 (t9 (t8 r26)).1 (t9 (t9 r26)).1 (t9 (t9 r26.2)).1 (t9 (t9 (t2 r26))).1 (t9 (t9 (t3 r26))).1 (t9 (t9 (t4 r26))).1 (t9 (t9 (t5 r26))).1 (t9 (t9 (t6 r26))).1 (t9 (t9 (t7 r26))).1 (t9 (t9 (t8 r26))).1 r5.1 r5.2.1 (t2 r5).1 (t3 r5).1 (t4 r5).1 (t5 r5).1 (t6 r5).1 (t7 r5).1 (t8 r5).1 (t9 r5).1 (t9 r5.2).1 (t9 (t2 r5)).1 (t9 (t3 r5)).1 (t9 (t4 r5)).1 (t9 (t5 r5)).1 (t9 (t6 r5)).1 (t9 (t7 r5)).1 (t9 (t8 r5)).1 (t9 (t9 r5)).1 (t9 (t9 r5.2)).1 (t9 (t9 (t2 r5))).1 (t9 (t9 (t3 r5))).1 (t9 (t9 (t4 r5))).1 (t9 (t9 (t5 r5))).1 (t9 (t9 (t6 r5))).1 (t9 (t9 (t7 r5))).1 (t9 (t9 (t8 r5))).1).bind fun r27 =>
              bif (!r27) then
               some false
              else
               bif (!((t9 (t9 (t9 r26))) == (t9 (t9 (t9 r5))))) then
                some false
               else
                (laws_heldTable.f k r9.1 r9.2.1 (t2 r9).1 (t3 r9).1 (t5 r21).1 (t6 r21).1 (t6 r9).1 (t7 r9).1 (t9 r21).1 (t9 r9).1 (t9 (t2 r21)).1 (t9 (t2 r9)).1 (t9 (t3 r9)).1 (t9 (t4 r9)).1 (t9 (t5 r9)).1 (t9 (t7 r21)).1 (t9 (t8 r21)).1 (t9 (t8 r9)).1 (t9 (t9 r9)).1 (t9 (t9 (t2 r21))).1 (t9 (t9 (t3 r21))).1 (t9 (t9 (t4 r21))).1 (t9 (t9 (t4 r9))).1 (t9 (t9 (t5 r9))).1 (t9 (t9 (t6 r9))).1 (t9 (t9 (t8 r21))).1 (t9 (t9 (t9 r21))) 1).bind fun r28 =>
                bif decide (r28 < 0) then
                 some false
                else
                 bif (r28 != r21.1) then
                  some false
                 else
                  some true
end Go.Proofs.YtbblolalkpfapaaGreat
