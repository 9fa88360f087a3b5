/- Plain Lean functions, printed by a program out of the Go functions' translation: what each computes, without program and memory. -/
import Derived.Test.YtfmmdbnkeadieaaFFnExactRecordOut
set_option linter.unusedVariables false
namespace Go.Proofs.Ytfmmdbnkeadieaa
open Go Go.Proofs.Ytfmmdbnkeadieaa.V

def laws_szPile.f (k : Nat) (a0 : LI) (a1 g : Int) : Option (Int) :=
 (laws_szIntS.f k a0 g).bind fun r1 =>
 bif decide (r1 < 0) then
  some (-1)
 else
  some r1

def laws_szPileS.s5 {R : Type} (k : Nat) (v0 : List (List Leaf)) (e0 e1 : Int → Option R) (rec : Int → Int → Option R) (v1 v2 : Int) : Option R :=
 bif decide (v2 < (v0.length : Int)) then
  chk ((decide (0 ≤ v2)) && (decide (v2 < (v0.length : Int)))) <|
  (laws_szPile.f k (gl (v0.getD v2.toNat []) 0) (gi (v0.getD v2.toNat []) 1) v1).bind fun r1 =>
  bif decide (r1 < 0) then
   e0 r1
  else
   rec r1 (IntKind.wrap .i64 (v2 + 1))
 else
  e1 v1
def laws_szPileS.l5 {R : Type} (k : Nat) (v0 : List (List Leaf)) (e0 e1 : Int → Option R) (n : Nat) (v1 v2 : Int) : Option R :=
 V.iter (A := Int × Int) (fun rec a => laws_szPileS.s5 k v0 e0 e1 (fun c0 c1 => rec (c0, c1)) a.1 a.2) n (v1, v2)
theorem laws_szPileS.l5_succ {R : Type} (k : Nat) (v0 : List (List Leaf)) (e0 e1 : Int → Option R) (n : Nat) (v1 v2 : Int) : laws_szPileS.l5 (R := R) k v0 e0 e1 (n + 1) v1 v2 = laws_szPileS.s5 k v0 e0 e1 (laws_szPileS.l5 k v0 e0 e1 n) v1 v2 := rfl
def laws_szPileS.f (k : Nat) (a : List (List Leaf)) (g : Int) : Option (Int) :=
 bif decide ((IntKind.wrap .i64 (g - (a.length : Int))) < 0) then
  some (-1)
 else
  laws_szPileS.l5 k a (fun x2 =>
   some (-1)) (fun x3 =>
   some x3) k (IntKind.wrap .i64 (g - (a.length : Int))) 0

def laws_szPatience.f (k : Nat) (a0 : List (List Leaf)) (a1 a2 a3 : LI) (g : Int) : Option (Int) :=
 (laws_szPileS.f k a0 g).bind fun r1 =>
 bif decide (r1 < 0) then
  some (-1)
 else
  (laws_szIntS.f k a1 r1).bind fun r2 =>
  bif decide (r2 < 0) then
   some (-1)
  else
   (laws_szIntS.f k a2 r2).bind fun r3 =>
   bif decide (r3 < 0) then
    some (-1)
   else
    (laws_szIntS.f k a3 r3).bind fun r4 =>
    bif decide (r4 < 0) then
     some (-1)
    else
     some r4

def spec_IsBase.s2 {R : Type} (k : Nat) (v0 : LI) (e0 e1 : Option R) (rec : Int → Option R) (v1 : Int) : Option R :=
 bif decide (v1 < (v0.length : Int)) then
  chk ((decide (0 ≤ v1)) && (decide (v1 < (v0.length : Int)))) <|
  (spec_l1In.f k (v0.getD v1.toNat 0) 0 13).bind fun r1 =>
  bif (!r1) then
   e0
  else
   rec (IntKind.wrap .i64 (v1 + 1))
 else
  e1
def spec_IsBase.l2 {R : Type} (k : Nat) (v0 : LI) (e0 e1 : Option R) (n : Nat) (v1 : Int) : Option R :=
 V.iter (A := Int) (fun rec a => spec_IsBase.s2 k v0 e0 e1 (fun c0 => rec c0) a) n v1
theorem spec_IsBase.l2_succ {R : Type} (k : Nat) (v0 : LI) (e0 e1 : Option R) (n : Nat) (v1 : Int) : spec_IsBase.l2 (R := R) k v0 e0 e1 (n + 1) v1 = spec_IsBase.s2 k v0 e0 e1 (spec_IsBase.l2 k v0 e0 e1 n) v1 := rfl
def spec_IsBase.f (k : Nat) (a : LI) : Option (Bool) :=
 spec_IsBase.l2 k a (some false) (some ((a.length : Int) == 4)) k 0

def spec_StepOf.f (k : Nat) (a : Int) : Option (Int) :=
 (spec_IsCard.f k a).bind fun r1 =>
 bif (!r1) then
  some 0
 else
  (spec_RankOf.f k a).bind fun r2 =>
  some (IntKind.wrap .i64 (((IntKind.wrap .i64 (r2 + 1)).tmod 13) + 1))

def spec_BaseCards.s3 {R : Type} (k : Nat) (v0 : LI) (e0 : LI → Option R) (rec : Int → LI → Option R) (v1 : Int) (v2 : LI) : Option R :=
 bif decide (v1 < 52) then
  (spec_IsBase.f k v0).bind fun r1 =>
  bif r1 then
   (spec_StepOf.f k v1).bind fun r2 =>
   (spec_SuitOf.f k v1).bind fun r3 =>
   chk ((decide (0 ≤ r3)) && (decide (r3 < (v0.length : Int)))) <|
   bif decide (r2 ≤ (v0.getD r3.toNat 0)) then
    chk (decide ((v2.length + 1) * 8 ≤ room)) <|
    rec (IntKind.wrap .i64 (v1 + 1)) (v2 ++ [v1])
   else
    rec (IntKind.wrap .i64 (v1 + 1)) v2
  else
   e0 v2
 else
  e0 v2
def spec_BaseCards.l3 {R : Type} (k : Nat) (v0 : LI) (e0 : LI → Option R) (n : Nat) (v1 : Int) (v2 : LI) : Option R :=
 V.iter (A := Int × LI) (fun rec a => spec_BaseCards.s3 k v0 e0 (fun c0 c1 => rec (c0, c1)) a.1 a.2) n (v1, v2)
theorem spec_BaseCards.l3_succ {R : Type} (k : Nat) (v0 : LI) (e0 : LI → Option R) (n : Nat) (v1 : Int) (v2 : LI) : spec_BaseCards.l3 (R := R) k v0 e0 (n + 1) v1 v2 = spec_BaseCards.s3 k v0 e0 (spec_BaseCards.l3 k v0 e0 n) v1 v2 := rfl
def spec_BaseCards.f (k : Nat) (a : LI) : Option (LI) :=
 spec_BaseCards.l3 k a (fun x4 =>
  some x4) k 0 []

def spec_l16Step.f (k : Nat) (a g : Int) : Option (Bool) :=
 (spec_RankOf.f k a).bind fun r1 =>
 (spec_RankOf.f k g).bind fun r2 =>
 bif (r1 == (IntKind.wrap .i64 (r2 + 1))) then
  (spec_IsRed.f k a).bind fun r3 =>
  (spec_IsRed.f k g).bind fun r4 =>
  some (!(r3 == r4))
 else
  some false

def spec_IsPile.s4 {R : Type} (k : Nat) (v1 : LI) (e0 e1 : Option R) (rec : Int → Option R) (v0 : Int) : Option R :=
 bif decide (v0 < (v1.length : Int)) then
  chk ((decide (0 ≤ (IntKind.wrap .i64 (v0 - 1)))) && (decide ((IntKind.wrap .i64 (v0 - 1)) < (v1.length : Int)))) <|
  chk ((decide (0 ≤ v0)) && (decide (v0 < (v1.length : Int)))) <|
  (spec_l16Step.f k (v1.getD ((IntKind.wrap .i64 (v0 - 1)).toNat) 0) (v1.getD v0.toNat 0)).bind fun r3 =>
  bif (!r3) then
   e0
  else
   rec (IntKind.wrap .i64 (v0 + 1))
 else
  e1
def spec_IsPile.l4 {R : Type} (k : Nat) (v1 : LI) (e0 e1 : Option R) (n : Nat) (v0 : Int) : Option R :=
 V.iter (A := Int) (fun rec a => spec_IsPile.s4 k v1 e0 e1 (fun c0 => rec c0) a) n v0
theorem spec_IsPile.l4_succ {R : Type} (k : Nat) (v1 : LI) (e0 e1 : Option R) (n : Nat) (v0 : Int) : spec_IsPile.l4 (R := R) k v1 e0 e1 (n + 1) v0 = spec_IsPile.s4 k v1 e0 e1 (spec_IsPile.l4 k v1 e0 e1 n) v0 := rfl
def spec_IsPile.f (k : Nat) (a0 : LI) (a1 : Int) : Option (Bool) :=
 (spec_IsHand.f k a0).bind fun r1 =>
 bif (!r1) then
  some false
 else
  (spec_l1In.f k a1 0 (a0.length : Int)).bind fun r2 =>
  bif (!r2) then
   some false
  else
   spec_IsPile.l4 k a0 (some false) (some true) k (IntKind.wrap .i64 (a1 + 1))

def spec_IsPatience.s5 {R : Type} (k : Nat) (v1 : List (List Leaf)) (e0 e1 : LI → Option R) (rec : Int → LI → Option R) (v0 : Int) (v5 : LI) : Option R :=
 bif decide (v0 < (v1.length : Int)) then
  chk ((decide (0 ≤ v0)) && (decide (v0 < (v1.length : Int)))) <|
  (spec_IsPile.f k (gl (v1.getD v0.toNat []) 0) (gi (v1.getD v0.toNat []) 1)).bind fun r4 =>
  bif (!r4) then
   e0 v5
  else
   bif decide (((gl (v1.getD v0.toNat []) 0).length : Int) > 0) then
    bif ((gi (v1.getD v0.toNat []) 1) == ((gl (v1.getD v0.toNat []) 0).length : Int)) then
     e0 v5
    else
     chk (decide ((v5.length + ((gl (v1.getD v0.toNat []) 0).length)) * 8 ≤ room)) <|
     rec (IntKind.wrap .i64 (v0 + 1)) (v5 ++ (gl (v1.getD v0.toNat []) 0))
   else
    chk (decide ((v5.length + ((gl (v1.getD v0.toNat []) 0).length)) * 8 ≤ room)) <|
    rec (IntKind.wrap .i64 (v0 + 1)) (v5 ++ (gl (v1.getD v0.toNat []) 0))
 else
  e1 v5
def spec_IsPatience.l5 {R : Type} (k : Nat) (v1 : List (List Leaf)) (e0 e1 : LI → Option R) (n : Nat) (v0 : Int) (v5 : LI) : Option R :=
 V.iter (A := Int × LI) (fun rec a => spec_IsPatience.s5 k v1 e0 e1 (fun c0 c1 => rec (c0, c1)) a.1 a.2) n (v0, v5)
theorem spec_IsPatience.l5_succ {R : Type} (k : Nat) (v1 : List (List Leaf)) (e0 e1 : LI → Option R) (n : Nat) (v0 : Int) (v5 : LI) : spec_IsPatience.l5 (R := R) k v1 e0 e1 (n + 1) v0 v5 = spec_IsPatience.s5 k v1 e0 e1 (spec_IsPatience.l5 k v1 e0 e1 n) v0 v5 := rfl
def spec_IsPatience.f (k : Nat) (a0 : List (List Leaf)) (a1 a2 a3 : LI) : Option (Bool) :=
 (spec_l1In.f k (a0.length : Int) 1 7).bind fun r1 =>
 bif (!r1) then
  some false
 else
  (spec_IsBase.f k a1).bind fun r2 =>
  bif (!r2) then
   some false
  else
   (spec_BaseCards.f k a1).bind fun r3 =>
   chk (decide ((r3.length + a2.length) * 8 ≤ room)) <|
   chk (decide ((((r3 ++ a2).length) + a3.length) * 8 ≤ room)) <|
   spec_IsPatience.l5 k a0 (fun x5 =>
    some false) (fun x6 =>
    (spec_IsHand.f k x6).bind fun r7 =>
    bif r7 then
     some ((x6.length : Int) == 52)
    else
     some false) k 0 ((r3 ++ a2) ++ a3)

def spec_OpenCards.f (k : Nat) (a0 : LI) (a1 : Int) : Option (Int) :=
 (spec_IsPile.f k a0 a1).bind fun r1 =>
 bif (!r1) then
  some 0
 else
  some (IntKind.wrap .i64 ((a0.length : Int) - a1))

def spec_OpenShare.s5 {R : Type} (k : Nat) (v2 : List (List Leaf)) (e0 : Int → Option R) (rec : Int → Int → Option R) (v0 v1 : Int) : Option R :=
 bif decide (v1 < (v2.length : Int)) then
  chk ((decide (0 ≤ v1)) && (decide (v1 < (v2.length : Int)))) <|
  (spec_OpenCards.f k (gl (v2.getD v1.toNat []) 0) (gi (v2.getD v1.toNat []) 1)).bind fun r3 =>
  rec (IntKind.wrap .i64 (v0 + r3)) (IntKind.wrap .i64 (v1 + 1))
 else
  e0 v0
def spec_OpenShare.l5 {R : Type} (k : Nat) (v2 : List (List Leaf)) (e0 : Int → Option R) (n : Nat) (v0 v1 : Int) : Option R :=
 V.iter (A := Int × Int) (fun rec a => spec_OpenShare.s5 k v2 e0 (fun c0 c1 => rec (c0, c1)) a.1 a.2) n (v0, v1)
theorem spec_OpenShare.l5_succ {R : Type} (k : Nat) (v2 : List (List Leaf)) (e0 : Int → Option R) (n : Nat) (v0 v1 : Int) : spec_OpenShare.l5 (R := R) k v2 e0 (n + 1) v0 v1 = spec_OpenShare.s5 k v2 e0 (spec_OpenShare.l5 k v2 e0 n) v0 v1 := rfl
def spec_OpenShare.f (k : Nat) (a0 : List (List Leaf)) (a1 a2 a3 : LI) : Option (Int) :=
 (spec_IsPatience.f k a0 a1 a2 a3).bind fun r1 =>
 bif (!r1) then
  some 0
 else
  (spec_BaseCards.f k a1).bind fun r2 =>
  spec_OpenShare.l5 k a0 (fun x4 =>
   some (IntKind.wrap .i64 ((IntKind.wrap .i64 (100 * x4)).tdiv 52))) k (IntKind.wrap .i64 ((a3.length : Int) + (r2.length : Int))) 0

def laws_toPile.f (k : Nat) (a0 : LI) (a1 : Int) : Option (LI × Int) :=
 (laws_toIntS.f k a0).bind fun r1 =>
 some (r1, a1)

def laws_toPileS.s3 {R : Type} (k : Nat) (v0 : List (List Leaf)) (e0 : List (List Leaf) → Option R) (rec : Int → List (List Leaf) → Option R) (v1 : Int) (v2 : List (List Leaf)) : Option R :=
 bif decide (v1 < (v0.length : Int)) then
  chk ((decide (0 ≤ v1)) && (decide (v1 < (v0.length : Int)))) <|
  (laws_toPile.f k (gl (v0.getD v1.toNat []) 0) (gi (v0.getD v1.toNat []) 1)).bind fun r1 =>
  chk ((decide (0 ≤ v1)) && (decide (v1 < (v2.length : Int)))) <|
  rec (IntKind.wrap .i64 (v1 + 1)) (v2.set v1.toNat [.ints r1.1, .int r1.2])
 else
  e0 v2
def laws_toPileS.l3 {R : Type} (k : Nat) (v0 : List (List Leaf)) (e0 : List (List Leaf) → Option R) (n : Nat) (v1 : Int) (v2 : List (List Leaf)) : Option R :=
 V.iter (A := Int × List (List Leaf)) (fun rec a => laws_toPileS.s3 k v0 e0 (fun c0 c1 => rec (c0, c1)) a.1 a.2) n (v1, v2)
theorem laws_toPileS.l3_succ {R : Type} (k : Nat) (v0 : List (List Leaf)) (e0 : List (List Leaf) → Option R) (n : Nat) (v1 : Int) (v2 : List (List Leaf)) : laws_toPileS.l3 (R := R) k v0 e0 (n + 1) v1 v2 = laws_toPileS.s3 k v0 e0 (laws_toPileS.l3 k v0 e0 n) v1 v2 := rfl
def laws_toPileS.f (k : Nat) (a : List (List Leaf)) : Option (List (List Leaf)) :=
 chk ((decide (0 ≤ (a.length : Int))) && (decide (((a.length : Int).toNat) * 32 ≤ room))) <|
 laws_toPileS.l3 k a (fun x2 =>
  some x2) k 0 (List.replicate ((a.length : Int).toNat) ([true, false].map zeroLeaf))

def laws_toPatience.f (k : Nat) (a0 : List (List Leaf)) (a1 a2 a3 : LI) : Option (List (List Leaf) × LI × LI × LI) :=
 (laws_toPileS.f k a0).bind fun r1 =>
 (laws_toIntS.f k a1).bind fun r2 =>
 (laws_toIntS.f k a2).bind fun r3 =>
 (laws_toIntS.f k a3).bind fun r4 =>
 some (r1, r2, r3, r4)

def impl_allIn.s2 {R : Type} (k : Nat) (v0 v1 : Int) (v2 : LI) (v3 : Int) (e0 e1 : Option R) (rec : Int → Option R) (v4 : Int) : Option R :=
 bif decide (v4 < v3) then
  chk ((decide (0 ≤ v4)) && (decide (v4 < (v2.length : Int)))) <|
  (impl_InRange.f k (v2.getD v4.toNat 0) v0 v1).bind fun r1 =>
  bif (!r1) then
   e0
  else
   rec (IntKind.wrap .i64 (v4 + 1))
 else
  e1
def impl_allIn.l2 {R : Type} (k : Nat) (v0 v1 : Int) (v2 : LI) (v3 : Int) (e0 e1 : Option R) (n : Nat) (v4 : Int) : Option R :=
 V.iter (A := Int) (fun rec a => impl_allIn.s2 k v0 v1 v2 v3 e0 e1 (fun c0 => rec c0) a) n v4
theorem impl_allIn.l2_succ {R : Type} (k : Nat) (v0 v1 : Int) (v2 : LI) (v3 : Int) (e0 e1 : Option R) (n : Nat) (v4 : Int) : impl_allIn.l2 (R := R) k v0 v1 v2 v3 e0 e1 (n + 1) v4 = impl_allIn.s2 k v0 v1 v2 v3 e0 e1 (impl_allIn.l2 k v0 v1 v2 v3 e0 e1 n) v4 := rfl
def impl_allIn.f (k : Nat) (a : LI) (g i : Int) : Option (Bool) :=
 impl_allIn.l2 k g i a (a.length : Int) (some false) (some true) k 0

def impl_IsBase.f (k : Nat) (a : LI) : Option (Bool) :=
 bif ((a.length : Int) == 4) then
  (impl_allIn.f k a 0 13).bind fun r1 =>
  some r1
 else
  some false

def impl_StepOf.f (k : Nat) (a : Int) : Option (Int) :=
 (impl_RankOf.f k a).bind fun r1 =>
 bif (r1 == (-1)) then
  some 0
 else
  bif (r1 == 12) then
   some 1
  else
   some (IntKind.wrap .i64 (r1 + 2))

def impl_BaseCards.s5 {R : Type} (k : Nat) (v0 : LI) (e0 : LI → Option R) (rec : Int → LI → Option R) (v1 : Int) (v2 : LI) : Option R :=
 bif decide (v1 < 52) then
  (impl_StepOf.f k v1).bind fun r2 =>
  (impl_SuitOf.f k v1).bind fun r3 =>
  chk ((decide (0 ≤ r3)) && (decide (r3 < (v0.length : Int)))) <|
  bif decide (r2 ≤ (v0.getD r3.toNat 0)) then
   chk (decide ((v2.length + 1) * 8 ≤ room)) <|
   rec (IntKind.wrap .i64 (v1 + 1)) (v2 ++ [v1])
  else
   rec (IntKind.wrap .i64 (v1 + 1)) v2
 else
  e0 v2
def impl_BaseCards.l5 {R : Type} (k : Nat) (v0 : LI) (e0 : LI → Option R) (n : Nat) (v1 : Int) (v2 : LI) : Option R :=
 V.iter (A := Int × LI) (fun rec a => impl_BaseCards.s5 k v0 e0 (fun c0 c1 => rec (c0, c1)) a.1 a.2) n (v1, v2)
theorem impl_BaseCards.l5_succ {R : Type} (k : Nat) (v0 : LI) (e0 : LI → Option R) (n : Nat) (v1 : Int) (v2 : LI) : impl_BaseCards.l5 (R := R) k v0 e0 (n + 1) v1 v2 = impl_BaseCards.s5 k v0 e0 (impl_BaseCards.l5 k v0 e0 n) v1 v2 := rfl
def impl_BaseCards.f (k : Nat) (a : LI) : Option (LI) :=
 (impl_IsBase.f k a).bind fun r1 =>
 bif (!r1) then
  some ([])
 else
  impl_BaseCards.l5 k a (fun x4 =>
   some x4) k 0 []

def impl_goesOn.f (k : Nat) (a g : Int) : Option (Bool) :=
 (impl_RankOf.f k g).bind fun r1 =>
 (impl_RankOf.f k a).bind fun r2 =>
 bif (r1 == (IntKind.wrap .i64 (r2 - 1))) then
  (impl_IsRed.f k g).bind fun r3 =>
  (impl_IsRed.f k a).bind fun r4 =>
  some (!(r3 == r4))
 else
  some false

def impl_IsPile.s4 {R : Type} (k : Nat) (v1 : LI) (e0 e1 : Option R) (rec : Int → Option R) (v0 : Int) : Option R :=
 bif decide (v0 < (v1.length : Int)) then
  chk ((decide (0 ≤ (IntKind.wrap .i64 (v0 - 1)))) && (decide ((IntKind.wrap .i64 (v0 - 1)) < (v1.length : Int)))) <|
  chk ((decide (0 ≤ v0)) && (decide (v0 < (v1.length : Int)))) <|
  (impl_goesOn.f k (v1.getD ((IntKind.wrap .i64 (v0 - 1)).toNat) 0) (v1.getD v0.toNat 0)).bind fun r3 =>
  bif (!r3) then
   e0
  else
   rec (IntKind.wrap .i64 (v0 + 1))
 else
  e1
def impl_IsPile.l4 {R : Type} (k : Nat) (v1 : LI) (e0 e1 : Option R) (n : Nat) (v0 : Int) : Option R :=
 V.iter (A := Int) (fun rec a => impl_IsPile.s4 k v1 e0 e1 (fun c0 => rec c0) a) n v0
theorem impl_IsPile.l4_succ {R : Type} (k : Nat) (v1 : LI) (e0 e1 : Option R) (n : Nat) (v0 : Int) : impl_IsPile.l4 (R := R) k v1 e0 e1 (n + 1) v0 = impl_IsPile.s4 k v1 e0 e1 (impl_IsPile.l4 k v1 e0 e1 n) v0 := rfl
def impl_IsPile.f (k : Nat) (a0 : LI) (a1 : Int) : Option (Bool) :=
 (impl_IsHand.f k a0).bind fun r1 =>
 bif (!r1) then
  some false
 else
  (impl_InRange.f k a1 0 (a0.length : Int)).bind fun r2 =>
  bif (!r2) then
   some false
  else
   impl_IsPile.l4 k a0 (some false) (some true) k (IntKind.wrap .i64 (a1 + 1))

def impl_OpenCards.f (k : Nat) (a0 : LI) (a1 : Int) : Option (Int) :=
 (impl_IsPile.f k a0 a1).bind fun r1 =>
 bif (!r1) then
  some 0
 else
  some (IntKind.wrap .i64 ((a0.length : Int) - a1))

def impl_IsPatience.s5 {R : Type} (k : Nat) (v0 : List (List Leaf)) (v1 : Int) (e0 e1 : LL → Option R) (rec : Int → LL → Option R) (v2 : Int) (v3 : LL) : Option R :=
 bif decide (v2 < v1) then
  chk ((decide (0 ≤ v2)) && (decide (v2 < (v0.length : Int)))) <|
  (impl_IsPile.f k (gl (v0.getD v2.toNat []) 0) (gi (v0.getD v2.toNat []) 1)).bind fun r4 =>
  bif (!r4) then
   e0 v3
  else
   bif decide (((gl (v0.getD v2.toNat []) 0).length : Int) > 0) then
    (impl_OpenCards.f k (gl (v0.getD v2.toNat []) 0) (gi (v0.getD v2.toNat []) 1)).bind fun r5 =>
    bif (r5 == 0) then
     e0 v3
    else
     chk (decide ((v3.length + 1) * 24 ≤ room)) <|
     rec (IntKind.wrap .i64 (v2 + 1)) (v3 ++ ([gl (v0.getD v2.toNat []) 0]))
   else
    chk (decide ((v3.length + 1) * 24 ≤ room)) <|
    rec (IntKind.wrap .i64 (v2 + 1)) (v3 ++ ([gl (v0.getD v2.toNat []) 0]))
 else
  e1 v3
def impl_IsPatience.l5 {R : Type} (k : Nat) (v0 : List (List Leaf)) (v1 : Int) (e0 e1 : LL → Option R) (n : Nat) (v2 : Int) (v3 : LL) : Option R :=
 V.iter (A := Int × LL) (fun rec a => impl_IsPatience.s5 k v0 v1 e0 e1 (fun c0 c1 => rec (c0, c1)) a.1 a.2) n (v2, v3)
theorem impl_IsPatience.l5_succ {R : Type} (k : Nat) (v0 : List (List Leaf)) (v1 : Int) (e0 e1 : LL → Option R) (n : Nat) (v2 : Int) (v3 : LL) : impl_IsPatience.l5 (R := R) k v0 v1 e0 e1 (n + 1) v2 v3 = impl_IsPatience.s5 k v0 v1 e0 e1 (impl_IsPatience.l5 k v0 v1 e0 e1 n) v2 v3 := rfl
def impl_IsPatience.f (k : Nat) (a0 : List (List Leaf)) (a1 a2 a3 : LI) : Option (Bool) :=
 (impl_InRange.f k (a0.length : Int) 1 7).bind fun r1 =>
 bif (!r1) then
  some false
 else
  (impl_IsBase.f k a1).bind fun r2 =>
  bif (!r2) then
   some false
  else
   (impl_BaseCards.f k a1).bind fun r3 =>
   impl_IsPatience.l5 k a0 (a0.length : Int) (fun x6 =>
    some false) (fun x7 =>
    (impl_isWhole.f k x7).bind fun r8 =>
    some r8) k 0 [a2, a3, r3]

def impl_OpenShare.s5 {R : Type} (k : Nat) (v1 : List (List Leaf)) (v2 : Int) (e0 : Int → Option R) (rec : Int → Int → Option R) (v0 v3 : Int) : Option R :=
 bif decide (v3 < v2) then
  chk ((decide (0 ≤ v3)) && (decide (v3 < (v1.length : Int)))) <|
  (impl_OpenCards.f k (gl (v1.getD v3.toNat []) 0) (gi (v1.getD v3.toNat []) 1)).bind fun r3 =>
  rec (IntKind.wrap .i64 (v0 + r3)) (IntKind.wrap .i64 (v3 + 1))
 else
  e0 v0
def impl_OpenShare.l5 {R : Type} (k : Nat) (v1 : List (List Leaf)) (v2 : Int) (e0 : Int → Option R) (n : Nat) (v0 v3 : Int) : Option R :=
 V.iter (A := Int × Int) (fun rec a => impl_OpenShare.s5 k v1 v2 e0 (fun c0 c1 => rec (c0, c1)) a.1 a.2) n (v0, v3)
theorem impl_OpenShare.l5_succ {R : Type} (k : Nat) (v1 : List (List Leaf)) (v2 : Int) (e0 : Int → Option R) (n : Nat) (v0 v3 : Int) : impl_OpenShare.l5 (R := R) k v1 v2 e0 (n + 1) v0 v3 = impl_OpenShare.s5 k v1 v2 e0 (impl_OpenShare.l5 k v1 v2 e0 n) v0 v3 := rfl
def impl_OpenShare.f (k : Nat) (a0 : List (List Leaf)) (a1 a2 a3 : LI) : Option (Int) :=
 (impl_IsPatience.f k a0 a1 a2 a3).bind fun r1 =>
 bif (!r1) then
  some 0
 else
  (impl_BaseCards.f k a1).bind fun r2 =>
  impl_OpenShare.l5 k a0 (a0.length : Int) (fun x4 =>
   some (IntKind.wrap .i64 ((IntKind.wrap .i64 (100 * x4)).tdiv 52))) k (IntKind.wrap .i64 ((a3.length : Int) + (r2.length : Int))) 0

def laws_eqPile.f (k : Nat) (a0 : LI) (a1 : Int) (g0 : LI) (g1 : Int) : Option (Bool) :=
 (laws_eqIntS.f k a0 g0).bind fun r1 =>
 bif (!r1) then
  some false
 else
  bif (a1 != g1) then
   some false
  else
   some true

def laws_eqPileS.s4 {R : Type} (k : Nat) (v0 : List (List Leaf)) (v1 : List (List Leaf)) (e0 e1 : Option R) (rec : Int → Option R) (v2 : Int) : Option R :=
 bif decide (v2 < (v0.length : Int)) then
  chk ((decide (0 ≤ v2)) && (decide (v2 < (v0.length : Int)))) <|
  chk ((decide (0 ≤ v2)) && (decide (v2 < (v1.length : Int)))) <|
  (laws_eqPile.f k (gl (v0.getD v2.toNat []) 0) (gi (v0.getD v2.toNat []) 1) (gl (v1.getD v2.toNat []) 0) (gi (v1.getD v2.toNat []) 1)).bind fun r1 =>
  bif (!r1) then
   e0
  else
   rec (IntKind.wrap .i64 (v2 + 1))
 else
  e1
def laws_eqPileS.l4 {R : Type} (k : Nat) (v0 : List (List Leaf)) (v1 : List (List Leaf)) (e0 e1 : Option R) (n : Nat) (v2 : Int) : Option R :=
 V.iter (A := Int) (fun rec a => laws_eqPileS.s4 k v0 v1 e0 e1 (fun c0 => rec c0) a) n v2
theorem laws_eqPileS.l4_succ {R : Type} (k : Nat) (v0 : List (List Leaf)) (v1 : List (List Leaf)) (e0 e1 : Option R) (n : Nat) (v2 : Int) : laws_eqPileS.l4 (R := R) k v0 v1 e0 e1 (n + 1) v2 = laws_eqPileS.s4 k v0 v1 e0 e1 (laws_eqPileS.l4 k v0 v1 e0 e1 n) v2 := rfl
def laws_eqPileS.f (k : Nat) (a : List (List Leaf)) (g : List (List Leaf)) : Option (Bool) :=
 bif ((a.length : Int) != (g.length : Int)) then
  some false
 else
  laws_eqPileS.l4 k a g (some false) (some true) k 0

def laws_eqPatience.f (k : Nat) (a0 : List (List Leaf)) (a1 a2 a3 : LI) (g0 : List (List Leaf)) (g1 g2 g3 : LI) : Option (Bool) :=
 (laws_eqPileS.f k a0 g0).bind fun r1 =>
 bif (!r1) then
  some false
 else
  (laws_eqIntS.f k a1 g1).bind fun r2 =>
  bif (!r2) then
   some false
  else
   (laws_eqIntS.f k a2 g2).bind fun r3 =>
   bif (!r3) then
    some false
   else
    (laws_eqIntS.f k a3 g3).bind fun r4 =>
    bif (!r4) then
     some false
    else
     some true

def laws_FnExactOpenShare.f (k : Nat) (a0 : List (List Leaf)) (a1 a2 a3 : LI) : Option (Bool) :=
 (laws_szPatience.f k a0 a1 a2 a3 1048576).bind fun r1 =>
 bif decide (r1 < 0) then
  some true
 else
  (laws_toPatience.f k a0 a1 a2 a3).bind fun r2 =>
  (spec_OpenShare.f k r2.1 r2.2.1 (t2 r2).1 (t3 r2)).bind fun r3 =>
  (laws_toPatience.f k a0 a1 a2 a3).bind fun r4 =>
  (impl_OpenShare.f k r4.1 r4.2.1 (t2 r4).1 (t3 r4)).bind fun r5 =>
  bif (r5 != r3) then
   some false
  else
   (laws_toPatience.f k a0 a1 a2 a3).bind fun r6 =>
   (laws_eqPatience.f k r4.1 r4.2.1 (t2 r4).1 (t3 r4) r6.1 r6.2.1 (t2 r6).1 (t3 r6)).bind fun r7 =>
   bif (!r7) then
    some false
   else
    some true
end Go.Proofs.Ytfmmdbnkeadieaa
