/- Plain Lean functions, printed by a program out of the Go functions' translation: what each computes, without program and memory. -/
import Derived.Test.YtfkejiljabmaaaaFFnExactWinsOf
import Derived.Test.YtfkejiljabmaaaaFFnExactWildShare
import Derived.Test.YtfkejiljabmaaaaFFnExactAverageMoves
import Derived.Test.YtfkejiljabmaaaaFFnExactCountEvents
import Derived.Test.YtfkejiljabmaaaaFFnExactIsRecorded
set_option linter.unusedVariables false
namespace Go.Proofs.Ytfkejiljabmaaaa
open Go Go.Proofs.Ytfkejiljabmaaaa.V

def spec_Mod.f (k : Nat) (a0 : Int) (a1 : Int) : Option (Int) :=
  (spec_l1In.f k a1 (1 : Int) (1000000000000 : Int)).bind fun r1 =>
  bif (!r1) then
    some (0 : Int)
  else
    chk (!(decide (a1 = (0 : Int)))) <|
    chk (!(decide (a1 = (0 : Int)))) <|
    some ((IntKind.wrap .i64 ((a0.tmod a1) + a1)).tmod a1)

def spec_Hash.s3 {R : Type} (k : Nat) (v3_0 : List Int) (e0 : Int → Option R) (rec : Int → Int → Option R) (v3_1 : Int) (v3_2 : Int) : Option R :=
  bif decide (v3_2 < (v3_0.length : Int)) then
    chk ((decide ((0 : Int) ≤ v3_2)) && (decide (v3_2 < (v3_0.length : Int)))) <|
    (spec_Mod.f k (v3_0.getD v3_2.toNat 0) (2147483647 : Int)).bind fun r1 =>
    rec ((IntKind.wrap .i64 ((IntKind.wrap .i64 ((IntKind.wrap .i64 (v3_1 * (1000003 : Int))) + r1)) + (13 : Int))).tmod (2147483647 : Int)) (IntKind.wrap .i64 (v3_2 + (1 : Int)))
  else
    e0 v3_1
def spec_Hash.l3 {R : Type} (k : Nat) (v3_0 : List Int) (e0 : Int → Option R) (n : Nat) (v3_1 : Int) (v3_2 : Int) : Option R :=
  V.iter (A := Int × Int) (fun rec a => spec_Hash.s3 k v3_0 e0 (fun c0 c1 => rec (c0, c1)) a.1 a.2) n (v3_1, v3_2)
theorem spec_Hash.l3_zero {R : Type} (k : Nat) (v3_0 : List Int) (e0 : Int → Option R) (v3_1 : Int) (v3_2 : Int) : spec_Hash.l3 (R := R) k v3_0 e0 0 v3_1 v3_2 = none := rfl
theorem spec_Hash.l3_succ {R : Type} (k : Nat) (v3_0 : List Int) (e0 : Int → Option R) (n : Nat) (v3_1 : Int) (v3_2 : Int) : spec_Hash.l3 (R := R) k v3_0 e0 (n + 1) v3_1 v3_2 = spec_Hash.s3 k v3_0 e0 (spec_Hash.l3 k v3_0 e0 n) v3_1 v3_2 := rfl
def spec_Hash.f (k : Nat) (a0 : List Int) : Option (Int) :=
  spec_Hash.l3 k a0 (fun x2 =>
    some x2) k (11 : Int) (0 : Int)

def spec_SeedSeal.f (k : Nat) (a0 : Int) (a1 : Int) (a2 : Int) : Option (Int) :=
  (spec_Hash.f k [a0, a1, a2]).bind fun r1 =>
  some r1

def spec_DealEvents.s6 {R : Type} (k : Nat) (v6_0 : List Int) (v6_1 : Int) (e0 : List (List Leaf) → List Int → Option R) (rec : Int → List (List Leaf) → List Int → Option R) (v6_2 : Int) (v6_3 : List (List Leaf)) (v6_4 : List Int) : Option R :=
  bif decide (v6_2 < (v6_0.length : Int)) then
    chk ((decide ((0 : Int) ≤ v6_2)) && (decide (v6_2 < (v6_0.length : Int)))) <|
    (spec_SeedSeal.f k v6_2 (v6_0.getD v6_2.toNat 0) v6_1).bind fun r2 =>
    chk (decide ((v6_3.length + 1) * 64 ≤ room)) <|
    chk (decide ((v6_4.length + 1) * 8 ≤ room)) <|
    rec (IntKind.wrap .i64 (v6_2 + (1 : Int))) (v6_3 ++ ([[.int (1 : Int), .int r2, .ints [], .ints []]])) (v6_4 ++ [v6_1])
  else
    e0 v6_3 v6_4
def spec_DealEvents.l6 {R : Type} (k : Nat) (v6_0 : List Int) (v6_1 : Int) (e0 : List (List Leaf) → List Int → Option R) (n : Nat) (v6_2 : Int) (v6_3 : List (List Leaf)) (v6_4 : List Int) : Option R :=
  V.iter (A := Int × List (List Leaf) × List Int) (fun rec a => spec_DealEvents.s6 k v6_0 v6_1 e0 (fun c0 c1 c2 => rec (c0, c1, c2)) a.1 a.2.1 a.2.2) n (v6_2, v6_3, v6_4)
theorem spec_DealEvents.l6_zero {R : Type} (k : Nat) (v6_0 : List Int) (v6_1 : Int) (e0 : List (List Leaf) → List Int → Option R) (v6_2 : Int) (v6_3 : List (List Leaf)) (v6_4 : List Int) : spec_DealEvents.l6 (R := R) k v6_0 v6_1 e0 0 v6_2 v6_3 v6_4 = none := rfl
theorem spec_DealEvents.l6_succ {R : Type} (k : Nat) (v6_0 : List Int) (v6_1 : Int) (e0 : List (List Leaf) → List Int → Option R) (n : Nat) (v6_2 : Int) (v6_3 : List (List Leaf)) (v6_4 : List Int) : spec_DealEvents.l6 (R := R) k v6_0 v6_1 e0 (n + 1) v6_2 v6_3 v6_4 = spec_DealEvents.s6 k v6_0 v6_1 e0 (spec_DealEvents.l6 k v6_0 v6_1 e0 n) v6_2 v6_3 v6_4 := rfl
def spec_DealEvents.f (k : Nat) (a0_0 : Int) (a0_1 : Int) (a0_2 : Bool) (a0_3 : Bool) (a0_4 : List Int) (a0_5 : List Int) (a0_6 : Int) (a0_7 : Int) (a1 : List Int) (a2 : Int) : Option (List (List Leaf)) :=
  (spec_IsRules.f k a0_0 a0_1 a0_2 a0_3 a0_4 a0_5 a0_6 a0_7).bind fun r1 =>
  bif (!r1) then
    some ([])
  else
    bif ((a1.length : Int) != a0_0) then
      some ([])
    else
      spec_DealEvents.l6 k a1 a2 (fun x3 x4 =>
        chk (decide ((0 + a1.length) * 8 ≤ room)) <|
        chk (decide ((x3.length + 1) * 64 ≤ room)) <|
        some (x3 ++ ([[.int (2 : Int), .int (0 : Int), .ints ([] ++ a1), .ints x4]]))) k (0 : Int) [] []

def impl_Mod.f (k : Nat) (a0 : Int) (a1 : Int) : Option (Int) :=
  (impl_InRange.f k a1 (1 : Int) (1000000000000 : Int)).bind fun r1 =>
  bif (!r1) then
    some (0 : Int)
  else
    chk (!(decide (a1 = (0 : Int)))) <|
    chk (!(decide (a1 = (0 : Int)))) <|
    some ((IntKind.wrap .i64 ((a0.tmod a1) + a1)).tmod a1)

def impl_Hash.s3 {R : Type} (k : Nat) (v3_1 : List Int) (v3_2 : Int) (e0 : Int → Option R) (rec : Int → Int → Option R) (v3_0 : Int) (v3_3 : Int) : Option R :=
  bif decide (v3_3 < v3_2) then
    chk ((decide ((0 : Int) ≤ v3_3)) && (decide (v3_3 < (v3_1.length : Int)))) <|
    (impl_Mod.f k (v3_1.getD v3_3.toNat 0) (2147483647 : Int)).bind fun r1 =>
    rec ((IntKind.wrap .i64 ((IntKind.wrap .i64 ((IntKind.wrap .i64 (v3_0 * (1000003 : Int))) + r1)) + (13 : Int))).tmod (2147483647 : Int)) (IntKind.wrap .i64 (v3_3 + (1 : Int)))
  else
    e0 v3_0
def impl_Hash.l3 {R : Type} (k : Nat) (v3_1 : List Int) (v3_2 : Int) (e0 : Int → Option R) (n : Nat) (v3_0 : Int) (v3_3 : Int) : Option R :=
  V.iter (A := Int × Int) (fun rec a => impl_Hash.s3 k v3_1 v3_2 e0 (fun c0 c1 => rec (c0, c1)) a.1 a.2) n (v3_0, v3_3)
theorem impl_Hash.l3_zero {R : Type} (k : Nat) (v3_1 : List Int) (v3_2 : Int) (e0 : Int → Option R) (v3_0 : Int) (v3_3 : Int) : impl_Hash.l3 (R := R) k v3_1 v3_2 e0 0 v3_0 v3_3 = none := rfl
theorem impl_Hash.l3_succ {R : Type} (k : Nat) (v3_1 : List Int) (v3_2 : Int) (e0 : Int → Option R) (n : Nat) (v3_0 : Int) (v3_3 : Int) : impl_Hash.l3 (R := R) k v3_1 v3_2 e0 (n + 1) v3_0 v3_3 = impl_Hash.s3 k v3_1 v3_2 e0 (impl_Hash.l3 k v3_1 v3_2 e0 n) v3_0 v3_3 := rfl
def impl_Hash.f (k : Nat) (a0 : List Int) : Option (Int) :=
  impl_Hash.l3 k a0 (a0.length : Int) (fun x2 =>
    some x2) k (11 : Int) (0 : Int)

def impl_SeedSeal.f (k : Nat) (a0 : Int) (a1 : Int) (a2 : Int) : Option (Int) :=
  (impl_Hash.f k [a0, a1, a2]).bind fun r1 =>
  some r1

def impl_copyOf.f (k : Nat) (a0 : List Int) : Option (List Int) :=
  chk (decide ((0 + a0.length) * 8 ≤ room)) <|
  some ([] ++ a0)

def impl_DealEvents.s5 {R : Type} (k : Nat) (v5_1 : Int) (v5_2 : List Int) (v5_3 : Int) (e0 : List (List Leaf) → List Int → Option R) (rec : Int → List (List Leaf) → List Int → Option R) (v5_4 : Int) (v5_5 : List (List Leaf)) (v5_6 : List Int) : Option R :=
  bif decide (v5_4 < v5_3) then
    chk ((decide ((0 : Int) ≤ v5_4)) && (decide (v5_4 < (v5_2.length : Int)))) <|
    (impl_SeedSeal.f k v5_4 (v5_2.getD v5_4.toNat 0) v5_1).bind fun r2 =>
    chk (decide ((v5_5.length + 1) * 64 ≤ room)) <|
    chk (decide ((v5_6.length + 1) * 8 ≤ room)) <|
    rec (IntKind.wrap .i64 (v5_4 + (1 : Int))) (v5_5 ++ ([[.int (1 : Int), .int r2, .ints [], .ints []]])) (v5_6 ++ [v5_1])
  else
    e0 v5_5 v5_6
def impl_DealEvents.l5 {R : Type} (k : Nat) (v5_1 : Int) (v5_2 : List Int) (v5_3 : Int) (e0 : List (List Leaf) → List Int → Option R) (n : Nat) (v5_4 : Int) (v5_5 : List (List Leaf)) (v5_6 : List Int) : Option R :=
  V.iter (A := Int × List (List Leaf) × List Int) (fun rec a => impl_DealEvents.s5 k v5_1 v5_2 v5_3 e0 (fun c0 c1 c2 => rec (c0, c1, c2)) a.1 a.2.1 a.2.2) n (v5_4, v5_5, v5_6)
theorem impl_DealEvents.l5_zero {R : Type} (k : Nat) (v5_1 : Int) (v5_2 : List Int) (v5_3 : Int) (e0 : List (List Leaf) → List Int → Option R) (v5_4 : Int) (v5_5 : List (List Leaf)) (v5_6 : List Int) : impl_DealEvents.l5 (R := R) k v5_1 v5_2 v5_3 e0 0 v5_4 v5_5 v5_6 = none := rfl
theorem impl_DealEvents.l5_succ {R : Type} (k : Nat) (v5_1 : Int) (v5_2 : List Int) (v5_3 : Int) (e0 : List (List Leaf) → List Int → Option R) (n : Nat) (v5_4 : Int) (v5_5 : List (List Leaf)) (v5_6 : List Int) : impl_DealEvents.l5 (R := R) k v5_1 v5_2 v5_3 e0 (n + 1) v5_4 v5_5 v5_6 = impl_DealEvents.s5 k v5_1 v5_2 v5_3 e0 (impl_DealEvents.l5 k v5_1 v5_2 v5_3 e0 n) v5_4 v5_5 v5_6 := rfl
def impl_DealEvents.f (k : Nat) (a0_0 : Int) (a0_1 : Int) (a0_2 : Bool) (a0_3 : Bool) (a0_4 : List Int) (a0_5 : List Int) (a0_6 : Int) (a0_7 : Int) (a1 : List Int) (a2 : Int) : Option (List (List Leaf)) :=
  (impl_IsRules.f k a0_0 a0_1 a0_2 a0_3 a0_4 a0_5 a0_6 a0_7).bind fun r1 =>
  bif (!r1) then
    some ([])
  else
    bif ((a1.length : Int) != a0_0) then
      some ([])
    else
      impl_DealEvents.l5 k a2 a1 (a1.length : Int) (fun x3 x4 =>
        (impl_copyOf.f k a1).bind fun r5 =>
        chk (decide ((x3.length + 1) * 64 ≤ room)) <|
        some (x3 ++ ([[.int (2 : Int), .int (0 : Int), .ints r5, .ints x4]]))) k (0 : Int) [] []

def laws_markIntS.s2 {R : Type} (k : Nat) (e0 : Int → List Int → Option R) (rec : Int → Int → List Int → Option R) (v2_0 : Int) (v2_1 : Int) (v2_2 : List Int) : Option R :=
  bif decide (v2_1 < (v2_2.length : Int)) then
    chk ((decide ((0 : Int) ≤ v2_1)) && (decide (v2_1 < (v2_2.length : Int)))) <|
    rec (IntKind.wrap .i64 (v2_0 + (1 : Int))) (IntKind.wrap .i64 (v2_1 + (1 : Int))) (v2_2.set v2_1.toNat v2_0)
  else
    e0 v2_0 v2_2
def laws_markIntS.l2 {R : Type} (k : Nat) (e0 : Int → List Int → Option R) (n : Nat) (v2_0 : Int) (v2_1 : Int) (v2_2 : List Int) : Option R :=
  V.iter (A := Int × Int × List Int) (fun rec a => laws_markIntS.s2 k e0 (fun c0 c1 c2 => rec (c0, c1, c2)) a.1 a.2.1 a.2.2) n (v2_0, v2_1, v2_2)
theorem laws_markIntS.l2_zero {R : Type} (k : Nat) (e0 : Int → List Int → Option R) (v2_0 : Int) (v2_1 : Int) (v2_2 : List Int) : laws_markIntS.l2 (R := R) k e0 0 v2_0 v2_1 v2_2 = none := rfl
theorem laws_markIntS.l2_succ {R : Type} (k : Nat) (e0 : Int → List Int → Option R) (n : Nat) (v2_0 : Int) (v2_1 : Int) (v2_2 : List Int) : laws_markIntS.l2 (R := R) k e0 (n + 1) v2_0 v2_1 v2_2 = laws_markIntS.s2 k e0 (laws_markIntS.l2 k e0 n) v2_0 v2_1 v2_2 := rfl
def laws_markIntS.f (k : Nat) (a0 : List Int) (a1 : Int) : Option (Int × List Int) :=
  laws_markIntS.l2 k (fun x1 x2 =>
    some (x1, x2)) k a1 (0 : Int) a0

def laws_markRules.f (k : Nat) (a0_0 : Int) (a0_1 : Int) (a0_2 : Bool) (a0_3 : Bool) (a0_4 : List Int) (a0_5 : List Int) (a0_6 : Int) (a0_7 : Int) (a1 : Int) : Option (Int × Int × Int × Bool × Bool × List Int × List Int × Int × Int) :=
  (laws_markIntS.f k a0_4 a1).bind fun r1 =>
  (laws_markIntS.f k a0_5 r1.1).bind fun r2 =>
  some (r2.1, a0_0, a0_1, a0_2, a0_3, r1.2, r2.2, a0_6, a0_7)

def laws_markEventS.s2 {R : Type} (k : Nat) (e0 : Int → List (List Leaf) → Option R) (rec : Int → Int → List (List Leaf) → Option R) (v2_0 : Int) (v2_1 : Int) (v2_2 : List (List Leaf)) : Option R :=
  bif decide (v2_1 < (v2_2.length : Int)) then
    chk ((decide ((0 : Int) ≤ v2_1)) && (decide (v2_1 < (v2_2.length : Int)))) <|
    (some (v2_2.set v2_1.toNat (setLeaf [false, false, true, true] (v2_2.getD v2_1.toNat []) 0 (.int v2_0)))).bind fun y1 =>
    chk ((decide ((0 : Int) ≤ v2_1)) && (decide (v2_1 < (y1.length : Int)))) <|
    (some (y1.set v2_1.toNat (setLeaf [false, false, true, true] (y1.getD v2_1.toNat []) 1 (.int (IntKind.wrap .i64 (v2_0 + (1 : Int))))))).bind fun y2 =>
    chk ((decide ((0 : Int) ≤ v2_1)) && (decide (v2_1 < (y2.length : Int)))) <|
    chk (Nat.blt v2_1.toNat y2.length) <|
    (laws_markIntS.f k (gl (y2.getD v2_1.toNat []) 2) (IntKind.wrap .i64 ((IntKind.wrap .i64 (v2_0 + (1 : Int))) + (1 : Int)))).bind fun r3 =>
    (some (y2.set v2_1.toNat (setLeaf [false, false, true, true] (y2.getD v2_1.toNat []) 2 (.ints r3.2)))).bind fun y4 =>
    chk ((decide ((0 : Int) ≤ v2_1)) && (decide (v2_1 < (y4.length : Int)))) <|
    chk (Nat.blt v2_1.toNat y4.length) <|
    (laws_markIntS.f k (gl (y4.getD v2_1.toNat []) 3) r3.1).bind fun r5 =>
    (some (y4.set v2_1.toNat (setLeaf [false, false, true, true] (y4.getD v2_1.toNat []) 3 (.ints r5.2)))).bind fun y6 =>
    rec r5.1 (IntKind.wrap .i64 (v2_1 + (1 : Int))) y6
  else
    e0 v2_0 v2_2
def laws_markEventS.l2 {R : Type} (k : Nat) (e0 : Int → List (List Leaf) → Option R) (n : Nat) (v2_0 : Int) (v2_1 : Int) (v2_2 : List (List Leaf)) : Option R :=
  V.iter (A := Int × Int × List (List Leaf)) (fun rec a => laws_markEventS.s2 k e0 (fun c0 c1 c2 => rec (c0, c1, c2)) a.1 a.2.1 a.2.2) n (v2_0, v2_1, v2_2)
theorem laws_markEventS.l2_zero {R : Type} (k : Nat) (e0 : Int → List (List Leaf) → Option R) (v2_0 : Int) (v2_1 : Int) (v2_2 : List (List Leaf)) : laws_markEventS.l2 (R := R) k e0 0 v2_0 v2_1 v2_2 = none := rfl
theorem laws_markEventS.l2_succ {R : Type} (k : Nat) (e0 : Int → List (List Leaf) → Option R) (n : Nat) (v2_0 : Int) (v2_1 : Int) (v2_2 : List (List Leaf)) : laws_markEventS.l2 (R := R) k e0 (n + 1) v2_0 v2_1 v2_2 = laws_markEventS.s2 k e0 (laws_markEventS.l2 k e0 n) v2_0 v2_1 v2_2 := rfl
def laws_markEventS.f (k : Nat) (a0 : List (List Leaf)) (a1 : Int) : Option (Int × List (List Leaf)) :=
  laws_markEventS.l2 k (fun x7 x8 =>
    some (x7, x8)) k a1 (0 : Int) a0

def laws_heldIntS.s2 {R : Type} (k : Nat) (v2_0 : List Int) (e0 : Int → Option R) (e1 : Int → Option R) (rec : Int → Int → Option R) (v2_1 : Int) (v2_2 : Int) : Option R :=
  bif decide (v2_2 < (v2_0.length : Int)) then
    chk ((decide ((0 : Int) ≤ v2_2)) && (decide (v2_2 < (v2_0.length : Int)))) <|
    bif ((v2_0.getD v2_2.toNat 0) != v2_1) then
      e0 v2_1
    else
      rec (IntKind.wrap .i64 (v2_1 + (1 : Int))) (IntKind.wrap .i64 (v2_2 + (1 : Int)))
  else
    e1 v2_1
def laws_heldIntS.l2 {R : Type} (k : Nat) (v2_0 : List Int) (e0 : Int → Option R) (e1 : Int → Option R) (n : Nat) (v2_1 : Int) (v2_2 : Int) : Option R :=
  V.iter (A := Int × Int) (fun rec a => laws_heldIntS.s2 k v2_0 e0 e1 (fun c0 c1 => rec (c0, c1)) a.1 a.2) n (v2_1, v2_2)
theorem laws_heldIntS.l2_zero {R : Type} (k : Nat) (v2_0 : List Int) (e0 : Int → Option R) (e1 : Int → Option R) (v2_1 : Int) (v2_2 : Int) : laws_heldIntS.l2 (R := R) k v2_0 e0 e1 0 v2_1 v2_2 = none := rfl
theorem laws_heldIntS.l2_succ {R : Type} (k : Nat) (v2_0 : List Int) (e0 : Int → Option R) (e1 : Int → Option R) (n : Nat) (v2_1 : Int) (v2_2 : Int) : laws_heldIntS.l2 (R := R) k v2_0 e0 e1 (n + 1) v2_1 v2_2 = laws_heldIntS.s2 k v2_0 e0 e1 (laws_heldIntS.l2 k v2_0 e0 e1 n) v2_1 v2_2 := rfl
def laws_heldIntS.f (k : Nat) (a0 : List Int) (a1 : Int) : Option (Int) :=
  laws_heldIntS.l2 k a0 (fun x1 =>
    some (-1 : Int)) (fun x2 =>
    some x2) k a1 (0 : Int)

def laws_heldEventS.s2 {R : Type} (k : Nat) (v2_0 : List (List Leaf)) (e0 : Int → Option R) (e1 : Int → Option R) (rec : Int → Int → Option R) (v2_1 : Int) (v2_2 : Int) : Option R :=
  bif decide (v2_2 < (v2_0.length : Int)) then
    chk ((decide ((0 : Int) ≤ v2_2)) && (decide (v2_2 < (v2_0.length : Int)))) <|
    bif ((gi (v2_0.getD v2_2.toNat []) 0) != v2_1) then
      e0 v2_1
    else
      chk ((decide ((0 : Int) ≤ v2_2)) && (decide (v2_2 < (v2_0.length : Int)))) <|
      bif ((gi (v2_0.getD v2_2.toNat []) 1) != (IntKind.wrap .i64 (v2_1 + (1 : Int)))) then
        e0 (IntKind.wrap .i64 (v2_1 + (1 : Int)))
      else
        chk ((decide ((0 : Int) ≤ v2_2)) && (decide (v2_2 < (v2_0.length : Int)))) <|
        (laws_heldIntS.f k (gl (v2_0.getD v2_2.toNat []) 2) (IntKind.wrap .i64 ((IntKind.wrap .i64 (v2_1 + (1 : Int))) + (1 : Int)))).bind fun r1 =>
        bif decide (r1 < (0 : Int)) then
          e0 r1
        else
          chk ((decide ((0 : Int) ≤ v2_2)) && (decide (v2_2 < (v2_0.length : Int)))) <|
          (laws_heldIntS.f k (gl (v2_0.getD v2_2.toNat []) 3) r1).bind fun r2 =>
          bif decide (r2 < (0 : Int)) then
            e0 r2
          else
            rec r2 (IntKind.wrap .i64 (v2_2 + (1 : Int)))
  else
    e1 v2_1
def laws_heldEventS.l2 {R : Type} (k : Nat) (v2_0 : List (List Leaf)) (e0 : Int → Option R) (e1 : Int → Option R) (n : Nat) (v2_1 : Int) (v2_2 : Int) : Option R :=
  V.iter (A := Int × Int) (fun rec a => laws_heldEventS.s2 k v2_0 e0 e1 (fun c0 c1 => rec (c0, c1)) a.1 a.2) n (v2_1, v2_2)
theorem laws_heldEventS.l2_zero {R : Type} (k : Nat) (v2_0 : List (List Leaf)) (e0 : Int → Option R) (e1 : Int → Option R) (v2_1 : Int) (v2_2 : Int) : laws_heldEventS.l2 (R := R) k v2_0 e0 e1 0 v2_1 v2_2 = none := rfl
theorem laws_heldEventS.l2_succ {R : Type} (k : Nat) (v2_0 : List (List Leaf)) (e0 : Int → Option R) (e1 : Int → Option R) (n : Nat) (v2_1 : Int) (v2_2 : Int) : laws_heldEventS.l2 (R := R) k v2_0 e0 e1 (n + 1) v2_1 v2_2 = laws_heldEventS.s2 k v2_0 e0 e1 (laws_heldEventS.l2 k v2_0 e0 e1 n) v2_1 v2_2 := rfl
def laws_heldEventS.f (k : Nat) (a0 : List (List Leaf)) (a1 : Int) : Option (Int) :=
  laws_heldEventS.l2 k a0 (fun x3 =>
    some (-1 : Int)) (fun x4 =>
    some x4) k a1 (0 : Int)

def laws_FnExactDealEvents.f (k : Nat) (a0_0 : Int) (a0_1 : Int) (a0_2 : Bool) (a0_3 : Bool) (a0_4 : List Int) (a0_5 : List Int) (a0_6 : Int) (a0_7 : Int) (a1 : List Int) (a2 : Int) : Option (Bool) :=
  bif decide ((a1.length : Int) > (1048576 : Int)) then
    some true
  else
    (laws_szRules.f k a0_0 a0_1 a0_2 a0_3 a0_4 a0_5 a0_6 a0_7 (1048576 : Int)).bind fun r1 =>
    bif decide (r1 < (0 : Int)) then
      some true
    else
      (laws_toRules.f k a0_0 a0_1 a0_2 a0_3 a0_4 a0_5 a0_6 a0_7).bind fun r2 =>
      (laws_toIntS.f k a1).bind fun r3 =>
      (spec_DealEvents.f k r2.1 r2.2.1 r2.2.2.1 r2.2.2.2.1 r2.2.2.2.2.1 r2.2.2.2.2.2.1 r2.2.2.2.2.2.2.1 r2.2.2.2.2.2.2.2 r3 a2).bind fun r4 =>
      (laws_toRules.f k a0_0 a0_1 a0_2 a0_3 a0_4 a0_5 a0_6 a0_7).bind fun r5 =>
      (laws_toIntS.f k a1).bind fun r6 =>
      (impl_DealEvents.f k r5.1 r5.2.1 r5.2.2.1 r5.2.2.2.1 r5.2.2.2.2.1 r5.2.2.2.2.2.1 r5.2.2.2.2.2.2.1 r5.2.2.2.2.2.2.2 r6 a2).bind fun r7 =>
      (laws_eqEventS.f k r7 r4).bind fun r8 =>
      bif (!r8) then
        some false
      else
        (laws_toRules.f k a0_0 a0_1 a0_2 a0_3 a0_4 a0_5 a0_6 a0_7).bind fun r9 =>
        (laws_eqRules.f k r5.1 r5.2.1 r5.2.2.1 r5.2.2.2.1 r5.2.2.2.2.1 r5.2.2.2.2.2.1 r5.2.2.2.2.2.2.1 r5.2.2.2.2.2.2.2 r9.1 r9.2.1 r9.2.2.1 r9.2.2.2.1 r9.2.2.2.2.1 r9.2.2.2.2.2.1 r9.2.2.2.2.2.2.1 r9.2.2.2.2.2.2.2).bind fun r10 =>
        bif (!r10) then
          some false
        else
          (laws_toIntS.f k a1).bind fun r11 =>
          (laws_eqIntS.f k r6 r11).bind fun r12 =>
          bif (!r12) then
            some false
          else
            (laws_markRules.f k r5.1 r5.2.1 r5.2.2.1 r5.2.2.2.1 r5.2.2.2.2.1 r5.2.2.2.2.2.1 r5.2.2.2.2.2.2.1 r5.2.2.2.2.2.2.2 (1 : Int)).bind fun r13 =>
            (laws_markIntS.f k r6 r13.1).bind fun r14 =>
            bif decide (r14.1 < (0 : Int)) then
              some false
            else
              (laws_eqEventS.f k r7 r4).bind fun r15 =>
              bif (!r15) then
                some false
              else
                (laws_markEventS.f k r7 (1 : Int)).bind fun r16 =>
                (laws_heldEventS.f k r16.2 (1 : Int)).bind fun r17 =>
                bif decide (r17 < (0 : Int)) then
                  some false
                else
                  bif (r17 != r16.1) then
                    some false
                  else
                    (laws_toRules.f k a0_0 a0_1 a0_2 a0_3 a0_4 a0_5 a0_6 a0_7).bind fun r18 =>
                    (laws_toIntS.f k a1).bind fun r19 =>
                    (impl_DealEvents.f k r18.1 r18.2.1 r18.2.2.1 r18.2.2.2.1 r18.2.2.2.2.1 r18.2.2.2.2.2.1 r18.2.2.2.2.2.2.1 r18.2.2.2.2.2.2.2 r19 a2).bind fun r20 =>
                    (laws_eqEventS.f k r20 r4).bind fun r21 =>
                    bif (!r21) then
                      some false
                    else
                      (laws_heldEventS.f k r16.2 (1 : Int)).bind fun r22 =>
                      bif decide (r22 < (0 : Int)) then
                        some false
                      else
                        bif (r22 != r16.1) then
                          some false
                        else
                          some true
end Go.Proofs.Ytfkejiljabmaaaa
