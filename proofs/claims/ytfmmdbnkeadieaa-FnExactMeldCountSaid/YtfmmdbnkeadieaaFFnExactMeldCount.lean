/- Plain Lean functions, printed by a program out of the Go functions' translation: what each computes, without program and memory. -/
import Derived.Test.YtfmmdbnkeadieaaFFnExactRecordOut
set_option linter.unusedVariables false
namespace Go.Proofs.Ytfmmdbnkeadieaa
open Go Go.Proofs.Ytfmmdbnkeadieaa.V

def spec_l10Ok.f (k : Nat) (a : LI) : Option (Bool) :=
 (spec_IsHand.f k a).bind fun r1 =>
 bif r1 then
  some (decide ((a.length : Int) ≤ 12))
 else
  some false

def spec_l10Before.s2 {R : Type} (k : Nat) (v0 v1 : LI) (e0 : Bool → Option R) (e1 : Option R) (rec : Int → Option R) (v2 : Int) : Option R :=
 bif decide (v2 < (v0.length : Int)) then
  bif decide (v2 < (v1.length : Int)) then
   chk ((decide (0 ≤ v2)) && (decide (v2 < (v0.length : Int)))) <|
   chk ((decide (0 ≤ v2)) && (decide (v2 < (v1.length : Int)))) <|
   bif ((v0.getD v2.toNat 0) != (v1.getD v2.toNat 0)) then
    chk ((decide (0 ≤ v2)) && (decide (v2 < (v0.length : Int)))) <|
    chk ((decide (0 ≤ v2)) && (decide (v2 < (v1.length : Int)))) <|
    e0 (decide ((v0.getD v2.toNat 0) < (v1.getD v2.toNat 0)))
   else
    rec (IntKind.wrap .i64 (v2 + 1))
  else
   e1
 else
  e1
def spec_l10Before.l2 {R : Type} (k : Nat) (v0 v1 : LI) (e0 : Bool → Option R) (e1 : Option R) (n : Nat) (v2 : Int) : Option R :=
 V.iter (A := Int) (fun rec a => spec_l10Before.s2 k v0 v1 e0 e1 (fun c0 => rec c0) a) n v2
theorem spec_l10Before.l2_succ {R : Type} (k : Nat) (v0 v1 : LI) (e0 : Bool → Option R) (e1 : Option R) (n : Nat) (v2 : Int) : spec_l10Before.l2 (R := R) k v0 v1 e0 e1 (n + 1) v2 = spec_l10Before.s2 k v0 v1 e0 e1 (spec_l10Before.l2 k v0 v1 e0 e1 n) v2 := rfl
def spec_l10Before.f (k : Nat) (a g : LI) : Option (Bool) :=
 spec_l10Before.l2 k a g (fun x1 =>
  some x1) (some (decide ((a.length : Int) < (g.length : Int)))) k 0

def spec_l10Put.s2 {R : Type} (k : Nat) (v0 : LL) (v1 : LI) (e0 rec : Int → Option R) (v2 : Int) : Option R :=
 bif decide (v2 > 0) then
  chk ((decide (0 ≤ (IntKind.wrap .i64 (v2 - 1)))) && (decide ((IntKind.wrap .i64 (v2 - 1)) < (v0.length : Int)))) <|
  (spec_l10Before.f k v1 (v0.getD ((IntKind.wrap .i64 (v2 - 1)).toNat) [])).bind fun r1 =>
  bif r1 then
   rec (IntKind.wrap .i64 (v2 - 1))
  else
   e0 v2
 else
  e0 v2
def spec_l10Put.l2 {R : Type} (k : Nat) (v0 : LL) (v1 : LI) (e0 : Int → Option R) (n : Nat) (v2 : Int) : Option R :=
 V.iter (A := Int) (fun rec a => spec_l10Put.s2 k v0 v1 e0 (fun c0 => rec c0) a) n v2
theorem spec_l10Put.l2_succ {R : Type} (k : Nat) (v0 : LL) (v1 : LI) (e0 : Int → Option R) (n : Nat) (v2 : Int) : spec_l10Put.l2 (R := R) k v0 v1 e0 (n + 1) v2 = spec_l10Put.s2 k v0 v1 e0 (spec_l10Put.l2 k v0 v1 e0 n) v2 := rfl
def spec_l10Put.f (k : Nat) (a : LL) (g : LI) : Option (LL) :=
 spec_l10Put.l2 k a g (fun x2 =>
  chk ((decide (0 ≤ x2)) && (decide (x2 ≤ (a.length : Int)))) <|
  chk (decide ((0 + ((a.take x2.toNat).length)) * 24 ≤ room)) <|
  chk (decide (((([] ++ (a.take x2.toNat)).length) + 1) * 24 ≤ room)) <|
  chk ((decide (0 ≤ x2)) && (decide (x2 ≤ (a.length : Int)))) <|
  chk (decide ((((([] ++ (a.take x2.toNat)) ++ [g]).length) + ((a.drop x2.toNat).length)) * 24 ≤ room)) <|
  some ((([] ++ (a.take x2.toNat)) ++ [g]) ++ (a.drop x2.toNat))) k (a.length : Int)

def spec_MeldsIn.s9 {R : Type} (k : Nat) (v0 : LI) (v2 : Int) (e0 : LI → Option R) (rec : Int → LI → Option R) (v3 : Int) (v4 : LI) : Option R :=
 bif decide (v3 < 4) then
  (spec_HasCard.f k v0 (IntKind.wrap .i64 ((IntKind.wrap .i64 (v3 * 13)) + v2))).bind fun r2 =>
  bif r2 then
   chk (decide ((v4.length + 1) * 8 ≤ room)) <|
   rec (IntKind.wrap .i64 (v3 + 1)) (v4 ++ [IntKind.wrap .i64 ((IntKind.wrap .i64 (v3 * 13)) + v2)])
  else
   rec (IntKind.wrap .i64 (v3 + 1)) v4
 else
  e0 v4
def spec_MeldsIn.l9 {R : Type} (k : Nat) (v0 : LI) (v2 : Int) (e0 : LI → Option R) (n : Nat) (v3 : Int) (v4 : LI) : Option R :=
 V.iter (A := Int × LI) (fun rec a => spec_MeldsIn.s9 k v0 v2 e0 (fun c0 c1 => rec (c0, c1)) a.1 a.2) n (v3, v4)
theorem spec_MeldsIn.l9_succ {R : Type} (k : Nat) (v0 : LI) (v2 : Int) (e0 : LI → Option R) (n : Nat) (v3 : Int) (v4 : LI) : spec_MeldsIn.l9 (R := R) k v0 v2 e0 (n + 1) v3 v4 = spec_MeldsIn.s9 k v0 v2 e0 (spec_MeldsIn.l9 k v0 v2 e0 n) v3 v4 := rfl
def spec_MeldsIn.s16 {R : Type} (k : Nat) (v3 : LI) (e0 : LL → Option R) (rec : LL → Int → Option R) (v1 : LL) (v4 : Int) : Option R :=
 bif decide (v4 < (v3.length : Int)) then
  bif ((v3.length : Int) == 4) then
   chk ((decide (0 ≤ v4)) && (decide (v4 < (v3.length : Int)))) <|
   (spec_Without.f k v3 (v3.getD v4.toNat 0)).bind fun r5 =>
   (spec_l10Put.f k v1 r5).bind fun r6 =>
   rec r6 (IntKind.wrap .i64 (v4 + 1))
  else
   e0 v1
 else
  e0 v1
def spec_MeldsIn.l16 {R : Type} (k : Nat) (v3 : LI) (e0 : LL → Option R) (n : Nat) (v1 : LL) (v4 : Int) : Option R :=
 V.iter (A := LL × Int) (fun rec a => spec_MeldsIn.s16 k v3 e0 (fun c0 c1 => rec (c0, c1)) a.1 a.2) n (v1, v4)
theorem spec_MeldsIn.l16_succ {R : Type} (k : Nat) (v3 : LI) (e0 : LL → Option R) (n : Nat) (v1 : LL) (v4 : Int) : spec_MeldsIn.l16 (R := R) k v3 e0 (n + 1) v1 v4 = spec_MeldsIn.s16 k v3 e0 (spec_MeldsIn.l16 k v3 e0 n) v1 v4 := rfl
def spec_MeldsIn.s5 {R : Type} (k : Nat) (v0 : LI) (e0 : LL → Option R) (rec : LL → Int → Option R) (v1 : LL) (v2 : Int) : Option R :=
 bif decide (v2 < 13) then
  spec_MeldsIn.l9 k v0 v2 (fun x3 =>
   bif decide ((x3.length : Int) ≥ 3) then
    (spec_l10Put.f k v1 x3).bind fun r4 =>
    spec_MeldsIn.l16 k x3 (fun x7 =>
     rec x7 (IntKind.wrap .i64 (v2 + 1))) k r4 0
   else
    spec_MeldsIn.l16 k x3 (fun x8 =>
     rec x8 (IntKind.wrap .i64 (v2 + 1))) k v1 0) k 0 []
 else
  e0 v1
def spec_MeldsIn.l5 {R : Type} (k : Nat) (v0 : LI) (e0 : LL → Option R) (n : Nat) (v1 : LL) (v2 : Int) : Option R :=
 V.iter (A := LL × Int) (fun rec a => spec_MeldsIn.s5 k v0 e0 (fun c0 c1 => rec (c0, c1)) a.1 a.2) n (v1, v2)
theorem spec_MeldsIn.l5_succ {R : Type} (k : Nat) (v0 : LI) (e0 : LL → Option R) (n : Nat) (v1 : LL) (v2 : Int) : spec_MeldsIn.l5 (R := R) k v0 e0 (n + 1) v1 v2 = spec_MeldsIn.s5 k v0 e0 (spec_MeldsIn.l5 k v0 e0 n) v1 v2 := rfl
def spec_MeldsIn.s24 {R : Type} (k : Nat) (v0 : LI) (v2 : Int) (e0 : LL → Option R) (rec : LL → Int → LI → Option R) (v1 : LL) (v3 : Int) (v4 : LI) : Option R :=
 (spec_HasCard.f k v0 v3).bind fun r10 =>
 bif r10 then
  (spec_SuitOf.f k v3).bind fun r11 =>
  (spec_SuitOf.f k v2).bind fun r12 =>
  bif (r11 == r12) then
   chk (decide ((v4.length + 1) * 8 ≤ room)) <|
   bif decide (((v4 ++ [v3]).length : Int) ≥ 3) then
    chk (decide ((0 + ((v4 ++ [v3]).length)) * 8 ≤ room)) <|
    (spec_l10Put.f k v1 ([] ++ (v4 ++ [v3]))).bind fun r13 =>
    rec r13 (IntKind.wrap .i64 (v3 + 1)) (v4 ++ [v3])
   else
    rec v1 (IntKind.wrap .i64 (v3 + 1)) (v4 ++ [v3])
  else
   e0 v1
 else
  e0 v1
def spec_MeldsIn.l24 {R : Type} (k : Nat) (v0 : LI) (v2 : Int) (e0 : LL → Option R) (n : Nat) (v1 : LL) (v3 : Int) (v4 : LI) : Option R :=
 V.iter (A := LL × Int × LI) (fun rec a => spec_MeldsIn.s24 k v0 v2 e0 (fun c0 c1 c2 => rec (c0, c1, c2)) a.1 a.2.1 (t2 a)) n (v1, v3, v4)
theorem spec_MeldsIn.l24_succ {R : Type} (k : Nat) (v0 : LI) (v2 : Int) (e0 : LL → Option R) (n : Nat) (v1 : LL) (v3 : Int) (v4 : LI) : spec_MeldsIn.l24 (R := R) k v0 v2 e0 (n + 1) v1 v3 v4 = spec_MeldsIn.s24 k v0 v2 e0 (spec_MeldsIn.l24 k v0 v2 e0 n) v1 v3 v4 := rfl
def spec_MeldsIn.s20 {R : Type} (k : Nat) (v0 : LI) (e0 : LL → Option R) (rec : LL → Int → Option R) (v1 : LL) (v2 : Int) : Option R :=
 bif decide (v2 < 52) then
  spec_MeldsIn.l24 k v0 v2 (fun x14 =>
   rec x14 (IntKind.wrap .i64 (v2 + 1))) k v1 v2 []
 else
  e0 v1
def spec_MeldsIn.l20 {R : Type} (k : Nat) (v0 : LI) (e0 : LL → Option R) (n : Nat) (v1 : LL) (v2 : Int) : Option R :=
 V.iter (A := LL × Int) (fun rec a => spec_MeldsIn.s20 k v0 e0 (fun c0 c1 => rec (c0, c1)) a.1 a.2) n (v1, v2)
theorem spec_MeldsIn.l20_succ {R : Type} (k : Nat) (v0 : LI) (e0 : LL → Option R) (n : Nat) (v1 : LL) (v2 : Int) : spec_MeldsIn.l20 (R := R) k v0 e0 (n + 1) v1 v2 = spec_MeldsIn.s20 k v0 e0 (spec_MeldsIn.l20 k v0 e0 n) v1 v2 := rfl
def spec_MeldsIn.f (k : Nat) (a : LI) : Option (LL) :=
 (spec_l10Ok.f k a).bind fun r1 =>
 bif (!r1) then
  some ([])
 else
  spec_MeldsIn.l5 k a (fun x9 =>
   spec_MeldsIn.l20 k a (fun x15 =>
    some x15) k x9 0) k [] 0

def spec_MeldCount.f (k : Nat) (a : LI) : Option (Int) :=
 (spec_MeldsIn.f k a).bind fun r1 =>
 some (r1.length : Int)

def impl_IsSetMeld.s4 {R : Type} (k : Nat) (v0 v1 : LI) (v2 : Int) (e0 e1 : Option R) (rec : Int → Option R) (v3 : Int) : Option R :=
 bif decide (v3 < v2) then
  chk ((decide (0 ≤ v3)) && (decide (v3 < (v1.length : Int)))) <|
  (impl_RankOf.f k (v1.getD v3.toNat 0)).bind fun r3 =>
  chk (decide (0 < (v0.length : Int))) <|
  (impl_RankOf.f k (v0.getD 0 0)).bind fun r4 =>
  bif (r3 != r4) then
   e0
  else
   rec (IntKind.wrap .i64 (v3 + 1))
 else
  e1
def impl_IsSetMeld.l4 {R : Type} (k : Nat) (v0 v1 : LI) (v2 : Int) (e0 e1 : Option R) (n : Nat) (v3 : Int) : Option R :=
 V.iter (A := Int) (fun rec a => impl_IsSetMeld.s4 k v0 v1 v2 e0 e1 (fun c0 => rec c0) a) n v3
theorem impl_IsSetMeld.l4_succ {R : Type} (k : Nat) (v0 v1 : LI) (v2 : Int) (e0 e1 : Option R) (n : Nat) (v3 : Int) : impl_IsSetMeld.l4 (R := R) k v0 v1 v2 e0 e1 (n + 1) v3 = impl_IsSetMeld.s4 k v0 v1 v2 e0 e1 (impl_IsSetMeld.l4 k v0 v1 v2 e0 e1 n) v3 := rfl
def impl_IsSetMeld.f (k : Nat) (a : LI) : Option (Bool) :=
 (impl_IsHand.f k a).bind fun r1 =>
 bif (!r1) then
  some false
 else
  (impl_InRange.f k (a.length : Int) 3 4).bind fun r2 =>
  bif (!r2) then
   some false
  else
   impl_IsSetMeld.l4 k a a (a.length : Int) (some false) (some true) k 0

def impl_IsRunMeld.s5 {R : Type} (k : Nat) (v0 : Int) (v2 : LI) (e0 e1 : Option R) (rec : Int → Option R) (v1 : Int) : Option R :=
 bif decide (v1 < v0) then
  chk ((decide (0 ≤ v1)) && (decide (v1 < (v2.length : Int)))) <|
  (impl_SuitOf.f k (v2.getD v1.toNat 0)).bind fun r3 =>
  chk (decide (0 < (v2.length : Int))) <|
  (impl_SuitOf.f k (v2.getD 0 0)).bind fun r4 =>
  bif (r3 != r4) then
   e0
  else
   chk (decide (0 < (v2.length : Int))) <|
   bif ((v2.getD v1.toNat 0) != (IntKind.wrap .i64 ((v2.getD 0 0) + v1))) then
    e0
   else
    rec (IntKind.wrap .i64 (v1 + 1))
 else
  e1
def impl_IsRunMeld.l5 {R : Type} (k : Nat) (v0 : Int) (v2 : LI) (e0 e1 : Option R) (n : Nat) (v1 : Int) : Option R :=
 V.iter (A := Int) (fun rec a => impl_IsRunMeld.s5 k v0 v2 e0 e1 (fun c0 => rec c0) a) n v1
theorem impl_IsRunMeld.l5_succ {R : Type} (k : Nat) (v0 : Int) (v2 : LI) (e0 e1 : Option R) (n : Nat) (v1 : Int) : impl_IsRunMeld.l5 (R := R) k v0 v2 e0 e1 (n + 1) v1 = impl_IsRunMeld.s5 k v0 v2 e0 e1 (impl_IsRunMeld.l5 k v0 v2 e0 e1 n) v1 := rfl
def impl_IsRunMeld.f (k : Nat) (a : LI) : Option (Bool) :=
 (impl_IsHand.f k a).bind fun r1 =>
 bif (!r1) then
  some false
 else
  bif decide ((a.length : Int) < 3) then
   some false
  else
   (impl_Sorted.f k a).bind fun r2 =>
   impl_IsRunMeld.l5 k (r2.length : Int) r2 (some false) (some true) k 0

def impl_isBefore.s2 {R : Type} (k : Nat) (v0 v1 : LI) (v2 : Int) (e0 : Bool → Option R) (e1 : Option R) (rec : Int → Option R) (v3 : Int) : Option R :=
 bif decide (v3 < v2) then
  bif (v3 == (v1.length : Int)) then
   e0 false
  else
   chk ((decide (0 ≤ v3)) && (decide (v3 < (v0.length : Int)))) <|
   chk ((decide (0 ≤ v3)) && (decide (v3 < (v1.length : Int)))) <|
   bif ((v0.getD v3.toNat 0) != (v1.getD v3.toNat 0)) then
    chk ((decide (0 ≤ v3)) && (decide (v3 < (v0.length : Int)))) <|
    chk ((decide (0 ≤ v3)) && (decide (v3 < (v1.length : Int)))) <|
    e0 (decide ((v0.getD v3.toNat 0) < (v1.getD v3.toNat 0)))
   else
    rec (IntKind.wrap .i64 (v3 + 1))
 else
  e1
def impl_isBefore.l2 {R : Type} (k : Nat) (v0 v1 : LI) (v2 : Int) (e0 : Bool → Option R) (e1 : Option R) (n : Nat) (v3 : Int) : Option R :=
 V.iter (A := Int) (fun rec a => impl_isBefore.s2 k v0 v1 v2 e0 e1 (fun c0 => rec c0) a) n v3
theorem impl_isBefore.l2_succ {R : Type} (k : Nat) (v0 v1 : LI) (v2 : Int) (e0 : Bool → Option R) (e1 : Option R) (n : Nat) (v3 : Int) : impl_isBefore.l2 (R := R) k v0 v1 v2 e0 e1 (n + 1) v3 = impl_isBefore.s2 k v0 v1 v2 e0 e1 (impl_isBefore.l2 k v0 v1 v2 e0 e1 n) v3 := rfl
def impl_isBefore.f (k : Nat) (a g : LI) : Option (Bool) :=
 impl_isBefore.l2 k a g (a.length : Int) (fun x1 =>
  some x1) (some (decide ((a.length : Int) < (g.length : Int)))) k 0

def impl_MeldsIn.s9 {R : Type} (k : Nat) (v0 v3 : Int) (v5 : LI) (e0 : LI → Option R) (rec : Int → LI → Option R) (v4 : Int) (v7 : LI) : Option R :=
 bif decide (v4 < v3) then
  chk ((decide (0 ≤ v4)) && (decide (v4 < (v5.length : Int)))) <|
  chk (decide (0 ≤ v4)) <|
  bif ((ibits .and .i64 (v0.fdiv (2 ^ (min v4.toNat (IntKind.bits .i64)))) 1) == 1) then
   chk (decide ((v7.length + 1) * 8 ≤ room)) <|
   rec (IntKind.wrap .i64 (v4 + 1)) (v7 ++ [v5.getD v4.toNat 0])
  else
   rec (IntKind.wrap .i64 (v4 + 1)) v7
 else
  e0 v7
def impl_MeldsIn.l9 {R : Type} (k : Nat) (v0 v3 : Int) (v5 : LI) (e0 : LI → Option R) (n : Nat) (v4 : Int) (v7 : LI) : Option R :=
 V.iter (A := Int × LI) (fun rec a => impl_MeldsIn.s9 k v0 v3 v5 e0 (fun c0 c1 => rec (c0, c1)) a.1 a.2) n (v4, v7)
theorem impl_MeldsIn.l9_succ {R : Type} (k : Nat) (v0 v3 : Int) (v5 : LI) (e0 : LI → Option R) (n : Nat) (v4 : Int) (v7 : LI) : impl_MeldsIn.l9 (R := R) k v0 v3 v5 e0 (n + 1) v4 v7 = impl_MeldsIn.s9 k v0 v3 v5 e0 (impl_MeldsIn.l9 k v0 v3 v5 e0 n) v4 v7 := rfl
def impl_MeldsIn.s16 {R : Type} (k : Nat) (v4 : LL) (v5 : LI) (e0 rec : Int → Option R) (v0 : Int) : Option R :=
 bif decide (v0 > 0) then
  chk ((decide (0 ≤ (IntKind.wrap .i64 (v0 - 1)))) && (decide ((IntKind.wrap .i64 (v0 - 1)) < (v4.length : Int)))) <|
  (impl_isBefore.f k v5 (v4.getD ((IntKind.wrap .i64 (v0 - 1)).toNat) [])).bind fun r6 =>
  bif r6 then
   rec (IntKind.wrap .i64 (v0 - 1))
  else
   e0 v0
 else
  e0 v0
def impl_MeldsIn.l16 {R : Type} (k : Nat) (v4 : LL) (v5 : LI) (e0 : Int → Option R) (n : Nat) (v0 : Int) : Option R :=
 V.iter (A := Int) (fun rec a => impl_MeldsIn.s16 k v4 v5 e0 (fun c0 => rec c0) a) n v0
theorem impl_MeldsIn.l16_succ {R : Type} (k : Nat) (v4 : LL) (v5 : LI) (e0 : Int → Option R) (n : Nat) (v0 : Int) : impl_MeldsIn.l16 (R := R) k v4 v5 e0 (n + 1) v0 = impl_MeldsIn.s16 k v4 v5 e0 (impl_MeldsIn.l16 k v4 v5 e0 n) v0 := rfl
def impl_MeldsIn.s5 {R : Type} (k : Nat) (v0 : Int) (v2 : LI) (e0 : LL → Option R) (rec : Int → LL → Option R) (v1 : Int) (v3 : LL) : Option R :=
 bif decide (v1 < v0) then
  impl_MeldsIn.l9 k v1 (v2.length : Int) v2 (fun x3 =>
   (impl_IsSetMeld.f k x3).bind fun r4 =>
   bif (!r4) then
    (impl_IsRunMeld.f k x3).bind fun r5 =>
    bif (!r5) then
     rec (IntKind.wrap .i64 (v1 + 1)) v3
    else
     impl_MeldsIn.l16 k v3 x3 (fun x7 =>
      chk (decide ((v3.length + 1) * 24 ≤ room)) <|
      chk ((decide (0 ≤ ((v3 ++ ([[]])).length : Int))) && (decide (((v3 ++ ([[]])).length : Int) ≤ ((v3 ++ ([[]])).length : Int)))) <|
      chk ((decide (0 ≤ (IntKind.wrap .i64 (x7 + 1)))) && (decide ((IntKind.wrap .i64 (x7 + 1)) ≤ ((v3 ++ ([[]])).length : Int)))) <|
      chk ((decide (0 ≤ ((v3 ++ ([[]])).length : Int))) && (decide (((v3 ++ ([[]])).length : Int) ≤ ((v3 ++ ([[]])).length : Int)))) <|
      chk ((decide (0 ≤ x7)) && (decide (x7 ≤ ((v3 ++ ([[]])).length : Int)))) <|
      chk (((IntKind.wrap .i64 (x7 + 1)).toNat) == x7.toNat + 1 && (((v3 ++ ([[]])).length : Int).toNat) == ((v3 ++ ([[]])).length) && (((v3 ++ ([[]])).length : Int).toNat) == ((v3 ++ ([[]])).length) && decide (x7.toNat < ((v3 ++ ([[]])).length))) <|
      chk ((decide (0 ≤ x7)) && (decide (x7 < ((((v3 ++ ([[]])).take x7.toNat) ++ [] :: ((v3 ++ ([[]])).drop x7.toNat).dropLast).length : Int)))) <|
      chk (x7.toNat == x7.toNat) <|
      rec (IntKind.wrap .i64 (v1 + 1)) ((((v3 ++ ([[]])).take x7.toNat) ++ [] :: ((v3 ++ ([[]])).drop x7.toNat).dropLast).set x7.toNat x3)) k (v3.length : Int)
   else
    impl_MeldsIn.l16 k v3 x3 (fun x8 =>
     chk (decide ((v3.length + 1) * 24 ≤ room)) <|
     chk ((decide (0 ≤ ((v3 ++ ([[]])).length : Int))) && (decide (((v3 ++ ([[]])).length : Int) ≤ ((v3 ++ ([[]])).length : Int)))) <|
     chk ((decide (0 ≤ (IntKind.wrap .i64 (x8 + 1)))) && (decide ((IntKind.wrap .i64 (x8 + 1)) ≤ ((v3 ++ ([[]])).length : Int)))) <|
     chk ((decide (0 ≤ ((v3 ++ ([[]])).length : Int))) && (decide (((v3 ++ ([[]])).length : Int) ≤ ((v3 ++ ([[]])).length : Int)))) <|
     chk ((decide (0 ≤ x8)) && (decide (x8 ≤ ((v3 ++ ([[]])).length : Int)))) <|
     chk (((IntKind.wrap .i64 (x8 + 1)).toNat) == x8.toNat + 1 && (((v3 ++ ([[]])).length : Int).toNat) == ((v3 ++ ([[]])).length) && (((v3 ++ ([[]])).length : Int).toNat) == ((v3 ++ ([[]])).length) && decide (x8.toNat < ((v3 ++ ([[]])).length))) <|
     chk ((decide (0 ≤ x8)) && (decide (x8 < ((((v3 ++ ([[]])).take x8.toNat) ++ [] :: ((v3 ++ ([[]])).drop x8.toNat).dropLast).length : Int)))) <|
     chk (x8.toNat == x8.toNat) <|
     rec (IntKind.wrap .i64 (v1 + 1)) ((((v3 ++ ([[]])).take x8.toNat) ++ [] :: ((v3 ++ ([[]])).drop x8.toNat).dropLast).set x8.toNat x3)) k (v3.length : Int)) k 0 []
 else
  e0 v3
def impl_MeldsIn.l5 {R : Type} (k : Nat) (v0 : Int) (v2 : LI) (e0 : LL → Option R) (n : Nat) (v1 : Int) (v3 : LL) : Option R :=
 V.iter (A := Int × LL) (fun rec a => impl_MeldsIn.s5 k v0 v2 e0 (fun c0 c1 => rec (c0, c1)) a.1 a.2) n (v1, v3)
theorem impl_MeldsIn.l5_succ {R : Type} (k : Nat) (v0 : Int) (v2 : LI) (e0 : LL → Option R) (n : Nat) (v1 : Int) (v3 : LL) : impl_MeldsIn.l5 (R := R) k v0 v2 e0 (n + 1) v1 v3 = impl_MeldsIn.s5 k v0 v2 e0 (impl_MeldsIn.l5 k v0 v2 e0 n) v1 v3 := rfl
def impl_MeldsIn.f (k : Nat) (a : LI) : Option (LL) :=
 (impl_IsHand.f k a).bind fun r1 =>
 bif (!r1) then
  some ([])
 else
  bif decide ((a.length : Int) > 12) then
   some ([])
  else
   (impl_Sorted.f k a).bind fun r2 =>
   chk (decide (0 ≤ (r2.length : Int))) <|
   impl_MeldsIn.l5 k (IntKind.wrap .i64 (1 * 2 ^ (min ((r2.length : Int).toNat) (IntKind.bits .i64)))) r2 (fun x9 =>
    some x9) k 0 []

def impl_MeldCount.f (k : Nat) (a : LI) : Option (Int) :=
 (impl_MeldsIn.f k a).bind fun r1 =>
 some (r1.length : Int)

def laws_FnExactMeldCount.f (k : Nat) (a : LI) : Option (Bool) :=
 bif decide ((a.length : Int) > 1048576) then
  some true
 else
  (laws_toIntS.f k a).bind fun r1 =>
  (spec_MeldCount.f k r1).bind fun r2 =>
  (laws_toIntS.f k a).bind fun r3 =>
  (impl_MeldCount.f k r3).bind fun r4 =>
  bif (r4 != r2) then
   some false
  else
   (laws_toIntS.f k a).bind fun r5 =>
   (laws_eqIntS.f k r3 r5).bind fun r6 =>
   bif (!r6) then
    some false
   else
    some true
end Go.Proofs.Ytfmmdbnkeadieaa
