/- Plain Lean functions, printed by a program out of the Go functions' translation: what each computes, without program and memory. -/
import Derived.Test.YtfbafmeeejmgoaaGreatVEval
set_option linter.unusedVariables false
namespace Go.Proofs.YtfbafmeeejmgoaaGreat
open Go Go.Proofs.YtfbafmeeejmgoaaGreat.V

def laws_big.f (k : Nat) (a : LI) : Option (Bool) :=
 some (decide ((a.length : Int) > 1048576))

def spec_l1New.s3 {R : Type} (k : Nat) (v0 : LI) (e0 : Int → Option R) (rec : Int → Int → Option R) (v1 v2 : Int) : Option R :=
 bif decide (v2 < (v0.length : Int)) then
  bif decide (v2 < 4000) then
   chk ((decide (0 ≤ v2)) && (decide (v2 < (v0.length : Int)))) <|
   rec (ibits .and .i64 (IntKind.wrap .i64 ((IntKind.wrap .i64 ((IntKind.wrap .i64 (v1 * 137)) + (IntKind.wrap .i64 (v0.getD v2.toNat 0)))) + 11)) 1073741823) (IntKind.wrap .i64 (v2 + 1))
  else
   e0 v1
 else
  e0 v1
def spec_l1New.l3 {R : Type} (k : Nat) (v0 : LI) (e0 : Int → Option R) (n : Nat) (v1 v2 : Int) : Option R :=
 V.iter (A := Int × Int) (fun rec a => spec_l1New.s3 k v0 e0 (fun c0 c1 => rec (c0, c1)) a.1 a.2) n (v1, v2)
theorem spec_l1New.l3_succ {R : Type} (k : Nat) (v0 : LI) (e0 : Int → Option R) (n : Nat) (v1 v2 : Int) : spec_l1New.l3 (R := R) k v0 e0 (n + 1) v1 v2 = spec_l1New.s3 k v0 e0 (spec_l1New.l3 k v0 e0 n) v1 v2 := rfl
def spec_l1New.f (k : Nat) (a : LI) : Option (LI × Int × Int) :=
 spec_l1New.l3 k a (fun x1 =>
  some (a, 0, x1)) k (IntKind.wrap .i64 (193017 + (a.length : Int))) 0

def spec_l1Byte.f (k : Nat) (a0 : LI) (a1 a2 : Int) : Option (Int × LI × Int × Int) :=
 bif decide (a1 < (a0.length : Int)) then
  chk ((decide (0 ≤ a1)) && (decide (a1 < (a0.length : Int)))) <|
  some (ibits .and .i64 (IntKind.wrap .i64 ((ibits .and .i64 (ibits .xor .i64 ((IntKind.wrap .i64 ((IntKind.wrap .i64 (a2 * 6364136223846793005)) + 1442695040888963407)).fdiv (2 ^ (min 33 (IntKind.bits .i64)))) ((IntKind.wrap .i64 ((IntKind.wrap .i64 (a2 * 6364136223846793005)) + 1442695040888963407)).fdiv (2 ^ (min 47 (IntKind.bits .i64))))) 255) + (IntKind.wrap .i64 (a0.getD a1.toNat 0)))) 255, a0, IntKind.wrap .i64 (a1 + 1), IntKind.wrap .i64 ((IntKind.wrap .i64 (a2 * 6364136223846793005)) + 1442695040888963407))
 else
  some (ibits .and .i64 (ibits .xor .i64 ((IntKind.wrap .i64 ((IntKind.wrap .i64 (a2 * 6364136223846793005)) + 1442695040888963407)).fdiv (2 ^ (min 33 (IntKind.bits .i64)))) ((IntKind.wrap .i64 ((IntKind.wrap .i64 (a2 * 6364136223846793005)) + 1442695040888963407)).fdiv (2 ^ (min 47 (IntKind.bits .i64))))) 255, a0, a1, IntKind.wrap .i64 ((IntKind.wrap .i64 (a2 * 6364136223846793005)) + 1442695040888963407))

def spec_l1Below.f (k : Nat) (a0 : LI) (a1 a2 g : Int) : Option (Int × LI × Int × Int) :=
 bif decide (g ≤ 0) then
  some (0, a0, a1, a2)
 else
  bif decide (g ≤ 256) then
   (spec_l1Byte.f k a0 a1 a2).bind fun r1 =>
   chk (!(decide (g = 0))) <|
   some (r1.1.tmod g, r1.2.1, (t2 r1).1, (t3 r1))
  else
   (spec_l1Byte.f k a0 a1 a2).bind fun r2 =>
   (spec_l1Byte.f k r2.2.1 (t2 r2).1 (t3 r2)).bind fun r3 =>
   (spec_l1Byte.f k r3.2.1 (t2 r3).1 (t3 r3)).bind fun r4 =>
   chk (!(decide (g = 0))) <|
   some ((IntKind.wrap .i64 ((IntKind.wrap .i64 ((IntKind.wrap .i64 (r2.1 * 65536)) + (IntKind.wrap .i64 (r3.1 * 256)))) + r4.1)).tmod g, r4.2.1, (t2 r4).1, (t3 r4))

def spec_l1Int.f (k : Nat) (a0 : LI) (a1 a2 : Int) (g : LI) : Option (Int × LI × Int × Int) :=
 (spec_l1Below.f k a0 a1 a2 (g.length : Int)).bind fun r1 =>
 chk ((decide (0 ≤ r1.1)) && (decide (r1.1 < (g.length : Int)))) <|
 some (g.getD r1.1.toNat 0, r1.2.1, (t2 r1).1, (t3 r1))

def spec_l1In.f (k : Nat) (a g i : Int) : Option (Bool) :=
 bif decide (a ≥ g) then
  some (decide (a ≤ i))
 else
  some false

def spec_FromTricks.s3 {R : Type} (k : Nat) (v0 : LI) (e0 : Int → LI → Option R) (e1 : Int → Option R) (rec : Int → Int → Option R) (v1 v2 : Int) : Option R :=
 bif decide (v2 < (v0.length : Int)) then
  chk ((decide (0 ≤ v2)) && (decide (v2 < (v0.length : Int)))) <|
  (spec_l1In.f k (v0.getD v2.toNat 0) 0 200).bind fun r1 =>
  bif (!r1) then
   e0 v1 []
  else
   chk ((decide (0 ≤ v2)) && (decide (v2 < (v0.length : Int)))) <|
   rec (IntKind.wrap .i64 (v1 + (v0.getD v2.toNat 0))) (IntKind.wrap .i64 (v2 + 1))
 else
  e1 v1
def spec_FromTricks.l3 {R : Type} (k : Nat) (v0 : LI) (e0 : Int → LI → Option R) (e1 : Int → Option R) (n : Nat) (v1 v2 : Int) : Option R :=
 V.iter (A := Int × Int) (fun rec a => spec_FromTricks.s3 k v0 e0 e1 (fun c0 c1 => rec (c0, c1)) a.1 a.2) n (v1, v2)
theorem spec_FromTricks.l3_succ {R : Type} (k : Nat) (v0 : LI) (e0 : Int → LI → Option R) (e1 : Int → Option R) (n : Nat) (v1 v2 : Int) : spec_FromTricks.l3 (R := R) k v0 e0 e1 (n + 1) v1 v2 = spec_FromTricks.s3 k v0 e0 e1 (spec_FromTricks.l3 k v0 e0 e1 n) v1 v2 := rfl
def spec_FromTricks.s10 {R : Type} (k : Nat) (v0 : LI) (v1 : Int) (e0 : LI → Option R) (rec : Int → LI → Option R) (v2 : Int) (v3 : LI) : Option R :=
 bif decide (v2 < (v0.length : Int)) then
  (spec_l1In.f k (v0.length : Int) 2 6).bind fun r5 =>
  bif r5 then
   chk ((decide (0 ≤ v2)) && (decide (v2 < (v0.length : Int)))) <|
   chk (decide ((v3.length + 1) * 8 ≤ room)) <|
   rec (IntKind.wrap .i64 (v2 + 1)) (v3 ++ [IntKind.wrap .i64 ((IntKind.wrap .i64 ((v0.length : Int) * (v0.getD v2.toNat 0))) - v1)])
  else
   e0 v3
 else
  e0 v3
def spec_FromTricks.l10 {R : Type} (k : Nat) (v0 : LI) (v1 : Int) (e0 : LI → Option R) (n : Nat) (v2 : Int) (v3 : LI) : Option R :=
 V.iter (A := Int × LI) (fun rec a => spec_FromTricks.s10 k v0 v1 e0 (fun c0 c1 => rec (c0, c1)) a.1 a.2) n (v2, v3)
theorem spec_FromTricks.l10_succ {R : Type} (k : Nat) (v0 : LI) (v1 : Int) (e0 : LI → Option R) (n : Nat) (v2 : Int) (v3 : LI) : spec_FromTricks.l10 (R := R) k v0 v1 e0 (n + 1) v2 v3 = spec_FromTricks.s10 k v0 v1 e0 (spec_FromTricks.l10 k v0 v1 e0 n) v2 v3 := rfl
def spec_FromTricks.f (k : Nat) (a : LI) : Option (LI) :=
 spec_FromTricks.l3 k a (fun x2 x3 =>
  some x3) (fun x4 =>
  spec_FromTricks.l10 k a x4 (fun x6 =>
   some x6) k 0 []) k 0 0

def spec_l15Round.s3 {R : Type} (k : Nat) (v0 : Int) (e0 : LI → LI → Int → Int → Option R) (rec : Int → LI → Int → Int → LI → Option R) (v1 : Int) (v2 : LI) (v3 v4 : Int) (v5 : LI) : Option R :=
 bif decide (v1 < v0) then
  (spec_l1Below.f k v2 v3 v4 20).bind fun r1 =>
  chk (decide ((v5.length + 1) * 8 ≤ room)) <|
  rec (IntKind.wrap .i64 (v1 + 1)) r1.2.1 (t2 r1).1 (t3 r1) (v5 ++ [r1.1])
 else
  e0 v5 v2 v3 v4
def spec_l15Round.l3 {R : Type} (k : Nat) (v0 : Int) (e0 : LI → LI → Int → Int → Option R) (n : Nat) (v1 : Int) (v2 : LI) (v3 v4 : Int) (v5 : LI) : Option R :=
 V.iter (A := Int × LI × Int × Int × LI) (fun rec a => spec_l15Round.s3 k v0 e0 (fun c0 c1 c2 c3 c4 => rec (c0, c1, c2, c3, c4)) a.1 a.2.1 (t2 a).1 (t3 a).1 (t4 a)) n (v1, v2, v3, v4, v5)
theorem spec_l15Round.l3_succ {R : Type} (k : Nat) (v0 : Int) (e0 : LI → LI → Int → Int → Option R) (n : Nat) (v1 : Int) (v2 : LI) (v3 v4 : Int) (v5 : LI) : spec_l15Round.l3 (R := R) k v0 e0 (n + 1) v1 v2 v3 v4 v5 = spec_l15Round.s3 k v0 e0 (spec_l15Round.l3 k v0 e0 n) v1 v2 v3 v4 v5 := rfl
def spec_l15Round.f (k : Nat) (a0 : LI) (a1 a2 g : Int) : Option (LI × LI × Int × Int) :=
 spec_l15Round.l3 k g (fun x2 x3 x4 x5 =>
  (spec_FromTricks.f k x2).bind fun r6 =>
  some (r6, x3, x4, x5)) k 0 a0 a1 a2 []

def spec_l15Any.s4 {R : Type} (k : Nat) (v0 : Int) (e0 : LI → Int → Int → LL → Option R) (rec : Int → LI → Int → Int → LL → Option R) (v1 : Int) (v2 : LI) (v3 v4 : Int) (v5 : LL) : Option R :=
 bif decide (v1 > 0) then
  (spec_l15Round.f k v2 v3 v4 v0).bind fun r3 =>
  chk (decide ((v5.length + 1) * 24 ≤ room)) <|
  rec (IntKind.wrap .i64 (v1 - 1)) r3.2.1 (t2 r3).1 (t3 r3) (v5 ++ [r3.1])
 else
  e0 v2 v3 v4 v5
def spec_l15Any.l4 {R : Type} (k : Nat) (v0 : Int) (e0 : LI → Int → Int → LL → Option R) (n : Nat) (v1 : Int) (v2 : LI) (v3 v4 : Int) (v5 : LL) : Option R :=
 V.iter (A := Int × LI × Int × Int × LL) (fun rec a => spec_l15Any.s4 k v0 e0 (fun c0 c1 c2 c3 c4 => rec (c0, c1, c2, c3, c4)) a.1 a.2.1 (t2 a).1 (t3 a).1 (t4 a)) n (v1, v2, v3, v4, v5)
theorem spec_l15Any.l4_succ {R : Type} (k : Nat) (v0 : Int) (e0 : LI → Int → Int → LL → Option R) (n : Nat) (v1 : Int) (v2 : LI) (v3 v4 : Int) (v5 : LL) : spec_l15Any.l4 (R := R) k v0 e0 (n + 1) v1 v2 v3 v4 v5 = spec_l15Any.s4 k v0 e0 (spec_l15Any.l4 k v0 e0 n) v1 v2 v3 v4 v5 := rfl
def spec_l15Any.f (k : Nat) (a0 : LI) (a1 a2 : Int) : Option (Int × LL × LI × Int × Int) :=
 (spec_l1Below.f k a0 a1 a2 4).bind fun r1 =>
 (spec_l1Below.f k r1.2.1 (t2 r1).1 (t3 r1) 6).bind fun r2 =>
 spec_l15Any.l4 k (IntKind.wrap .i64 (2 + r1.1)) (fun x4 x5 x6 x7 =>
  (spec_l1Below.f k x4 x5 x6 10).bind fun r8 =>
  bif (r8.1 == 0) then
   (spec_l1Int.f k r8.2.1 (t2 r8).1 (t3 r8) [1, 6, 7, (-1)]).bind fun r9 =>
   some (r9.1, x7, r9.2.1, (t2 r9).1, (t3 r9))
  else
   bif (r8.1 == 1) then
    chk (decide ((x7.length + 1) * 24 ≤ room)) <|
    some (IntKind.wrap .i64 (2 + r1.1), x7 ++ ([[1000, (-1000)]]), r8.2.1, (t2 r8).1, (t3 r8))
   else
    bif (r8.1 == 2) then
     chk (decide ((x7.length + 1) * 24 ≤ room)) <|
     some (IntKind.wrap .i64 (2 + r1.1), x7 ++ ([[1, 1]]), r8.2.1, (t2 r8).1, (t3 r8))
    else
     some (IntKind.wrap .i64 (2 + r1.1), x7, r8.2.1, (t2 r8).1, (t3 r8))) k r2.1 r2.2.1 (t2 r2).1 (t3 r2) []

def spec_DrawIsSheet.f (k : Nat) (a : LI) : Option (Int × LL) :=
 (spec_l1New.f k a).bind fun r1 =>
 (spec_l15Any.f k r1.1 r1.2.1 (t2 r1)).bind fun r2 =>
 some (r2.1, r2.2.1)

def spec_DrawAverageMoves.f (k : Nat) (a : LI) : Option (LL) :=
 (spec_DrawIsSheet.f k a).bind fun r1 =>
 some r1.2

def impl_TotalCards.s3 {R : Type} (k : Nat) (v1 : LL) (v2 : Int) (e0 : Int → Option R) (rec : Int → Int → Option R) (v0 v3 : Int) : Option R :=
 bif decide (v3 < v2) then
  chk ((decide (0 ≤ v3)) && (decide (v3 < (v1.length : Int)))) <|
  rec (IntKind.wrap .i64 (v0 + ((v1.getD v3.toNat []).length : Int))) (IntKind.wrap .i64 (v3 + 1))
 else
  e0 v0
def impl_TotalCards.l3 {R : Type} (k : Nat) (v1 : LL) (v2 : Int) (e0 : Int → Option R) (n : Nat) (v0 v3 : Int) : Option R :=
 V.iter (A := Int × Int) (fun rec a => impl_TotalCards.s3 k v1 v2 e0 (fun c0 c1 => rec (c0, c1)) a.1 a.2) n (v0, v3)
theorem impl_TotalCards.l3_succ {R : Type} (k : Nat) (v1 : LL) (v2 : Int) (e0 : Int → Option R) (n : Nat) (v0 v3 : Int) : impl_TotalCards.l3 (R := R) k v1 v2 e0 (n + 1) v0 v3 = impl_TotalCards.s3 k v1 v2 e0 (impl_TotalCards.l3 k v1 v2 e0 n) v0 v3 := rfl
def impl_TotalCards.f (k : Nat) (a : LL) : Option (Int) :=
 impl_TotalCards.l3 k a (a.length : Int) (fun x1 =>
  some x1) k 0 0

def impl_AverageMoves.f (k : Nat) (a : LL) : Option (Int) :=
 bif ((a.length : Int) == 0) then
  some 0
 else
  (impl_TotalCards.f k a).bind fun r1 =>
  chk (!(decide ((a.length : Int) = 0))) <|
  some (IntKind.wrap .i64 (r1.tdiv (a.length : Int)))

def spec_DrawTotalOf.f (k : Nat) (a : LI) : Option (Int × LL × Int) :=
 (spec_l1New.f k a).bind fun r1 =>
 (spec_l15Any.f k r1.1 r1.2.1 (t2 r1)).bind fun r2 =>
 (spec_l1Below.f k (t2 r2).1 (t3 r2).1 (t4 r2) 7).bind fun r3 =>
 some (r2.1, r2.2.1, IntKind.wrap .i64 (r3.1 - 1))

def spec_DrawWinsOf.f (k : Nat) (a : LI) : Option (Int × LL × Int) :=
 (spec_DrawTotalOf.f k a).bind fun r1 =>
 some (r1.1, r1.2.1, (t2 r1))

def impl_InRange.f (k : Nat) (a g i : Int) : Option (Bool) :=
 bif decide (g ≤ a) then
  some (decide (a ≤ i))
 else
  some false

def impl_allIn.s2 {R : Type} (k : Nat) (v0 v1 : Int) (v2 : LI) (v3 : Int) (e0 e1 : Option R) (rec : Int → Option R) (v4 : Int) : Option R :=
 bif decide (v4 < v3) then
  chk ((decide (0 ≤ v4)) && (decide (v4 < (v2.length : Int)))) <|
  (impl_InRange.f k (v2.getD v4.toNat 0) v0 v1).bind fun r1 =>
  bif (!r1) then
   e0
  else
   rec (IntKind.wrap .i64 (v4 + 1))
 else
  e1
def impl_allIn.l2 {R : Type} (k : Nat) (v0 v1 : Int) (v2 : LI) (v3 : Int) (e0 e1 : Option R) (n : Nat) (v4 : Int) : Option R :=
 V.iter (A := Int) (fun rec a => impl_allIn.s2 k v0 v1 v2 v3 e0 e1 (fun c0 => rec c0) a) n v4
theorem impl_allIn.l2_succ {R : Type} (k : Nat) (v0 v1 : Int) (v2 : LI) (v3 : Int) (e0 e1 : Option R) (n : Nat) (v4 : Int) : impl_allIn.l2 (R := R) k v0 v1 v2 v3 e0 e1 (n + 1) v4 = impl_allIn.s2 k v0 v1 v2 v3 e0 e1 (impl_allIn.l2 k v0 v1 v2 v3 e0 e1 n) v4 := rfl
def impl_allIn.f (k : Nat) (a : LI) (g i : Int) : Option (Bool) :=
 impl_allIn.l2 k g i a (a.length : Int) (some false) (some true) k 0

def impl_sum.s3 {R : Type} (k : Nat) (v1 : LI) (v2 : Int) (e0 : Int → Option R) (rec : Int → Int → Option R) (v0 v3 : Int) : Option R :=
 bif decide (v3 < v2) then
  chk ((decide (0 ≤ v3)) && (decide (v3 < (v1.length : Int)))) <|
  rec (IntKind.wrap .i64 (v0 + (v1.getD v3.toNat 0))) (IntKind.wrap .i64 (v3 + 1))
 else
  e0 v0
def impl_sum.l3 {R : Type} (k : Nat) (v1 : LI) (v2 : Int) (e0 : Int → Option R) (n : Nat) (v0 v3 : Int) : Option R :=
 V.iter (A := Int × Int) (fun rec a => impl_sum.s3 k v1 v2 e0 (fun c0 c1 => rec (c0, c1)) a.1 a.2) n (v0, v3)
theorem impl_sum.l3_succ {R : Type} (k : Nat) (v1 : LI) (v2 : Int) (e0 : Int → Option R) (n : Nat) (v0 v3 : Int) : impl_sum.l3 (R := R) k v1 v2 e0 (n + 1) v0 v3 = impl_sum.s3 k v1 v2 e0 (impl_sum.l3 k v1 v2 e0 n) v0 v3 := rfl
def impl_sum.f (k : Nat) (a : LI) : Option (Int) :=
 impl_sum.l3 k a (a.length : Int) (fun x1 =>
  some x1) k 0 0

def impl_IsRound.f (k : Nat) (a : Int) (g : LI) : Option (Bool) :=
 (impl_InRange.f k a 2 6).bind fun r1 =>
 bif r1 then
  bif ((g.length : Int) == a) then
   (impl_allIn.f k g (-1000) 1000).bind fun r2 =>
   bif r2 then
    (impl_sum.f k g).bind fun r3 =>
    some (r3 == 0)
   else
    some false
  else
   some false
 else
  some false

def impl_IsSheet.s2 {R : Type} (k : Nat) (v0 : Int) (v2 : LL) (v3 : Int) (e0 e1 : Option R) (rec : Int → Option R) (v4 : Int) : Option R :=
 bif decide (v4 < v3) then
  chk ((decide (0 ≤ v4)) && (decide (v4 < (v2.length : Int)))) <|
  (impl_IsRound.f k v0 (v2.getD v4.toNat [])).bind fun r1 =>
  bif (!r1) then
   e0
  else
   rec (IntKind.wrap .i64 (v4 + 1))
 else
  e1
def impl_IsSheet.l2 {R : Type} (k : Nat) (v0 : Int) (v2 : LL) (v3 : Int) (e0 e1 : Option R) (n : Nat) (v4 : Int) : Option R :=
 V.iter (A := Int) (fun rec a => impl_IsSheet.s2 k v0 v2 v3 e0 e1 (fun c0 => rec c0) a) n v4
theorem impl_IsSheet.l2_succ {R : Type} (k : Nat) (v0 : Int) (v2 : LL) (v3 : Int) (e0 e1 : Option R) (n : Nat) (v4 : Int) : impl_IsSheet.l2 (R := R) k v0 v2 v3 e0 e1 (n + 1) v4 = impl_IsSheet.s2 k v0 v2 v3 e0 e1 (impl_IsSheet.l2 k v0 v2 v3 e0 e1 n) v4 := rfl
def impl_IsSheet.f (k : Nat) (a : Int) (g : LL) : Option (Bool) :=
 impl_IsSheet.l2 k a g (g.length : Int) (some false) ((impl_InRange.f k a 2 6).bind fun r2 =>
  bif r2 then
   some (decide ((g.length : Int) ≤ 50))
  else
   some false) k 0

def impl_WinsOf.s5 {R : Type} (k : Nat) (v0 : Int) (v2 : LL) (v3 : Int) (e0 : Int → Option R) (rec : Int → Int → Option R) (v1 v4 : Int) : Option R :=
 bif decide (v4 < v3) then
  chk ((decide (0 ≤ v4)) && (decide (v4 < (v2.length : Int)))) <|
  chk ((decide (0 ≤ v0)) && (decide (v0 < ((v2.getD v4.toNat []).length : Int)))) <|
  bif decide (((v2.getD v4.toNat []).getD v0.toNat 0) > 0) then
   rec (IntKind.wrap .i64 (v1 + 1)) (IntKind.wrap .i64 (v4 + 1))
  else
   rec v1 (IntKind.wrap .i64 (v4 + 1))
 else
  e0 v1
def impl_WinsOf.l5 {R : Type} (k : Nat) (v0 : Int) (v2 : LL) (v3 : Int) (e0 : Int → Option R) (n : Nat) (v1 v4 : Int) : Option R :=
 V.iter (A := Int × Int) (fun rec a => impl_WinsOf.s5 k v0 v2 v3 e0 (fun c0 c1 => rec (c0, c1)) a.1 a.2) n (v1, v4)
theorem impl_WinsOf.l5_succ {R : Type} (k : Nat) (v0 : Int) (v2 : LL) (v3 : Int) (e0 : Int → Option R) (n : Nat) (v1 v4 : Int) : impl_WinsOf.l5 (R := R) k v0 v2 v3 e0 (n + 1) v1 v4 = impl_WinsOf.s5 k v0 v2 v3 e0 (impl_WinsOf.l5 k v0 v2 v3 e0 n) v1 v4 := rfl
def impl_WinsOf.f (k : Nat) (a : Int) (g : LL) (i : Int) : Option (Int) :=
 (impl_IsSheet.f k a g).bind fun r1 =>
 bif (!r1) then
  some 0
 else
  (impl_InRange.f k i 0 (IntKind.wrap .i64 (a - 1))).bind fun r2 =>
  bif (!r2) then
   some 0
  else
   impl_WinsOf.l5 k i g (g.length : Int) (fun x3 =>
    some x3) k 0 0

def impl_IsBase.f (k : Nat) (a : LI) : Option (Bool) :=
 bif ((a.length : Int) == 4) then
  (impl_allIn.f k a 0 13).bind fun r1 =>
  some r1
 else
  some false

def impl_IsCard.f (k : Nat) (a : Int) : Option (Bool) :=
 (impl_InRange.f k a 0 51).bind fun r1 =>
 some r1

def impl_RankOf.f (k : Nat) (a : Int) : Option (Int) :=
 (impl_IsCard.f k a).bind fun r1 =>
 bif (!r1) then
  some (-1)
 else
  some (a.tmod 13)

def impl_StepOf.f (k : Nat) (a : Int) : Option (Int) :=
 (impl_RankOf.f k a).bind fun r1 =>
 bif (r1 == (-1)) then
  some 0
 else
  bif (r1 == 12) then
   some 1
  else
   some (IntKind.wrap .i64 (r1 + 2))

def impl_SuitOf.f (k : Nat) (a : Int) : Option (Int) :=
 (impl_IsCard.f k a).bind fun r1 =>
 bif (!r1) then
  some (-1)
 else
  some (IntKind.wrap .i64 (a.tdiv 13))

def impl_BaseCards.s5 {R : Type} (k : Nat) (v0 : LI) (e0 : LI → Option R) (rec : Int → LI → Option R) (v1 : Int) (v2 : LI) : Option R :=
 bif decide (v1 < 52) then
  (impl_StepOf.f k v1).bind fun r2 =>
  (impl_SuitOf.f k v1).bind fun r3 =>
  chk ((decide (0 ≤ r3)) && (decide (r3 < (v0.length : Int)))) <|
  bif decide (r2 ≤ (v0.getD r3.toNat 0)) then
   chk (decide ((v2.length + 1) * 8 ≤ room)) <|
   rec (IntKind.wrap .i64 (v1 + 1)) (v2 ++ [v1])
  else
   rec (IntKind.wrap .i64 (v1 + 1)) v2
 else
  e0 v2
def impl_BaseCards.l5 {R : Type} (k : Nat) (v0 : LI) (e0 : LI → Option R) (n : Nat) (v1 : Int) (v2 : LI) : Option R :=
 V.iter (A := Int × LI) (fun rec a => impl_BaseCards.s5 k v0 e0 (fun c0 c1 => rec (c0, c1)) a.1 a.2) n (v1, v2)
theorem impl_BaseCards.l5_succ {R : Type} (k : Nat) (v0 : LI) (e0 : LI → Option R) (n : Nat) (v1 : Int) (v2 : LI) : impl_BaseCards.l5 (R := R) k v0 e0 (n + 1) v1 v2 = impl_BaseCards.s5 k v0 e0 (impl_BaseCards.l5 k v0 e0 n) v1 v2 := rfl
def impl_BaseCards.f (k : Nat) (a : LI) : Option (LI) :=
 (impl_IsBase.f k a).bind fun r1 =>
 bif (!r1) then
  some ([])
 else
  impl_BaseCards.l5 k a (fun x4 =>
   some x4) k 0 []

def impl_IsHand.s3 {R : Type} (k : Nat) (v0 : LI) (v1 : Int) (e0 e1 : Option R) (rec : Int → List Bool → Option R) (v2 : Int) (v3 : List Bool) : Option R :=
 bif decide (v2 < v1) then
  chk ((decide (0 ≤ v2)) && (decide (v2 < (v0.length : Int)))) <|
  (impl_IsCard.f k (v0.getD v2.toNat 0)).bind fun r1 =>
  bif (!r1) then
   e0
  else
   chk ((decide (0 ≤ (v0.getD v2.toNat 0))) && (decide ((v0.getD v2.toNat 0) < 52))) <|
   bif (v3.getD ((v0.getD v2.toNat 0).toNat) false) then
    e0
   else
    chk ((decide (0 ≤ (v0.getD v2.toNat 0))) && (decide ((v0.getD v2.toNat 0) < 52))) <|
    rec (IntKind.wrap .i64 (v2 + 1)) (v3.set ((v0.getD v2.toNat 0).toNat) true)
 else
  e1
def impl_IsHand.l3 {R : Type} (k : Nat) (v0 : LI) (v1 : Int) (e0 e1 : Option R) (n : Nat) (v2 : Int) (v3 : List Bool) : Option R :=
 V.iter (A := Int × List Bool) (fun rec a => impl_IsHand.s3 k v0 v1 e0 e1 (fun c0 c1 => rec (c0, c1)) a.1 a.2) n (v2, v3)
theorem impl_IsHand.l3_succ {R : Type} (k : Nat) (v0 : LI) (v1 : Int) (e0 e1 : Option R) (n : Nat) (v2 : Int) (v3 : List Bool) : impl_IsHand.l3 (R := R) k v0 v1 e0 e1 (n + 1) v2 v3 = impl_IsHand.s3 k v0 v1 e0 e1 (impl_IsHand.l3 k v0 v1 e0 e1 n) v2 v3 := rfl
def impl_IsHand.f (k : Nat) (a : LI) : Option (Bool) :=
 impl_IsHand.l3 k a (a.length : Int) (some false) (some true) k 0 [false, false, false, false, false, false, false, false, false, false, false, false, false, false, false, false, false, false, false, false, false, false, false, false, false, false, false, false, false, false, false, false, false, false, false, false, false, false, false, false, false, false, false, false, false, false, false, false, false, false, false, false]

def impl_IsRed.f (k : Nat) (a : Int) : Option (Bool) :=
 (impl_SuitOf.f k a).bind fun r1 =>
 bif (r1 == 1) then
  some true
 else
  (impl_SuitOf.f k a).bind fun r2 =>
  some (r2 == 2)

def impl_goesOn.f (k : Nat) (a g : Int) : Option (Bool) :=
 (impl_RankOf.f k g).bind fun r1 =>
 (impl_RankOf.f k a).bind fun r2 =>
 bif (r1 == (IntKind.wrap .i64 (r2 - 1))) then
  (impl_IsRed.f k g).bind fun r3 =>
  (impl_IsRed.f k a).bind fun r4 =>
  some (!(r3 == r4))
 else
  some false

def impl_IsPile.s4 {R : Type} (k : Nat) (v1 : LI) (e0 e1 : Option R) (rec : Int → Option R) (v0 : Int) : Option R :=
 bif decide (v0 < (v1.length : Int)) then
  chk ((decide (0 ≤ (IntKind.wrap .i64 (v0 - 1)))) && (decide ((IntKind.wrap .i64 (v0 - 1)) < (v1.length : Int)))) <|
  chk ((decide (0 ≤ v0)) && (decide (v0 < (v1.length : Int)))) <|
  (impl_goesOn.f k (v1.getD ((IntKind.wrap .i64 (v0 - 1)).toNat) 0) (v1.getD v0.toNat 0)).bind fun r3 =>
  bif (!r3) then
   e0
  else
   rec (IntKind.wrap .i64 (v0 + 1))
 else
  e1
def impl_IsPile.l4 {R : Type} (k : Nat) (v1 : LI) (e0 e1 : Option R) (n : Nat) (v0 : Int) : Option R :=
 V.iter (A := Int) (fun rec a => impl_IsPile.s4 k v1 e0 e1 (fun c0 => rec c0) a) n v0
theorem impl_IsPile.l4_succ {R : Type} (k : Nat) (v1 : LI) (e0 e1 : Option R) (n : Nat) (v0 : Int) : impl_IsPile.l4 (R := R) k v1 e0 e1 (n + 1) v0 = impl_IsPile.s4 k v1 e0 e1 (impl_IsPile.l4 k v1 e0 e1 n) v0 := rfl
def impl_IsPile.f (k : Nat) (a0 : LI) (a1 : Int) : Option (Bool) :=
 (impl_IsHand.f k a0).bind fun r1 =>
 bif (!r1) then
  some false
 else
  (impl_InRange.f k a1 0 (a0.length : Int)).bind fun r2 =>
  bif (!r2) then
   some false
  else
   impl_IsPile.l4 k a0 (some false) (some true) k (IntKind.wrap .i64 (a1 + 1))

def impl_OpenCards.f (k : Nat) (a0 : LI) (a1 : Int) : Option (Int) :=
 (impl_IsPile.f k a0 a1).bind fun r1 =>
 bif (!r1) then
  some 0
 else
  some (IntKind.wrap .i64 ((a0.length : Int) - a1))

def impl_AllApart.s3 {R : Type} (k : Nat) (v0 : LL) (v1 : Int) (e0 : LI → Option R) (rec : Int → LI → Option R) (v2 : Int) (v3 : LI) : Option R :=
 bif decide (v2 < v1) then
  chk ((decide (0 ≤ v2)) && (decide (v2 < (v0.length : Int)))) <|
  chk (decide ((v3.length + ((v0.getD v2.toNat []).length)) * 8 ≤ room)) <|
  rec (IntKind.wrap .i64 (v2 + 1)) (v3 ++ (v0.getD v2.toNat []))
 else
  e0 v3
def impl_AllApart.l3 {R : Type} (k : Nat) (v0 : LL) (v1 : Int) (e0 : LI → Option R) (n : Nat) (v2 : Int) (v3 : LI) : Option R :=
 V.iter (A := Int × LI) (fun rec a => impl_AllApart.s3 k v0 v1 e0 (fun c0 c1 => rec (c0, c1)) a.1 a.2) n (v2, v3)
theorem impl_AllApart.l3_succ {R : Type} (k : Nat) (v0 : LL) (v1 : Int) (e0 : LI → Option R) (n : Nat) (v2 : Int) (v3 : LI) : impl_AllApart.l3 (R := R) k v0 v1 e0 (n + 1) v2 v3 = impl_AllApart.s3 k v0 v1 e0 (impl_AllApart.l3 k v0 v1 e0 n) v2 v3 := rfl
def impl_AllApart.f (k : Nat) (a : LL) : Option (Bool) :=
 impl_AllApart.l3 k a (a.length : Int) (fun x1 =>
  (impl_IsHand.f k x1).bind fun r2 =>
  some r2) k 0 []

def impl_isWhole.f (k : Nat) (a : LL) : Option (Bool) :=
 (impl_AllApart.f k a).bind fun r1 =>
 bif r1 then
  (impl_TotalCards.f k a).bind fun r2 =>
  some (r2 == 52)
 else
  some false

def impl_IsPatience.s5 {R : Type} (k : Nat) (v0 : List (List Leaf)) (v1 : Int) (e0 e1 : LL → Option R) (rec : Int → LL → Option R) (v2 : Int) (v3 : LL) : Option R :=
 bif decide (v2 < v1) then
  chk ((decide (0 ≤ v2)) && (decide (v2 < (v0.length : Int)))) <|
  (impl_IsPile.f k (gl (v0.getD v2.toNat []) 0) (gi (v0.getD v2.toNat []) 1)).bind fun r4 =>
  bif (!r4) then
   e0 v3
  else
   bif decide (((gl (v0.getD v2.toNat []) 0).length : Int) > 0) then
    (impl_OpenCards.f k (gl (v0.getD v2.toNat []) 0) (gi (v0.getD v2.toNat []) 1)).bind fun r5 =>
    bif (r5 == 0) then
     e0 v3
    else
     chk (decide ((v3.length + 1) * 24 ≤ room)) <|
     rec (IntKind.wrap .i64 (v2 + 1)) (v3 ++ ([gl (v0.getD v2.toNat []) 0]))
   else
    chk (decide ((v3.length + 1) * 24 ≤ room)) <|
    rec (IntKind.wrap .i64 (v2 + 1)) (v3 ++ ([gl (v0.getD v2.toNat []) 0]))
 else
  e1 v3
def impl_IsPatience.l5 {R : Type} (k : Nat) (v0 : List (List Leaf)) (v1 : Int) (e0 e1 : LL → Option R) (n : Nat) (v2 : Int) (v3 : LL) : Option R :=
 V.iter (A := Int × LL) (fun rec a => impl_IsPatience.s5 k v0 v1 e0 e1 (fun c0 c1 => rec (c0, c1)) a.1 a.2) n (v2, v3)
theorem impl_IsPatience.l5_succ {R : Type} (k : Nat) (v0 : List (List Leaf)) (v1 : Int) (e0 e1 : LL → Option R) (n : Nat) (v2 : Int) (v3 : LL) : impl_IsPatience.l5 (R := R) k v0 v1 e0 e1 (n + 1) v2 v3 = impl_IsPatience.s5 k v0 v1 e0 e1 (impl_IsPatience.l5 k v0 v1 e0 e1 n) v2 v3 := rfl
def impl_IsPatience.f (k : Nat) (a0 : List (List Leaf)) (a1 a2 a3 : LI) : Option (Bool) :=
 (impl_InRange.f k (a0.length : Int) 1 7).bind fun r1 =>
 bif (!r1) then
  some false
 else
  (impl_IsBase.f k a1).bind fun r2 =>
  bif (!r2) then
   some false
  else
   (impl_BaseCards.f k a1).bind fun r3 =>
   impl_IsPatience.l5 k a0 (a0.length : Int) (fun x6 =>
    some false) (fun x7 =>
    (impl_isWhole.f k x7).bind fun r8 =>
    some r8) k 0 [a2, a3, r3]

def impl_OpenShare.s5 {R : Type} (k : Nat) (v1 : List (List Leaf)) (v2 : Int) (e0 : Int → Option R) (rec : Int → Int → Option R) (v0 v3 : Int) : Option R :=
 bif decide (v3 < v2) then
  chk ((decide (0 ≤ v3)) && (decide (v3 < (v1.length : Int)))) <|
  (impl_OpenCards.f k (gl (v1.getD v3.toNat []) 0) (gi (v1.getD v3.toNat []) 1)).bind fun r3 =>
  rec (IntKind.wrap .i64 (v0 + r3)) (IntKind.wrap .i64 (v3 + 1))
 else
  e0 v0
def impl_OpenShare.l5 {R : Type} (k : Nat) (v1 : List (List Leaf)) (v2 : Int) (e0 : Int → Option R) (n : Nat) (v0 v3 : Int) : Option R :=
 V.iter (A := Int × Int) (fun rec a => impl_OpenShare.s5 k v1 v2 e0 (fun c0 c1 => rec (c0, c1)) a.1 a.2) n (v0, v3)
theorem impl_OpenShare.l5_succ {R : Type} (k : Nat) (v1 : List (List Leaf)) (v2 : Int) (e0 : Int → Option R) (n : Nat) (v0 v3 : Int) : impl_OpenShare.l5 (R := R) k v1 v2 e0 (n + 1) v0 v3 = impl_OpenShare.s5 k v1 v2 e0 (impl_OpenShare.l5 k v1 v2 e0 n) v0 v3 := rfl
def impl_OpenShare.f (k : Nat) (a0 : List (List Leaf)) (a1 a2 a3 : LI) : Option (Int) :=
 (impl_IsPatience.f k a0 a1 a2 a3).bind fun r1 =>
 bif (!r1) then
  some 0
 else
  (impl_BaseCards.f k a1).bind fun r2 =>
  impl_OpenShare.l5 k a0 (a0.length : Int) (fun x4 =>
   some (IntKind.wrap .i64 ((IntKind.wrap .i64 (100 * x4)).tdiv 52))) k (IntKind.wrap .i64 ((a3.length : Int) + (r2.length : Int))) 0

def spec_l4Card.f (k : Nat) (a0 : LI) (a1 a2 : Int) : Option (Int × LI × Int × Int) :=
 (spec_l1Below.f k a0 a1 a2 52).bind fun r1 =>
 (spec_l1Below.f k r1.2.1 (t2 r1).1 (t3 r1) 52).bind fun r2 =>
 (spec_l1Below.f k r2.2.1 (t2 r2).1 (t3 r2) 52).bind fun r3 =>
 (spec_l1Int.f k r3.2.1 (t2 r3).1 (t3 r3) [r1.1, r2.1, r3.1, 0, 51, 52, (-1), 9223372036854775807]).bind fun r4 =>
 some (r4.1, r4.2.1, (t2 r4).1, (t3 r4))

def spec_l1Once.f (k : Nat) (a0 : LI) (a1 a2 g : Int) : Option (Bool × LI × Int × Int) :=
 (spec_l1Below.f k a0 a1 a2 g).bind fun r1 =>
 some (r1.1 == 0, r1.2.1, (t2 r1).1, (t3 r1))

def spec_Mod.f (k : Nat) (a g : Int) : Option (Int) :=
 (spec_l1In.f k g 1 1000000000000).bind fun r1 =>
 bif (!r1) then
  some 0
 else
  chk (!(decide (g = 0))) <|
  chk (!(decide (g = 0))) <|
  some ((IntKind.wrap .i64 ((a.tmod g) + g)).tmod g)

def spec_Hash.s3 {R : Type} (k : Nat) (v0 : LI) (e0 : Int → Option R) (rec : Int → Int → Option R) (v1 v2 : Int) : Option R :=
 bif decide (v2 < (v0.length : Int)) then
  chk ((decide (0 ≤ v2)) && (decide (v2 < (v0.length : Int)))) <|
  (spec_Mod.f k (v0.getD v2.toNat 0) 2147483647).bind fun r1 =>
  rec ((IntKind.wrap .i64 ((IntKind.wrap .i64 ((IntKind.wrap .i64 (v1 * 1000003)) + r1)) + 13)).tmod 2147483647) (IntKind.wrap .i64 (v2 + 1))
 else
  e0 v1
def spec_Hash.l3 {R : Type} (k : Nat) (v0 : LI) (e0 : Int → Option R) (n : Nat) (v1 v2 : Int) : Option R :=
 V.iter (A := Int × Int) (fun rec a => spec_Hash.s3 k v0 e0 (fun c0 c1 => rec (c0, c1)) a.1 a.2) n (v1, v2)
theorem spec_Hash.l3_succ {R : Type} (k : Nat) (v0 : LI) (e0 : Int → Option R) (n : Nat) (v1 v2 : Int) : spec_Hash.l3 (R := R) k v0 e0 (n + 1) v1 v2 = spec_Hash.s3 k v0 e0 (spec_Hash.l3 k v0 e0 n) v1 v2 := rfl
def spec_Hash.f (k : Nat) (a : LI) : Option (Int) :=
 spec_Hash.l3 k a (fun x2 =>
  some x2) k 11 0

def spec_Shuffled.s3 {R : Type} (k : Nat) (v0 : Int) (e0 : LI → Option R) (rec : Int → LI → Option R) (v1 : Int) (v2 : LI) : Option R :=
 bif decide (v1 > 0) then
  (spec_Hash.f k [v0, v1]).bind fun r1 =>
  (spec_Mod.f k r1 (IntKind.wrap .i64 (v1 + 1))).bind fun r2 =>
  chk ((decide (0 ≤ v1)) && (decide (v1 < (v2.length : Int)))) <|
  chk ((decide (0 ≤ r2)) && (decide (r2 < (v2.length : Int)))) <|
  chk ((decide (0 ≤ v1)) && (decide (v1 < (v2.length : Int)))) <|
  chk ((decide (0 ≤ r2)) && (decide (r2 < ((v2.set v1.toNat (v2.getD r2.toNat 0)).length : Int)))) <|
  rec (IntKind.wrap .i64 (v1 - 1)) ((v2.set v1.toNat (v2.getD r2.toNat 0)).set r2.toNat (v2.getD v1.toNat 0))
 else
  e0 v2
def spec_Shuffled.l3 {R : Type} (k : Nat) (v0 : Int) (e0 : LI → Option R) (n : Nat) (v1 : Int) (v2 : LI) : Option R :=
 V.iter (A := Int × LI) (fun rec a => spec_Shuffled.s3 k v0 e0 (fun c0 c1 => rec (c0, c1)) a.1 a.2) n (v1, v2)
theorem spec_Shuffled.l3_succ {R : Type} (k : Nat) (v0 : Int) (e0 : LI → Option R) (n : Nat) (v1 : Int) (v2 : LI) : spec_Shuffled.l3 (R := R) k v0 e0 (n + 1) v1 v2 = spec_Shuffled.s3 k v0 e0 (spec_Shuffled.l3 k v0 e0 n) v1 v2 := rfl
def spec_Shuffled.f (k : Nat) (a : LI) (g : Int) : Option (LI) :=
 chk (decide ((0 + a.length) * 8 ≤ room)) <|
 spec_Shuffled.l3 k g (fun x3 =>
  some x3) k (IntKind.wrap .i64 ((([] ++ a).length : Int) - 1)) ([] ++ a)

def spec_HasCard.s2 {R : Type} (k : Nat) (v0 : LI) (v1 : Int) (e0 e1 : Option R) (rec : Int → Option R) (v2 : Int) : Option R :=
 bif decide (v2 < (v0.length : Int)) then
  chk ((decide (0 ≤ v2)) && (decide (v2 < (v0.length : Int)))) <|
  bif ((v0.getD v2.toNat 0) == v1) then
   e0
  else
   rec (IntKind.wrap .i64 (v2 + 1))
 else
  e1
def spec_HasCard.l2 {R : Type} (k : Nat) (v0 : LI) (v1 : Int) (e0 e1 : Option R) (n : Nat) (v2 : Int) : Option R :=
 V.iter (A := Int) (fun rec a => spec_HasCard.s2 k v0 v1 e0 e1 (fun c0 => rec c0) a) n v2
theorem spec_HasCard.l2_succ {R : Type} (k : Nat) (v0 : LI) (v1 : Int) (e0 e1 : Option R) (n : Nat) (v2 : Int) : spec_HasCard.l2 (R := R) k v0 v1 e0 e1 (n + 1) v2 = spec_HasCard.s2 k v0 v1 e0 e1 (spec_HasCard.l2 k v0 v1 e0 e1 n) v2 := rfl
def spec_HasCard.f (k : Nat) (a : LI) (g : Int) : Option (Bool) :=
 spec_HasCard.l2 k a g (some true) (some false) k 0

def spec_Missing.s3 {R : Type} (k : Nat) (v0 : LI) (e0 : LI → Option R) (rec : Int → LI → Option R) (v1 : Int) (v2 : LI) : Option R :=
 bif decide (v1 < 52) then
  (spec_HasCard.f k v0 v1).bind fun r1 =>
  bif (!r1) then
   chk (decide ((v2.length + 1) * 8 ≤ room)) <|
   rec (IntKind.wrap .i64 (v1 + 1)) (v2 ++ [v1])
  else
   rec (IntKind.wrap .i64 (v1 + 1)) v2
 else
  e0 v2
def spec_Missing.l3 {R : Type} (k : Nat) (v0 : LI) (e0 : LI → Option R) (n : Nat) (v1 : Int) (v2 : LI) : Option R :=
 V.iter (A := Int × LI) (fun rec a => spec_Missing.s3 k v0 e0 (fun c0 c1 => rec (c0, c1)) a.1 a.2) n (v1, v2)
theorem spec_Missing.l3_succ {R : Type} (k : Nat) (v0 : LI) (e0 : LI → Option R) (n : Nat) (v1 : Int) (v2 : LI) : spec_Missing.l3 (R := R) k v0 e0 (n + 1) v1 v2 = spec_Missing.s3 k v0 e0 (spec_Missing.l3 k v0 e0 n) v1 v2 := rfl
def spec_Missing.f (k : Nat) (a : LI) : Option (LI) :=
 spec_Missing.l3 k a (fun x2 =>
  some x2) k 0 []

def spec_FullDeck.f (k : Nat) : Option (LI) :=
 (spec_Missing.f k []).bind fun r1 =>
 some r1

def spec_IsCard.f (k : Nat) (a : Int) : Option (Bool) :=
 (spec_l1In.f k a 0 51).bind fun r1 =>
 some r1

def spec_IsHand.s2 {R : Type} (k : Nat) (v0 : LI) (e0 e1 : Option R) (rec : Int → Option R) (v1 : Int) : Option R :=
 bif decide (v1 < (v0.length : Int)) then
  chk ((decide (0 ≤ v1)) && (decide (v1 < (v0.length : Int)))) <|
  (spec_IsCard.f k (v0.getD v1.toNat 0)).bind fun r1 =>
  bif (!r1) then
   e0
  else
   chk ((decide (0 ≤ v1)) && (decide (v1 ≤ (v0.length : Int)))) <|
   chk ((decide (0 ≤ v1)) && (decide (v1 < (v0.length : Int)))) <|
   (spec_HasCard.f k (v0.take v1.toNat) (v0.getD v1.toNat 0)).bind fun r2 =>
   bif r2 then
    e0
   else
    rec (IntKind.wrap .i64 (v1 + 1))
 else
  e1
def spec_IsHand.l2 {R : Type} (k : Nat) (v0 : LI) (e0 e1 : Option R) (n : Nat) (v1 : Int) : Option R :=
 V.iter (A := Int) (fun rec a => spec_IsHand.s2 k v0 e0 e1 (fun c0 => rec c0) a) n v1
theorem spec_IsHand.l2_succ {R : Type} (k : Nat) (v0 : LI) (e0 e1 : Option R) (n : Nat) (v1 : Int) : spec_IsHand.l2 (R := R) k v0 e0 e1 (n + 1) v1 = spec_IsHand.s2 k v0 e0 e1 (spec_IsHand.l2 k v0 e0 e1 n) v1 := rfl
def spec_IsHand.f (k : Nat) (a : LI) : Option (Bool) :=
 spec_IsHand.l2 k a (some false) (some true) k 0

def spec_NewPatience.s6 {R : Type} (k : Nat) (v0 : LI) (v1 : Int) (e0 : Int → List (List Leaf) → Option R) (rec : Int → Int → List (List Leaf) → Option R) (v2 v3 : Int) (v4 : List (List Leaf)) : Option R :=
 bif decide (v3 ≤ v1) then
  chk ((decide (0 ≤ (IntKind.wrap .i64 (v2 + v3)))) && (decide ((IntKind.wrap .i64 (v2 + v3)) ≤ (v0.length : Int)))) <|
  chk ((decide (0 ≤ v2)) && (decide (v2 ≤ (IntKind.wrap .i64 (v2 + v3))))) <|
  chk (decide ((0 + (((v0.take ((IntKind.wrap .i64 (v2 + v3)).toNat)).drop v2.toNat).length)) * 8 ≤ room)) <|
  chk (decide ((v4.length + 1) * 32 ≤ room)) <|
  rec (IntKind.wrap .i64 (v2 + v3)) (IntKind.wrap .i64 (v3 + 1)) (v4 ++ ([[.ints ([] ++ ((v0.take ((IntKind.wrap .i64 (v2 + v3)).toNat)).drop v2.toNat)), .int (IntKind.wrap .i64 (v3 - 1))]]))
 else
  e0 v2 v4
def spec_NewPatience.l6 {R : Type} (k : Nat) (v0 : LI) (v1 : Int) (e0 : Int → List (List Leaf) → Option R) (n : Nat) (v2 v3 : Int) (v4 : List (List Leaf)) : Option R :=
 V.iter (A := Int × Int × List (List Leaf)) (fun rec a => spec_NewPatience.s6 k v0 v1 e0 (fun c0 c1 c2 => rec (c0, c1, c2)) a.1 a.2.1 (t2 a)) n (v2, v3, v4)
theorem spec_NewPatience.l6_succ {R : Type} (k : Nat) (v0 : LI) (v1 : Int) (e0 : Int → List (List Leaf) → Option R) (n : Nat) (v2 v3 : Int) (v4 : List (List Leaf)) : spec_NewPatience.l6 (R := R) k v0 v1 e0 (n + 1) v2 v3 v4 = spec_NewPatience.s6 k v0 v1 e0 (spec_NewPatience.l6 k v0 v1 e0 n) v2 v3 v4 := rfl
def spec_NewPatience.f (k : Nat) (a : LI) (g : Int) : Option (List (List Leaf) × LI × LI × LI × Bool) :=
 (spec_IsHand.f k a).bind fun r1 =>
 bif (!r1) then
  some ([], [], [], [], false)
 else
  bif ((a.length : Int) != 52) then
   some ([], [], [], [], false)
  else
   (spec_l1In.f k g 1 7).bind fun r2 =>
   bif (!r2) then
    some ([], [], [], [], false)
   else
    spec_NewPatience.l6 k a g (fun x3 x4 =>
     chk ((decide (0 ≤ x3)) && (decide (x3 ≤ (a.length : Int)))) <|
     chk (decide ((0 + ((a.drop x3.toNat).length)) * 8 ≤ room)) <|
     some (x4, [0, 0, 0, 0], [] ++ (a.drop x3.toNat), [], true)) k 0 1 []

def spec_l18Start.f (k : Nat) (a0 : LI) (a1 a2 : Int) : Option (List (List Leaf) × LI × LI × LI × LI × Int × Int) :=
 (spec_FullDeck.f k).bind fun r1 =>
 (spec_l1Once.f k a0 a1 a2 2).bind fun r2 =>
 bif r2.1 then
  (spec_l1Below.f k r2.2.1 (t2 r2).1 (t3 r2) 999).bind fun r3 =>
  (spec_Shuffled.f k r1 r3.1).bind fun r4 =>
  (spec_l1Below.f k r3.2.1 (t2 r3).1 (t3 r3) 7).bind fun r5 =>
  (spec_NewPatience.f k r4 (IntKind.wrap .i64 (1 + r5.1))).bind fun r6 =>
  some (r6.1, r6.2.1, (t2 r6).1, (t3 r6).1, r5.2.1, (t2 r5).1, (t3 r5))
 else
  (spec_l1Below.f k r2.2.1 (t2 r2).1 (t3 r2) 7).bind fun r7 =>
  (spec_NewPatience.f k r1 (IntKind.wrap .i64 (1 + r7.1))).bind fun r8 =>
  some (r8.1, r8.2.1, (t2 r8).1, (t3 r8).1, r7.2.1, (t2 r7).1, (t3 r7))

def spec_l16Copy.f (k : Nat) (a0 : LI) (a1 : Int) : Option (LI × Int) :=
 chk (decide ((0 + a0.length) * 8 ≤ room)) <|
 some ([] ++ a0, a1)

def spec_l18Copy.s3 {R : Type} (k : Nat) (v1 : List (List Leaf)) (e0 : List (List Leaf) → Option R) (rec : Int → List (List Leaf) → Option R) (v0 : Int) (v5 : List (List Leaf)) : Option R :=
 bif decide (v0 < (v1.length : Int)) then
  chk ((decide (0 ≤ v0)) && (decide (v0 < (v1.length : Int)))) <|
  (spec_l16Copy.f k (gl (v1.getD v0.toNat []) 0) (gi (v1.getD v0.toNat []) 1)).bind fun r1 =>
  chk (decide ((v5.length + 1) * 32 ≤ room)) <|
  rec (IntKind.wrap .i64 (v0 + 1)) (v5 ++ ([[.ints r1.1, .int r1.2]]))
 else
  e0 v5
def spec_l18Copy.l3 {R : Type} (k : Nat) (v1 : List (List Leaf)) (e0 : List (List Leaf) → Option R) (n : Nat) (v0 : Int) (v5 : List (List Leaf)) : Option R :=
 V.iter (A := Int × List (List Leaf)) (fun rec a => spec_l18Copy.s3 k v1 e0 (fun c0 c1 => rec (c0, c1)) a.1 a.2) n (v0, v5)
theorem spec_l18Copy.l3_succ {R : Type} (k : Nat) (v1 : List (List Leaf)) (e0 : List (List Leaf) → Option R) (n : Nat) (v0 : Int) (v5 : List (List Leaf)) : spec_l18Copy.l3 (R := R) k v1 e0 (n + 1) v0 v5 = spec_l18Copy.s3 k v1 e0 (spec_l18Copy.l3 k v1 e0 n) v0 v5 := rfl
def spec_l18Copy.f (k : Nat) (a0 : List (List Leaf)) (a1 a2 a3 : LI) : Option (List (List Leaf) × LI × LI × LI) :=
 chk (decide ((0 + a1.length) * 8 ≤ room)) <|
 chk (decide ((0 + a2.length) * 8 ≤ room)) <|
 chk (decide ((0 + a3.length) * 8 ≤ room)) <|
 spec_l18Copy.l3 k a0 (fun x2 =>
  some (x2, [] ++ a1, [] ++ a2, [] ++ a3)) k 0 []

def spec_IsBase.s2 {R : Type} (k : Nat) (v0 : LI) (e0 e1 : Option R) (rec : Int → Option R) (v1 : Int) : Option R :=
 bif decide (v1 < (v0.length : Int)) then
  chk ((decide (0 ≤ v1)) && (decide (v1 < (v0.length : Int)))) <|
  (spec_l1In.f k (v0.getD v1.toNat 0) 0 13).bind fun r1 =>
  bif (!r1) then
   e0
  else
   rec (IntKind.wrap .i64 (v1 + 1))
 else
  e1
def spec_IsBase.l2 {R : Type} (k : Nat) (v0 : LI) (e0 e1 : Option R) (n : Nat) (v1 : Int) : Option R :=
 V.iter (A := Int) (fun rec a => spec_IsBase.s2 k v0 e0 e1 (fun c0 => rec c0) a) n v1
theorem spec_IsBase.l2_succ {R : Type} (k : Nat) (v0 : LI) (e0 e1 : Option R) (n : Nat) (v1 : Int) : spec_IsBase.l2 (R := R) k v0 e0 e1 (n + 1) v1 = spec_IsBase.s2 k v0 e0 e1 (spec_IsBase.l2 k v0 e0 e1 n) v1 := rfl
def spec_IsBase.f (k : Nat) (a : LI) : Option (Bool) :=
 spec_IsBase.l2 k a (some false) (some ((a.length : Int) == 4)) k 0

def spec_SuitOf.f (k : Nat) (a : Int) : Option (Int) :=
 (spec_IsCard.f k a).bind fun r1 =>
 bif (!r1) then
  some (-1)
 else
  some (IntKind.wrap .i64 (a.tdiv 13))

def spec_RankOf.f (k : Nat) (a : Int) : Option (Int) :=
 (spec_IsCard.f k a).bind fun r1 =>
 bif (!r1) then
  some (-1)
 else
  some (a.tmod 13)

def spec_StepOf.f (k : Nat) (a : Int) : Option (Int) :=
 (spec_IsCard.f k a).bind fun r1 =>
 bif (!r1) then
  some 0
 else
  (spec_RankOf.f k a).bind fun r2 =>
  some (IntKind.wrap .i64 (((IntKind.wrap .i64 (r2 + 1)).tmod 13) + 1))

def spec_BaseCards.s3 {R : Type} (k : Nat) (v0 : LI) (e0 : LI → Option R) (rec : Int → LI → Option R) (v1 : Int) (v2 : LI) : Option R :=
 bif decide (v1 < 52) then
  (spec_IsBase.f k v0).bind fun r1 =>
  bif r1 then
   (spec_StepOf.f k v1).bind fun r2 =>
   (spec_SuitOf.f k v1).bind fun r3 =>
   chk ((decide (0 ≤ r3)) && (decide (r3 < (v0.length : Int)))) <|
   bif decide (r2 ≤ (v0.getD r3.toNat 0)) then
    chk (decide ((v2.length + 1) * 8 ≤ room)) <|
    rec (IntKind.wrap .i64 (v1 + 1)) (v2 ++ [v1])
   else
    rec (IntKind.wrap .i64 (v1 + 1)) v2
  else
   e0 v2
 else
  e0 v2
def spec_BaseCards.l3 {R : Type} (k : Nat) (v0 : LI) (e0 : LI → Option R) (n : Nat) (v1 : Int) (v2 : LI) : Option R :=
 V.iter (A := Int × LI) (fun rec a => spec_BaseCards.s3 k v0 e0 (fun c0 c1 => rec (c0, c1)) a.1 a.2) n (v1, v2)
theorem spec_BaseCards.l3_succ {R : Type} (k : Nat) (v0 : LI) (e0 : LI → Option R) (n : Nat) (v1 : Int) (v2 : LI) : spec_BaseCards.l3 (R := R) k v0 e0 (n + 1) v1 v2 = spec_BaseCards.s3 k v0 e0 (spec_BaseCards.l3 k v0 e0 n) v1 v2 := rfl
def spec_BaseCards.f (k : Nat) (a : LI) : Option (LI) :=
 spec_BaseCards.l3 k a (fun x4 =>
  some x4) k 0 []

def spec_IsRed.f (k : Nat) (a : Int) : Option (Bool) :=
 (spec_SuitOf.f k a).bind fun r1 =>
 (spec_l1In.f k r1 1 2).bind fun r2 =>
 some r2

def spec_l16Step.f (k : Nat) (a g : Int) : Option (Bool) :=
 (spec_RankOf.f k a).bind fun r1 =>
 (spec_RankOf.f k g).bind fun r2 =>
 bif (r1 == (IntKind.wrap .i64 (r2 + 1))) then
  (spec_IsRed.f k a).bind fun r3 =>
  (spec_IsRed.f k g).bind fun r4 =>
  some (!(r3 == r4))
 else
  some false

def spec_IsPile.s4 {R : Type} (k : Nat) (v1 : LI) (e0 e1 : Option R) (rec : Int → Option R) (v0 : Int) : Option R :=
 bif decide (v0 < (v1.length : Int)) then
  chk ((decide (0 ≤ (IntKind.wrap .i64 (v0 - 1)))) && (decide ((IntKind.wrap .i64 (v0 - 1)) < (v1.length : Int)))) <|
  chk ((decide (0 ≤ v0)) && (decide (v0 < (v1.length : Int)))) <|
  (spec_l16Step.f k (v1.getD ((IntKind.wrap .i64 (v0 - 1)).toNat) 0) (v1.getD v0.toNat 0)).bind fun r3 =>
  bif (!r3) then
   e0
  else
   rec (IntKind.wrap .i64 (v0 + 1))
 else
  e1
def spec_IsPile.l4 {R : Type} (k : Nat) (v1 : LI) (e0 e1 : Option R) (n : Nat) (v0 : Int) : Option R :=
 V.iter (A := Int) (fun rec a => spec_IsPile.s4 k v1 e0 e1 (fun c0 => rec c0) a) n v0
theorem spec_IsPile.l4_succ {R : Type} (k : Nat) (v1 : LI) (e0 e1 : Option R) (n : Nat) (v0 : Int) : spec_IsPile.l4 (R := R) k v1 e0 e1 (n + 1) v0 = spec_IsPile.s4 k v1 e0 e1 (spec_IsPile.l4 k v1 e0 e1 n) v0 := rfl
def spec_IsPile.f (k : Nat) (a0 : LI) (a1 : Int) : Option (Bool) :=
 (spec_IsHand.f k a0).bind fun r1 =>
 bif (!r1) then
  some false
 else
  (spec_l1In.f k a1 0 (a0.length : Int)).bind fun r2 =>
  bif (!r2) then
   some false
  else
   spec_IsPile.l4 k a0 (some false) (some true) k (IntKind.wrap .i64 (a1 + 1))

def spec_IsPatience.s5 {R : Type} (k : Nat) (v1 : List (List Leaf)) (e0 e1 : LI → Option R) (rec : Int → LI → Option R) (v0 : Int) (v5 : LI) : Option R :=
 bif decide (v0 < (v1.length : Int)) then
  chk ((decide (0 ≤ v0)) && (decide (v0 < (v1.length : Int)))) <|
  (spec_IsPile.f k (gl (v1.getD v0.toNat []) 0) (gi (v1.getD v0.toNat []) 1)).bind fun r4 =>
  bif (!r4) then
   e0 v5
  else
   bif decide (((gl (v1.getD v0.toNat []) 0).length : Int) > 0) then
    bif ((gi (v1.getD v0.toNat []) 1) == ((gl (v1.getD v0.toNat []) 0).length : Int)) then
     e0 v5
    else
     chk (decide ((v5.length + ((gl (v1.getD v0.toNat []) 0).length)) * 8 ≤ room)) <|
     rec (IntKind.wrap .i64 (v0 + 1)) (v5 ++ (gl (v1.getD v0.toNat []) 0))
   else
    chk (decide ((v5.length + ((gl (v1.getD v0.toNat []) 0).length)) * 8 ≤ room)) <|
    rec (IntKind.wrap .i64 (v0 + 1)) (v5 ++ (gl (v1.getD v0.toNat []) 0))
 else
  e1 v5
def spec_IsPatience.l5 {R : Type} (k : Nat) (v1 : List (List Leaf)) (e0 e1 : LI → Option R) (n : Nat) (v0 : Int) (v5 : LI) : Option R :=
 V.iter (A := Int × LI) (fun rec a => spec_IsPatience.s5 k v1 e0 e1 (fun c0 c1 => rec (c0, c1)) a.1 a.2) n (v0, v5)
theorem spec_IsPatience.l5_succ {R : Type} (k : Nat) (v1 : List (List Leaf)) (e0 e1 : LI → Option R) (n : Nat) (v0 : Int) (v5 : LI) : spec_IsPatience.l5 (R := R) k v1 e0 e1 (n + 1) v0 v5 = spec_IsPatience.s5 k v1 e0 e1 (spec_IsPatience.l5 k v1 e0 e1 n) v0 v5 := rfl
def spec_IsPatience.f (k : Nat) (a0 : List (List Leaf)) (a1 a2 a3 : LI) : Option (Bool) :=
 (spec_l1In.f k (a0.length : Int) 1 7).bind fun r1 =>
 bif (!r1) then
  some false
 else
  (spec_IsBase.f k a1).bind fun r2 =>
  bif (!r2) then
   some false
  else
   (spec_BaseCards.f k a1).bind fun r3 =>
   chk (decide ((r3.length + a2.length) * 8 ≤ room)) <|
   chk (decide ((((r3 ++ a2).length) + a3.length) * 8 ≤ room)) <|
   spec_IsPatience.l5 k a0 (fun x5 =>
    some false) (fun x6 =>
    (spec_IsHand.f k x6).bind fun r7 =>
    bif r7 then
     some ((x6.length : Int) == 52)
    else
     some false) k 0 ((r3 ++ a2) ++ a3)

def spec_OpenCards.f (k : Nat) (a0 : LI) (a1 : Int) : Option (Int) :=
 (spec_IsPile.f k a0 a1).bind fun r1 =>
 bif (!r1) then
  some 0
 else
  some (IntKind.wrap .i64 ((a0.length : Int) - a1))

def spec_Lifted.f (k : Nat) (a0 : LI) (a1 g : Int) : Option (LI × Int × LI × Bool) :=
 (spec_l16Copy.f k a0 a1).bind fun r1 =>
 (spec_OpenCards.f k a0 a1).bind fun r2 =>
 (spec_l1In.f k g 1 r2).bind fun r3 =>
 bif (!r3) then
  some (r1.1, r1.2, [], false)
 else
  chk ((decide (0 ≤ (IntKind.wrap .i64 ((a0.length : Int) - g)))) && (decide ((IntKind.wrap .i64 ((a0.length : Int) - g)) ≤ (a0.length : Int)))) <|
  chk (decide ((0 + ((a0.take ((IntKind.wrap .i64 ((a0.length : Int) - g)).toNat)).length)) * 8 ≤ room)) <|
  bif decide ((IntKind.wrap .i64 ((a0.length : Int) - g)) > 0) then
   bif (r1.2 == (IntKind.wrap .i64 ((a0.length : Int) - g))) then
    chk ((decide (0 ≤ (IntKind.wrap .i64 ((a0.length : Int) - g)))) && (decide ((IntKind.wrap .i64 ((a0.length : Int) - g)) ≤ (a0.length : Int)))) <|
    chk (decide ((0 + ((a0.drop ((IntKind.wrap .i64 ((a0.length : Int) - g)).toNat)).length)) * 8 ≤ room)) <|
    some ([] ++ (a0.take ((IntKind.wrap .i64 ((a0.length : Int) - g)).toNat)), IntKind.wrap .i64 ((IntKind.wrap .i64 ((a0.length : Int) - g)) - 1), [] ++ (a0.drop ((IntKind.wrap .i64 ((a0.length : Int) - g)).toNat)), true)
   else
    chk ((decide (0 ≤ (IntKind.wrap .i64 ((a0.length : Int) - g)))) && (decide ((IntKind.wrap .i64 ((a0.length : Int) - g)) ≤ (a0.length : Int)))) <|
    chk (decide ((0 + ((a0.drop ((IntKind.wrap .i64 ((a0.length : Int) - g)).toNat)).length)) * 8 ≤ room)) <|
    some ([] ++ (a0.take ((IntKind.wrap .i64 ((a0.length : Int) - g)).toNat)), r1.2, [] ++ (a0.drop ((IntKind.wrap .i64 ((a0.length : Int) - g)).toNat)), true)
  else
   chk ((decide (0 ≤ (IntKind.wrap .i64 ((a0.length : Int) - g)))) && (decide ((IntKind.wrap .i64 ((a0.length : Int) - g)) ≤ (a0.length : Int)))) <|
   chk (decide ((0 + ((a0.drop ((IntKind.wrap .i64 ((a0.length : Int) - g)).toNat)).length)) * 8 ≤ room)) <|
   some ([] ++ (a0.take ((IntKind.wrap .i64 ((a0.length : Int) - g)).toNat)), r1.2, [] ++ (a0.drop ((IntKind.wrap .i64 ((a0.length : Int) - g)).toNat)), true)

def spec_TopOf.f (k : Nat) (a0 : LI) (a1 : Int) : Option (Int) :=
 bif ((a0.length : Int) == 0) then
  some (-1)
 else
  chk ((decide (0 ≤ (IntKind.wrap .i64 ((a0.length : Int) - 1)))) && (decide ((IntKind.wrap .i64 ((a0.length : Int) - 1)) < (a0.length : Int)))) <|
  some (a0.getD ((IntKind.wrap .i64 ((a0.length : Int) - 1)).toNat) 0)

def spec_MayStack.f (k : Nat) (a0 : LI) (a1 g : Int) : Option (Bool) :=
 (spec_IsPile.f k a0 a1).bind fun r1 =>
 bif (!r1) then
  some false
 else
  (spec_IsCard.f k g).bind fun r2 =>
  bif (!r2) then
   some false
  else
   (spec_HasCard.f k a0 g).bind fun r3 =>
   bif r3 then
    some false
   else
    bif ((a0.length : Int) == 0) then
     (spec_RankOf.f k g).bind fun r4 =>
     some (r4 == 11)
    else
     bif decide (a1 < (a0.length : Int)) then
      (spec_TopOf.f k a0 a1).bind fun r5 =>
      (spec_l16Step.f k r5 g).bind fun r6 =>
      some r6
     else
      some false

def spec_Stacked.s3 {R : Type} (k : Nat) (v0 v2 : LI) (v3 v5 : Int) (e0 : Int → LI → LI → Option R) (e1 : LI → Option R) (rec : Int → LI → Option R) (v1 : Int) (v6 : LI) : Option R :=
 bif decide (v1 < (v0.length : Int)) then
  chk ((decide (0 ≤ v1)) && (decide (v1 < (v0.length : Int)))) <|
  (spec_MayStack.f k v6 v5 (v0.getD v1.toNat 0)).bind fun r2 =>
  bif (!r2) then
   (spec_l16Copy.f k v2 v3).bind fun r3 =>
   e0 r3.2 r3.1 v6
  else
   chk ((decide (0 ≤ v1)) && (decide (v1 < (v0.length : Int)))) <|
   chk (decide ((v6.length + 1) * 8 ≤ room)) <|
   rec (IntKind.wrap .i64 (v1 + 1)) (v6 ++ [v0.getD v1.toNat 0])
 else
  e1 v6
def spec_Stacked.l3 {R : Type} (k : Nat) (v0 v2 : LI) (v3 v5 : Int) (e0 : Int → LI → LI → Option R) (e1 : LI → Option R) (n : Nat) (v1 : Int) (v6 : LI) : Option R :=
 V.iter (A := Int × LI) (fun rec a => spec_Stacked.s3 k v0 v2 v3 v5 e0 e1 (fun c0 c1 => rec (c0, c1)) a.1 a.2) n (v1, v6)
theorem spec_Stacked.l3_succ {R : Type} (k : Nat) (v0 v2 : LI) (v3 v5 : Int) (e0 : Int → LI → LI → Option R) (e1 : LI → Option R) (n : Nat) (v1 : Int) (v6 : LI) : spec_Stacked.l3 (R := R) k v0 v2 v3 v5 e0 e1 (n + 1) v1 v6 = spec_Stacked.s3 k v0 v2 v3 v5 e0 e1 (spec_Stacked.l3 k v0 v2 v3 v5 e0 e1 n) v1 v6 := rfl
def spec_Stacked.f (k : Nat) (a0 : LI) (a1 : Int) (g : LI) : Option (LI × Int × Bool) :=
 (spec_l16Copy.f k a0 a1).bind fun r1 =>
 spec_Stacked.l3 k g a0 a1 r1.2 (fun x4 x5 x6 =>
  some (x5, x4, false)) (fun x7 =>
  some (x7, r1.2, true)) k 0 r1.1

def spec_MovePile.f (k : Nat) (a0 : List (List Leaf)) (a1 a2 a3 : LI) (g i j : Int) : Option (List (List Leaf) × LI × LI × LI × Bool) :=
 (spec_l18Copy.f k a0 a1 a2 a3).bind fun r1 =>
 (spec_IsPatience.f k a0 a1 a2 a3).bind fun r2 =>
 bif (!r2) then
  some (r1.1, r1.2.1, (t2 r1).1, (t3 r1), false)
 else
  (spec_l1In.f k g 0 (IntKind.wrap .i64 ((a0.length : Int) - 1))).bind fun r3 =>
  bif (!r3) then
   some (r1.1, r1.2.1, (t2 r1).1, (t3 r1), false)
  else
   (spec_l1In.f k i 0 (IntKind.wrap .i64 ((a0.length : Int) - 1))).bind fun r4 =>
   bif (!r4) then
    some (r1.1, r1.2.1, (t2 r1).1, (t3 r1), false)
   else
    bif (g == i) then
     some (r1.1, r1.2.1, (t2 r1).1, (t3 r1), false)
    else
     chk ((decide (0 ≤ g)) && (decide (g < (a0.length : Int)))) <|
     (spec_Lifted.f k (gl (a0.getD g.toNat []) 0) (gi (a0.getD g.toNat []) 1) j).bind fun r5 =>
     chk ((decide (0 ≤ i)) && (decide (i < (a0.length : Int)))) <|
     (spec_Stacked.f k (gl (a0.getD i.toNat []) 0) (gi (a0.getD i.toNat []) 1) (t2 r5).1).bind fun r6 =>
     bif (!(t3 r5)) then
      some (r1.1, r1.2.1, (t2 r1).1, (t3 r1), false)
     else
      bif (!(t2 r6)) then
       some (r1.1, r1.2.1, (t2 r1).1, (t3 r1), false)
      else
       chk ((decide (0 ≤ g)) && (decide (g < (r1.1.length : Int)))) <|
       chk ((decide (0 ≤ i)) && (decide (i < ((r1.1.set g.toNat [.ints r5.1, .int r5.2.1]).length : Int)))) <|
       (some ((r1.1.set g.toNat [.ints r5.1, .int r5.2.1]).set i.toNat [.ints r6.1, .int r6.2.1])).bind fun y7 =>
       some (y7, r1.2.1, (t2 r1).1, (t3 r1), true)

def spec_MayBuild.f (k : Nat) (a : LI) (g : Int) : Option (Bool) :=
 (spec_IsBase.f k a).bind fun r1 =>
 bif r1 then
  (spec_IsCard.f k g).bind fun r2 =>
  bif r2 then
   (spec_StepOf.f k g).bind fun r3 =>
   (spec_SuitOf.f k g).bind fun r4 =>
   chk ((decide (0 ≤ r4)) && (decide (r4 < (a.length : Int)))) <|
   some (r3 == (IntKind.wrap .i64 ((a.getD r4.toNat 0) + 1)))
  else
   some false
 else
  some false

def spec_Built.f (k : Nat) (a : LI) (g : Int) : Option (LI × Bool) :=
 chk (decide ((0 + a.length) * 8 ≤ room)) <|
 (spec_MayBuild.f k a g).bind fun r1 =>
 bif (!r1) then
  some ([] ++ a, false)
 else
  (spec_SuitOf.f k g).bind fun r2 =>
  (spec_SuitOf.f k g).bind fun r3 =>
  chk ((decide (0 ≤ r3)) && (decide (r3 < (([] ++ a).length : Int)))) <|
  chk ((decide (0 ≤ r2)) && (decide (r2 < (([] ++ a).length : Int)))) <|
  some (([] ++ a).set r2.toNat (IntKind.wrap .i64 ((([] ++ a).getD r3.toNat 0) + 1)), true)

def spec_MoveUp.f (k : Nat) (a0 : List (List Leaf)) (a1 a2 a3 : LI) (g : Int) : Option (List (List Leaf) × LI × LI × LI × Bool) :=
 (spec_l18Copy.f k a0 a1 a2 a3).bind fun r1 =>
 (spec_IsPatience.f k a0 a1 a2 a3).bind fun r2 =>
 bif (!r2) then
  some (r1.1, r1.2.1, (t2 r1).1, (t3 r1), false)
 else
  (spec_l1In.f k g 0 (IntKind.wrap .i64 ((a0.length : Int) - 1))).bind fun r3 =>
  bif (!r3) then
   some (r1.1, r1.2.1, (t2 r1).1, (t3 r1), false)
  else
   chk ((decide (0 ≤ g)) && (decide (g < (a0.length : Int)))) <|
   (spec_Lifted.f k (gl (a0.getD g.toNat []) 0) (gi (a0.getD g.toNat []) 1) 1).bind fun r4 =>
   bif (!(t3 r4)) then
    some (r1.1, r1.2.1, (t2 r1).1, (t3 r1), false)
   else
    chk (decide (0 < ((t2 r4).1.length : Int))) <|
    (spec_Built.f k a1 ((t2 r4).1.getD 0 0)).bind fun r5 =>
    bif (!r5.2) then
     some (r1.1, r1.2.1, (t2 r1).1, (t3 r1), false)
    else
     chk ((decide (0 ≤ g)) && (decide (g < (r1.1.length : Int)))) <|
     some (r1.1.set g.toNat [.ints r4.1, .int r4.2.1], r5.1, (t2 r1).1, (t3 r1), true)

def spec_MoveWaste.f (k : Nat) (a0 : List (List Leaf)) (a1 a2 a3 : LI) (g : Int) : Option (List (List Leaf) × LI × LI × LI × Bool) :=
 (spec_l18Copy.f k a0 a1 a2 a3).bind fun r1 =>
 (spec_IsPatience.f k a0 a1 a2 a3).bind fun r2 =>
 bif (!r2) then
  some (r1.1, r1.2.1, (t2 r1).1, (t3 r1), false)
 else
  bif ((a3.length : Int) == 0) then
   some (r1.1, r1.2.1, (t2 r1).1, (t3 r1), false)
  else
   (spec_l1In.f k g (-1) (IntKind.wrap .i64 ((a0.length : Int) - 1))).bind fun r3 =>
   bif (!r3) then
    some (r1.1, r1.2.1, (t2 r1).1, (t3 r1), false)
   else
    chk ((decide (0 ≤ (IntKind.wrap .i64 ((a3.length : Int) - 1)))) && (decide ((IntKind.wrap .i64 ((a3.length : Int) - 1)) < (a3.length : Int)))) <|
    chk ((decide (0 ≤ (IntKind.wrap .i64 ((a3.length : Int) - 1)))) && (decide ((IntKind.wrap .i64 ((a3.length : Int) - 1)) ≤ (a3.length : Int)))) <|
    chk (decide ((0 + ((a3.take ((IntKind.wrap .i64 ((a3.length : Int) - 1)).toNat)).length)) * 8 ≤ room)) <|
    bif decide (g < 0) then
     (spec_Built.f k a1 (a3.getD ((IntKind.wrap .i64 ((a3.length : Int) - 1)).toNat) 0)).bind fun r4 =>
     bif (!r4.2) then
      (spec_l18Copy.f k a0 a1 a2 a3).bind fun r5 =>
      some (r5.1, r5.2.1, (t2 r5).1, (t3 r5), false)
     else
      some (r1.1, r4.1, (t2 r1).1, [] ++ (a3.take ((IntKind.wrap .i64 ((a3.length : Int) - 1)).toNat)), true)
    else
     chk ((decide (0 ≤ g)) && (decide (g < (a0.length : Int)))) <|
     (spec_Stacked.f k (gl (a0.getD g.toNat []) 0) (gi (a0.getD g.toNat []) 1) [a3.getD ((IntKind.wrap .i64 ((a3.length : Int) - 1)).toNat) 0]).bind fun r6 =>
     chk ((decide (0 ≤ g)) && (decide (g < (r1.1.length : Int)))) <|
     bif (!(t2 r6)) then
      (spec_l18Copy.f k a0 a1 a2 a3).bind fun r7 =>
      some (r7.1, r7.2.1, (t2 r7).1, (t3 r7), false)
     else
      some (r1.1.set g.toNat [.ints r6.1, .int r6.2.1], r1.2.1, (t2 r1).1, [] ++ (a3.take ((IntKind.wrap .i64 ((a3.length : Int) - 1)).toNat)), true)

def spec_Turn.f (k : Nat) (a0 : List (List Leaf)) (a1 a2 a3 : LI) : Option (List (List Leaf) × LI × LI × LI × Bool) :=
 (spec_l18Copy.f k a0 a1 a2 a3).bind fun r1 =>
 (spec_IsPatience.f k a0 a1 a2 a3).bind fun r2 =>
 bif (!r2) then
  some (r1.1, r1.2.1, (t2 r1).1, (t3 r1), false)
 else
  bif ((IntKind.wrap .i64 ((a2.length : Int) + (a3.length : Int))) == 0) then
   some (r1.1, r1.2.1, (t2 r1).1, (t3 r1), false)
  else
   bif ((a2.length : Int) == 0) then
    some (r1.1, r1.2.1, (t3 r1), [], true)
   else
    chk (decide (0 < (a2.length : Int))) <|
    chk (decide (((t3 r1).length + 1) * 8 ≤ room)) <|
    chk (decide (1 ≤ (a2.length : Int))) <|
    chk (decide ((0 + ((a2.drop 1).length)) * 8 ≤ room)) <|
    some (r1.1, r1.2.1, [] ++ (a2.drop 1), (t3 r1) ++ [a2.getD 0 0], true)

def spec_l18Step.f (k : Nat) (a0 : LI) (a1 a2 : Int) (g0 : List (List Leaf)) (g1 g2 g3 : LI) : Option (List (List Leaf) × LI × LI × LI × LI × Int × Int) :=
 (spec_l1Below.f k a0 a1 a2 6).bind fun r1 =>
 bif (r1.1 == 0) then
  (spec_l1Below.f k r1.2.1 (t2 r1).1 (t3 r1) 7).bind fun r2 =>
  (spec_l1Below.f k r2.2.1 (t2 r2).1 (t3 r2) 7).bind fun r3 =>
  (spec_l1Below.f k r3.2.1 (t2 r3).1 (t3 r3) 2).bind fun r4 =>
  (spec_MovePile.f k g0 g1 g2 g3 r2.1 r3.1 (IntKind.wrap .i64 (1 + r4.1))).bind fun r5 =>
  some (r5.1, r5.2.1, (t2 r5).1, (t3 r5).1, r4.2.1, (t2 r4).1, (t3 r4))
 else
  bif (r1.1 == 1) then
   (spec_l1Below.f k r1.2.1 (t2 r1).1 (t3 r1) 7).bind fun r6 =>
   (spec_MoveUp.f k g0 g1 g2 g3 r6.1).bind fun r7 =>
   some (r7.1, r7.2.1, (t2 r7).1, (t3 r7).1, r6.2.1, (t2 r6).1, (t3 r6))
  else
   bif (r1.1 == 2) then
    (spec_l1Below.f k r1.2.1 (t2 r1).1 (t3 r1) 8).bind fun r8 =>
    (spec_MoveWaste.f k g0 g1 g2 g3 (IntKind.wrap .i64 (r8.1 - 1))).bind fun r9 =>
    some (r9.1, r9.2.1, (t2 r9).1, (t3 r9).1, r8.2.1, (t2 r8).1, (t3 r8))
   else
    bif (r1.1 == 3) then
     (spec_l1Below.f k r1.2.1 (t2 r1).1 (t3 r1) 8).bind fun r10 =>
     (spec_MoveWaste.f k g0 g1 g2 g3 (IntKind.wrap .i64 (r10.1 - 1))).bind fun r11 =>
     some (r11.1, r11.2.1, (t2 r11).1, (t3 r11).1, r10.2.1, (t2 r10).1, (t3 r10))
    else
     (spec_Turn.f k g0 g1 g2 g3).bind fun r12 =>
     some (r12.1, r12.2.1, (t2 r12).1, (t3 r12).1, r1.2.1, (t2 r1).1, (t3 r1))

def spec_l17Any.s3 {R : Type} (k : Nat) (e0 : LI → Int → Int → LI → Option R) (rec : Int → LI → Int → Int → LI → Option R) (v0 : Int) (v1 : LI) (v2 v3 : Int) (v4 : LI) : Option R :=
 bif decide (v0 < 4) then
  (spec_l1Below.f k v1 v2 v3 14).bind fun r1 =>
  chk (decide ((v4.length + 1) * 8 ≤ room)) <|
  rec (IntKind.wrap .i64 (v0 + 1)) r1.2.1 (t2 r1).1 (t3 r1) (v4 ++ [r1.1])
 else
  e0 v1 v2 v3 v4
def spec_l17Any.l3 {R : Type} (k : Nat) (e0 : LI → Int → Int → LI → Option R) (n : Nat) (v0 : Int) (v1 : LI) (v2 v3 : Int) (v4 : LI) : Option R :=
 V.iter (A := Int × LI × Int × Int × LI) (fun rec a => spec_l17Any.s3 k e0 (fun c0 c1 c2 c3 c4 => rec (c0, c1, c2, c3, c4)) a.1 a.2.1 (t2 a).1 (t3 a).1 (t4 a)) n (v0, v1, v2, v3, v4)
theorem spec_l17Any.l3_succ {R : Type} (k : Nat) (e0 : LI → Int → Int → LI → Option R) (n : Nat) (v0 : Int) (v1 : LI) (v2 v3 : Int) (v4 : LI) : spec_l17Any.l3 (R := R) k e0 (n + 1) v0 v1 v2 v3 v4 = spec_l17Any.s3 k e0 (spec_l17Any.l3 k e0 n) v0 v1 v2 v3 v4 := rfl
def spec_l17Any.f (k : Nat) (a0 : LI) (a1 a2 : Int) : Option (LI × LI × Int × Int) :=
 spec_l17Any.l3 k (fun x2 x3 x4 x5 =>
  (spec_l1Below.f k x2 x3 x4 10).bind fun r6 =>
  bif (r6.1 == 0) then
   (spec_l1Int.f k r6.2.1 (t2 r6).1 (t3 r6) [(-1), 13, 14]).bind fun r7 =>
   chk (decide (0 < (x5.length : Int))) <|
   some (x5.set 0 r7.1, r7.2.1, (t2 r7).1, (t3 r7))
  else
   bif (r6.1 == 1) then
    chk ((decide (0 ≤ (x5.length : Int))) && (decide ((x5.length : Int) ≤ (x5.length : Int)))) <|
    chk (decide (1 ≤ (x5.length : Int))) <|
    some ((x5.take ((x5.length : Int).toNat)).drop 1, r6.2.1, (t2 r6).1, (t3 r6))
   else
    bif (r6.1 == 2) then
     some ([0, 0, 0, 0], r6.2.1, (t2 r6).1, (t3 r6))
    else
     some (x5, r6.2.1, (t2 r6).1, (t3 r6))) k 0 a0 a1 a2 []

def spec_l18Draw.s3 {R : Type} (k : Nat) (e0 : LI → Int → Int → List (List Leaf) → LI → LI → LI → Option R) (rec : Int → LI → Int → Int → List (List Leaf) → LI → LI → LI → Option R) (v0 : Int) (v1 : LI) (v2 v3 : Int) (v4 : List (List Leaf)) (v5 v6 v7 : LI) : Option R :=
 bif decide (v0 > 0) then
  (spec_l18Step.f k v1 v2 v3 v4 v5 v6 v7).bind fun r3 =>
  rec (IntKind.wrap .i64 (v0 - 1)) (t4 r3).1 (t5 r3).1 (t6 r3) r3.1 r3.2.1 (t2 r3).1 (t3 r3).1
 else
  e0 v1 v2 v3 v4 v5 v6 v7
def spec_l18Draw.l3 {R : Type} (k : Nat) (e0 : LI → Int → Int → List (List Leaf) → LI → LI → LI → Option R) (n : Nat) (v0 : Int) (v1 : LI) (v2 v3 : Int) (v4 : List (List Leaf)) (v5 v6 v7 : LI) : Option R :=
 V.iter (A := Int × LI × Int × Int × List (List Leaf) × LI × LI × LI) (fun rec a => spec_l18Draw.s3 k e0 (fun c0 c1 c2 c3 c4 c5 c6 c7 => rec (c0, c1, c2, c3, c4, c5, c6, c7)) a.1 a.2.1 (t2 a).1 (t3 a).1 (t4 a).1 (t5 a).1 (t6 a).1 (t7 a)) n (v0, v1, v2, v3, v4, v5, v6, v7)
theorem spec_l18Draw.l3_succ {R : Type} (k : Nat) (e0 : LI → Int → Int → List (List Leaf) → LI → LI → LI → Option R) (n : Nat) (v0 : Int) (v1 : LI) (v2 v3 : Int) (v4 : List (List Leaf)) (v5 v6 v7 : LI) : spec_l18Draw.l3 (R := R) k e0 (n + 1) v0 v1 v2 v3 v4 v5 v6 v7 = spec_l18Draw.s3 k e0 (spec_l18Draw.l3 k e0 n) v0 v1 v2 v3 v4 v5 v6 v7 := rfl
def spec_l18Draw.f (k : Nat) (a0 : LI) (a1 a2 : Int) : Option (List (List Leaf) × LI × LI × LI × LI × Int × Int) :=
 (spec_l18Start.f k a0 a1 a2).bind fun r1 =>
 (spec_l1Below.f k (t4 r1).1 (t5 r1).1 (t6 r1) 20).bind fun r2 =>
 spec_l18Draw.l3 k (fun x4 x5 x6 x7 x8 x9 x10 =>
  (spec_l1Below.f k x4 x5 x6 14).bind fun r11 =>
  bif (r11.1 == 0) then
   (spec_l4Card.f k r11.2.1 (t2 r11).1 (t3 r11)).bind fun r12 =>
   chk (decide ((x9.length + 1) * 8 ≤ room)) <|
   some (x7, x8, x9 ++ [r12.1], x10, r12.2.1, (t2 r12).1, (t3 r12))
  else
   bif (r11.1 == 1) then
    (spec_l17Any.f k r11.2.1 (t2 r11).1 (t3 r11)).bind fun r13 =>
    some (x7, r13.1, x9, x10, r13.2.1, (t2 r13).1, (t3 r13))
   else
    bif (r11.1 == 2) then
     chk (decide (0 < (x7.length : Int))) <|
     chk (decide (0 < (x7.length : Int))) <|
     (some (x7.set 0 (setLeaf [true, false] (x7.getD 0 []) 1 (.int ((gl (x7.getD 0 []) 0).length : Int))))).bind fun y14 =>
     some (y14, x8, x9, x10, r11.2.1, (t2 r11).1, (t3 r11))
    else
     bif (r11.1 == 3) then
      some ([[.ints [], .int 0]], [13, 13, 13, 13], [], [], r11.2.1, (t2 r11).1, (t3 r11))
     else
      some (x7, x8, x9, x10, r11.2.1, (t2 r11).1, (t3 r11))) k r2.1 r2.2.1 (t2 r2).1 (t3 r2) r1.1 r1.2.1 (t2 r1).1 (t3 r1).1

def spec_DrawIsPatience.f (k : Nat) (a : LI) : Option (List (List Leaf) × LI × LI × LI) :=
 (spec_l1New.f k a).bind fun r1 =>
 (spec_l18Draw.f k r1.1 r1.2.1 (t2 r1)).bind fun r2 =>
 some (r2.1, r2.2.1, (t2 r2).1, (t3 r2).1)

def spec_DrawOpenShare.f (k : Nat) (a : LI) : Option (List (List Leaf) × LI × LI × LI) :=
 (spec_DrawIsPatience.f k a).bind fun r1 =>
 some (r1.1, r1.2.1, (t2 r1).1, (t3 r1))

def impl_isTest.f (k : Nat) (a : Int) : Option (Bool) :=
 (impl_InRange.f k a 100 103).bind fun r1 =>
 bif r1 then
  some true
 else
  (impl_InRange.f k a 200 212).bind fun r2 =>
  bif r2 then
   some true
  else
   (impl_InRange.f k a 300 312).bind fun r3 =>
   bif r3 then
    some true
   else
    some (a == 400)

def impl_IsPattern.s3 {R : Type} (k : Nat) (v2 : LI) (v3 : Int) (e0 e1 : Int → Option R) (rec : Int → Int → Option R) (v1 v4 : Int) : Option R :=
 bif decide (v4 < v3) then
  chk ((decide (0 ≤ v4)) && (decide (v4 < (v2.length : Int)))) <|
  (impl_isTest.f k (v2.getD v4.toNat 0)).bind fun r1 =>
  bif r1 then
   rec (IntKind.wrap .i64 (v1 + 1)) (IntKind.wrap .i64 (v4 + 1))
  else
   bif ((v2.getD v4.toNat 0) == (-1)) then
    bif decide (v1 ≥ 1) then
     rec v1 (IntKind.wrap .i64 (v4 + 1))
    else
     bif ((v2.getD v4.toNat 0) == (-2)) then
      bif decide (v1 ≥ 2) then
       rec (IntKind.wrap .i64 (v1 - 1)) (IntKind.wrap .i64 (v4 + 1))
      else
       e0 v1
     else
      bif ((v2.getD v4.toNat 0) == (-3)) then
       bif decide (v1 ≥ 2) then
        rec (IntKind.wrap .i64 (v1 - 1)) (IntKind.wrap .i64 (v4 + 1))
       else
        e0 v1
      else
       e0 v1
   else
    bif ((v2.getD v4.toNat 0) == (-2)) then
     bif decide (v1 ≥ 2) then
      rec (IntKind.wrap .i64 (v1 - 1)) (IntKind.wrap .i64 (v4 + 1))
     else
      e0 v1
    else
     bif ((v2.getD v4.toNat 0) == (-3)) then
      bif decide (v1 ≥ 2) then
       rec (IntKind.wrap .i64 (v1 - 1)) (IntKind.wrap .i64 (v4 + 1))
      else
       e0 v1
     else
      e0 v1
 else
  e1 v1
def impl_IsPattern.l3 {R : Type} (k : Nat) (v2 : LI) (v3 : Int) (e0 e1 : Int → Option R) (n : Nat) (v1 v4 : Int) : Option R :=
 V.iter (A := Int × Int) (fun rec a => impl_IsPattern.s3 k v2 v3 e0 e1 (fun c0 c1 => rec (c0, c1)) a.1 a.2) n (v1, v4)
theorem impl_IsPattern.l3_succ {R : Type} (k : Nat) (v2 : LI) (v3 : Int) (e0 e1 : Int → Option R) (n : Nat) (v1 v4 : Int) : impl_IsPattern.l3 (R := R) k v2 v3 e0 e1 (n + 1) v1 v4 = impl_IsPattern.s3 k v2 v3 e0 e1 (impl_IsPattern.l3 k v2 v3 e0 e1 n) v1 v4 := rfl
def impl_IsPattern.f (k : Nat) (a : LI) : Option (Bool) :=
 impl_IsPattern.l3 k a (a.length : Int) (fun x2 =>
  some false) (fun x3 =>
  (impl_InRange.f k (a.length : Int) 1 20).bind fun r4 =>
  bif r4 then
   some (x3 == 1)
  else
   some false) k 0 0

def impl_isMaybe.f (k : Nat) (a : LI) : Option (Bool) :=
 bif ((a.length : Int) == 0) then
  some true
 else
  (impl_IsPattern.f k a).bind fun r1 =>
  some r1

def impl_IsRules.f (k : Nat) (a0 a1 : Int) (a2 a3 : Bool) (a4 a5 : LI) (a6 a7 : Int) : Option (Bool) :=
 (impl_InRange.f k a0 2 6).bind fun r1 =>
 bif r1 then
  (impl_InRange.f k a1 1 8).bind fun r2 =>
  bif r2 then
   bif a2 then
    (impl_isMaybe.f k a4).bind fun r3 =>
    bif r3 then
     (impl_isMaybe.f k a5).bind fun r4 =>
     bif r4 then
      (impl_InRange.f k a6 1 4).bind fun r5 =>
      bif r5 then
       (impl_InRange.f k a7 1 400).bind fun r6 =>
       some r6
      else
       some false
     else
      some false
    else
     some false
   else
    bif a3 then
     (impl_isMaybe.f k a4).bind fun r7 =>
     bif r7 then
      (impl_isMaybe.f k a5).bind fun r8 =>
      bif r8 then
       (impl_InRange.f k a6 1 4).bind fun r9 =>
       bif r9 then
        (impl_InRange.f k a7 1 400).bind fun r10 =>
        some r10
       else
        some false
      else
       some false
     else
      some false
    else
     some false
  else
   some false
 else
  some false

def impl_asks.f (k : Nat) (a g : Int) : Option (Bool) :=
 bif (a == 400) then
  (impl_IsRed.f k g).bind fun r1 =>
  some r1
 else
  bif decide (a ≥ 300) then
   (impl_RankOf.f k g).bind fun r2 =>
   some (decide (r2 ≥ (IntKind.wrap .i64 (a - 300))))
  else
   bif decide (a ≥ 200) then
    (impl_RankOf.f k g).bind fun r3 =>
    some (r3 == (IntKind.wrap .i64 (a - 200)))
   else
    (impl_SuitOf.f k g).bind fun r4 =>
    some (r4 == (IntKind.wrap .i64 (a - 100)))

def impl_Matches.s5 {R : Type} (k : Nat) (v0 : Int) (v1 : LI) (v2 : Int) (e0 : List Bool → Option R) (rec : Int → List Bool → Option R) (v3 : Int) (v4 : List Bool) : Option R :=
 bif decide (v3 < v2) then
  chk ((decide (0 ≤ v3)) && (decide (v3 < (v1.length : Int)))) <|
  bif ((v1.getD v3.toNat 0) == (-1)) then
   chk ((decide (0 ≤ (IntKind.wrap .i64 ((v4.length : Int) - 1)))) && (decide ((IntKind.wrap .i64 ((v4.length : Int) - 1)) < (v4.length : Int)))) <|
   chk ((decide (0 ≤ (IntKind.wrap .i64 ((v4.length : Int) - 1)))) && (decide ((IntKind.wrap .i64 ((v4.length : Int) - 1)) < (v4.length : Int)))) <|
   rec (IntKind.wrap .i64 (v3 + 1)) (v4.set ((IntKind.wrap .i64 ((v4.length : Int) - 1)).toNat) (!(v4.getD ((IntKind.wrap .i64 ((v4.length : Int) - 1)).toNat) false)))
  else
   bif ((v1.getD v3.toNat 0) == (-2)) then
    chk ((decide (0 ≤ (IntKind.wrap .i64 ((v4.length : Int) - 2)))) && (decide ((IntKind.wrap .i64 ((v4.length : Int) - 2)) ≤ (v4.length : Int)))) <|
    chk (decide (0 ≤ (IntKind.wrap .i64 ((v4.length : Int) - 2)))) <|
    chk ((decide (0 ≤ (IntKind.wrap .i64 ((v4.length : Int) - 2)))) && (decide ((IntKind.wrap .i64 ((v4.length : Int) - 2)) < (v4.length : Int)))) <|
    bif (v4.getD ((IntKind.wrap .i64 ((v4.length : Int) - 2)).toNat) false) then
     chk ((decide (0 ≤ (IntKind.wrap .i64 ((v4.length : Int) - 1)))) && (decide ((IntKind.wrap .i64 ((v4.length : Int) - 1)) < (v4.length : Int)))) <|
     chk (decide ((((v4.take ((IntKind.wrap .i64 ((v4.length : Int) - 2)).toNat)).length) + 1) * 1 ≤ room)) <|
     rec (IntKind.wrap .i64 (v3 + 1)) ((v4.take ((IntKind.wrap .i64 ((v4.length : Int) - 2)).toNat)) ++ [v4.getD ((IntKind.wrap .i64 ((v4.length : Int) - 1)).toNat) false])
    else
     chk (decide ((((v4.take ((IntKind.wrap .i64 ((v4.length : Int) - 2)).toNat)).length) + 1) * 1 ≤ room)) <|
     rec (IntKind.wrap .i64 (v3 + 1)) ((v4.take ((IntKind.wrap .i64 ((v4.length : Int) - 2)).toNat)) ++ [false])
   else
    bif ((v1.getD v3.toNat 0) == (-3)) then
     chk ((decide (0 ≤ (IntKind.wrap .i64 ((v4.length : Int) - 2)))) && (decide ((IntKind.wrap .i64 ((v4.length : Int) - 2)) ≤ (v4.length : Int)))) <|
     chk (decide (0 ≤ (IntKind.wrap .i64 ((v4.length : Int) - 2)))) <|
     chk ((decide (0 ≤ (IntKind.wrap .i64 ((v4.length : Int) - 2)))) && (decide ((IntKind.wrap .i64 ((v4.length : Int) - 2)) < (v4.length : Int)))) <|
     bif (v4.getD ((IntKind.wrap .i64 ((v4.length : Int) - 2)).toNat) false) then
      chk (decide ((((v4.take ((IntKind.wrap .i64 ((v4.length : Int) - 2)).toNat)).length) + 1) * 1 ≤ room)) <|
      rec (IntKind.wrap .i64 (v3 + 1)) ((v4.take ((IntKind.wrap .i64 ((v4.length : Int) - 2)).toNat)) ++ [true])
     else
      chk ((decide (0 ≤ (IntKind.wrap .i64 ((v4.length : Int) - 1)))) && (decide ((IntKind.wrap .i64 ((v4.length : Int) - 1)) < (v4.length : Int)))) <|
      chk (decide ((((v4.take ((IntKind.wrap .i64 ((v4.length : Int) - 2)).toNat)).length) + 1) * 1 ≤ room)) <|
      rec (IntKind.wrap .i64 (v3 + 1)) ((v4.take ((IntKind.wrap .i64 ((v4.length : Int) - 2)).toNat)) ++ [v4.getD ((IntKind.wrap .i64 ((v4.length : Int) - 1)).toNat) false])
    else
     (impl_asks.f k (v1.getD v3.toNat 0) v0).bind fun r3 =>
     chk (decide ((v4.length + 1) * 1 ≤ room)) <|
     rec (IntKind.wrap .i64 (v3 + 1)) (v4 ++ [r3])
 else
  e0 v4
def impl_Matches.l5 {R : Type} (k : Nat) (v0 : Int) (v1 : LI) (v2 : Int) (e0 : List Bool → Option R) (n : Nat) (v3 : Int) (v4 : List Bool) : Option R :=
 V.iter (A := Int × List Bool) (fun rec a => impl_Matches.s5 k v0 v1 v2 e0 (fun c0 c1 => rec (c0, c1)) a.1 a.2) n (v3, v4)
theorem impl_Matches.l5_succ {R : Type} (k : Nat) (v0 : Int) (v1 : LI) (v2 : Int) (e0 : List Bool → Option R) (n : Nat) (v3 : Int) (v4 : List Bool) : impl_Matches.l5 (R := R) k v0 v1 v2 e0 (n + 1) v3 v4 = impl_Matches.s5 k v0 v1 v2 e0 (impl_Matches.l5 k v0 v1 v2 e0 n) v3 v4 := rfl
def impl_Matches.f (k : Nat) (a : LI) (g : Int) : Option (Bool) :=
 (impl_IsPattern.f k a).bind fun r1 =>
 bif (!r1) then
  some false
 else
  (impl_IsCard.f k g).bind fun r2 =>
  bif (!r2) then
   some false
  else
   impl_Matches.l5 k g a (a.length : Int) (fun x4 =>
    chk (decide (0 < (x4.length : Int))) <|
    some (x4.getD 0 false)) k 0 []

def impl_MatchSet.s3 {R : Type} (k : Nat) (v0 : LI) (e0 : LI → Option R) (rec : Int → LI → Option R) (v1 : Int) (v2 : LI) : Option R :=
 bif decide (v1 < 52) then
  (impl_Matches.f k v0 v1).bind fun r1 =>
  bif r1 then
   chk (decide ((v2.length + 1) * 8 ≤ room)) <|
   rec (IntKind.wrap .i64 (v1 + 1)) (v2 ++ [v1])
  else
   rec (IntKind.wrap .i64 (v1 + 1)) v2
 else
  e0 v2
def impl_MatchSet.l3 {R : Type} (k : Nat) (v0 : LI) (e0 : LI → Option R) (n : Nat) (v1 : Int) (v2 : LI) : Option R :=
 V.iter (A := Int × LI) (fun rec a => impl_MatchSet.s3 k v0 e0 (fun c0 c1 => rec (c0, c1)) a.1 a.2) n (v1, v2)
theorem impl_MatchSet.l3_succ {R : Type} (k : Nat) (v0 : LI) (e0 : LI → Option R) (n : Nat) (v1 : Int) (v2 : LI) : impl_MatchSet.l3 (R := R) k v0 e0 (n + 1) v1 v2 = impl_MatchSet.s3 k v0 e0 (impl_MatchSet.l3 k v0 e0 n) v1 v2 := rfl
def impl_MatchSet.f (k : Nat) (a : LI) : Option (LI) :=
 impl_MatchSet.l3 k a (fun x2 =>
  some x2) k 0 []

def impl_WildShare.f (k : Nat) (a0 a1 : Int) (a2 a3 : Bool) (a4 a5 : LI) (a6 a7 : Int) : Option (Int) :=
 (impl_IsRules.f k a0 a1 a2 a3 a4 a5 a6 a7).bind fun r1 =>
 bif (!r1) then
  some 0
 else
  (impl_MatchSet.f k a4).bind fun r2 =>
  some (IntKind.wrap .i64 ((IntKind.wrap .i64 (100 * (r2.length : Int))).tdiv 52))

def spec_l8Leaves.f (k : Nat) (a0 : LI) (a1 a2 : Int) : Option (Int × LI × Int × Int) :=
 (spec_l1Below.f k a0 a1 a2 4).bind fun r1 =>
 (spec_l1Below.f k r1.2.1 (t2 r1).1 (t3 r1) 13).bind fun r2 =>
 (spec_l1Below.f k r2.2.1 (t2 r2).1 (t3 r2) 13).bind fun r3 =>
 (spec_l1Int.f k r3.2.1 (t2 r3).1 (t3 r3) [IntKind.wrap .i64 (100 + r1.1), IntKind.wrap .i64 (200 + r2.1), IntKind.wrap .i64 (300 + r3.1), 400]).bind fun r4 =>
 some (r4.1, r4.2.1, (t2 r4).1, (t3 r4))

def spec_l8Draw.b (k : Nat) (self : LI → Int → Int → Int → Option (LI × LI × Int × Int)) (a0 : LI) (a1 a2 g : Int) : Option (LI × LI × Int × Int) :=
 bif (g == 0) then
  (spec_l8Leaves.f k a0 a1 a2).bind fun r1 =>
  some ([r1.1], r1.2.1, (t2 r1).1, (t3 r1))
 else
  (spec_l1Once.f k a0 a1 a2 4).bind fun r2 =>
  bif r2.1 then
   (spec_l8Leaves.f k r2.2.1 (t2 r2).1 (t3 r2)).bind fun r3 =>
   some ([r3.1], r3.2.1, (t2 r3).1, (t3 r3))
  else
   (spec_l1Once.f k r2.2.1 (t2 r2).1 (t3 r2) 4).bind fun r4 =>
   bif r4.1 then
    (self r4.2.1 (t2 r4).1 (t3 r4) (IntKind.wrap .i64 (g - 1))).bind fun r5 =>
    chk (decide ((r5.1.length + 1) * 8 ≤ room)) <|
    some (r5.1 ++ [(-1)], r5.2.1, (t2 r5).1, (t3 r5))
   else
    (self r4.2.1 (t2 r4).1 (t3 r4) (IntKind.wrap .i64 (g - 1))).bind fun r6 =>
    (self r6.2.1 (t2 r6).1 (t3 r6) (IntKind.wrap .i64 (g - 1))).bind fun r7 =>
    chk (decide ((r6.1.length + r7.1.length) * 8 ≤ room)) <|
    (spec_l1Below.f k r7.2.1 (t2 r7).1 (t3 r7) 2).bind fun r8 =>
    chk (decide ((((r6.1 ++ r7.1).length) + 1) * 8 ≤ room)) <|
    some ((r6.1 ++ r7.1) ++ [IntKind.wrap .i64 ((-2) - r8.1)], r8.2.1, (t2 r8).1, (t3 r8))
def spec_l8Draw.g (k : Nat) : Nat → LI → Int → Int → Int → Option (LI × LI × Int × Int)
 | 0 => fun _ _ _ _ => none
 | n + 1 => spec_l8Draw.b k (spec_l8Draw.g k n)
def spec_l8Draw.f (k : Nat) : LI → Int → Int → Int → Option (LI × LI × Int × Int) := spec_l8Draw.g k k

def spec_l22Draw.f (k : Nat) (a0 : LI) (a1 a2 : Int) : Option (Int × Int × Bool × Bool × LI × LI × Int × Int × LI × Int × Int) :=
 (spec_l1Below.f k a0 a1 a2 4).bind fun r1 =>
 (spec_l1Below.f k r1.2.1 (t2 r1).1 (t3 r1) 6).bind fun r2 =>
 (spec_l1Once.f k r2.2.1 (t2 r2).1 (t3 r2) 2).bind fun r3 =>
 (spec_l1Below.f k r3.2.1 (t2 r3).1 (t3 r3) 2).bind fun r4 =>
 (spec_l1Below.f k r4.2.1 (t2 r4).1 (t3 r4) 60).bind fun r5 =>
 (spec_l1Once.f k r5.2.1 (t2 r5).1 (t3 r5) 2).bind fun r6 =>
 bif r6.1 then
  (spec_l8Draw.f k r6.2.1 (t2 r6).1 (t3 r6) 1).bind fun r7 =>
  (spec_l1Once.f k r7.2.1 (t2 r7).1 (t3 r7) 2).bind fun r8 =>
  bif r8.1 then
   (spec_l8Draw.f k r8.2.1 (t2 r8).1 (t3 r8) 1).bind fun r9 =>
   some (IntKind.wrap .i64 (2 + r1.1), IntKind.wrap .i64 (1 + r2.1), r3.1, true, r7.1, r9.1, IntKind.wrap .i64 (1 + r4.1), IntKind.wrap .i64 (20 + r5.1), r9.2.1, (t2 r9).1, (t3 r9))
  else
   some (IntKind.wrap .i64 (2 + r1.1), IntKind.wrap .i64 (1 + r2.1), r3.1, true, r7.1, [], IntKind.wrap .i64 (1 + r4.1), IntKind.wrap .i64 (20 + r5.1), r8.2.1, (t2 r8).1, (t3 r8))
 else
  (spec_l1Once.f k r6.2.1 (t2 r6).1 (t3 r6) 2).bind fun r10 =>
  bif r10.1 then
   (spec_l8Draw.f k r10.2.1 (t2 r10).1 (t3 r10) 1).bind fun r11 =>
   some (IntKind.wrap .i64 (2 + r1.1), IntKind.wrap .i64 (1 + r2.1), r3.1, true, [], r11.1, IntKind.wrap .i64 (1 + r4.1), IntKind.wrap .i64 (20 + r5.1), r11.2.1, (t2 r11).1, (t3 r11))
  else
   some (IntKind.wrap .i64 (2 + r1.1), IntKind.wrap .i64 (1 + r2.1), r3.1, true, [], [], IntKind.wrap .i64 (1 + r4.1), IntKind.wrap .i64 (20 + r5.1), r10.2.1, (t2 r10).1, (t3 r10))

def spec_l8Any.f (k : Nat) (a0 : LI) (a1 a2 : Int) : Option (LI × LI × Int × Int) :=
 (spec_l8Draw.f k a0 a1 a2 2).bind fun r1 =>
 (spec_l1Below.f k r1.2.1 (t2 r1).1 (t3 r1) 10).bind fun r2 =>
 bif (r2.1 == 0) then
  (spec_l1Below.f k r2.2.1 (t2 r2).1 (t3 r2) (r1.1.length : Int)).bind fun r3 =>
  (spec_l1Int.f k r3.2.1 (t2 r3).1 (t3 r3) [104, 99, 213, 313, 401, (-4), (-2), 9223372036854775807]).bind fun r4 =>
  chk ((decide (0 ≤ r3.1)) && (decide (r3.1 < (r1.1.length : Int)))) <|
  some (r1.1.set r3.1.toNat r4.1, r4.2.1, (t2 r4).1, (t3 r4))
 else
  bif (r2.1 == 1) then
   chk ((decide (0 ≤ (r1.1.length : Int))) && (decide ((r1.1.length : Int) ≤ (r1.1.length : Int)))) <|
   chk (decide (1 ≤ (r1.1.length : Int))) <|
   some ((r1.1.take ((r1.1.length : Int).toNat)).drop 1, r2.2.1, (t2 r2).1, (t3 r2))
  else
   some (r1.1, r2.2.1, (t2 r2).1, (t3 r2))

def spec_l22Any.f (k : Nat) (a0 : LI) (a1 a2 : Int) : Option (Int × Int × Bool × Bool × LI × LI × Int × Int × LI × Int × Int) :=
 (spec_l22Draw.f k a0 a1 a2).bind fun r1 =>
 (spec_l1Below.f k (t8 r1).1 (t9 r1).1 (t9 r1.2) 14).bind fun r2 =>
 bif (r2.1 == 0) then
  (spec_l1Int.f k r2.2.1 (t2 r2).1 (t3 r2) [1, 6, 7]).bind fun r3 =>
  some (r3.1, r1.2.1, (t2 r1).1, (t3 r1).1, (t4 r1).1, (t5 r1).1, (t6 r1).1, (t7 r1).1, r3.2.1, (t2 r3).1, (t3 r3))
 else
  bif (r2.1 == 1) then
   (spec_l1Int.f k r2.2.1 (t2 r2).1 (t3 r2) [0, 8, 9]).bind fun r4 =>
   some (r1.1, r4.1, (t2 r1).1, (t3 r1).1, (t4 r1).1, (t5 r1).1, (t6 r1).1, (t7 r1).1, r4.2.1, (t2 r4).1, (t3 r4))
  else
   bif (r2.1 == 2) then
    some (r1.1, r1.2.1, (t2 r1).1, false, (t4 r1).1, (t5 r1).1, (t6 r1).1, (t7 r1).1, r2.2.1, (t2 r2).1, (t3 r2))
   else
    bif (r2.1 == 3) then
     (spec_l8Any.f k r2.2.1 (t2 r2).1 (t3 r2)).bind fun r5 =>
     some (r1.1, r1.2.1, (t2 r1).1, (t3 r1).1, r5.1, (t5 r1).1, (t6 r1).1, (t7 r1).1, r5.2.1, (t2 r5).1, (t3 r5))
    else
     bif (r2.1 == 4) then
      (spec_l1Int.f k r2.2.1 (t2 r2).1 (t3 r2) [0, 4, 5]).bind fun r6 =>
      some (r1.1, r1.2.1, (t2 r1).1, (t3 r1).1, (t4 r1).1, (t5 r1).1, r6.1, (t7 r1).1, r6.2.1, (t2 r6).1, (t3 r6))
     else
      bif (r2.1 == 5) then
       (spec_l1Int.f k r2.2.1 (t2 r2).1 (t3 r2) [0, 400, 401]).bind fun r7 =>
       some (r1.1, r1.2.1, (t2 r1).1, (t3 r1).1, (t4 r1).1, (t5 r1).1, (t6 r1).1, r7.1, r7.2.1, (t2 r7).1, (t3 r7))
      else
       some (r1.1, r1.2.1, (t2 r1).1, (t3 r1).1, (t4 r1).1, (t5 r1).1, (t6 r1).1, (t7 r1).1, r2.2.1, (t2 r2).1, (t3 r2))

def spec_DrawIsRules.f (k : Nat) (a : LI) : Option (Int × Int × Bool × Bool × LI × LI × Int × Int) :=
 (spec_l1New.f k a).bind fun r1 =>
 (spec_l22Any.f k r1.1 r1.2.1 (t2 r1)).bind fun r2 =>
 some (r2.1, r2.2.1, (t2 r2).1, (t3 r2).1, (t4 r2).1, (t5 r2).1, (t6 r2).1, (t7 r2).1)

def spec_DrawWildShare.f (k : Nat) (a : LI) : Option (Int × Int × Bool × Bool × LI × LI × Int × Int) :=
 (spec_DrawIsRules.f k a).bind fun r1 =>
 some (r1.1, r1.2.1, (t2 r1).1, (t3 r1).1, (t4 r1).1, (t5 r1).1, (t6 r1).1, (t7 r1))

def spec_l5Some.s6 {R : Type} (k : Nat) (v6 : LI) (e0 rec : Int → Option R) (v2 : Int) : Option R :=
 (spec_HasCard.f k v6 v2).bind fun r2 =>
 bif r2 then
  rec ((IntKind.wrap .i64 (v2 + 7)).tmod 52)
 else
  e0 v2
def spec_l5Some.l6 {R : Type} (k : Nat) (v6 : LI) (e0 : Int → Option R) (n : Nat) (v2 : Int) : Option R :=
 V.iter (A := Int) (fun rec a => spec_l5Some.s6 k v6 e0 (fun c0 => rec c0) a) n v2
theorem spec_l5Some.l6_succ {R : Type} (k : Nat) (v6 : LI) (e0 : Int → Option R) (n : Nat) (v2 : Int) : spec_l5Some.l6 (R := R) k v6 e0 (n + 1) v2 = spec_l5Some.s6 k v6 e0 (spec_l5Some.l6 k v6 e0 n) v2 := rfl
def spec_l5Some.s3 {R : Type} (k : Nat) (v0 : Int) (e0 : LI → LI → Int → Int → Option R) (rec : Int → LI → Int → Int → LI → Option R) (v1 : Int) (v2 : LI) (v3 v4 : Int) (v5 : LI) : Option R :=
 bif decide (v1 < v0) then
  (spec_l1Below.f k v2 v3 v4 52).bind fun r1 =>
  spec_l5Some.l6 k v5 (fun x3 =>
   chk (decide ((v5.length + 1) * 8 ≤ room)) <|
   rec (IntKind.wrap .i64 (v1 + 1)) r1.2.1 (t2 r1).1 (t3 r1) (v5 ++ [x3])) k r1.1
 else
  e0 v5 v2 v3 v4
def spec_l5Some.l3 {R : Type} (k : Nat) (v0 : Int) (e0 : LI → LI → Int → Int → Option R) (n : Nat) (v1 : Int) (v2 : LI) (v3 v4 : Int) (v5 : LI) : Option R :=
 V.iter (A := Int × LI × Int × Int × LI) (fun rec a => spec_l5Some.s3 k v0 e0 (fun c0 c1 c2 c3 c4 => rec (c0, c1, c2, c3, c4)) a.1 a.2.1 (t2 a).1 (t3 a).1 (t4 a)) n (v1, v2, v3, v4, v5)
theorem spec_l5Some.l3_succ {R : Type} (k : Nat) (v0 : Int) (e0 : LI → LI → Int → Int → Option R) (n : Nat) (v1 : Int) (v2 : LI) (v3 v4 : Int) (v5 : LI) : spec_l5Some.l3 (R := R) k v0 e0 (n + 1) v1 v2 v3 v4 v5 = spec_l5Some.s3 k v0 e0 (spec_l5Some.l3 k v0 e0 n) v1 v2 v3 v4 v5 := rfl
def spec_l5Some.f (k : Nat) (a0 : LI) (a1 a2 g : Int) : Option (LI × LI × Int × Int) :=
 spec_l5Some.l3 k g (fun x4 x5 x6 x7 =>
  some (x4, x5, x6, x7)) k 0 a0 a1 a2 []

def spec_l5Any.f (k : Nat) (a0 : LI) (a1 a2 : Int) : Option (LI × LI × Int × Int) :=
 (spec_l1Below.f k a0 a1 a2 9).bind fun r1 =>
 (spec_l5Some.f k r1.2.1 (t2 r1).1 (t3 r1) r1.1).bind fun r2 =>
 bif decide ((r2.1.length : Int) > 0) then
  (spec_l1Once.f k r2.2.1 (t2 r2).1 (t3 r2) 10).bind fun r3 =>
  bif r3.1 then
   chk ((decide (0 ≤ (IntKind.wrap .i64 ((r2.1.length : Int) - 1)))) && (decide ((IntKind.wrap .i64 ((r2.1.length : Int) - 1)) < (r2.1.length : Int)))) <|
   (spec_l1Int.f k r3.2.1 (t2 r3).1 (t3 r3) [r2.1.getD ((IntKind.wrap .i64 ((r2.1.length : Int) - 1)).toNat) 0, 52, (-1)]).bind fun r4 =>
   chk (decide (0 < (r2.1.length : Int))) <|
   some (r2.1.set 0 r4.1, r4.2.1, (t2 r4).1, (t3 r4))
  else
   some (r2.1, r3.2.1, (t2 r3).1, (t3 r3))
 else
  some (r2.1, r2.2.1, (t2 r2).1, (t3 r2))

def spec_l10Draw.s7 {R : Type} (k : Nat) (e0 : LI → Int → Int → LI → Option R) (rec : Int → Int → LI → Int → Int → LI → Option R) (v1 v2 : Int) (v3 : LI) (v4 v5 : Int) (v6 : LI) : Option R :=
 bif decide (v2 > 0) then
  (spec_HasCard.f k v6 v1).bind fun r4 =>
  bif (!r4) then
   bif decide ((v6.length : Int) < 11) then
    chk (decide ((v6.length + 1) * 8 ≤ room)) <|
    (spec_l1Int.f k v3 v4 v5 [1, 1, 13]).bind fun r5 =>
    rec ((IntKind.wrap .i64 (v1 + r5.1)).tmod 52) (IntKind.wrap .i64 (v2 - 1)) r5.2.1 (t2 r5).1 (t3 r5) (v6 ++ [v1])
   else
    (spec_l1Int.f k v3 v4 v5 [1, 1, 13]).bind fun r6 =>
    rec ((IntKind.wrap .i64 (v1 + r6.1)).tmod 52) (IntKind.wrap .i64 (v2 - 1)) r6.2.1 (t2 r6).1 (t3 r6) v6
  else
   (spec_l1Int.f k v3 v4 v5 [1, 1, 13]).bind fun r7 =>
   rec ((IntKind.wrap .i64 (v1 + r7.1)).tmod 52) (IntKind.wrap .i64 (v2 - 1)) r7.2.1 (t2 r7).1 (t3 r7) v6
 else
  e0 v3 v4 v5 v6
def spec_l10Draw.l7 {R : Type} (k : Nat) (e0 : LI → Int → Int → LI → Option R) (n : Nat) (v1 v2 : Int) (v3 : LI) (v4 v5 : Int) (v6 : LI) : Option R :=
 V.iter (A := Int × Int × LI × Int × Int × LI) (fun rec a => spec_l10Draw.s7 k e0 (fun c0 c1 c2 c3 c4 c5 => rec (c0, c1, c2, c3, c4, c5)) a.1 a.2.1 (t2 a).1 (t3 a).1 (t4 a).1 (t5 a)) n (v1, v2, v3, v4, v5, v6)
theorem spec_l10Draw.l7_succ {R : Type} (k : Nat) (e0 : LI → Int → Int → LI → Option R) (n : Nat) (v1 v2 : Int) (v3 : LI) (v4 v5 : Int) (v6 : LI) : spec_l10Draw.l7 (R := R) k e0 (n + 1) v1 v2 v3 v4 v5 v6 = spec_l10Draw.s7 k e0 (spec_l10Draw.l7 k e0 n) v1 v2 v3 v4 v5 v6 := rfl
def spec_l10Draw.s3 {R : Type} (k : Nat) (e0 : LI → LI → Int → Int → Option R) (rec : Int → LI → Int → Int → LI → Option R) (v0 : Int) (v1 : LI) (v2 v3 : Int) (v4 : LI) : Option R :=
 bif decide (v0 > 0) then
  (spec_l1Below.f k v1 v2 v3 52).bind fun r2 =>
  (spec_l1Below.f k r2.2.1 (t2 r2).1 (t3 r2) 2).bind fun r3 =>
  spec_l10Draw.l7 k (fun x8 x9 x10 x11 =>
   rec (IntKind.wrap .i64 (v0 - 1)) x8 x9 x10 x11) k r2.1 (IntKind.wrap .i64 (3 + r3.1)) r3.2.1 (t2 r3).1 (t3 r3) v4
 else
  e0 v4 v1 v2 v3
def spec_l10Draw.l3 {R : Type} (k : Nat) (e0 : LI → LI → Int → Int → Option R) (n : Nat) (v0 : Int) (v1 : LI) (v2 v3 : Int) (v4 : LI) : Option R :=
 V.iter (A := Int × LI × Int × Int × LI) (fun rec a => spec_l10Draw.s3 k e0 (fun c0 c1 c2 c3 c4 => rec (c0, c1, c2, c3, c4)) a.1 a.2.1 (t2 a).1 (t3 a).1 (t4 a)) n (v0, v1, v2, v3, v4)
theorem spec_l10Draw.l3_succ {R : Type} (k : Nat) (e0 : LI → LI → Int → Int → Option R) (n : Nat) (v0 : Int) (v1 : LI) (v2 v3 : Int) (v4 : LI) : spec_l10Draw.l3 (R := R) k e0 (n + 1) v0 v1 v2 v3 v4 = spec_l10Draw.s3 k e0 (spec_l10Draw.l3 k e0 n) v0 v1 v2 v3 v4 := rfl
def spec_l10Draw.f (k : Nat) (a0 : LI) (a1 a2 : Int) : Option (LI × LI × Int × Int) :=
 (spec_l1Below.f k a0 a1 a2 4).bind fun r1 =>
 spec_l10Draw.l3 k (fun x12 x13 x14 x15 =>
  some (x12, x13, x14, x15)) k r1.1 r1.2.1 (t2 r1).1 (t3 r1) []

def spec_DrawMeldsIn.f (k : Nat) (a : LI) : Option (LI) :=
 (spec_l1New.f k a).bind fun r1 =>
 (spec_l1Once.f k r1.1 r1.2.1 (t2 r1) 9).bind fun r2 =>
 bif r2.1 then
  (spec_l5Any.f k r2.2.1 (t2 r2).1 (t3 r2)).bind fun r3 =>
  some r3.1
 else
  (spec_l10Draw.f k r2.2.1 (t2 r2).1 (t3 r2)).bind fun r4 =>
  some r4.1

def spec_DrawMeldCount.f (k : Nat) (a : LI) : Option (LI) :=
 (spec_DrawMeldsIn.f k a).bind fun r1 =>
 some r1

def impl_Sorted.s6 {R : Type} (k : Nat) (v0 : Int) (v5 : LI) (e0 rec : Int → Option R) (v1 : Int) : Option R :=
 bif decide (v1 > 0) then
  chk ((decide (0 ≤ (IntKind.wrap .i64 (v1 - 1)))) && (decide ((IntKind.wrap .i64 (v1 - 1)) < (v5.length : Int)))) <|
  bif decide ((v5.getD ((IntKind.wrap .i64 (v1 - 1)).toNat) 0) > v0) then
   rec (IntKind.wrap .i64 (v1 - 1))
  else
   e0 v1
 else
  e0 v1
def impl_Sorted.l6 {R : Type} (k : Nat) (v0 : Int) (v5 : LI) (e0 : Int → Option R) (n : Nat) (v1 : Int) : Option R :=
 V.iter (A := Int) (fun rec a => impl_Sorted.s6 k v0 v5 e0 (fun c0 => rec c0) a) n v1
theorem impl_Sorted.l6_succ {R : Type} (k : Nat) (v0 : Int) (v5 : LI) (e0 : Int → Option R) (n : Nat) (v1 : Int) : impl_Sorted.l6 (R := R) k v0 v5 e0 (n + 1) v1 = impl_Sorted.s6 k v0 v5 e0 (impl_Sorted.l6 k v0 v5 e0 n) v1 := rfl
def impl_Sorted.s3 {R : Type} (k : Nat) (v0 : LI) (v1 : Int) (e0 : LI → Option R) (rec : Int → LI → Option R) (v2 : Int) (v3 : LI) : Option R :=
 bif decide (v2 < v1) then
  chk ((decide (0 ≤ v2)) && (decide (v2 < (v0.length : Int)))) <|
  impl_Sorted.l6 k (v0.getD v2.toNat 0) v3 (fun x1 =>
   chk (decide ((v3.length + 1) * 8 ≤ room)) <|
   chk ((decide (0 ≤ ((v3 ++ [0]).length : Int))) && (decide (((v3 ++ [0]).length : Int) ≤ ((v3 ++ [0]).length : Int)))) <|
   chk ((decide (0 ≤ (IntKind.wrap .i64 (x1 + 1)))) && (decide ((IntKind.wrap .i64 (x1 + 1)) ≤ ((v3 ++ [0]).length : Int)))) <|
   chk ((decide (0 ≤ ((v3 ++ [0]).length : Int))) && (decide (((v3 ++ [0]).length : Int) ≤ ((v3 ++ [0]).length : Int)))) <|
   chk ((decide (0 ≤ x1)) && (decide (x1 ≤ ((v3 ++ [0]).length : Int)))) <|
   chk ((decide (0 ≤ x1)) && (decide (x1 < ((((v3 ++ [0]).take ((IntKind.wrap .i64 (x1 + 1)).toNat)) ++ (((((v3 ++ [0]).take (((v3 ++ [0]).length : Int).toNat)).drop x1.toNat).take ((((v3 ++ [0]).length : Int).toNat) - ((IntKind.wrap .i64 (x1 + 1)).toNat))) ++ ((v3 ++ [0]).drop (((IntKind.wrap .i64 (x1 + 1)).toNat) + (min ((((v3 ++ [0]).length : Int).toNat) - x1.toNat) ((((v3 ++ [0]).length : Int).toNat) - ((IntKind.wrap .i64 (x1 + 1)).toNat))))))).length : Int)))) <|
   rec (IntKind.wrap .i64 (v2 + 1)) ((((v3 ++ [0]).take ((IntKind.wrap .i64 (x1 + 1)).toNat)) ++ (((((v3 ++ [0]).take (((v3 ++ [0]).length : Int).toNat)).drop x1.toNat).take ((((v3 ++ [0]).length : Int).toNat) - ((IntKind.wrap .i64 (x1 + 1)).toNat))) ++ ((v3 ++ [0]).drop (((IntKind.wrap .i64 (x1 + 1)).toNat) + (min ((((v3 ++ [0]).length : Int).toNat) - x1.toNat) ((((v3 ++ [0]).length : Int).toNat) - ((IntKind.wrap .i64 (x1 + 1)).toNat))))))).set x1.toNat (v0.getD v2.toNat 0))) k (v3.length : Int)
 else
  e0 v3
def impl_Sorted.l3 {R : Type} (k : Nat) (v0 : LI) (v1 : Int) (e0 : LI → Option R) (n : Nat) (v2 : Int) (v3 : LI) : Option R :=
 V.iter (A := Int × LI) (fun rec a => impl_Sorted.s3 k v0 v1 e0 (fun c0 c1 => rec (c0, c1)) a.1 a.2) n (v2, v3)
theorem impl_Sorted.l3_succ {R : Type} (k : Nat) (v0 : LI) (v1 : Int) (e0 : LI → Option R) (n : Nat) (v2 : Int) (v3 : LI) : impl_Sorted.l3 (R := R) k v0 v1 e0 (n + 1) v2 v3 = impl_Sorted.s3 k v0 v1 e0 (impl_Sorted.l3 k v0 v1 e0 n) v2 v3 := rfl
def impl_Sorted.f (k : Nat) (a : LI) : Option (LI) :=
 impl_Sorted.l3 k a (a.length : Int) (fun x2 =>
  some x2) k 0 []

def impl_IsSetMeld.s4 {R : Type} (k : Nat) (v0 v1 : LI) (v2 : Int) (e0 e1 : Option R) (rec : Int → Option R) (v3 : Int) : Option R :=
 bif decide (v3 < v2) then
  chk ((decide (0 ≤ v3)) && (decide (v3 < (v1.length : Int)))) <|
  (impl_RankOf.f k (v1.getD v3.toNat 0)).bind fun r3 =>
  chk (decide (0 < (v0.length : Int))) <|
  (impl_RankOf.f k (v0.getD 0 0)).bind fun r4 =>
  bif (r3 != r4) then
   e0
  else
   rec (IntKind.wrap .i64 (v3 + 1))
 else
  e1
def impl_IsSetMeld.l4 {R : Type} (k : Nat) (v0 v1 : LI) (v2 : Int) (e0 e1 : Option R) (n : Nat) (v3 : Int) : Option R :=
 V.iter (A := Int) (fun rec a => impl_IsSetMeld.s4 k v0 v1 v2 e0 e1 (fun c0 => rec c0) a) n v3
theorem impl_IsSetMeld.l4_succ {R : Type} (k : Nat) (v0 v1 : LI) (v2 : Int) (e0 e1 : Option R) (n : Nat) (v3 : Int) : impl_IsSetMeld.l4 (R := R) k v0 v1 v2 e0 e1 (n + 1) v3 = impl_IsSetMeld.s4 k v0 v1 v2 e0 e1 (impl_IsSetMeld.l4 k v0 v1 v2 e0 e1 n) v3 := rfl
def impl_IsSetMeld.f (k : Nat) (a : LI) : Option (Bool) :=
 (impl_IsHand.f k a).bind fun r1 =>
 bif (!r1) then
  some false
 else
  (impl_InRange.f k (a.length : Int) 3 4).bind fun r2 =>
  bif (!r2) then
   some false
  else
   impl_IsSetMeld.l4 k a a (a.length : Int) (some false) (some true) k 0

def impl_IsRunMeld.s5 {R : Type} (k : Nat) (v0 : Int) (v2 : LI) (e0 e1 : Option R) (rec : Int → Option R) (v1 : Int) : Option R :=
 bif decide (v1 < v0) then
  chk ((decide (0 ≤ v1)) && (decide (v1 < (v2.length : Int)))) <|
  (impl_SuitOf.f k (v2.getD v1.toNat 0)).bind fun r3 =>
  chk (decide (0 < (v2.length : Int))) <|
  (impl_SuitOf.f k (v2.getD 0 0)).bind fun r4 =>
  bif (r3 != r4) then
   e0
  else
   chk (decide (0 < (v2.length : Int))) <|
   bif ((v2.getD v1.toNat 0) != (IntKind.wrap .i64 ((v2.getD 0 0) + v1))) then
    e0
   else
    rec (IntKind.wrap .i64 (v1 + 1))
 else
  e1
def impl_IsRunMeld.l5 {R : Type} (k : Nat) (v0 : Int) (v2 : LI) (e0 e1 : Option R) (n : Nat) (v1 : Int) : Option R :=
 V.iter (A := Int) (fun rec a => impl_IsRunMeld.s5 k v0 v2 e0 e1 (fun c0 => rec c0) a) n v1
theorem impl_IsRunMeld.l5_succ {R : Type} (k : Nat) (v0 : Int) (v2 : LI) (e0 e1 : Option R) (n : Nat) (v1 : Int) : impl_IsRunMeld.l5 (R := R) k v0 v2 e0 e1 (n + 1) v1 = impl_IsRunMeld.s5 k v0 v2 e0 e1 (impl_IsRunMeld.l5 k v0 v2 e0 e1 n) v1 := rfl
def impl_IsRunMeld.f (k : Nat) (a : LI) : Option (Bool) :=
 (impl_IsHand.f k a).bind fun r1 =>
 bif (!r1) then
  some false
 else
  bif decide ((a.length : Int) < 3) then
   some false
  else
   (impl_Sorted.f k a).bind fun r2 =>
   impl_IsRunMeld.l5 k (r2.length : Int) r2 (some false) (some true) k 0

def impl_isBefore.s2 {R : Type} (k : Nat) (v0 v1 : LI) (v2 : Int) (e0 : Bool → Option R) (e1 : Option R) (rec : Int → Option R) (v3 : Int) : Option R :=
 bif decide (v3 < v2) then
  bif (v3 == (v1.length : Int)) then
   e0 false
  else
   chk ((decide (0 ≤ v3)) && (decide (v3 < (v0.length : Int)))) <|
   chk ((decide (0 ≤ v3)) && (decide (v3 < (v1.length : Int)))) <|
   bif ((v0.getD v3.toNat 0) != (v1.getD v3.toNat 0)) then
    chk ((decide (0 ≤ v3)) && (decide (v3 < (v0.length : Int)))) <|
    chk ((decide (0 ≤ v3)) && (decide (v3 < (v1.length : Int)))) <|
    e0 (decide ((v0.getD v3.toNat 0) < (v1.getD v3.toNat 0)))
   else
    rec (IntKind.wrap .i64 (v3 + 1))
 else
  e1
def impl_isBefore.l2 {R : Type} (k : Nat) (v0 v1 : LI) (v2 : Int) (e0 : Bool → Option R) (e1 : Option R) (n : Nat) (v3 : Int) : Option R :=
 V.iter (A := Int) (fun rec a => impl_isBefore.s2 k v0 v1 v2 e0 e1 (fun c0 => rec c0) a) n v3
theorem impl_isBefore.l2_succ {R : Type} (k : Nat) (v0 v1 : LI) (v2 : Int) (e0 : Bool → Option R) (e1 : Option R) (n : Nat) (v3 : Int) : impl_isBefore.l2 (R := R) k v0 v1 v2 e0 e1 (n + 1) v3 = impl_isBefore.s2 k v0 v1 v2 e0 e1 (impl_isBefore.l2 k v0 v1 v2 e0 e1 n) v3 := rfl
def impl_isBefore.f (k : Nat) (a g : LI) : Option (Bool) :=
 impl_isBefore.l2 k a g (a.length : Int) (fun x1 =>
  some x1) (some (decide ((a.length : Int) < (g.length : Int)))) k 0

def impl_MeldsIn.s9 {R : Type} (k : Nat) (v0 v3 : Int) (v5 : LI) (e0 : LI → Option R) (rec : Int → LI → Option R) (v4 : Int) (v7 : LI) : Option R :=
 bif decide (v4 < v3) then
  chk ((decide (0 ≤ v4)) && (decide (v4 < (v5.length : Int)))) <|
  chk (decide (0 ≤ v4)) <|
  bif ((ibits .and .i64 (v0.fdiv (2 ^ (min v4.toNat (IntKind.bits .i64)))) 1) == 1) then
   chk (decide ((v7.length + 1) * 8 ≤ room)) <|
   rec (IntKind.wrap .i64 (v4 + 1)) (v7 ++ [v5.getD v4.toNat 0])
  else
   rec (IntKind.wrap .i64 (v4 + 1)) v7
 else
  e0 v7
def impl_MeldsIn.l9 {R : Type} (k : Nat) (v0 v3 : Int) (v5 : LI) (e0 : LI → Option R) (n : Nat) (v4 : Int) (v7 : LI) : Option R :=
 V.iter (A := Int × LI) (fun rec a => impl_MeldsIn.s9 k v0 v3 v5 e0 (fun c0 c1 => rec (c0, c1)) a.1 a.2) n (v4, v7)
theorem impl_MeldsIn.l9_succ {R : Type} (k : Nat) (v0 v3 : Int) (v5 : LI) (e0 : LI → Option R) (n : Nat) (v4 : Int) (v7 : LI) : impl_MeldsIn.l9 (R := R) k v0 v3 v5 e0 (n + 1) v4 v7 = impl_MeldsIn.s9 k v0 v3 v5 e0 (impl_MeldsIn.l9 k v0 v3 v5 e0 n) v4 v7 := rfl
def impl_MeldsIn.s16 {R : Type} (k : Nat) (v4 : LL) (v5 : LI) (e0 rec : Int → Option R) (v0 : Int) : Option R :=
 bif decide (v0 > 0) then
  chk ((decide (0 ≤ (IntKind.wrap .i64 (v0 - 1)))) && (decide ((IntKind.wrap .i64 (v0 - 1)) < (v4.length : Int)))) <|
  (impl_isBefore.f k v5 (v4.getD ((IntKind.wrap .i64 (v0 - 1)).toNat) [])).bind fun r6 =>
  bif r6 then
   rec (IntKind.wrap .i64 (v0 - 1))
  else
   e0 v0
 else
  e0 v0
def impl_MeldsIn.l16 {R : Type} (k : Nat) (v4 : LL) (v5 : LI) (e0 : Int → Option R) (n : Nat) (v0 : Int) : Option R :=
 V.iter (A := Int) (fun rec a => impl_MeldsIn.s16 k v4 v5 e0 (fun c0 => rec c0) a) n v0
theorem impl_MeldsIn.l16_succ {R : Type} (k : Nat) (v4 : LL) (v5 : LI) (e0 : Int → Option R) (n : Nat) (v0 : Int) : impl_MeldsIn.l16 (R := R) k v4 v5 e0 (n + 1) v0 = impl_MeldsIn.s16 k v4 v5 e0 (impl_MeldsIn.l16 k v4 v5 e0 n) v0 := rfl
def impl_MeldsIn.s5 {R : Type} (k : Nat) (v0 : Int) (v2 : LI) (e0 : LL → Option R) (rec : Int → LL → Option R) (v1 : Int) (v3 : LL) : Option R :=
 bif decide (v1 < v0) then
  impl_MeldsIn.l9 k v1 (v2.length : Int) v2 (fun x3 =>
   (impl_IsSetMeld.f k x3).bind fun r4 =>
   bif (!r4) then
    (impl_IsRunMeld.f k x3).bind fun r5 =>
    bif (!r5) then
     rec (IntKind.wrap .i64 (v1 + 1)) v3
    else
     impl_MeldsIn.l16 k v3 x3 (fun x7 =>
      chk (decide ((v3.length + 1) * 24 ≤ room)) <|
      chk ((decide (0 ≤ ((v3 ++ ([[]])).length : Int))) && (decide (((v3 ++ ([[]])).length : Int) ≤ ((v3 ++ ([[]])).length : Int)))) <|
      chk ((decide (0 ≤ (IntKind.wrap .i64 (x7 + 1)))) && (decide ((IntKind.wrap .i64 (x7 + 1)) ≤ ((v3 ++ ([[]])).length : Int)))) <|
      chk ((decide (0 ≤ ((v3 ++ ([[]])).length : Int))) && (decide (((v3 ++ ([[]])).length : Int) ≤ ((v3 ++ ([[]])).length : Int)))) <|
      chk ((decide (0 ≤ x7)) && (decide (x7 ≤ ((v3 ++ ([[]])).length : Int)))) <|
      chk (((IntKind.wrap .i64 (x7 + 1)).toNat) == x7.toNat + 1 && (((v3 ++ ([[]])).length : Int).toNat) == ((v3 ++ ([[]])).length) && (((v3 ++ ([[]])).length : Int).toNat) == ((v3 ++ ([[]])).length) && decide (x7.toNat < ((v3 ++ ([[]])).length))) <|
      chk ((decide (0 ≤ x7)) && (decide (x7 < ((((v3 ++ ([[]])).take x7.toNat) ++ [] :: ((v3 ++ ([[]])).drop x7.toNat).dropLast).length : Int)))) <|
      chk (x7.toNat == x7.toNat) <|
      rec (IntKind.wrap .i64 (v1 + 1)) ((((v3 ++ ([[]])).take x7.toNat) ++ [] :: ((v3 ++ ([[]])).drop x7.toNat).dropLast).set x7.toNat x3)) k (v3.length : Int)
   else
    impl_MeldsIn.l16 k v3 x3 (fun x8 =>
     chk (decide ((v3.length + 1) * 24 ≤ room)) <|
     chk ((decide (0 ≤ ((v3 ++ ([[]])).length : Int))) && (decide (((v3 ++ ([[]])).length : Int) ≤ ((v3 ++ ([[]])).length : Int)))) <|
     chk ((decide (0 ≤ (IntKind.wrap .i64 (x8 + 1)))) && (decide ((IntKind.wrap .i64 (x8 + 1)) ≤ ((v3 ++ ([[]])).length : Int)))) <|
     chk ((decide (0 ≤ ((v3 ++ ([[]])).length : Int))) && (decide (((v3 ++ ([[]])).length : Int) ≤ ((v3 ++ ([[]])).length : Int)))) <|
     chk ((decide (0 ≤ x8)) && (decide (x8 ≤ ((v3 ++ ([[]])).length : Int)))) <|
     chk (((IntKind.wrap .i64 (x8 + 1)).toNat) == x8.toNat + 1 && (((v3 ++ ([[]])).length : Int).toNat) == ((v3 ++ ([[]])).length) && (((v3 ++ ([[]])).length : Int).toNat) == ((v3 ++ ([[]])).length) && decide (x8.toNat < ((v3 ++ ([[]])).length))) <|
     chk ((decide (0 ≤ x8)) && (decide (x8 < ((((v3 ++ ([[]])).take x8.toNat) ++ [] :: ((v3 ++ ([[]])).drop x8.toNat).dropLast).length : Int)))) <|
     chk (x8.toNat == x8.toNat) <|
     rec (IntKind.wrap .i64 (v1 + 1)) ((((v3 ++ ([[]])).take x8.toNat) ++ [] :: ((v3 ++ ([[]])).drop x8.toNat).dropLast).set x8.toNat x3)) k (v3.length : Int)) k 0 []
 else
  e0 v3
def impl_MeldsIn.l5 {R : Type} (k : Nat) (v0 : Int) (v2 : LI) (e0 : LL → Option R) (n : Nat) (v1 : Int) (v3 : LL) : Option R :=
 V.iter (A := Int × LL) (fun rec a => impl_MeldsIn.s5 k v0 v2 e0 (fun c0 c1 => rec (c0, c1)) a.1 a.2) n (v1, v3)
theorem impl_MeldsIn.l5_succ {R : Type} (k : Nat) (v0 : Int) (v2 : LI) (e0 : LL → Option R) (n : Nat) (v1 : Int) (v3 : LL) : impl_MeldsIn.l5 (R := R) k v0 v2 e0 (n + 1) v1 v3 = impl_MeldsIn.s5 k v0 v2 e0 (impl_MeldsIn.l5 k v0 v2 e0 n) v1 v3 := rfl
def impl_MeldsIn.f (k : Nat) (a : LI) : Option (LL) :=
 (impl_IsHand.f k a).bind fun r1 =>
 bif (!r1) then
  some ([])
 else
  bif decide ((a.length : Int) > 12) then
   some ([])
  else
   (impl_Sorted.f k a).bind fun r2 =>
   chk (decide (0 ≤ (r2.length : Int))) <|
   impl_MeldsIn.l5 k (IntKind.wrap .i64 (1 * 2 ^ (min ((r2.length : Int).toNat) (IntKind.bits .i64)))) r2 (fun x9 =>
    some x9) k 0 []

def impl_MeldCount.f (k : Nat) (a : LI) : Option (Int) :=
 (impl_MeldsIn.f k a).bind fun r1 =>
 some (r1.length : Int)

def spec_l10Ok.f (k : Nat) (a : LI) : Option (Bool) :=
 (spec_IsHand.f k a).bind fun r1 =>
 bif r1 then
  some (decide ((a.length : Int) ≤ 12))
 else
  some false

def spec_l10Before.s2 {R : Type} (k : Nat) (v0 v1 : LI) (e0 : Bool → Option R) (e1 : Option R) (rec : Int → Option R) (v2 : Int) : Option R :=
 bif decide (v2 < (v0.length : Int)) then
  bif decide (v2 < (v1.length : Int)) then
   chk ((decide (0 ≤ v2)) && (decide (v2 < (v0.length : Int)))) <|
   chk ((decide (0 ≤ v2)) && (decide (v2 < (v1.length : Int)))) <|
   bif ((v0.getD v2.toNat 0) != (v1.getD v2.toNat 0)) then
    chk ((decide (0 ≤ v2)) && (decide (v2 < (v0.length : Int)))) <|
    chk ((decide (0 ≤ v2)) && (decide (v2 < (v1.length : Int)))) <|
    e0 (decide ((v0.getD v2.toNat 0) < (v1.getD v2.toNat 0)))
   else
    rec (IntKind.wrap .i64 (v2 + 1))
  else
   e1
 else
  e1
def spec_l10Before.l2 {R : Type} (k : Nat) (v0 v1 : LI) (e0 : Bool → Option R) (e1 : Option R) (n : Nat) (v2 : Int) : Option R :=
 V.iter (A := Int) (fun rec a => spec_l10Before.s2 k v0 v1 e0 e1 (fun c0 => rec c0) a) n v2
theorem spec_l10Before.l2_succ {R : Type} (k : Nat) (v0 v1 : LI) (e0 : Bool → Option R) (e1 : Option R) (n : Nat) (v2 : Int) : spec_l10Before.l2 (R := R) k v0 v1 e0 e1 (n + 1) v2 = spec_l10Before.s2 k v0 v1 e0 e1 (spec_l10Before.l2 k v0 v1 e0 e1 n) v2 := rfl
def spec_l10Before.f (k : Nat) (a g : LI) : Option (Bool) :=
 spec_l10Before.l2 k a g (fun x1 =>
  some x1) (some (decide ((a.length : Int) < (g.length : Int)))) k 0

def spec_l10Put.s2 {R : Type} (k : Nat) (v0 : LL) (v1 : LI) (e0 rec : Int → Option R) (v2 : Int) : Option R :=
 bif decide (v2 > 0) then
  chk ((decide (0 ≤ (IntKind.wrap .i64 (v2 - 1)))) && (decide ((IntKind.wrap .i64 (v2 - 1)) < (v0.length : Int)))) <|
  (spec_l10Before.f k v1 (v0.getD ((IntKind.wrap .i64 (v2 - 1)).toNat) [])).bind fun r1 =>
  bif r1 then
   rec (IntKind.wrap .i64 (v2 - 1))
  else
   e0 v2
 else
  e0 v2
def spec_l10Put.l2 {R : Type} (k : Nat) (v0 : LL) (v1 : LI) (e0 : Int → Option R) (n : Nat) (v2 : Int) : Option R :=
 V.iter (A := Int) (fun rec a => spec_l10Put.s2 k v0 v1 e0 (fun c0 => rec c0) a) n v2
theorem spec_l10Put.l2_succ {R : Type} (k : Nat) (v0 : LL) (v1 : LI) (e0 : Int → Option R) (n : Nat) (v2 : Int) : spec_l10Put.l2 (R := R) k v0 v1 e0 (n + 1) v2 = spec_l10Put.s2 k v0 v1 e0 (spec_l10Put.l2 k v0 v1 e0 n) v2 := rfl
def spec_l10Put.f (k : Nat) (a : LL) (g : LI) : Option (LL) :=
 spec_l10Put.l2 k a g (fun x2 =>
  chk ((decide (0 ≤ x2)) && (decide (x2 ≤ (a.length : Int)))) <|
  chk (decide ((0 + ((a.take x2.toNat).length)) * 24 ≤ room)) <|
  chk (decide (((([] ++ (a.take x2.toNat)).length) + 1) * 24 ≤ room)) <|
  chk ((decide (0 ≤ x2)) && (decide (x2 ≤ (a.length : Int)))) <|
  chk (decide ((((([] ++ (a.take x2.toNat)) ++ [g]).length) + ((a.drop x2.toNat).length)) * 24 ≤ room)) <|
  some ((([] ++ (a.take x2.toNat)) ++ [g]) ++ (a.drop x2.toNat))) k (a.length : Int)

def spec_Without.s3 {R : Type} (k : Nat) (v0 : LI) (v1 : Int) (e0 : LI → Option R) (rec : Int → LI → Option R) (v2 : Int) (v3 : LI) : Option R :=
 bif decide (v2 < (v0.length : Int)) then
  chk ((decide (0 ≤ v2)) && (decide (v2 < (v0.length : Int)))) <|
  bif ((v0.getD v2.toNat 0) != v1) then
   chk ((decide (0 ≤ v2)) && (decide (v2 < (v0.length : Int)))) <|
   chk (decide ((v3.length + 1) * 8 ≤ room)) <|
   rec (IntKind.wrap .i64 (v2 + 1)) (v3 ++ [v0.getD v2.toNat 0])
  else
   rec (IntKind.wrap .i64 (v2 + 1)) v3
 else
  e0 v3
def spec_Without.l3 {R : Type} (k : Nat) (v0 : LI) (v1 : Int) (e0 : LI → Option R) (n : Nat) (v2 : Int) (v3 : LI) : Option R :=
 V.iter (A := Int × LI) (fun rec a => spec_Without.s3 k v0 v1 e0 (fun c0 c1 => rec (c0, c1)) a.1 a.2) n (v2, v3)
theorem spec_Without.l3_succ {R : Type} (k : Nat) (v0 : LI) (v1 : Int) (e0 : LI → Option R) (n : Nat) (v2 : Int) (v3 : LI) : spec_Without.l3 (R := R) k v0 v1 e0 (n + 1) v2 v3 = spec_Without.s3 k v0 v1 e0 (spec_Without.l3 k v0 v1 e0 n) v2 v3 := rfl
def spec_Without.f (k : Nat) (a : LI) (g : Int) : Option (LI) :=
 spec_Without.l3 k a g (fun x1 =>
  some x1) k 0 []

def spec_MeldsIn.s9 {R : Type} (k : Nat) (v0 : LI) (v2 : Int) (e0 : LI → Option R) (rec : Int → LI → Option R) (v3 : Int) (v4 : LI) : Option R :=
 bif decide (v3 < 4) then
  (spec_HasCard.f k v0 (IntKind.wrap .i64 ((IntKind.wrap .i64 (v3 * 13)) + v2))).bind fun r2 =>
  bif r2 then
   chk (decide ((v4.length + 1) * 8 ≤ room)) <|
   rec (IntKind.wrap .i64 (v3 + 1)) (v4 ++ [IntKind.wrap .i64 ((IntKind.wrap .i64 (v3 * 13)) + v2)])
  else
   rec (IntKind.wrap .i64 (v3 + 1)) v4
 else
  e0 v4
def spec_MeldsIn.l9 {R : Type} (k : Nat) (v0 : LI) (v2 : Int) (e0 : LI → Option R) (n : Nat) (v3 : Int) (v4 : LI) : Option R :=
 V.iter (A := Int × LI) (fun rec a => spec_MeldsIn.s9 k v0 v2 e0 (fun c0 c1 => rec (c0, c1)) a.1 a.2) n (v3, v4)
theorem spec_MeldsIn.l9_succ {R : Type} (k : Nat) (v0 : LI) (v2 : Int) (e0 : LI → Option R) (n : Nat) (v3 : Int) (v4 : LI) : spec_MeldsIn.l9 (R := R) k v0 v2 e0 (n + 1) v3 v4 = spec_MeldsIn.s9 k v0 v2 e0 (spec_MeldsIn.l9 k v0 v2 e0 n) v3 v4 := rfl
def spec_MeldsIn.s16 {R : Type} (k : Nat) (v3 : LI) (e0 : LL → Option R) (rec : LL → Int → Option R) (v1 : LL) (v4 : Int) : Option R :=
 bif decide (v4 < (v3.length : Int)) then
  bif ((v3.length : Int) == 4) then
   chk ((decide (0 ≤ v4)) && (decide (v4 < (v3.length : Int)))) <|
   (spec_Without.f k v3 (v3.getD v4.toNat 0)).bind fun r5 =>
   (spec_l10Put.f k v1 r5).bind fun r6 =>
   rec r6 (IntKind.wrap .i64 (v4 + 1))
  else
   e0 v1
 else
  e0 v1
def spec_MeldsIn.l16 {R : Type} (k : Nat) (v3 : LI) (e0 : LL → Option R) (n : Nat) (v1 : LL) (v4 : Int) : Option R :=
 V.iter (A := LL × Int) (fun rec a => spec_MeldsIn.s16 k v3 e0 (fun c0 c1 => rec (c0, c1)) a.1 a.2) n (v1, v4)
theorem spec_MeldsIn.l16_succ {R : Type} (k : Nat) (v3 : LI) (e0 : LL → Option R) (n : Nat) (v1 : LL) (v4 : Int) : spec_MeldsIn.l16 (R := R) k v3 e0 (n + 1) v1 v4 = spec_MeldsIn.s16 k v3 e0 (spec_MeldsIn.l16 k v3 e0 n) v1 v4 := rfl
def spec_MeldsIn.s5 {R : Type} (k : Nat) (v0 : LI) (e0 : LL → Option R) (rec : LL → Int → Option R) (v1 : LL) (v2 : Int) : Option R :=
 bif decide (v2 < 13) then
  spec_MeldsIn.l9 k v0 v2 (fun x3 =>
   bif decide ((x3.length : Int) ≥ 3) then
    (spec_l10Put.f k v1 x3).bind fun r4 =>
    spec_MeldsIn.l16 k x3 (fun x7 =>
     rec x7 (IntKind.wrap .i64 (v2 + 1))) k r4 0
   else
    spec_MeldsIn.l16 k x3 (fun x8 =>
     rec x8 (IntKind.wrap .i64 (v2 + 1))) k v1 0) k 0 []
 else
  e0 v1
def spec_MeldsIn.l5 {R : Type} (k : Nat) (v0 : LI) (e0 : LL → Option R) (n : Nat) (v1 : LL) (v2 : Int) : Option R :=
 V.iter (A := LL × Int) (fun rec a => spec_MeldsIn.s5 k v0 e0 (fun c0 c1 => rec (c0, c1)) a.1 a.2) n (v1, v2)
theorem spec_MeldsIn.l5_succ {R : Type} (k : Nat) (v0 : LI) (e0 : LL → Option R) (n : Nat) (v1 : LL) (v2 : Int) : spec_MeldsIn.l5 (R := R) k v0 e0 (n + 1) v1 v2 = spec_MeldsIn.s5 k v0 e0 (spec_MeldsIn.l5 k v0 e0 n) v1 v2 := rfl
def spec_MeldsIn.s24 {R : Type} (k : Nat) (v0 : LI) (v2 : Int) (e0 : LL → Option R) (rec : LL → Int → LI → Option R) (v1 : LL) (v3 : Int) (v4 : LI) : Option R :=
 (spec_HasCard.f k v0 v3).bind fun r10 =>
 bif r10 then
  (spec_SuitOf.f k v3).bind fun r11 =>
  (spec_SuitOf.f k v2).bind fun r12 =>
  bif (r11 == r12) then
   chk (decide ((v4.length + 1) * 8 ≤ room)) <|
   bif decide (((v4 ++ [v3]).length : Int) ≥ 3) then
    chk (decide ((0 + ((v4 ++ [v3]).length)) * 8 ≤ room)) <|
    (spec_l10Put.f k v1 ([] ++ (v4 ++ [v3]))).bind fun r13 =>
    rec r13 (IntKind.wrap .i64 (v3 + 1)) (v4 ++ [v3])
   else
    rec v1 (IntKind.wrap .i64 (v3 + 1)) (v4 ++ [v3])
  else
   e0 v1
 else
  e0 v1
def spec_MeldsIn.l24 {R : Type} (k : Nat) (v0 : LI) (v2 : Int) (e0 : LL → Option R) (n : Nat) (v1 : LL) (v3 : Int) (v4 : LI) : Option R :=
 V.iter (A := LL × Int × LI) (fun rec a => spec_MeldsIn.s24 k v0 v2 e0 (fun c0 c1 c2 => rec (c0, c1, c2)) a.1 a.2.1 (t2 a)) n (v1, v3, v4)
theorem spec_MeldsIn.l24_succ {R : Type} (k : Nat) (v0 : LI) (v2 : Int) (e0 : LL → Option R) (n : Nat) (v1 : LL) (v3 : Int) (v4 : LI) : spec_MeldsIn.l24 (R := R) k v0 v2 e0 (n + 1) v1 v3 v4 = spec_MeldsIn.s24 k v0 v2 e0 (spec_MeldsIn.l24 k v0 v2 e0 n) v1 v3 v4 := rfl
def spec_MeldsIn.s20 {R : Type} (k : Nat) (v0 : LI) (e0 : LL → Option R) (rec : LL → Int → Option R) (v1 : LL) (v2 : Int) : Option R :=
 bif decide (v2 < 52) then
  spec_MeldsIn.l24 k v0 v2 (fun x14 =>
   rec x14 (IntKind.wrap .i64 (v2 + 1))) k v1 v2 []
 else
  e0 v1
def spec_MeldsIn.l20 {R : Type} (k : Nat) (v0 : LI) (e0 : LL → Option R) (n : Nat) (v1 : LL) (v2 : Int) : Option R :=
 V.iter (A := LL × Int) (fun rec a => spec_MeldsIn.s20 k v0 e0 (fun c0 c1 => rec (c0, c1)) a.1 a.2) n (v1, v2)
theorem spec_MeldsIn.l20_succ {R : Type} (k : Nat) (v0 : LI) (e0 : LL → Option R) (n : Nat) (v1 : LL) (v2 : Int) : spec_MeldsIn.l20 (R := R) k v0 e0 (n + 1) v1 v2 = spec_MeldsIn.s20 k v0 e0 (spec_MeldsIn.l20 k v0 e0 n) v1 v2 := rfl
def spec_MeldsIn.f (k : Nat) (a : LI) : Option (LL) :=
 (spec_l10Ok.f k a).bind fun r1 =>
 bif (!r1) then
  some ([])
 else
  spec_MeldsIn.l5 k a (fun x9 =>
   spec_MeldsIn.l20 k a (fun x15 =>
    some x15) k x9 0) k [] 0

def spec_MeldCount.f (k : Nat) (a : LI) : Option (Int) :=
 (spec_MeldsIn.f k a).bind fun r1 =>
 some (r1.length : Int)

def spec_AverageMoves.s3 {R : Type} (k : Nat) (v0 : LL) (e0 : Int → Option R) (rec : Int → Int → Option R) (v1 v2 : Int) : Option R :=
 bif decide (v2 < (v0.length : Int)) then
  chk ((decide (0 ≤ v2)) && (decide (v2 < (v0.length : Int)))) <|
  rec (IntKind.wrap .i64 (v1 + ((v0.getD v2.toNat []).length : Int))) (IntKind.wrap .i64 (v2 + 1))
 else
  e0 v1
def spec_AverageMoves.l3 {R : Type} (k : Nat) (v0 : LL) (e0 : Int → Option R) (n : Nat) (v1 v2 : Int) : Option R :=
 V.iter (A := Int × Int) (fun rec a => spec_AverageMoves.s3 k v0 e0 (fun c0 c1 => rec (c0, c1)) a.1 a.2) n (v1, v2)
theorem spec_AverageMoves.l3_succ {R : Type} (k : Nat) (v0 : LL) (e0 : Int → Option R) (n : Nat) (v1 v2 : Int) : spec_AverageMoves.l3 (R := R) k v0 e0 (n + 1) v1 v2 = spec_AverageMoves.s3 k v0 e0 (spec_AverageMoves.l3 k v0 e0 n) v1 v2 := rfl
def spec_AverageMoves.f (k : Nat) (a : LL) : Option (Int) :=
 spec_AverageMoves.l3 k a (fun x1 =>
  bif ((a.length : Int) == 0) then
   some 0
  else
   chk (!(decide ((a.length : Int) = 0))) <|
   some (IntKind.wrap .i64 (x1.tdiv (a.length : Int)))) k 0 0

def laws_FnMeasured.f (k : Nat) (a : LI) : Option (Bool) :=
 (laws_big.f k a).bind fun r1 =>
 bif r1 then
  some true
 else
  (spec_DrawAverageMoves.f k a).bind fun r2 =>
  (impl_AverageMoves.f k r2).bind fun r3 =>
  (spec_DrawWinsOf.f k a).bind fun r4 =>
  (impl_WinsOf.f k r4.1 r4.2.1 (t2 r4)).bind fun r5 =>
  (spec_DrawOpenShare.f k a).bind fun r6 =>
  (impl_OpenShare.f k r6.1 r6.2.1 (t2 r6).1 (t3 r6)).bind fun r7 =>
  (spec_DrawWildShare.f k a).bind fun r8 =>
  (impl_WildShare.f k r8.1 r8.2.1 (t2 r8).1 (t3 r8).1 (t4 r8).1 (t5 r8).1 (t6 r8).1 (t7 r8)).bind fun r9 =>
  (spec_DrawMeldCount.f k a).bind fun r10 =>
  (impl_MeldCount.f k r10).bind fun r11 =>
  (spec_MeldCount.f k r10).bind fun r12 =>
  bif (r11 != r12) then
   some false
  else
   (spec_AverageMoves.f k r2).bind fun r13 =>
   bif (r3 != r13) then
    some false
   else
    bif decide (r3 ≥ 0) then
     bif decide (r5 ≥ 0) then
      bif decide (r5 ≤ (r4.2.1.length : Int)) then
       bif decide (r7 ≥ 0) then
        bif decide (r7 ≤ 100) then
         bif decide (r9 ≥ 0) then
          bif decide (r9 ≤ 100) then
           (impl_MeldCount.f k r10).bind fun r14 =>
           (impl_MeldsIn.f k r10).bind fun r15 =>
           some (r14 == (r15.length : Int))
          else
           some false
         else
          some false
        else
         some false
       else
        some false
      else
       some false
     else
      some false
    else
     some false
end Go.Proofs.YtfbafmeeejmgoaaGreat
