/- Plain Lean functions, printed by a program out of the Go functions' translation: what each computes, without program and memory. -/
import Derived.Test.YtpdkglbbhfhlfaaGreatVEval
set_option linter.unusedVariables false
namespace Go.Proofs.YtpdkglbbhfhlfaaGreat
open Go Go.Proofs.YtpdkglbbhfhlfaaGreat.V

def laws_big.f (k : Nat) (a : LI) : Option (Bool) :=
 some (decide ((a.length : Int) > 1048576))

def impl_EqualInts.s4 {R : Type} (k : Nat) (v0 v1 : LI) (v2 : Int) (e0 e1 : Option R) (rec : Int → Option R) (v3 : Int) : Option R :=
 bif decide (v3 < v2) then
  chk ((decide (0 ≤ v3)) && (decide (v3 < (v0.length : Int)))) <|
  chk ((decide (0 ≤ v3)) && (decide (v3 < (v1.length : Int)))) <|
  bif ((v0.getD v3.toNat 0) != (v1.getD v3.toNat 0)) then
   e0
  else
   rec (IntKind.wrap .i64 (v3 + 1))
 else
  e1
def impl_EqualInts.l4 {R : Type} (k : Nat) (v0 v1 : LI) (v2 : Int) (e0 e1 : Option R) (n : Nat) (v3 : Int) : Option R :=
 V.iter (A := Int) (fun rec a => impl_EqualInts.s4 k v0 v1 v2 e0 e1 (fun c0 => rec c0) a) n v3
theorem impl_EqualInts.l4_succ {R : Type} (k : Nat) (v0 v1 : LI) (v2 : Int) (e0 e1 : Option R) (n : Nat) (v3 : Int) : impl_EqualInts.l4 (R := R) k v0 v1 v2 e0 e1 (n + 1) v3 = impl_EqualInts.s4 k v0 v1 v2 e0 e1 (impl_EqualInts.l4 k v0 v1 v2 e0 e1 n) v3 := rfl
def impl_EqualInts.f (k : Nat) (a g : LI) : Option (Bool) :=
 bif ((a.length : Int) != (g.length : Int)) then
  some false
 else
  impl_EqualInts.l4 k a g (a.length : Int) (some false) (some true) k 0

def impl_EqualRules.f (k : Nat) (a0 a1 : Int) (a2 a3 : Bool) (a4 a5 : LI) (a6 a7 g0 g1 : Int) (g2 g3 : Bool) (g4 g5 : LI) (g6 g7 : Int) : Option (Bool) :=
 bif (a0 == g0) then
  bif (a1 == g1) then
   bif (a2 == g2) then
    bif (a3 == g3) then
     bif (a6 == g6) then
      bif (a7 == g7) then
       (impl_EqualInts.f k a4 g4).bind fun r1 =>
       bif r1 then
        (impl_EqualInts.f k a5 g5).bind fun r2 =>
        some r2
       else
        some false
      else
       some false
     else
      some false
    else
     some false
   else
    some false
  else
   some false
 else
  some false

def impl_sameRows.s4 {R : Type} (k : Nat) (v0 v1 : LL) (v2 : Int) (e0 e1 : Option R) (rec : Int → Option R) (v3 : Int) : Option R :=
 bif decide (v3 < v2) then
  chk ((decide (0 ≤ v3)) && (decide (v3 < (v0.length : Int)))) <|
  chk ((decide (0 ≤ v3)) && (decide (v3 < (v1.length : Int)))) <|
  (impl_EqualInts.f k (v0.getD v3.toNat []) (v1.getD v3.toNat [])).bind fun r1 =>
  bif (!r1) then
   e0
  else
   rec (IntKind.wrap .i64 (v3 + 1))
 else
  e1
def impl_sameRows.l4 {R : Type} (k : Nat) (v0 v1 : LL) (v2 : Int) (e0 e1 : Option R) (n : Nat) (v3 : Int) : Option R :=
 V.iter (A := Int) (fun rec a => impl_sameRows.s4 k v0 v1 v2 e0 e1 (fun c0 => rec c0) a) n v3
theorem impl_sameRows.l4_succ {R : Type} (k : Nat) (v0 v1 : LL) (v2 : Int) (e0 e1 : Option R) (n : Nat) (v3 : Int) : impl_sameRows.l4 (R := R) k v0 v1 v2 e0 e1 (n + 1) v3 = impl_sameRows.s4 k v0 v1 v2 e0 e1 (impl_sameRows.l4 k v0 v1 v2 e0 e1 n) v3 := rfl
def impl_sameRows.f (k : Nat) (a g : LL) : Option (Bool) :=
 bif ((a.length : Int) != (g.length : Int)) then
  some false
 else
  impl_sameRows.l4 k a g (a.length : Int) (some false) (some true) k 0

def impl_EqualGames.f (k : Nat) (a0 a1 : Int) (a2 a3 : Bool) (a4 a5 : LI) (a6 a7 : Int) (a8 : LL) (a9 a10 : LI) (a11 a12 a13 g0 g1 : Int) (g2 g3 : Bool) (g4 g5 : LI) (g6 g7 : Int) (g8 : LL) (g9 g10 : LI) (g11 g12 g13 : Int) : Option (Bool) :=
 (impl_EqualRules.f k a0 a1 a2 a3 a4 a5 a6 a7 g0 g1 g2 g3 g4 g5 g6 g7).bind fun r1 =>
 bif r1 then
  (impl_sameRows.f k a8 g8).bind fun r2 =>
  bif r2 then
   (impl_EqualInts.f k a9 g9).bind fun r3 =>
   bif r3 then
    (impl_EqualInts.f k a10 g10).bind fun r4 =>
    bif r4 then
     bif (a11 == g11) then
      bif (a12 == g12) then
       some (a13 == g13)
      else
       some false
     else
      some false
    else
     some false
   else
    some false
  else
   some false
 else
  some false

def impl_copyOf.f (k : Nat) (a : LI) : Option (LI) :=
 chk (decide ((0 + a.length) * 8 ≤ room)) <|
 some ([] ++ a)

def impl_copyRows.s3 {R : Type} (k : Nat) (v0 : LL) (v1 : Int) (e0 : LL → Option R) (rec : Int → LL → Option R) (v2 : Int) (v3 : LL) : Option R :=
 bif decide (v2 < v1) then
  chk ((decide (0 ≤ v2)) && (decide (v2 < (v0.length : Int)))) <|
  (impl_copyOf.f k (v0.getD v2.toNat [])).bind fun r1 =>
  chk (decide ((v3.length + 1) * 24 ≤ room)) <|
  rec (IntKind.wrap .i64 (v2 + 1)) (v3 ++ [r1])
 else
  e0 v3
def impl_copyRows.l3 {R : Type} (k : Nat) (v0 : LL) (v1 : Int) (e0 : LL → Option R) (n : Nat) (v2 : Int) (v3 : LL) : Option R :=
 V.iter (A := Int × LL) (fun rec a => impl_copyRows.s3 k v0 v1 e0 (fun c0 c1 => rec (c0, c1)) a.1 a.2) n (v2, v3)
theorem impl_copyRows.l3_succ {R : Type} (k : Nat) (v0 : LL) (v1 : Int) (e0 : LL → Option R) (n : Nat) (v2 : Int) (v3 : LL) : impl_copyRows.l3 (R := R) k v0 v1 e0 (n + 1) v2 v3 = impl_copyRows.s3 k v0 v1 e0 (impl_copyRows.l3 k v0 v1 e0 n) v2 v3 := rfl
def impl_copyRows.f (k : Nat) (a : LL) : Option (LL) :=
 impl_copyRows.l3 k a (a.length : Int) (fun x2 =>
  some x2) k 0 []

def impl_Rules_copied.f (k : Nat) (a0 a1 : Int) (a2 a3 : Bool) (a4 a5 : LI) (a6 a7 : Int) : Option (Int × Int × Bool × Bool × LI × LI × Int × Int) :=
 (impl_copyOf.f k a4).bind fun r1 =>
 (impl_copyOf.f k a5).bind fun r2 =>
 some (a0, a1, a2, a3, r1, r2, a6, a7)

def impl_Game_copied.f (k : Nat) (a0 a1 : Int) (a2 a3 : Bool) (a4 a5 : LI) (a6 a7 : Int) (a8 : LL) (a9 a10 : LI) (a11 a12 a13 : Int) : Option (Int × Int × Bool × Bool × LI × LI × Int × Int × LL × LI × LI × Int × Int × Int) :=
 (impl_Rules_copied.f k a0 a1 a2 a3 a4 a5 a6 a7).bind fun r1 =>
 (impl_copyRows.f k a8).bind fun r2 =>
 (impl_copyOf.f k a9).bind fun r3 =>
 (impl_copyOf.f k a10).bind fun r4 =>
 some (r1.1, r1.2.1, (t2 r1).1, (t3 r1).1, (t4 r1).1, (t5 r1).1, (t6 r1).1, (t7 r1), r2, r3, r4, a11, a12, a13)

def impl_InRange.f (k : Nat) (a g i : Int) : Option (Bool) :=
 bif decide (g ≤ a) then
  some (decide (a ≤ i))
 else
  some false

def impl_isTest.f (k : Nat) (a : Int) : Option (Bool) :=
 (impl_InRange.f k a 100 103).bind fun r1 =>
 bif r1 then
  some true
 else
  (impl_InRange.f k a 200 212).bind fun r2 =>
  bif r2 then
   some true
  else
   (impl_InRange.f k a 300 312).bind fun r3 =>
   bif r3 then
    some true
   else
    some (a == 400)

def impl_IsPattern.s3 {R : Type} (k : Nat) (v2 : LI) (v3 : Int) (e0 e1 : Int → Option R) (rec : Int → Int → Option R) (v1 v4 : Int) : Option R :=
 bif decide (v4 < v3) then
  chk ((decide (0 ≤ v4)) && (decide (v4 < (v2.length : Int)))) <|
  (impl_isTest.f k (v2.getD v4.toNat 0)).bind fun r1 =>
  bif r1 then
   rec (IntKind.wrap .i64 (v1 + 1)) (IntKind.wrap .i64 (v4 + 1))
  else
   bif ((v2.getD v4.toNat 0) == (-1)) then
    bif decide (v1 ≥ 1) then
     rec v1 (IntKind.wrap .i64 (v4 + 1))
    else
     bif ((v2.getD v4.toNat 0) == (-2)) then
      bif decide (v1 ≥ 2) then
       rec (IntKind.wrap .i64 (v1 - 1)) (IntKind.wrap .i64 (v4 + 1))
      else
       e0 v1
     else
      bif ((v2.getD v4.toNat 0) == (-3)) then
       bif decide (v1 ≥ 2) then
        rec (IntKind.wrap .i64 (v1 - 1)) (IntKind.wrap .i64 (v4 + 1))
       else
        e0 v1
      else
       e0 v1
   else
    bif ((v2.getD v4.toNat 0) == (-2)) then
     bif decide (v1 ≥ 2) then
      rec (IntKind.wrap .i64 (v1 - 1)) (IntKind.wrap .i64 (v4 + 1))
     else
      e0 v1
    else
     bif ((v2.getD v4.toNat 0) == (-3)) then
      bif decide (v1 ≥ 2) then
       rec (IntKind.wrap .i64 (v1 - 1)) (IntKind.wrap .i64 (v4 + 1))
      else
       e0 v1
     else
      e0 v1
 else
  e1 v1
def impl_IsPattern.l3 {R : Type} (k : Nat) (v2 : LI) (v3 : Int) (e0 e1 : Int → Option R) (n : Nat) (v1 v4 : Int) : Option R :=
 V.iter (A := Int × Int) (fun rec a => impl_IsPattern.s3 k v2 v3 e0 e1 (fun c0 c1 => rec (c0, c1)) a.1 a.2) n (v1, v4)
theorem impl_IsPattern.l3_succ {R : Type} (k : Nat) (v2 : LI) (v3 : Int) (e0 e1 : Int → Option R) (n : Nat) (v1 v4 : Int) : impl_IsPattern.l3 (R := R) k v2 v3 e0 e1 (n + 1) v1 v4 = impl_IsPattern.s3 k v2 v3 e0 e1 (impl_IsPattern.l3 k v2 v3 e0 e1 n) v1 v4 := rfl
def impl_IsPattern.f (k : Nat) (a : LI) : Option (Bool) :=
 impl_IsPattern.l3 k a (a.length : Int) (fun x2 =>
  some false) (fun x3 =>
  (impl_InRange.f k (a.length : Int) 1 20).bind fun r4 =>
  bif r4 then
   some (x3 == 1)
  else
   some false) k 0 0

def impl_isMaybe.f (k : Nat) (a : LI) : Option (Bool) :=
 bif ((a.length : Int) == 0) then
  some true
 else
  (impl_IsPattern.f k a).bind fun r1 =>
  some r1

def impl_IsRules.f (k : Nat) (a0 a1 : Int) (a2 a3 : Bool) (a4 a5 : LI) (a6 a7 : Int) : Option (Bool) :=
 (impl_InRange.f k a0 2 6).bind fun r1 =>
 bif r1 then
  (impl_InRange.f k a1 1 8).bind fun r2 =>
  bif r2 then
   bif a2 then
    (impl_isMaybe.f k a4).bind fun r3 =>
    bif r3 then
     (impl_isMaybe.f k a5).bind fun r4 =>
     bif r4 then
      (impl_InRange.f k a6 1 4).bind fun r5 =>
      bif r5 then
       (impl_InRange.f k a7 1 400).bind fun r6 =>
       some r6
      else
       some false
     else
      some false
    else
     some false
   else
    bif a3 then
     (impl_isMaybe.f k a4).bind fun r7 =>
     bif r7 then
      (impl_isMaybe.f k a5).bind fun r8 =>
      bif r8 then
       (impl_InRange.f k a6 1 4).bind fun r9 =>
       bif r9 then
        (impl_InRange.f k a7 1 400).bind fun r10 =>
        some r10
       else
        some false
      else
       some false
     else
      some false
    else
     some false
  else
   some false
 else
  some false

def impl_TotalCards.s3 {R : Type} (k : Nat) (v1 : LL) (v2 : Int) (e0 : Int → Option R) (rec : Int → Int → Option R) (v0 v3 : Int) : Option R :=
 bif decide (v3 < v2) then
  chk ((decide (0 ≤ v3)) && (decide (v3 < (v1.length : Int)))) <|
  rec (IntKind.wrap .i64 (v0 + ((v1.getD v3.toNat []).length : Int))) (IntKind.wrap .i64 (v3 + 1))
 else
  e0 v0
def impl_TotalCards.l3 {R : Type} (k : Nat) (v1 : LL) (v2 : Int) (e0 : Int → Option R) (n : Nat) (v0 v3 : Int) : Option R :=
 V.iter (A := Int × Int) (fun rec a => impl_TotalCards.s3 k v1 v2 e0 (fun c0 c1 => rec (c0, c1)) a.1 a.2) n (v0, v3)
theorem impl_TotalCards.l3_succ {R : Type} (k : Nat) (v1 : LL) (v2 : Int) (e0 : Int → Option R) (n : Nat) (v0 v3 : Int) : impl_TotalCards.l3 (R := R) k v1 v2 e0 (n + 1) v0 v3 = impl_TotalCards.s3 k v1 v2 e0 (impl_TotalCards.l3 k v1 v2 e0 n) v0 v3 := rfl
def impl_TotalCards.f (k : Nat) (a : LL) : Option (Int) :=
 impl_TotalCards.l3 k a (a.length : Int) (fun x1 =>
  some x1) k 0 0

def impl_IsCard.f (k : Nat) (a : Int) : Option (Bool) :=
 (impl_InRange.f k a 0 51).bind fun r1 =>
 some r1

def impl_IsHand.s3 {R : Type} (k : Nat) (v0 : LI) (v1 : Int) (e0 e1 : Option R) (rec : Int → List Bool → Option R) (v2 : Int) (v3 : List Bool) : Option R :=
 bif decide (v2 < v1) then
  chk ((decide (0 ≤ v2)) && (decide (v2 < (v0.length : Int)))) <|
  (impl_IsCard.f k (v0.getD v2.toNat 0)).bind fun r1 =>
  bif (!r1) then
   e0
  else
   chk ((decide (0 ≤ (v0.getD v2.toNat 0))) && (decide ((v0.getD v2.toNat 0) < 52))) <|
   bif (v3.getD ((v0.getD v2.toNat 0).toNat) false) then
    e0
   else
    chk ((decide (0 ≤ (v0.getD v2.toNat 0))) && (decide ((v0.getD v2.toNat 0) < 52))) <|
    rec (IntKind.wrap .i64 (v2 + 1)) (v3.set ((v0.getD v2.toNat 0).toNat) true)
 else
  e1
def impl_IsHand.l3 {R : Type} (k : Nat) (v0 : LI) (v1 : Int) (e0 e1 : Option R) (n : Nat) (v2 : Int) (v3 : List Bool) : Option R :=
 V.iter (A := Int × List Bool) (fun rec a => impl_IsHand.s3 k v0 v1 e0 e1 (fun c0 c1 => rec (c0, c1)) a.1 a.2) n (v2, v3)
theorem impl_IsHand.l3_succ {R : Type} (k : Nat) (v0 : LI) (v1 : Int) (e0 e1 : Option R) (n : Nat) (v2 : Int) (v3 : List Bool) : impl_IsHand.l3 (R := R) k v0 v1 e0 e1 (n + 1) v2 v3 = impl_IsHand.s3 k v0 v1 e0 e1 (impl_IsHand.l3 k v0 v1 e0 e1 n) v2 v3 := rfl
def impl_IsHand.f (k : Nat) (a : LI) : Option (Bool) :=
 impl_IsHand.l3 k a (a.length : Int) (some false) (some true) k 0 [false, false, false, false, false, false, false, false, false, false, false, false, false, false, false, false, false, false, false, false, false, false, false, false, false, false, false, false, false, false, false, false, false, false, false, false, false, false, false, false, false, false, false, false, false, false, false, false, false, false, false, false]

def impl_AllApart.s3 {R : Type} (k : Nat) (v0 : LL) (v1 : Int) (e0 : LI → Option R) (rec : Int → LI → Option R) (v2 : Int) (v3 : LI) : Option R :=
 bif decide (v2 < v1) then
  chk ((decide (0 ≤ v2)) && (decide (v2 < (v0.length : Int)))) <|
  chk (decide ((v3.length + ((v0.getD v2.toNat []).length)) * 8 ≤ room)) <|
  rec (IntKind.wrap .i64 (v2 + 1)) (v3 ++ (v0.getD v2.toNat []))
 else
  e0 v3
def impl_AllApart.l3 {R : Type} (k : Nat) (v0 : LL) (v1 : Int) (e0 : LI → Option R) (n : Nat) (v2 : Int) (v3 : LI) : Option R :=
 V.iter (A := Int × LI) (fun rec a => impl_AllApart.s3 k v0 v1 e0 (fun c0 c1 => rec (c0, c1)) a.1 a.2) n (v2, v3)
theorem impl_AllApart.l3_succ {R : Type} (k : Nat) (v0 : LL) (v1 : Int) (e0 : LI → Option R) (n : Nat) (v2 : Int) (v3 : LI) : impl_AllApart.l3 (R := R) k v0 v1 e0 (n + 1) v2 v3 = impl_AllApart.s3 k v0 v1 e0 (impl_AllApart.l3 k v0 v1 e0 n) v2 v3 := rfl
def impl_AllApart.f (k : Nat) (a : LL) : Option (Bool) :=
 impl_AllApart.l3 k a (a.length : Int) (fun x1 =>
  (impl_IsHand.f k x1).bind fun r2 =>
  some r2) k 0 []

def impl_isWhole.f (k : Nat) (a : LL) : Option (Bool) :=
 (impl_AllApart.f k a).bind fun r1 =>
 bif r1 then
  (impl_TotalCards.f k a).bind fun r2 =>
  some (r2 == 52)
 else
  some false

def impl_IsGame.f (k : Nat) (a0 a1 : Int) (a2 a3 : Bool) (a4 a5 : LI) (a6 a7 : Int) (a8 : LL) (a9 a10 : LI) (a11 a12 a13 : Int) : Option (Bool) :=
 (impl_IsRules.f k a0 a1 a2 a3 a4 a5 a6 a7).bind fun r1 =>
 bif r1 then
  bif ((a8.length : Int) == a0) then
   (impl_copyRows.f k a8).bind fun r2 =>
   chk (decide ((r2.length + 2) * 24 ≤ room)) <|
   (impl_isWhole.f k (r2 ++ [a9, a10])).bind fun r3 =>
   bif r3 then
    bif decide ((a10.length : Int) > 0) then
     (impl_InRange.f k a11 0 (IntKind.wrap .i64 ((a8.length : Int) - 1))).bind fun r4 =>
     bif r4 then
      (impl_InRange.f k a12 0 a7).bind fun r5 =>
      bif r5 then
       (impl_InRange.f k a13 0 a12).bind fun r6 =>
       some r6
      else
       some false
     else
      some false
    else
     some false
   else
    some false
  else
   some false
 else
  some false

def impl_Winner.s4 {R : Type} (k : Nat) (v0 : LL) (v1 : Int) (e0 : Int → Option R) (e1 : Option R) (rec : Int → Option R) (v2 : Int) : Option R :=
 bif decide (v2 < v1) then
  chk ((decide (0 ≤ v2)) && (decide (v2 < (v0.length : Int)))) <|
  bif (((v0.getD v2.toNat []).length : Int) == 0) then
   e0 v2
  else
   rec (IntKind.wrap .i64 (v2 + 1))
 else
  e1
def impl_Winner.l4 {R : Type} (k : Nat) (v0 : LL) (v1 : Int) (e0 : Int → Option R) (e1 : Option R) (n : Nat) (v2 : Int) : Option R :=
 V.iter (A := Int) (fun rec a => impl_Winner.s4 k v0 v1 e0 e1 (fun c0 => rec c0) a) n v2
theorem impl_Winner.l4_succ {R : Type} (k : Nat) (v0 : LL) (v1 : Int) (e0 : Int → Option R) (e1 : Option R) (n : Nat) (v2 : Int) : impl_Winner.l4 (R := R) k v0 v1 e0 e1 (n + 1) v2 = impl_Winner.s4 k v0 v1 e0 e1 (impl_Winner.l4 k v0 v1 e0 e1 n) v2 := rfl
def impl_Winner.f (k : Nat) (a0 a1 : Int) (a2 a3 : Bool) (a4 a5 : LI) (a6 a7 : Int) (a8 : LL) (a9 a10 : LI) (a11 a12 a13 : Int) : Option (Int) :=
 (impl_IsGame.f k a0 a1 a2 a3 a4 a5 a6 a7 a8 a9 a10 a11 a12 a13).bind fun r1 =>
 bif (!r1) then
  some (-1)
 else
  impl_Winner.l4 k a8 (a8.length : Int) (fun x2 =>
   some x2) (some (-1)) k 0

def impl_IsEnded.f (k : Nat) (a0 a1 : Int) (a2 a3 : Bool) (a4 a5 : LI) (a6 a7 : Int) (a8 : LL) (a9 a10 : LI) (a11 a12 a13 : Int) : Option (Bool) :=
 (impl_IsGame.f k a0 a1 a2 a3 a4 a5 a6 a7 a8 a9 a10 a11 a12 a13).bind fun r1 =>
 bif r1 then
  (impl_Winner.f k a0 a1 a2 a3 a4 a5 a6 a7 a8 a9 a10 a11 a12 a13).bind fun r2 =>
  bif decide (r2 ≥ 0) then
   some true
  else
   bif (a12 == a7) then
    some true
   else
    some (decide (a13 ≥ a0))
 else
  some false

def impl_TakeCards.s6 {R : Type} (k : Nat) (v1 v14 : Int) (e0 : Int → LL → LI → LI → Option R) (rec : Int → Int → LL → LI → LI → Option R) (v0 v2 : Int) (v37 : LL) (v38 v39 : LI) : Option R :=
 bif decide (v2 < v1) then
  bif ((v38.length : Int) == 0) then
   chk ((decide (0 ≤ (IntKind.wrap .i64 ((v39.length : Int) - 1)))) && (decide ((IntKind.wrap .i64 ((v39.length : Int) - 1)) ≤ (v39.length : Int)))) <|
   chk (decide (0 ≤ (IntKind.wrap .i64 ((v39.length : Int) - 1)))) <|
   (impl_copyOf.f k ((v39.take ((IntKind.wrap .i64 ((v39.length : Int) - 1)).toNat)).drop 0)).bind fun r4 =>
   chk ((decide (0 ≤ (v39.length : Int))) && (decide ((v39.length : Int) ≤ (v39.length : Int)))) <|
   chk ((decide (0 ≤ (IntKind.wrap .i64 ((v39.length : Int) - 1)))) && (decide ((IntKind.wrap .i64 ((v39.length : Int) - 1)) ≤ (v39.length : Int)))) <|
   (impl_copyOf.f k ((v39.take ((v39.length : Int).toNat)).drop ((IntKind.wrap .i64 ((v39.length : Int) - 1)).toNat))).bind fun r5 =>
   bif ((r4.length : Int) == 0) then
    e0 v0 v37 r4 r5
   else
    chk ((decide (0 ≤ v14)) && (decide (v14 < (v37.length : Int)))) <|
    chk (decide (0 < (r4.length : Int))) <|
    chk (decide ((((v37.getD v14.toNat []).length) + 1) * 8 ≤ room)) <|
    chk ((decide (0 ≤ v14)) && (decide (v14 < (v37.length : Int)))) <|
    chk (v14.toNat == v14.toNat) <|
    chk ((decide (0 ≤ (r4.length : Int))) && (decide ((r4.length : Int) ≤ (r4.length : Int)))) <|
    chk (decide (1 ≤ (r4.length : Int))) <|
    (impl_copyOf.f k ((r4.take ((r4.length : Int).toNat)).drop 1)).bind fun r6 =>
    rec (IntKind.wrap .i64 (v0 + 1)) (IntKind.wrap .i64 (v2 + 1)) (v37.set v14.toNat ((v37.getD v14.toNat []) ++ [r4.getD 0 0])) r6 r5
  else
   bif ((v38.length : Int) == 0) then
    e0 v0 v37 v38 v39
   else
    chk ((decide (0 ≤ v14)) && (decide (v14 < (v37.length : Int)))) <|
    chk (decide (0 < (v38.length : Int))) <|
    chk (decide ((((v37.getD v14.toNat []).length) + 1) * 8 ≤ room)) <|
    chk ((decide (0 ≤ v14)) && (decide (v14 < (v37.length : Int)))) <|
    chk (v14.toNat == v14.toNat) <|
    chk ((decide (0 ≤ (v38.length : Int))) && (decide ((v38.length : Int) ≤ (v38.length : Int)))) <|
    chk (decide (1 ≤ (v38.length : Int))) <|
    (impl_copyOf.f k ((v38.take ((v38.length : Int).toNat)).drop 1)).bind fun r7 =>
    rec (IntKind.wrap .i64 (v0 + 1)) (IntKind.wrap .i64 (v2 + 1)) (v37.set v14.toNat ((v37.getD v14.toNat []) ++ [v38.getD 0 0])) r7 v39
 else
  e0 v0 v37 v38 v39
def impl_TakeCards.l6 {R : Type} (k : Nat) (v1 v14 : Int) (e0 : Int → LL → LI → LI → Option R) (n : Nat) (v0 v2 : Int) (v37 : LL) (v38 v39 : LI) : Option R :=
 V.iter (A := Int × Int × LL × LI × LI) (fun rec a => impl_TakeCards.s6 k v1 v14 e0 (fun c0 c1 c2 c3 c4 => rec (c0, c1, c2, c3, c4)) a.1 a.2.1 (t2 a).1 (t3 a).1 (t4 a)) n (v0, v2, v37, v38, v39)
theorem impl_TakeCards.l6_succ {R : Type} (k : Nat) (v1 v14 : Int) (e0 : Int → LL → LI → LI → Option R) (n : Nat) (v0 v2 : Int) (v37 : LL) (v38 v39 : LI) : impl_TakeCards.l6 (R := R) k v1 v14 e0 (n + 1) v0 v2 v37 v38 v39 = impl_TakeCards.s6 k v1 v14 e0 (impl_TakeCards.l6 k v1 v14 e0 n) v0 v2 v37 v38 v39 := rfl
def impl_TakeCards.f (k : Nat) (a0 a1 : Int) (a2 a3 : Bool) (a4 a5 : LI) (a6 a7 : Int) (a8 : LL) (a9 a10 : LI) (a11 a12 a13 : Int) : Option (Int × Int × Bool × Bool × LI × LI × Int × Int × LL × LI × LI × Int × Int × Int × Bool) :=
 (impl_Game_copied.f k a0 a1 a2 a3 a4 a5 a6 a7 a8 a9 a10 a11 a12 a13).bind fun r1 =>
 (impl_IsGame.f k a0 a1 a2 a3 a4 a5 a6 a7 a8 a9 a10 a11 a12 a13).bind fun r2 =>
 bif (!r2) then
  some (r1.1, r1.2.1, (t2 r1).1, (t3 r1).1, (t4 r1).1, (t5 r1).1, (t6 r1).1, (t7 r1).1, (t8 r1).1, (t9 r1).1, (t9 r1.2).1, (t9 (t2 r1)).1, (t9 (t3 r1)).1, (t9 (t4 r1)), false)
 else
  (impl_IsEnded.f k a0 a1 a2 a3 a4 a5 a6 a7 a8 a9 a10 a11 a12 a13).bind fun r3 =>
  bif r3 then
   some (r1.1, r1.2.1, (t2 r1).1, (t3 r1).1, (t4 r1).1, (t5 r1).1, (t6 r1).1, (t7 r1).1, (t8 r1).1, (t9 r1).1, (t9 r1.2).1, (t9 (t2 r1)).1, (t9 (t3 r1)).1, (t9 (t4 r1)), false)
  else
   impl_TakeCards.l6 k a6 a11 (fun x8 x9 x10 x11 =>
    bif decide (x8 > 0) then
     chk (!(decide ((a8.length : Int) = 0))) <|
     some (r1.1, r1.2.1, (t2 r1).1, (t3 r1).1, (t4 r1).1, (t5 r1).1, (t6 r1).1, (t7 r1).1, x9, x10, x11, (IntKind.wrap .i64 (a11 + 1)).tmod (a8.length : Int), IntKind.wrap .i64 ((t9 (t3 r1)).1 + 1), 0, true)
    else
     chk (!(decide ((a8.length : Int) = 0))) <|
     some (r1.1, r1.2.1, (t2 r1).1, (t3 r1).1, (t4 r1).1, (t5 r1).1, (t6 r1).1, (t7 r1).1, x9, x10, x11, (IntKind.wrap .i64 (a11 + 1)).tmod (a8.length : Int), IntKind.wrap .i64 ((t9 (t3 r1)).1 + 1), IntKind.wrap .i64 ((t9 (t4 r1)) + 1), true)) k 0 0 (t8 r1).1 (t9 r1).1 (t9 r1.2).1

def impl_SuitOf.f (k : Nat) (a : Int) : Option (Int) :=
 (impl_IsCard.f k a).bind fun r1 =>
 bif (!r1) then
  some (-1)
 else
  some (IntKind.wrap .i64 (a.tdiv 13))

def impl_RankOf.f (k : Nat) (a : Int) : Option (Int) :=
 (impl_IsCard.f k a).bind fun r1 =>
 bif (!r1) then
  some (-1)
 else
  some (a.tmod 13)

def impl_IsRed.f (k : Nat) (a : Int) : Option (Bool) :=
 (impl_SuitOf.f k a).bind fun r1 =>
 bif (r1 == 1) then
  some true
 else
  (impl_SuitOf.f k a).bind fun r2 =>
  some (r2 == 2)

def impl_asks.f (k : Nat) (a g : Int) : Option (Bool) :=
 bif (a == 400) then
  (impl_IsRed.f k g).bind fun r1 =>
  some r1
 else
  bif decide (a ≥ 300) then
   (impl_RankOf.f k g).bind fun r2 =>
   some (decide (r2 ≥ (IntKind.wrap .i64 (a - 300))))
  else
   bif decide (a ≥ 200) then
    (impl_RankOf.f k g).bind fun r3 =>
    some (r3 == (IntKind.wrap .i64 (a - 200)))
   else
    (impl_SuitOf.f k g).bind fun r4 =>
    some (r4 == (IntKind.wrap .i64 (a - 100)))

def impl_Matches.s5 {R : Type} (k : Nat) (v0 : Int) (v1 : LI) (v2 : Int) (e0 : List Bool → Option R) (rec : Int → List Bool → Option R) (v3 : Int) (v4 : List Bool) : Option R :=
 bif decide (v3 < v2) then
  chk ((decide (0 ≤ v3)) && (decide (v3 < (v1.length : Int)))) <|
  bif ((v1.getD v3.toNat 0) == (-1)) then
   chk ((decide (0 ≤ (IntKind.wrap .i64 ((v4.length : Int) - 1)))) && (decide ((IntKind.wrap .i64 ((v4.length : Int) - 1)) < (v4.length : Int)))) <|
   chk ((decide (0 ≤ (IntKind.wrap .i64 ((v4.length : Int) - 1)))) && (decide ((IntKind.wrap .i64 ((v4.length : Int) - 1)) < (v4.length : Int)))) <|
   rec (IntKind.wrap .i64 (v3 + 1)) (v4.set ((IntKind.wrap .i64 ((v4.length : Int) - 1)).toNat) (!(v4.getD ((IntKind.wrap .i64 ((v4.length : Int) - 1)).toNat) false)))
  else
   bif ((v1.getD v3.toNat 0) == (-2)) then
    chk ((decide (0 ≤ (IntKind.wrap .i64 ((v4.length : Int) - 2)))) && (decide ((IntKind.wrap .i64 ((v4.length : Int) - 2)) ≤ (v4.length : Int)))) <|
    chk (decide (0 ≤ (IntKind.wrap .i64 ((v4.length : Int) - 2)))) <|
    chk ((decide (0 ≤ (IntKind.wrap .i64 ((v4.length : Int) - 2)))) && (decide ((IntKind.wrap .i64 ((v4.length : Int) - 2)) < (v4.length : Int)))) <|
    bif (v4.getD ((IntKind.wrap .i64 ((v4.length : Int) - 2)).toNat) false) then
     chk ((decide (0 ≤ (IntKind.wrap .i64 ((v4.length : Int) - 1)))) && (decide ((IntKind.wrap .i64 ((v4.length : Int) - 1)) < (v4.length : Int)))) <|
     chk (decide ((((v4.take ((IntKind.wrap .i64 ((v4.length : Int) - 2)).toNat)).length) + 1) * 1 ≤ room)) <|
     rec (IntKind.wrap .i64 (v3 + 1)) ((v4.take ((IntKind.wrap .i64 ((v4.length : Int) - 2)).toNat)) ++ [v4.getD ((IntKind.wrap .i64 ((v4.length : Int) - 1)).toNat) false])
    else
     chk (decide ((((v4.take ((IntKind.wrap .i64 ((v4.length : Int) - 2)).toNat)).length) + 1) * 1 ≤ room)) <|
     rec (IntKind.wrap .i64 (v3 + 1)) ((v4.take ((IntKind.wrap .i64 ((v4.length : Int) - 2)).toNat)) ++ [false])
   else
    bif ((v1.getD v3.toNat 0) == (-3)) then
     chk ((decide (0 ≤ (IntKind.wrap .i64 ((v4.length : Int) - 2)))) && (decide ((IntKind.wrap .i64 ((v4.length : Int) - 2)) ≤ (v4.length : Int)))) <|
     chk (decide (0 ≤ (IntKind.wrap .i64 ((v4.length : Int) - 2)))) <|
     chk ((decide (0 ≤ (IntKind.wrap .i64 ((v4.length : Int) - 2)))) && (decide ((IntKind.wrap .i64 ((v4.length : Int) - 2)) < (v4.length : Int)))) <|
     bif (v4.getD ((IntKind.wrap .i64 ((v4.length : Int) - 2)).toNat) false) then
      chk (decide ((((v4.take ((IntKind.wrap .i64 ((v4.length : Int) - 2)).toNat)).length) + 1) * 1 ≤ room)) <|
      rec (IntKind.wrap .i64 (v3 + 1)) ((v4.take ((IntKind.wrap .i64 ((v4.length : Int) - 2)).toNat)) ++ [true])
     else
      chk ((decide (0 ≤ (IntKind.wrap .i64 ((v4.length : Int) - 1)))) && (decide ((IntKind.wrap .i64 ((v4.length : Int) - 1)) < (v4.length : Int)))) <|
      chk (decide ((((v4.take ((IntKind.wrap .i64 ((v4.length : Int) - 2)).toNat)).length) + 1) * 1 ≤ room)) <|
      rec (IntKind.wrap .i64 (v3 + 1)) ((v4.take ((IntKind.wrap .i64 ((v4.length : Int) - 2)).toNat)) ++ [v4.getD ((IntKind.wrap .i64 ((v4.length : Int) - 1)).toNat) false])
    else
     (impl_asks.f k (v1.getD v3.toNat 0) v0).bind fun r3 =>
     chk (decide ((v4.length + 1) * 1 ≤ room)) <|
     rec (IntKind.wrap .i64 (v3 + 1)) (v4 ++ [r3])
 else
  e0 v4
def impl_Matches.l5 {R : Type} (k : Nat) (v0 : Int) (v1 : LI) (v2 : Int) (e0 : List Bool → Option R) (n : Nat) (v3 : Int) (v4 : List Bool) : Option R :=
 V.iter (A := Int × List Bool) (fun rec a => impl_Matches.s5 k v0 v1 v2 e0 (fun c0 c1 => rec (c0, c1)) a.1 a.2) n (v3, v4)
theorem impl_Matches.l5_succ {R : Type} (k : Nat) (v0 : Int) (v1 : LI) (v2 : Int) (e0 : List Bool → Option R) (n : Nat) (v3 : Int) (v4 : List Bool) : impl_Matches.l5 (R := R) k v0 v1 v2 e0 (n + 1) v3 v4 = impl_Matches.s5 k v0 v1 v2 e0 (impl_Matches.l5 k v0 v1 v2 e0 n) v3 v4 := rfl
def impl_Matches.f (k : Nat) (a : LI) (g : Int) : Option (Bool) :=
 (impl_IsPattern.f k a).bind fun r1 =>
 bif (!r1) then
  some false
 else
  (impl_IsCard.f k g).bind fun r2 =>
  bif (!r2) then
   some false
  else
   impl_Matches.l5 k g a (a.length : Int) (fun x4 =>
    chk (decide (0 < (x4.length : Int))) <|
    some (x4.getD 0 false)) k 0 []

def impl_FitsOn.f (k : Nat) (a0 a1 : Int) (a2 a3 : Bool) (a4 a5 : LI) (a6 a7 g i : Int) : Option (Bool) :=
 (impl_IsRules.f k a0 a1 a2 a3 a4 a5 a6 a7).bind fun r1 =>
 bif (!r1) then
  some false
 else
  (impl_IsCard.f k g).bind fun r2 =>
  bif (!r2) then
   some false
  else
   (impl_IsCard.f k i).bind fun r3 =>
   bif (!r3) then
    some false
   else
    bif a2 then
     (impl_SuitOf.f k i).bind fun r4 =>
     (impl_SuitOf.f k g).bind fun r5 =>
     bif (r4 == r5) then
      some true
     else
      bif a3 then
       (impl_RankOf.f k i).bind fun r6 =>
       (impl_RankOf.f k g).bind fun r7 =>
       bif (r6 == r7) then
        some true
       else
        (impl_Matches.f k a4 i).bind fun r8 =>
        some r8
      else
       (impl_Matches.f k a4 i).bind fun r9 =>
       some r9
    else
     bif a3 then
      (impl_RankOf.f k i).bind fun r10 =>
      (impl_RankOf.f k g).bind fun r11 =>
      bif (r10 == r11) then
       some true
      else
       (impl_Matches.f k a4 i).bind fun r12 =>
       some r12
     else
      (impl_Matches.f k a4 i).bind fun r13 =>
      some r13

def impl_Sorted.s6 {R : Type} (k : Nat) (v0 : Int) (v5 : LI) (e0 rec : Int → Option R) (v1 : Int) : Option R :=
 bif decide (v1 > 0) then
  chk ((decide (0 ≤ (IntKind.wrap .i64 (v1 - 1)))) && (decide ((IntKind.wrap .i64 (v1 - 1)) < (v5.length : Int)))) <|
  bif decide ((v5.getD ((IntKind.wrap .i64 (v1 - 1)).toNat) 0) > v0) then
   rec (IntKind.wrap .i64 (v1 - 1))
  else
   e0 v1
 else
  e0 v1
def impl_Sorted.l6 {R : Type} (k : Nat) (v0 : Int) (v5 : LI) (e0 : Int → Option R) (n : Nat) (v1 : Int) : Option R :=
 V.iter (A := Int) (fun rec a => impl_Sorted.s6 k v0 v5 e0 (fun c0 => rec c0) a) n v1
theorem impl_Sorted.l6_succ {R : Type} (k : Nat) (v0 : Int) (v5 : LI) (e0 : Int → Option R) (n : Nat) (v1 : Int) : impl_Sorted.l6 (R := R) k v0 v5 e0 (n + 1) v1 = impl_Sorted.s6 k v0 v5 e0 (impl_Sorted.l6 k v0 v5 e0 n) v1 := rfl
def impl_Sorted.s3 {R : Type} (k : Nat) (v0 : LI) (v1 : Int) (e0 : LI → Option R) (rec : Int → LI → Option R) (v2 : Int) (v3 : LI) : Option R :=
 bif decide (v2 < v1) then
  chk ((decide (0 ≤ v2)) && (decide (v2 < (v0.length : Int)))) <|
  impl_Sorted.l6 k (v0.getD v2.toNat 0) v3 (fun x1 =>
   chk (decide ((v3.length + 1) * 8 ≤ room)) <|
   chk ((decide (0 ≤ ((v3 ++ [0]).length : Int))) && (decide (((v3 ++ [0]).length : Int) ≤ ((v3 ++ [0]).length : Int)))) <|
   chk ((decide (0 ≤ (IntKind.wrap .i64 (x1 + 1)))) && (decide ((IntKind.wrap .i64 (x1 + 1)) ≤ ((v3 ++ [0]).length : Int)))) <|
   chk ((decide (0 ≤ ((v3 ++ [0]).length : Int))) && (decide (((v3 ++ [0]).length : Int) ≤ ((v3 ++ [0]).length : Int)))) <|
   chk ((decide (0 ≤ x1)) && (decide (x1 ≤ ((v3 ++ [0]).length : Int)))) <|
   chk ((decide (0 ≤ x1)) && (decide (x1 < ((((v3 ++ [0]).take ((IntKind.wrap .i64 (x1 + 1)).toNat)) ++ (((((v3 ++ [0]).take (((v3 ++ [0]).length : Int).toNat)).drop x1.toNat).take ((((v3 ++ [0]).length : Int).toNat) - ((IntKind.wrap .i64 (x1 + 1)).toNat))) ++ ((v3 ++ [0]).drop (((IntKind.wrap .i64 (x1 + 1)).toNat) + (min ((((v3 ++ [0]).length : Int).toNat) - x1.toNat) ((((v3 ++ [0]).length : Int).toNat) - ((IntKind.wrap .i64 (x1 + 1)).toNat))))))).length : Int)))) <|
   rec (IntKind.wrap .i64 (v2 + 1)) ((((v3 ++ [0]).take ((IntKind.wrap .i64 (x1 + 1)).toNat)) ++ (((((v3 ++ [0]).take (((v3 ++ [0]).length : Int).toNat)).drop x1.toNat).take ((((v3 ++ [0]).length : Int).toNat) - ((IntKind.wrap .i64 (x1 + 1)).toNat))) ++ ((v3 ++ [0]).drop (((IntKind.wrap .i64 (x1 + 1)).toNat) + (min ((((v3 ++ [0]).length : Int).toNat) - x1.toNat) ((((v3 ++ [0]).length : Int).toNat) - ((IntKind.wrap .i64 (x1 + 1)).toNat))))))).set x1.toNat (v0.getD v2.toNat 0))) k (v3.length : Int)
 else
  e0 v3
def impl_Sorted.l3 {R : Type} (k : Nat) (v0 : LI) (v1 : Int) (e0 : LI → Option R) (n : Nat) (v2 : Int) (v3 : LI) : Option R :=
 V.iter (A := Int × LI) (fun rec a => impl_Sorted.s3 k v0 v1 e0 (fun c0 c1 => rec (c0, c1)) a.1 a.2) n (v2, v3)
theorem impl_Sorted.l3_succ {R : Type} (k : Nat) (v0 : LI) (v1 : Int) (e0 : LI → Option R) (n : Nat) (v2 : Int) (v3 : LI) : impl_Sorted.l3 (R := R) k v0 v1 e0 (n + 1) v2 v3 = impl_Sorted.s3 k v0 v1 e0 (impl_Sorted.l3 k v0 v1 e0 n) v2 v3 := rfl
def impl_Sorted.f (k : Nat) (a : LI) : Option (LI) :=
 impl_Sorted.l3 k a (a.length : Int) (fun x2 =>
  some x2) k 0 []

def impl_Playable.s5 {R : Type} (k : Nat) (v0 v2 v3 : Int) (v4 v5 : Bool) (v6 v7 : LI) (v8 v9 : Int) (v12 v17 : LI) (e0 : LI → Option R) (rec : Int → LI → Option R) (v1 : Int) (v16 : LI) : Option R :=
 bif decide (v1 < v0) then
  chk ((decide (0 ≤ v1)) && (decide (v1 < (v17.length : Int)))) <|
  chk ((decide (0 ≤ (IntKind.wrap .i64 ((v12.length : Int) - 1)))) && (decide ((IntKind.wrap .i64 ((v12.length : Int) - 1)) < (v12.length : Int)))) <|
  (impl_FitsOn.f k v2 v3 v4 v5 v6 v7 v8 v9 (v12.getD ((IntKind.wrap .i64 ((v12.length : Int) - 1)).toNat) 0) (v17.getD v1.toNat 0)).bind fun r4 =>
  bif r4 then
   chk (decide ((v16.length + 1) * 8 ≤ room)) <|
   rec (IntKind.wrap .i64 (v1 + 1)) (v16 ++ [v17.getD v1.toNat 0])
  else
   rec (IntKind.wrap .i64 (v1 + 1)) v16
 else
  e0 v16
def impl_Playable.l5 {R : Type} (k : Nat) (v0 v2 v3 : Int) (v4 v5 : Bool) (v6 v7 : LI) (v8 v9 : Int) (v12 v17 : LI) (e0 : LI → Option R) (n : Nat) (v1 : Int) (v16 : LI) : Option R :=
 V.iter (A := Int × LI) (fun rec a => impl_Playable.s5 k v0 v2 v3 v4 v5 v6 v7 v8 v9 v12 v17 e0 (fun c0 c1 => rec (c0, c1)) a.1 a.2) n (v1, v16)
theorem impl_Playable.l5_succ {R : Type} (k : Nat) (v0 v2 v3 : Int) (v4 v5 : Bool) (v6 v7 : LI) (v8 v9 : Int) (v12 v17 : LI) (e0 : LI → Option R) (n : Nat) (v1 : Int) (v16 : LI) : impl_Playable.l5 (R := R) k v0 v2 v3 v4 v5 v6 v7 v8 v9 v12 v17 e0 (n + 1) v1 v16 = impl_Playable.s5 k v0 v2 v3 v4 v5 v6 v7 v8 v9 v12 v17 e0 (impl_Playable.l5 k v0 v2 v3 v4 v5 v6 v7 v8 v9 v12 v17 e0 n) v1 v16 := rfl
def impl_Playable.f (k : Nat) (a0 a1 : Int) (a2 a3 : Bool) (a4 a5 : LI) (a6 a7 : Int) (a8 : LL) (a9 a10 : LI) (a11 a12 a13 : Int) : Option (LI) :=
 (impl_IsGame.f k a0 a1 a2 a3 a4 a5 a6 a7 a8 a9 a10 a11 a12 a13).bind fun r1 =>
 bif (!r1) then
  some ([])
 else
  (impl_IsEnded.f k a0 a1 a2 a3 a4 a5 a6 a7 a8 a9 a10 a11 a12 a13).bind fun r2 =>
  bif r2 then
   some ([])
  else
   chk ((decide (0 ≤ a11)) && (decide (a11 < (a8.length : Int)))) <|
   (impl_Sorted.f k (a8.getD a11.toNat [])).bind fun r3 =>
   impl_Playable.l5 k (r3.length : Int) a0 a1 a2 a3 a4 a5 a6 a7 a10 r3 (fun x5 =>
    some x5) k 0 []

def impl_PlaceOf.s2 {R : Type} (k : Nat) (v0 : Int) (v1 : LI) (v2 : Int) (e0 : Int → Option R) (e1 : Option R) (rec : Int → Option R) (v3 : Int) : Option R :=
 bif decide (v3 < v2) then
  chk ((decide (0 ≤ v3)) && (decide (v3 < (v1.length : Int)))) <|
  bif ((v1.getD v3.toNat 0) == v0) then
   e0 v3
  else
   rec (IntKind.wrap .i64 (v3 + 1))
 else
  e1
def impl_PlaceOf.l2 {R : Type} (k : Nat) (v0 : Int) (v1 : LI) (v2 : Int) (e0 : Int → Option R) (e1 : Option R) (n : Nat) (v3 : Int) : Option R :=
 V.iter (A := Int) (fun rec a => impl_PlaceOf.s2 k v0 v1 v2 e0 e1 (fun c0 => rec c0) a) n v3
theorem impl_PlaceOf.l2_succ {R : Type} (k : Nat) (v0 : Int) (v1 : LI) (v2 : Int) (e0 : Int → Option R) (e1 : Option R) (n : Nat) (v3 : Int) : impl_PlaceOf.l2 (R := R) k v0 v1 v2 e0 e1 (n + 1) v3 = impl_PlaceOf.s2 k v0 v1 v2 e0 e1 (impl_PlaceOf.l2 k v0 v1 v2 e0 e1 n) v3 := rfl
def impl_PlaceOf.f (k : Nat) (a : LI) (g : Int) : Option (Int) :=
 impl_PlaceOf.l2 k g a (a.length : Int) (fun x1 =>
  some x1) (some (-1)) k 0

def impl_HasCard.f (k : Nat) (a : LI) (g : Int) : Option (Bool) :=
 (impl_PlaceOf.f k a g).bind fun r1 =>
 some (decide (r1 ≥ 0))

def impl_Without.s3 {R : Type} (k : Nat) (v0 : Int) (v1 : LI) (v2 : Int) (e0 : LI → Option R) (rec : Int → LI → Option R) (v3 : Int) (v4 : LI) : Option R :=
 bif decide (v3 < v2) then
  chk ((decide (0 ≤ v3)) && (decide (v3 < (v1.length : Int)))) <|
  bif ((v1.getD v3.toNat 0) != v0) then
   chk (decide ((v4.length + 1) * 8 ≤ room)) <|
   rec (IntKind.wrap .i64 (v3 + 1)) (v4 ++ [v1.getD v3.toNat 0])
  else
   rec (IntKind.wrap .i64 (v3 + 1)) v4
 else
  e0 v4
def impl_Without.l3 {R : Type} (k : Nat) (v0 : Int) (v1 : LI) (v2 : Int) (e0 : LI → Option R) (n : Nat) (v3 : Int) (v4 : LI) : Option R :=
 V.iter (A := Int × LI) (fun rec a => impl_Without.s3 k v0 v1 v2 e0 (fun c0 c1 => rec (c0, c1)) a.1 a.2) n (v3, v4)
theorem impl_Without.l3_succ {R : Type} (k : Nat) (v0 : Int) (v1 : LI) (v2 : Int) (e0 : LI → Option R) (n : Nat) (v3 : Int) (v4 : LI) : impl_Without.l3 (R := R) k v0 v1 v2 e0 (n + 1) v3 v4 = impl_Without.s3 k v0 v1 v2 e0 (impl_Without.l3 k v0 v1 v2 e0 n) v3 v4 := rfl
def impl_Without.f (k : Nat) (a : LI) (g : Int) : Option (LI) :=
 impl_Without.l3 k g a (a.length : Int) (fun x1 =>
  some x1) k 0 []

def impl_DoesSkip.f (k : Nat) (a0 a1 : Int) (a2 a3 : Bool) (a4 a5 : LI) (a6 a7 g : Int) : Option (Bool) :=
 (impl_IsRules.f k a0 a1 a2 a3 a4 a5 a6 a7).bind fun r1 =>
 bif r1 then
  (impl_Matches.f k a5 g).bind fun r2 =>
  some r2
 else
  some false

def impl_PlayOn.f (k : Nat) (a0 a1 : Int) (a2 a3 : Bool) (a4 a5 : LI) (a6 a7 : Int) (a8 : LL) (a9 a10 : LI) (a11 a12 a13 g : Int) : Option (Int × Int × Bool × Bool × LI × LI × Int × Int × LL × LI × LI × Int × Int × Int × Bool) :=
 (impl_Game_copied.f k a0 a1 a2 a3 a4 a5 a6 a7 a8 a9 a10 a11 a12 a13).bind fun r1 =>
 (impl_Playable.f k a0 a1 a2 a3 a4 a5 a6 a7 a8 a9 a10 a11 a12 a13).bind fun r2 =>
 (impl_HasCard.f k r2 g).bind fun r3 =>
 bif (!r3) then
  some (r1.1, r1.2.1, (t2 r1).1, (t3 r1).1, (t4 r1).1, (t5 r1).1, (t6 r1).1, (t7 r1).1, (t8 r1).1, (t9 r1).1, (t9 r1.2).1, (t9 (t2 r1)).1, (t9 (t3 r1)).1, (t9 (t4 r1)), false)
 else
  chk ((decide (0 ≤ a11)) && (decide (a11 < ((t8 r1).1.length : Int)))) <|
  (impl_Without.f k ((t8 r1).1.getD a11.toNat []) g).bind fun r4 =>
  chk ((decide (0 ≤ a11)) && (decide (a11 < ((t8 r1).1.length : Int)))) <|
  chk (decide (((t9 r1.2).1.length + 1) * 8 ≤ room)) <|
  (impl_DoesSkip.f k a0 a1 a2 a3 a4 a5 a6 a7 g).bind fun r5 =>
  bif r5 then
   chk (!(decide ((a8.length : Int) = 0))) <|
   some (r1.1, r1.2.1, (t2 r1).1, (t3 r1).1, (t4 r1).1, (t5 r1).1, (t6 r1).1, (t7 r1).1, (t8 r1).1.set a11.toNat r4, (t9 r1).1, (t9 r1.2).1 ++ [g], (IntKind.wrap .i64 (a11 + 2)).tmod (a8.length : Int), IntKind.wrap .i64 ((t9 (t3 r1)).1 + 1), 0, true)
  else
   chk (!(decide ((a8.length : Int) = 0))) <|
   some (r1.1, r1.2.1, (t2 r1).1, (t3 r1).1, (t4 r1).1, (t5 r1).1, (t6 r1).1, (t7 r1).1, (t8 r1).1.set a11.toNat r4, (t9 r1).1, (t9 r1.2).1 ++ [g], (IntKind.wrap .i64 (a11 + 1)).tmod (a8.length : Int), IntKind.wrap .i64 ((t9 (t3 r1)).1 + 1), 0, true)

def impl_ReplayMove.f (k : Nat) (a0 a1 : Int) (a2 a3 : Bool) (a4 a5 : LI) (a6 a7 : Int) (a8 : LL) (a9 a10 : LI) (a11 a12 a13 g : Int) : Option (Int × Int × Bool × Bool × LI × LI × Int × Int × LL × LI × LI × Int × Int × Int × Bool) :=
 bif (g == (-1)) then
  (impl_TakeCards.f k a0 a1 a2 a3 a4 a5 a6 a7 a8 a9 a10 a11 a12 a13).bind fun r1 =>
  some (r1.1, r1.2.1, (t2 r1).1, (t3 r1).1, (t4 r1).1, (t5 r1).1, (t6 r1).1, (t7 r1).1, (t8 r1).1, (t9 r1).1, (t9 r1.2).1, (t9 (t2 r1)).1, (t9 (t3 r1)).1, (t9 (t4 r1)).1, (t9 (t5 r1)))
 else
  (impl_PlayOn.f k a0 a1 a2 a3 a4 a5 a6 a7 a8 a9 a10 a11 a12 a13 g).bind fun r2 =>
  some (r2.1, r2.2.1, (t2 r2).1, (t3 r2).1, (t4 r2).1, (t5 r2).1, (t6 r2).1, (t7 r2).1, (t8 r2).1, (t9 r2).1, (t9 r2.2).1, (t9 (t2 r2)).1, (t9 (t3 r2)).1, (t9 (t4 r2)).1, (t9 (t5 r2)))

def impl_Replayed.s3 {R : Type} (k : Nat) (v1 : LI) (v2 : Int) (e0 : Int → Int → Int → Bool → Bool → Int → Int → Int → Int → Int → LI → LI → LL → LI → LI → Option R) (e1 : Int → Int → Bool → Bool → Int → Int → Int → Int → Int → LI → LI → LL → LI → LI → Option R) (rec : Int → Int → Int → Bool → Bool → Int → Int → Int → Int → Int → LI → LI → LL → LI → LI → Option R) (v3 v13 v14 : Int) (v15 v16 : Bool) (v17 v18 v19 v20 v21 : Int) (v22 v23 : LI) (v24 : LL) (v25 v26 : LI) : Option R :=
 bif decide (v3 < v2) then
  chk ((decide (0 ≤ v3)) && (decide (v3 < (v1.length : Int)))) <|
  (impl_ReplayMove.f k v13 v14 v15 v16 v22 v23 v17 v18 v24 v25 v26 v19 v20 v21 (v1.getD v3.toNat 0)).bind fun r2 =>
  bif (!(t9 (t5 r2))) then
   e0 v3 v13 v14 v15 v16 v17 v18 v19 v20 v21 v22 v23 v24 v25 v26
  else
   rec (IntKind.wrap .i64 (v3 + 1)) r2.1 r2.2.1 (t2 r2).1 (t3 r2).1 (t6 r2).1 (t7 r2).1 (t9 (t2 r2)).1 (t9 (t3 r2)).1 (t9 (t4 r2)).1 (t4 r2).1 (t5 r2).1 (t8 r2).1 (t9 r2).1 (t9 r2.2).1
 else
  e1 v13 v14 v15 v16 v17 v18 v19 v20 v21 v22 v23 v24 v25 v26
def impl_Replayed.l3 {R : Type} (k : Nat) (v1 : LI) (v2 : Int) (e0 : Int → Int → Int → Bool → Bool → Int → Int → Int → Int → Int → LI → LI → LL → LI → LI → Option R) (e1 : Int → Int → Bool → Bool → Int → Int → Int → Int → Int → LI → LI → LL → LI → LI → Option R) (n : Nat) (v3 v13 v14 : Int) (v15 v16 : Bool) (v17 v18 v19 v20 v21 : Int) (v22 v23 : LI) (v24 : LL) (v25 v26 : LI) : Option R :=
 V.iter (A := Int × Int × Int × Bool × Bool × Int × Int × Int × Int × Int × LI × LI × LL × LI × LI) (fun rec a => impl_Replayed.s3 k v1 v2 e0 e1 (fun c0 c1 c2 c3 c4 c5 c6 c7 c8 c9 c10 c11 c12 c13 c14 => rec (c0, c1, c2, c3, c4, c5, c6, c7, c8, c9, c10, c11, c12, c13, c14)) a.1 a.2.1 (t2 a).1 (t3 a).1 (t4 a).1 (t5 a).1 (t6 a).1 (t7 a).1 (t8 a).1 (t9 a).1 (t9 a.2).1 (t9 (t2 a)).1 (t9 (t3 a)).1 (t9 (t4 a)).1 (t9 (t5 a))) n (v3, v13, v14, v15, v16, v17, v18, v19, v20, v21, v22, v23, v24, v25, v26)
theorem impl_Replayed.l3_succ {R : Type} (k : Nat) (v1 : LI) (v2 : Int) (e0 : Int → Int → Int → Bool → Bool → Int → Int → Int → Int → Int → LI → LI → LL → LI → LI → Option R) (e1 : Int → Int → Bool → Bool → Int → Int → Int → Int → Int → LI → LI → LL → LI → LI → Option R) (n : Nat) (v3 v13 v14 : Int) (v15 v16 : Bool) (v17 v18 v19 v20 v21 : Int) (v22 v23 : LI) (v24 : LL) (v25 v26 : LI) : impl_Replayed.l3 (R := R) k v1 v2 e0 e1 (n + 1) v3 v13 v14 v15 v16 v17 v18 v19 v20 v21 v22 v23 v24 v25 v26 = impl_Replayed.s3 k v1 v2 e0 e1 (impl_Replayed.l3 k v1 v2 e0 e1 n) v3 v13 v14 v15 v16 v17 v18 v19 v20 v21 v22 v23 v24 v25 v26 := rfl
def impl_Replayed.f (k : Nat) (a0 a1 : Int) (a2 a3 : Bool) (a4 a5 : LI) (a6 a7 : Int) (a8 : LL) (a9 a10 : LI) (a11 a12 a13 : Int) (g : LI) : Option (Int × Int × Bool × Bool × LI × LI × Int × Int × LL × LI × LI × Int × Int × Int × Int) :=
 (impl_Game_copied.f k a0 a1 a2 a3 a4 a5 a6 a7 a8 a9 a10 a11 a12 a13).bind fun r1 =>
 impl_Replayed.l3 k g (g.length : Int) (fun x3 x4 x5 x6 x7 x8 x9 x10 x11 x12 x13 x14 x15 x16 x17 =>
  some (x4, x5, x6, x7, x13, x14, x8, x9, x15, x16, x17, x10, x11, x12, x3)) (fun x18 x19 x20 x21 x22 x23 x24 x25 x26 x27 x28 x29 x30 x31 =>
  some (x18, x19, x20, x21, x27, x28, x22, x23, x29, x30, x31, x24, x25, x26, (g.length : Int))) k 0 r1.1 r1.2.1 (t2 r1).1 (t3 r1).1 (t6 r1).1 (t7 r1).1 (t9 (t2 r1)).1 (t9 (t3 r1)).1 (t9 (t4 r1)) (t4 r1).1 (t5 r1).1 (t8 r1).1 (t9 r1).1 (t9 r1.2).1

def impl_Dealt.s5 {R : Type} (k : Nat) (v1 : Int) (v3 : LI) (v4 : Int) (e0 : LL → Option R) (rec : Int → LL → Option R) (v5 : Int) (v6 : LL) : Option R :=
 bif decide (v5 < v4) then
  chk ((decide (0 ≤ v5)) && (decide (v5 < (v3.length : Int)))) <|
  chk (!(decide (v1 = 0))) <|
  chk (!(decide (v1 = 0))) <|
  chk ((decide (0 ≤ (v5.tmod v1))) && (decide ((v5.tmod v1) < (v6.length : Int)))) <|
  chk (decide ((((v6.getD ((v5.tmod v1).toNat) []).length) + 1) * 8 ≤ room)) <|
  chk ((decide (0 ≤ (v5.tmod v1))) && (decide ((v5.tmod v1) < (v6.length : Int)))) <|
  chk (((v5.tmod v1).toNat) == ((v5.tmod v1).toNat)) <|
  rec (IntKind.wrap .i64 (v5 + 1)) (v6.set ((v5.tmod v1).toNat) ((v6.getD ((v5.tmod v1).toNat) []) ++ [v3.getD v5.toNat 0]))
 else
  e0 v6
def impl_Dealt.l5 {R : Type} (k : Nat) (v1 : Int) (v3 : LI) (v4 : Int) (e0 : LL → Option R) (n : Nat) (v5 : Int) (v6 : LL) : Option R :=
 V.iter (A := Int × LL) (fun rec a => impl_Dealt.s5 k v1 v3 v4 e0 (fun c0 c1 => rec (c0, c1)) a.1 a.2) n (v5, v6)
theorem impl_Dealt.l5_succ {R : Type} (k : Nat) (v1 : Int) (v3 : LI) (v4 : Int) (e0 : LL → Option R) (n : Nat) (v5 : Int) (v6 : LL) : impl_Dealt.l5 (R := R) k v1 v3 v4 e0 (n + 1) v5 v6 = impl_Dealt.s5 k v1 v3 v4 e0 (impl_Dealt.l5 k v1 v3 v4 e0 n) v5 v6 := rfl
def impl_Dealt.f (k : Nat) (a : LI) (g i : Int) : Option (LL × LI × Bool) :=
 (impl_IsHand.f k a).bind fun r1 =>
 bif (!r1) then
  (impl_copyOf.f k a).bind fun r2 =>
  some ([], r2, false)
 else
  (impl_InRange.f k g 1 6).bind fun r3 =>
  bif (!r3) then
   (impl_copyOf.f k a).bind fun r4 =>
   some ([], r4, false)
  else
   (impl_InRange.f k i 0 20).bind fun r5 =>
   bif (!r5) then
    (impl_copyOf.f k a).bind fun r6 =>
    some ([], r6, false)
   else
    bif decide ((IntKind.wrap .i64 (g * i)) > (a.length : Int)) then
     (impl_copyOf.f k a).bind fun r7 =>
     some ([], r7, false)
    else
     chk ((decide (0 ≤ g)) && (decide (g.toNat * 24 ≤ room))) <|
     chk ((decide (0 ≤ (IntKind.wrap .i64 (g * i)))) && (decide ((IntKind.wrap .i64 (g * i)) ≤ (a.length : Int)))) <|
     impl_Dealt.l5 k g (a.take ((IntKind.wrap .i64 (g * i)).toNat)) ((a.take ((IntKind.wrap .i64 (g * i)).toNat)).length : Int) (fun x8 =>
      chk ((decide (0 ≤ (IntKind.wrap .i64 (g * i)))) && (decide ((IntKind.wrap .i64 (g * i)) ≤ (a.length : Int)))) <|
      (impl_copyOf.f k (a.drop ((IntKind.wrap .i64 (g * i)).toNat))).bind fun r9 =>
      some (x8, r9, true)) k 0 (List.replicate g.toNat [])

def impl_NewGame.f (k : Nat) (a0 a1 : Int) (a2 a3 : Bool) (a4 a5 : LI) (a6 a7 : Int) (g : LI) : Option (Int × Int × Bool × Bool × LI × LI × Int × Int × LL × LI × LI × Int × Int × Int × Bool) :=
 (impl_IsRules.f k a0 a1 a2 a3 a4 a5 a6 a7).bind fun r1 =>
 bif (!r1) then
  some (0, 0, false, false, [], [], 0, 0, [], [], [], 0, 0, 0, false)
 else
  (impl_IsHand.f k g).bind fun r2 =>
  bif (!r2) then
   some (0, 0, false, false, [], [], 0, 0, [], [], [], 0, 0, 0, false)
  else
   bif ((g.length : Int) != 52) then
    some (0, 0, false, false, [], [], 0, 0, [], [], [], 0, 0, 0, false)
   else
    (impl_Dealt.f k g a0 a1).bind fun r3 =>
    (impl_Rules_copied.f k a0 a1 a2 a3 a4 a5 a6 a7).bind fun r4 =>
    chk ((decide (0 ≤ (r3.2.1.length : Int))) && (decide ((r3.2.1.length : Int) ≤ (r3.2.1.length : Int)))) <|
    chk (decide (1 ≤ (r3.2.1.length : Int))) <|
    (impl_copyOf.f k ((r3.2.1.take ((r3.2.1.length : Int).toNat)).drop 1)).bind fun r5 =>
    chk (decide (0 < (r3.2.1.length : Int))) <|
    some (r4.1, r4.2.1, (t2 r4).1, (t3 r4).1, (t4 r4).1, (t5 r4).1, (t6 r4).1, (t7 r4), r3.1, r5, [r3.2.1.getD 0 0], 0, 0, 0, true)

def impl_allIn.s2 {R : Type} (k : Nat) (v0 v1 : Int) (v2 : LI) (v3 : Int) (e0 e1 : Option R) (rec : Int → Option R) (v4 : Int) : Option R :=
 bif decide (v4 < v3) then
  chk ((decide (0 ≤ v4)) && (decide (v4 < (v2.length : Int)))) <|
  (impl_InRange.f k (v2.getD v4.toNat 0) v0 v1).bind fun r1 =>
  bif (!r1) then
   e0
  else
   rec (IntKind.wrap .i64 (v4 + 1))
 else
  e1
def impl_allIn.l2 {R : Type} (k : Nat) (v0 v1 : Int) (v2 : LI) (v3 : Int) (e0 e1 : Option R) (n : Nat) (v4 : Int) : Option R :=
 V.iter (A := Int) (fun rec a => impl_allIn.s2 k v0 v1 v2 v3 e0 e1 (fun c0 => rec c0) a) n v4
theorem impl_allIn.l2_succ {R : Type} (k : Nat) (v0 v1 : Int) (v2 : LI) (v3 : Int) (e0 e1 : Option R) (n : Nat) (v4 : Int) : impl_allIn.l2 (R := R) k v0 v1 v2 v3 e0 e1 (n + 1) v4 = impl_allIn.s2 k v0 v1 v2 v3 e0 e1 (impl_allIn.l2 k v0 v1 v2 v3 e0 e1 n) v4 := rfl
def impl_allIn.f (k : Nat) (a : LI) (g i : Int) : Option (Bool) :=
 impl_allIn.l2 k g i a (a.length : Int) (some false) (some true) k 0

def impl_sum.s3 {R : Type} (k : Nat) (v1 : LI) (v2 : Int) (e0 : Int → Option R) (rec : Int → Int → Option R) (v0 v3 : Int) : Option R :=
 bif decide (v3 < v2) then
  chk ((decide (0 ≤ v3)) && (decide (v3 < (v1.length : Int)))) <|
  rec (IntKind.wrap .i64 (v0 + (v1.getD v3.toNat 0))) (IntKind.wrap .i64 (v3 + 1))
 else
  e0 v0
def impl_sum.l3 {R : Type} (k : Nat) (v1 : LI) (v2 : Int) (e0 : Int → Option R) (n : Nat) (v0 v3 : Int) : Option R :=
 V.iter (A := Int × Int) (fun rec a => impl_sum.s3 k v1 v2 e0 (fun c0 c1 => rec (c0, c1)) a.1 a.2) n (v0, v3)
theorem impl_sum.l3_succ {R : Type} (k : Nat) (v1 : LI) (v2 : Int) (e0 : Int → Option R) (n : Nat) (v0 v3 : Int) : impl_sum.l3 (R := R) k v1 v2 e0 (n + 1) v0 v3 = impl_sum.s3 k v1 v2 e0 (impl_sum.l3 k v1 v2 e0 n) v0 v3 := rfl
def impl_sum.f (k : Nat) (a : LI) : Option (Int) :=
 impl_sum.l3 k a (a.length : Int) (fun x1 =>
  some x1) k 0 0

def impl_IsRound.f (k : Nat) (a : Int) (g : LI) : Option (Bool) :=
 (impl_InRange.f k a 2 6).bind fun r1 =>
 bif r1 then
  bif ((g.length : Int) == a) then
   (impl_allIn.f k g (-1000) 1000).bind fun r2 =>
   bif r2 then
    (impl_sum.f k g).bind fun r3 =>
    some (r3 == 0)
   else
    some false
  else
   some false
 else
  some false

def impl_IsSheet.s2 {R : Type} (k : Nat) (v0 : Int) (v2 : LL) (v3 : Int) (e0 e1 : Option R) (rec : Int → Option R) (v4 : Int) : Option R :=
 bif decide (v4 < v3) then
  chk ((decide (0 ≤ v4)) && (decide (v4 < (v2.length : Int)))) <|
  (impl_IsRound.f k v0 (v2.getD v4.toNat [])).bind fun r1 =>
  bif (!r1) then
   e0
  else
   rec (IntKind.wrap .i64 (v4 + 1))
 else
  e1
def impl_IsSheet.l2 {R : Type} (k : Nat) (v0 : Int) (v2 : LL) (v3 : Int) (e0 e1 : Option R) (n : Nat) (v4 : Int) : Option R :=
 V.iter (A := Int) (fun rec a => impl_IsSheet.s2 k v0 v2 v3 e0 e1 (fun c0 => rec c0) a) n v4
theorem impl_IsSheet.l2_succ {R : Type} (k : Nat) (v0 : Int) (v2 : LL) (v3 : Int) (e0 e1 : Option R) (n : Nat) (v4 : Int) : impl_IsSheet.l2 (R := R) k v0 v2 v3 e0 e1 (n + 1) v4 = impl_IsSheet.s2 k v0 v2 v3 e0 e1 (impl_IsSheet.l2 k v0 v2 v3 e0 e1 n) v4 := rfl
def impl_IsSheet.f (k : Nat) (a : Int) (g : LL) : Option (Bool) :=
 impl_IsSheet.l2 k a g (g.length : Int) (some false) ((impl_InRange.f k a 2 6).bind fun r2 =>
  bif r2 then
   some (decide ((g.length : Int) ≤ 50))
  else
   some false) k 0

def impl_IsTable.f (k : Nat) (a0 a1 : Int) (a2 a3 : Bool) (a4 a5 : LI) (a6 a7 : Int) (a8 : LI) (a9 : Bool) (a10 : LI) (a11 a12 : Int) (a13 a14 : Bool) (a15 a16 : LI) (a17 a18 : Int) (a19 : LL) (a20 a21 : LI) (a22 a23 a24 : Int) (a25 : LI) (a26 : LL) : Option (Bool) :=
 (impl_IsRules.f k a0 a1 a2 a3 a4 a5 a6 a7).bind fun r1 =>
 bif (!r1) then
  some false
 else
  bif decide ((a8.length : Int) > a0) then
   some false
  else
   (impl_IsSheet.f k a0 a26).bind fun r2 =>
   bif (!r2) then
    some false
   else
    bif (!a9) then
     bif ((a10.length : Int) == 0) then
      bif ((a25.length : Int) == 0) then
       (impl_EqualGames.f k a11 a12 a13 a14 a15 a16 a17 a18 a19 a20 a21 a22 a23 a24 0 0 false false [] [] 0 0 [] [] [] 0 0 0).bind fun r3 =>
       some r3
      else
       some false
     else
      some false
    else
     (impl_NewGame.f k a0 a1 a2 a3 a4 a5 a6 a7 a10).bind fun r4 =>
     bif (!(t9 (t5 r4))) then
      some false
     else
      bif ((a8.length : Int) != a0) then
       some false
      else
       (impl_Replayed.f k r4.1 r4.2.1 (t2 r4).1 (t3 r4).1 (t4 r4).1 (t5 r4).1 (t6 r4).1 (t7 r4).1 (t8 r4).1 (t9 r4).1 (t9 r4.2).1 (t9 (t2 r4)).1 (t9 (t3 r4)).1 (t9 (t4 r4)).1 a25).bind fun r5 =>
       bif ((t9 (t5 r5)) == (a25.length : Int)) then
        (impl_EqualGames.f k r5.1 r5.2.1 (t2 r5).1 (t3 r5).1 (t4 r5).1 (t5 r5).1 (t6 r5).1 (t7 r5).1 (t8 r5).1 (t9 r5).1 (t9 r5.2).1 (t9 (t2 r5)).1 (t9 (t3 r5)).1 (t9 (t4 r5)).1 a11 a12 a13 a14 a15 a16 a17 a18 a19 a20 a21 a22 a23 a24).bind fun r6 =>
        some r6
       else
        some false

def spec_l22Copy.f (k : Nat) (a0 a1 : Int) (a2 a3 : Bool) (a4 a5 : LI) (a6 a7 : Int) : Option (Int × Int × Bool × Bool × LI × LI × Int × Int) :=
 chk (decide ((0 + a4.length) * 8 ≤ room)) <|
 chk (decide ((0 + a5.length) * 8 ≤ room)) <|
 some (a0, a1, a2, a3, [] ++ a4, [] ++ a5, a6, a7)

def spec_l15Copy.s3 {R : Type} (k : Nat) (v0 : LL) (e0 : LL → Option R) (rec : Int → LL → Option R) (v1 : Int) (v2 : LL) : Option R :=
 bif decide (v1 < (v0.length : Int)) then
  chk ((decide (0 ≤ v1)) && (decide (v1 < (v0.length : Int)))) <|
  chk (decide ((0 + ((v0.getD v1.toNat []).length)) * 8 ≤ room)) <|
  chk (decide ((v2.length + 1) * 24 ≤ room)) <|
  rec (IntKind.wrap .i64 (v1 + 1)) (v2 ++ ([[] ++ (v0.getD v1.toNat [])]))
 else
  e0 v2
def spec_l15Copy.l3 {R : Type} (k : Nat) (v0 : LL) (e0 : LL → Option R) (n : Nat) (v1 : Int) (v2 : LL) : Option R :=
 V.iter (A := Int × LL) (fun rec a => spec_l15Copy.s3 k v0 e0 (fun c0 c1 => rec (c0, c1)) a.1 a.2) n (v1, v2)
theorem spec_l15Copy.l3_succ {R : Type} (k : Nat) (v0 : LL) (e0 : LL → Option R) (n : Nat) (v1 : Int) (v2 : LL) : spec_l15Copy.l3 (R := R) k v0 e0 (n + 1) v1 v2 = spec_l15Copy.s3 k v0 e0 (spec_l15Copy.l3 k v0 e0 n) v1 v2 := rfl
def spec_l15Copy.f (k : Nat) (a : LL) : Option (LL) :=
 spec_l15Copy.l3 k a (fun x1 =>
  some x1) k 0 []

def spec_l24Copy.f (k : Nat) (a0 a1 : Int) (a2 a3 : Bool) (a4 a5 : LI) (a6 a7 : Int) (a8 : LL) (a9 a10 : LI) (a11 a12 a13 : Int) : Option (Int × Int × Bool × Bool × LI × LI × Int × Int × LL × LI × LI × Int × Int × Int) :=
 (spec_l22Copy.f k a0 a1 a2 a3 a4 a5 a6 a7).bind fun r1 =>
 (spec_l15Copy.f k a8).bind fun r2 =>
 chk (decide ((0 + a9.length) * 8 ≤ room)) <|
 chk (decide ((0 + a10.length) * 8 ≤ room)) <|
 some (r1.1, r1.2.1, (t2 r1).1, (t3 r1).1, (t4 r1).1, (t5 r1).1, (t6 r1).1, (t7 r1), r2, [] ++ a9, [] ++ a10, a11, a12, a13)

def spec_l33Copy.f (k : Nat) (a0 a1 : Int) (a2 a3 : Bool) (a4 a5 : LI) (a6 a7 : Int) (a8 : LI) (a9 : Bool) (a10 : LI) (a11 a12 : Int) (a13 a14 : Bool) (a15 a16 : LI) (a17 a18 : Int) (a19 : LL) (a20 a21 : LI) (a22 a23 a24 : Int) (a25 : LI) (a26 : LL) : Option (Int × Int × Bool × Bool × LI × LI × Int × Int × LI × Bool × LI × Int × Int × Bool × Bool × LI × LI × Int × Int × LL × LI × LI × Int × Int × Int × LI × LL) :=
 (spec_l22Copy.f k a0 a1 a2 a3 a4 a5 a6 a7).bind fun r1 =>
 chk (decide ((0 + a8.length) * 8 ≤ room)) <|
 chk (decide ((0 + a10.length) * 8 ≤ room)) <|
 (spec_l24Copy.f k a11 a12 a13 a14 a15 a16 a17 a18 a19 a20 a21 a22 a23 a24).bind fun r2 =>
 chk (decide ((0 + a25.length) * 8 ≤ room)) <|
 (spec_l15Copy.f k a26).bind fun r3 =>
 some (r1.1, r1.2.1, (t2 r1).1, (t3 r1).1, (t4 r1).1, (t5 r1).1, (t6 r1).1, (t7 r1), [] ++ a8, a9, [] ++ a10, r2.1, r2.2.1, (t2 r2).1, (t3 r2).1, (t4 r2).1, (t5 r2).1, (t6 r2).1, (t7 r2).1, (t8 r2).1, (t9 r2).1, (t9 r2.2).1, (t9 (t2 r2)).1, (t9 (t3 r2)).1, (t9 (t4 r2)), [] ++ a25, r3)

def spec_l1In.f (k : Nat) (a g i : Int) : Option (Bool) :=
 bif decide (a ≥ g) then
  some (decide (a ≤ i))
 else
  some false

def spec_l8Leaf.f (k : Nat) (a : Int) : Option (Bool) :=
 (spec_l1In.f k a 100 103).bind fun r1 =>
 bif r1 then
  some true
 else
  (spec_l1In.f k a 200 212).bind fun r2 =>
  bif r2 then
   some true
  else
   (spec_l1In.f k a 300 312).bind fun r3 =>
   bif r3 then
    some true
   else
    some (a == 400)

def spec_IsPattern.s3 {R : Type} (k : Nat) (v0 : LI) (e0 e1 : Int → Option R) (rec : Int → Int → Option R) (v1 v2 : Int) : Option R :=
 bif decide (v2 < (v0.length : Int)) then
  chk ((decide (0 ≤ v2)) && (decide (v2 < (v0.length : Int)))) <|
  (spec_l8Leaf.f k (v0.getD v2.toNat 0)).bind fun r1 =>
  bif r1 then
   rec (IntKind.wrap .i64 (v1 + 1)) (IntKind.wrap .i64 (v2 + 1))
  else
   chk ((decide (0 ≤ v2)) && (decide (v2 < (v0.length : Int)))) <|
   bif ((v0.getD v2.toNat 0) == (-1)) then
    bif decide (v1 ≥ 1) then
     rec v1 (IntKind.wrap .i64 (v2 + 1))
    else
     chk ((decide (0 ≤ v2)) && (decide (v2 < (v0.length : Int)))) <|
     bif ((v0.getD v2.toNat 0) == (-2)) then
      bif decide (v1 ≥ 2) then
       rec (IntKind.wrap .i64 (v1 - 1)) (IntKind.wrap .i64 (v2 + 1))
      else
       e0 v1
     else
      chk ((decide (0 ≤ v2)) && (decide (v2 < (v0.length : Int)))) <|
      bif ((v0.getD v2.toNat 0) == (-3)) then
       bif decide (v1 ≥ 2) then
        rec (IntKind.wrap .i64 (v1 - 1)) (IntKind.wrap .i64 (v2 + 1))
       else
        e0 v1
      else
       e0 v1
   else
    chk ((decide (0 ≤ v2)) && (decide (v2 < (v0.length : Int)))) <|
    bif ((v0.getD v2.toNat 0) == (-2)) then
     bif decide (v1 ≥ 2) then
      rec (IntKind.wrap .i64 (v1 - 1)) (IntKind.wrap .i64 (v2 + 1))
     else
      e0 v1
    else
     chk ((decide (0 ≤ v2)) && (decide (v2 < (v0.length : Int)))) <|
     bif ((v0.getD v2.toNat 0) == (-3)) then
      bif decide (v1 ≥ 2) then
       rec (IntKind.wrap .i64 (v1 - 1)) (IntKind.wrap .i64 (v2 + 1))
      else
       e0 v1
     else
      e0 v1
 else
  e1 v1
def spec_IsPattern.l3 {R : Type} (k : Nat) (v0 : LI) (e0 e1 : Int → Option R) (n : Nat) (v1 v2 : Int) : Option R :=
 V.iter (A := Int × Int) (fun rec a => spec_IsPattern.s3 k v0 e0 e1 (fun c0 c1 => rec (c0, c1)) a.1 a.2) n (v1, v2)
theorem spec_IsPattern.l3_succ {R : Type} (k : Nat) (v0 : LI) (e0 e1 : Int → Option R) (n : Nat) (v1 v2 : Int) : spec_IsPattern.l3 (R := R) k v0 e0 e1 (n + 1) v1 v2 = spec_IsPattern.s3 k v0 e0 e1 (spec_IsPattern.l3 k v0 e0 e1 n) v1 v2 := rfl
def spec_IsPattern.f (k : Nat) (a : LI) : Option (Bool) :=
 spec_IsPattern.l3 k a (fun x2 =>
  some false) (fun x3 =>
  bif (x3 == 1) then
   some (decide ((a.length : Int) ≤ 20))
  else
   some false) k 0 0

def spec_l22Pattern.f (k : Nat) (a : LI) : Option (Bool) :=
 bif ((a.length : Int) == 0) then
  some true
 else
  (spec_IsPattern.f k a).bind fun r1 =>
  some r1

def spec_IsRules.f (k : Nat) (a0 a1 : Int) (a2 a3 : Bool) (a4 a5 : LI) (a6 a7 : Int) : Option (Bool) :=
 (spec_l1In.f k a0 2 6).bind fun r1 =>
 bif r1 then
  (spec_l1In.f k a1 1 8).bind fun r2 =>
  bif r2 then
   bif a2 then
    (spec_l22Pattern.f k a4).bind fun r3 =>
    bif r3 then
     (spec_l22Pattern.f k a5).bind fun r4 =>
     bif r4 then
      (spec_l1In.f k a6 1 4).bind fun r5 =>
      bif r5 then
       (spec_l1In.f k a7 1 400).bind fun r6 =>
       some r6
      else
       some false
     else
      some false
    else
     some false
   else
    bif a3 then
     (spec_l22Pattern.f k a4).bind fun r7 =>
     bif r7 then
      (spec_l22Pattern.f k a5).bind fun r8 =>
      bif r8 then
       (spec_l1In.f k a6 1 4).bind fun r9 =>
       bif r9 then
        (spec_l1In.f k a7 1 400).bind fun r10 =>
        some r10
       else
        some false
      else
       some false
     else
      some false
    else
     some false
  else
   some false
 else
  some false

def spec_HasCard.s2 {R : Type} (k : Nat) (v0 : LI) (v1 : Int) (e0 e1 : Option R) (rec : Int → Option R) (v2 : Int) : Option R :=
 bif decide (v2 < (v0.length : Int)) then
  chk ((decide (0 ≤ v2)) && (decide (v2 < (v0.length : Int)))) <|
  bif ((v0.getD v2.toNat 0) == v1) then
   e0
  else
   rec (IntKind.wrap .i64 (v2 + 1))
 else
  e1
def spec_HasCard.l2 {R : Type} (k : Nat) (v0 : LI) (v1 : Int) (e0 e1 : Option R) (n : Nat) (v2 : Int) : Option R :=
 V.iter (A := Int) (fun rec a => spec_HasCard.s2 k v0 v1 e0 e1 (fun c0 => rec c0) a) n v2
theorem spec_HasCard.l2_succ {R : Type} (k : Nat) (v0 : LI) (v1 : Int) (e0 e1 : Option R) (n : Nat) (v2 : Int) : spec_HasCard.l2 (R := R) k v0 v1 e0 e1 (n + 1) v2 = spec_HasCard.s2 k v0 v1 e0 e1 (spec_HasCard.l2 k v0 v1 e0 e1 n) v2 := rfl
def spec_HasCard.f (k : Nat) (a : LI) (g : Int) : Option (Bool) :=
 spec_HasCard.l2 k a g (some true) (some false) k 0

def spec_IsCard.f (k : Nat) (a : Int) : Option (Bool) :=
 (spec_l1In.f k a 0 51).bind fun r1 =>
 some r1

def spec_IsHand.s2 {R : Type} (k : Nat) (v0 : LI) (e0 e1 : Option R) (rec : Int → Option R) (v1 : Int) : Option R :=
 bif decide (v1 < (v0.length : Int)) then
  chk ((decide (0 ≤ v1)) && (decide (v1 < (v0.length : Int)))) <|
  (spec_IsCard.f k (v0.getD v1.toNat 0)).bind fun r1 =>
  bif (!r1) then
   e0
  else
   chk ((decide (0 ≤ v1)) && (decide (v1 ≤ (v0.length : Int)))) <|
   chk ((decide (0 ≤ v1)) && (decide (v1 < (v0.length : Int)))) <|
   (spec_HasCard.f k (v0.take v1.toNat) (v0.getD v1.toNat 0)).bind fun r2 =>
   bif r2 then
    e0
   else
    rec (IntKind.wrap .i64 (v1 + 1))
 else
  e1
def spec_IsHand.l2 {R : Type} (k : Nat) (v0 : LI) (e0 e1 : Option R) (n : Nat) (v1 : Int) : Option R :=
 V.iter (A := Int) (fun rec a => spec_IsHand.s2 k v0 e0 e1 (fun c0 => rec c0) a) n v1
theorem spec_IsHand.l2_succ {R : Type} (k : Nat) (v0 : LI) (e0 e1 : Option R) (n : Nat) (v1 : Int) : spec_IsHand.l2 (R := R) k v0 e0 e1 (n + 1) v1 = spec_IsHand.s2 k v0 e0 e1 (spec_IsHand.l2 k v0 e0 e1 n) v1 := rfl
def spec_IsHand.f (k : Nat) (a : LI) : Option (Bool) :=
 spec_IsHand.l2 k a (some false) (some true) k 0

def spec_Dealt.s9 {R : Type} (k : Nat) (v0 : LI) (v1 v2 v3 : Int) (e0 : LI → Option R) (rec : Int → LI → Option R) (v4 : Int) (v6 : LI) : Option R :=
 bif decide (v4 < v2) then
  chk ((decide (0 ≤ (IntKind.wrap .i64 ((IntKind.wrap .i64 (v4 * v1)) + v3)))) && (decide ((IntKind.wrap .i64 ((IntKind.wrap .i64 (v4 * v1)) + v3)) < (v0.length : Int)))) <|
  chk (decide ((v6.length + 1) * 8 ≤ room)) <|
  rec (IntKind.wrap .i64 (v4 + 1)) (v6 ++ [v0.getD ((IntKind.wrap .i64 ((IntKind.wrap .i64 (v4 * v1)) + v3)).toNat) 0])
 else
  e0 v6
def spec_Dealt.l9 {R : Type} (k : Nat) (v0 : LI) (v1 v2 v3 : Int) (e0 : LI → Option R) (n : Nat) (v4 : Int) (v6 : LI) : Option R :=
 V.iter (A := Int × LI) (fun rec a => spec_Dealt.s9 k v0 v1 v2 v3 e0 (fun c0 c1 => rec (c0, c1)) a.1 a.2) n (v4, v6)
theorem spec_Dealt.l9_succ {R : Type} (k : Nat) (v0 : LI) (v1 v2 v3 : Int) (e0 : LI → Option R) (n : Nat) (v4 : Int) (v6 : LI) : spec_Dealt.l9 (R := R) k v0 v1 v2 v3 e0 (n + 1) v4 v6 = spec_Dealt.s9 k v0 v1 v2 v3 e0 (spec_Dealt.l9 k v0 v1 v2 v3 e0 n) v4 v6 := rfl
def spec_Dealt.s5 {R : Type} (k : Nat) (v0 : LI) (v1 v2 : Int) (e0 : LL → Option R) (rec : Int → LL → Option R) (v3 : Int) (v4 : LL) : Option R :=
 bif decide (v3 < v1) then
  spec_Dealt.l9 k v0 v1 v2 v3 (fun x4 =>
   chk (decide ((v4.length + 1) * 24 ≤ room)) <|
   rec (IntKind.wrap .i64 (v3 + 1)) (v4 ++ [x4])) k 0 []
 else
  e0 v4
def spec_Dealt.l5 {R : Type} (k : Nat) (v0 : LI) (v1 v2 : Int) (e0 : LL → Option R) (n : Nat) (v3 : Int) (v4 : LL) : Option R :=
 V.iter (A := Int × LL) (fun rec a => spec_Dealt.s5 k v0 v1 v2 e0 (fun c0 c1 => rec (c0, c1)) a.1 a.2) n (v3, v4)
theorem spec_Dealt.l5_succ {R : Type} (k : Nat) (v0 : LI) (v1 v2 : Int) (e0 : LL → Option R) (n : Nat) (v3 : Int) (v4 : LL) : spec_Dealt.l5 (R := R) k v0 v1 v2 e0 (n + 1) v3 v4 = spec_Dealt.s5 k v0 v1 v2 e0 (spec_Dealt.l5 k v0 v1 v2 e0 n) v3 v4 := rfl
def spec_Dealt.f (k : Nat) (a : LI) (g i : Int) : Option (LL × LI × Bool) :=
 (spec_IsHand.f k a).bind fun r1 =>
 bif (!r1) then
  chk (decide ((0 + a.length) * 8 ≤ room)) <|
  some ([], [] ++ a, false)
 else
  (spec_l1In.f k g 1 6).bind fun r2 =>
  bif (!r2) then
   chk (decide ((0 + a.length) * 8 ≤ room)) <|
   some ([], [] ++ a, false)
  else
   (spec_l1In.f k i 0 20).bind fun r3 =>
   bif (!r3) then
    chk (decide ((0 + a.length) * 8 ≤ room)) <|
    some ([], [] ++ a, false)
   else
    bif decide ((IntKind.wrap .i64 (g * i)) > (a.length : Int)) then
     chk (decide ((0 + a.length) * 8 ≤ room)) <|
     some ([], [] ++ a, false)
    else
     spec_Dealt.l5 k a g i (fun x5 =>
      chk ((decide (0 ≤ (IntKind.wrap .i64 (g * i)))) && (decide ((IntKind.wrap .i64 (g * i)) ≤ (a.length : Int)))) <|
      chk (decide ((0 + ((a.drop ((IntKind.wrap .i64 (g * i)).toNat)).length)) * 8 ≤ room)) <|
      some (x5, [] ++ (a.drop ((IntKind.wrap .i64 (g * i)).toNat)), true)) k 0 []

def spec_NewGame.f (k : Nat) (a0 a1 : Int) (a2 a3 : Bool) (a4 a5 : LI) (a6 a7 : Int) (g : LI) : Option (Int × Int × Bool × Bool × LI × LI × Int × Int × LL × LI × LI × Int × Int × Int × Bool) :=
 (spec_IsRules.f k a0 a1 a2 a3 a4 a5 a6 a7).bind fun r1 =>
 bif (!r1) then
  some (0, 0, false, false, [], [], 0, 0, [], [], [], 0, 0, 0, false)
 else
  (spec_IsHand.f k g).bind fun r2 =>
  bif (!r2) then
   some (0, 0, false, false, [], [], 0, 0, [], [], [], 0, 0, 0, false)
  else
   bif ((g.length : Int) != 52) then
    some (0, 0, false, false, [], [], 0, 0, [], [], [], 0, 0, 0, false)
   else
    (spec_Dealt.f k g a0 a1).bind fun r3 =>
    (spec_l22Copy.f k a0 a1 a2 a3 a4 a5 a6 a7).bind fun r4 =>
    chk (decide (1 ≤ (r3.2.1.length : Int))) <|
    chk (decide ((0 + (((r3.2.1.take 1).drop 0).length)) * 8 ≤ room)) <|
    chk ((decide (0 ≤ (r3.2.1.length : Int))) && (decide ((r3.2.1.length : Int) ≤ (r3.2.1.length : Int)))) <|
    chk (decide (1 ≤ (r3.2.1.length : Int))) <|
    chk (decide ((0 + (((r3.2.1.take ((r3.2.1.length : Int).toNat)).drop 1).length)) * 8 ≤ room)) <|
    some (r4.1, r4.2.1, (t2 r4).1, (t3 r4).1, (t4 r4).1, (t5 r4).1, (t6 r4).1, (t7 r4), r3.1, [] ++ ((r3.2.1.take ((r3.2.1.length : Int).toNat)).drop 1), [] ++ ((r3.2.1.take 1).drop 0), 0, 0, 0, true)

def spec_Mod.f (k : Nat) (a g : Int) : Option (Int) :=
 (spec_l1In.f k g 1 1000000000000).bind fun r1 =>
 bif (!r1) then
  some 0
 else
  chk (!(decide (g = 0))) <|
  chk (!(decide (g = 0))) <|
  some ((IntKind.wrap .i64 ((a.tmod g) + g)).tmod g)

def spec_Hash.s3 {R : Type} (k : Nat) (v0 : LI) (e0 : Int → Option R) (rec : Int → Int → Option R) (v1 v2 : Int) : Option R :=
 bif decide (v2 < (v0.length : Int)) then
  chk ((decide (0 ≤ v2)) && (decide (v2 < (v0.length : Int)))) <|
  (spec_Mod.f k (v0.getD v2.toNat 0) 2147483647).bind fun r1 =>
  rec ((IntKind.wrap .i64 ((IntKind.wrap .i64 ((IntKind.wrap .i64 (v1 * 1000003)) + r1)) + 13)).tmod 2147483647) (IntKind.wrap .i64 (v2 + 1))
 else
  e0 v1
def spec_Hash.l3 {R : Type} (k : Nat) (v0 : LI) (e0 : Int → Option R) (n : Nat) (v1 v2 : Int) : Option R :=
 V.iter (A := Int × Int) (fun rec a => spec_Hash.s3 k v0 e0 (fun c0 c1 => rec (c0, c1)) a.1 a.2) n (v1, v2)
theorem spec_Hash.l3_succ {R : Type} (k : Nat) (v0 : LI) (e0 : Int → Option R) (n : Nat) (v1 v2 : Int) : spec_Hash.l3 (R := R) k v0 e0 (n + 1) v1 v2 = spec_Hash.s3 k v0 e0 (spec_Hash.l3 k v0 e0 n) v1 v2 := rfl
def spec_Hash.f (k : Nat) (a : LI) : Option (Int) :=
 spec_Hash.l3 k a (fun x2 =>
  some x2) k 11 0

def spec_Shuffled.s3 {R : Type} (k : Nat) (v0 : Int) (e0 : LI → Option R) (rec : Int → LI → Option R) (v1 : Int) (v2 : LI) : Option R :=
 bif decide (v1 > 0) then
  (spec_Hash.f k [v0, v1]).bind fun r1 =>
  (spec_Mod.f k r1 (IntKind.wrap .i64 (v1 + 1))).bind fun r2 =>
  chk ((decide (0 ≤ v1)) && (decide (v1 < (v2.length : Int)))) <|
  chk ((decide (0 ≤ r2)) && (decide (r2 < (v2.length : Int)))) <|
  chk ((decide (0 ≤ v1)) && (decide (v1 < (v2.length : Int)))) <|
  chk ((decide (0 ≤ r2)) && (decide (r2 < ((v2.set v1.toNat (v2.getD r2.toNat 0)).length : Int)))) <|
  rec (IntKind.wrap .i64 (v1 - 1)) ((v2.set v1.toNat (v2.getD r2.toNat 0)).set r2.toNat (v2.getD v1.toNat 0))
 else
  e0 v2
def spec_Shuffled.l3 {R : Type} (k : Nat) (v0 : Int) (e0 : LI → Option R) (n : Nat) (v1 : Int) (v2 : LI) : Option R :=
 V.iter (A := Int × LI) (fun rec a => spec_Shuffled.s3 k v0 e0 (fun c0 c1 => rec (c0, c1)) a.1 a.2) n (v1, v2)
theorem spec_Shuffled.l3_succ {R : Type} (k : Nat) (v0 : Int) (e0 : LI → Option R) (n : Nat) (v1 : Int) (v2 : LI) : spec_Shuffled.l3 (R := R) k v0 e0 (n + 1) v1 v2 = spec_Shuffled.s3 k v0 e0 (spec_Shuffled.l3 k v0 e0 n) v1 v2 := rfl
def spec_Shuffled.f (k : Nat) (a : LI) (g : Int) : Option (LI) :=
 chk (decide ((0 + a.length) * 8 ≤ room)) <|
 spec_Shuffled.l3 k g (fun x3 =>
  some x3) k (IntKind.wrap .i64 ((([] ++ a).length : Int) - 1)) ([] ++ a)

def spec_Missing.s3 {R : Type} (k : Nat) (v0 : LI) (e0 : LI → Option R) (rec : Int → LI → Option R) (v1 : Int) (v2 : LI) : Option R :=
 bif decide (v1 < 52) then
  (spec_HasCard.f k v0 v1).bind fun r1 =>
  bif (!r1) then
   chk (decide ((v2.length + 1) * 8 ≤ room)) <|
   rec (IntKind.wrap .i64 (v1 + 1)) (v2 ++ [v1])
  else
   rec (IntKind.wrap .i64 (v1 + 1)) v2
 else
  e0 v2
def spec_Missing.l3 {R : Type} (k : Nat) (v0 : LI) (e0 : LI → Option R) (n : Nat) (v1 : Int) (v2 : LI) : Option R :=
 V.iter (A := Int × LI) (fun rec a => spec_Missing.s3 k v0 e0 (fun c0 c1 => rec (c0, c1)) a.1 a.2) n (v1, v2)
theorem spec_Missing.l3_succ {R : Type} (k : Nat) (v0 : LI) (e0 : LI → Option R) (n : Nat) (v1 : Int) (v2 : LI) : spec_Missing.l3 (R := R) k v0 e0 (n + 1) v1 v2 = spec_Missing.s3 k v0 e0 (spec_Missing.l3 k v0 e0 n) v1 v2 := rfl
def spec_Missing.f (k : Nat) (a : LI) : Option (LI) :=
 spec_Missing.l3 k a (fun x2 =>
  some x2) k 0 []

def spec_FullDeck.f (k : Nat) : Option (LI) :=
 (spec_Missing.f k []).bind fun r1 =>
 some r1

def spec_SeedSeal.f (k : Nat) (a g i : Int) : Option (Int) :=
 (spec_Hash.f k [a, g, i]).bind fun r1 =>
 some r1

def spec_IsOpened.f (k : Nat) (a g i j : Int) : Option (Bool) :=
 (spec_l1In.f k g 0 1000000).bind fun r1 =>
 bif r1 then
  (spec_l1In.f k i 0 1000000).bind fun r2 =>
  bif r2 then
   (spec_SeedSeal.f k a g i).bind fun r3 =>
   some (r3 == j)
  else
   some false
 else
  some false

def spec_AreOpened.s4 {R : Type} (k : Nat) (v0 v1 v2 : LI) (e0 e1 : Option R) (rec : Int → Option R) (v3 : Int) : Option R :=
 bif decide (v3 < (v0.length : Int)) then
  chk ((decide (0 ≤ v3)) && (decide (v3 < (v1.length : Int)))) <|
  chk ((decide (0 ≤ v3)) && (decide (v3 < (v2.length : Int)))) <|
  chk ((decide (0 ≤ v3)) && (decide (v3 < (v0.length : Int)))) <|
  (spec_IsOpened.f k v3 (v1.getD v3.toNat 0) (v2.getD v3.toNat 0) (v0.getD v3.toNat 0)).bind fun r2 =>
  bif (!r2) then
   e0
  else
   rec (IntKind.wrap .i64 (v3 + 1))
 else
  e1
def spec_AreOpened.l4 {R : Type} (k : Nat) (v0 v1 v2 : LI) (e0 e1 : Option R) (n : Nat) (v3 : Int) : Option R :=
 V.iter (A := Int) (fun rec a => spec_AreOpened.s4 k v0 v1 v2 e0 e1 (fun c0 => rec c0) a) n v3
theorem spec_AreOpened.l4_succ {R : Type} (k : Nat) (v0 v1 v2 : LI) (e0 e1 : Option R) (n : Nat) (v3 : Int) : spec_AreOpened.l4 (R := R) k v0 v1 v2 e0 e1 (n + 1) v3 = spec_AreOpened.s4 k v0 v1 v2 e0 e1 (spec_AreOpened.l4 k v0 v1 v2 e0 e1 n) v3 := rfl
def spec_AreOpened.f (k : Nat) (a g i : LI) : Option (Bool) :=
 (spec_l1In.f k (a.length : Int) 1 6).bind fun r1 =>
 bif (!r1) then
  some false
 else
  bif ((g.length : Int) != (a.length : Int)) then
   some false
  else
   bif ((i.length : Int) != (a.length : Int)) then
    some false
   else
    spec_AreOpened.l4 k a g i (some false) (some true) k 0

def spec_JointSeed.s3 {R : Type} (k : Nat) (v0 : LI) (e0 : Int → Option R) (rec : Int → Int → Option R) (v1 v2 : Int) : Option R :=
 bif decide (v2 < (v0.length : Int)) then
  chk ((decide (0 ≤ v2)) && (decide (v2 < (v0.length : Int)))) <|
  (spec_Mod.f k (v0.getD v2.toNat 0) 1000001).bind fun r1 =>
  rec ((IntKind.wrap .i64 (v1 + r1)).tmod 1000001) (IntKind.wrap .i64 (v2 + 1))
 else
  e0 v1
def spec_JointSeed.l3 {R : Type} (k : Nat) (v0 : LI) (e0 : Int → Option R) (n : Nat) (v1 v2 : Int) : Option R :=
 V.iter (A := Int × Int) (fun rec a => spec_JointSeed.s3 k v0 e0 (fun c0 c1 => rec (c0, c1)) a.1 a.2) n (v1, v2)
theorem spec_JointSeed.l3_succ {R : Type} (k : Nat) (v0 : LI) (e0 : Int → Option R) (n : Nat) (v1 v2 : Int) : spec_JointSeed.l3 (R := R) k v0 e0 (n + 1) v1 v2 = spec_JointSeed.s3 k v0 e0 (spec_JointSeed.l3 k v0 e0 n) v1 v2 := rfl
def spec_JointSeed.f (k : Nat) (a : LI) : Option (Int) :=
 spec_JointSeed.l3 k a (fun x2 =>
  some x2) k 0 0

def spec_JointDeck.f (k : Nat) (a g i : LI) : Option (LI × Bool) :=
 (spec_AreOpened.f k a g i).bind fun r1 =>
 bif (!r1) then
  some ([], false)
 else
  (spec_FullDeck.f k).bind fun r2 =>
  (spec_JointSeed.f k g).bind fun r3 =>
  (spec_Shuffled.f k r2 r3).bind fun r4 =>
  some (r4, true)

def spec_IsRound.s3 {R : Type} (k : Nat) (v1 : LI) (e0 e1 : Int → Option R) (rec : Int → Int → Option R) (v2 v3 : Int) : Option R :=
 bif decide (v3 < (v1.length : Int)) then
  chk ((decide (0 ≤ v3)) && (decide (v3 < (v1.length : Int)))) <|
  (spec_l1In.f k (v1.getD v3.toNat 0) (-1000) 1000).bind fun r1 =>
  bif (!r1) then
   e0 v2
  else
   chk ((decide (0 ≤ v3)) && (decide (v3 < (v1.length : Int)))) <|
   rec (IntKind.wrap .i64 (v2 + (v1.getD v3.toNat 0))) (IntKind.wrap .i64 (v3 + 1))
 else
  e1 v2
def spec_IsRound.l3 {R : Type} (k : Nat) (v1 : LI) (e0 e1 : Int → Option R) (n : Nat) (v2 v3 : Int) : Option R :=
 V.iter (A := Int × Int) (fun rec a => spec_IsRound.s3 k v1 e0 e1 (fun c0 c1 => rec (c0, c1)) a.1 a.2) n (v2, v3)
theorem spec_IsRound.l3_succ {R : Type} (k : Nat) (v1 : LI) (e0 e1 : Int → Option R) (n : Nat) (v2 v3 : Int) : spec_IsRound.l3 (R := R) k v1 e0 e1 (n + 1) v2 v3 = spec_IsRound.s3 k v1 e0 e1 (spec_IsRound.l3 k v1 e0 e1 n) v2 v3 := rfl
def spec_IsRound.f (k : Nat) (a : Int) (g : LI) : Option (Bool) :=
 spec_IsRound.l3 k g (fun x2 =>
  some false) (fun x3 =>
  (spec_l1In.f k a 2 6).bind fun r4 =>
  bif r4 then
   bif ((g.length : Int) == a) then
    some (x3 == 0)
   else
    some false
  else
   some false) k 0 0

def spec_IsSheet.s2 {R : Type} (k : Nat) (v0 : Int) (v1 : LL) (e0 e1 : Option R) (rec : Int → Option R) (v2 : Int) : Option R :=
 bif decide (v2 < (v1.length : Int)) then
  chk ((decide (0 ≤ v2)) && (decide (v2 < (v1.length : Int)))) <|
  (spec_IsRound.f k v0 (v1.getD v2.toNat [])).bind fun r1 =>
  bif (!r1) then
   e0
  else
   rec (IntKind.wrap .i64 (v2 + 1))
 else
  e1
def spec_IsSheet.l2 {R : Type} (k : Nat) (v0 : Int) (v1 : LL) (e0 e1 : Option R) (n : Nat) (v2 : Int) : Option R :=
 V.iter (A := Int) (fun rec a => spec_IsSheet.s2 k v0 v1 e0 e1 (fun c0 => rec c0) a) n v2
theorem spec_IsSheet.l2_succ {R : Type} (k : Nat) (v0 : Int) (v1 : LL) (e0 e1 : Option R) (n : Nat) (v2 : Int) : spec_IsSheet.l2 (R := R) k v0 v1 e0 e1 (n + 1) v2 = spec_IsSheet.s2 k v0 v1 e0 e1 (spec_IsSheet.l2 k v0 v1 e0 e1 n) v2 := rfl
def spec_IsSheet.f (k : Nat) (a : Int) (g : LL) : Option (Bool) :=
 spec_IsSheet.l2 k a g (some false) ((spec_l1In.f k a 2 6).bind fun r2 =>
  bif r2 then
   some (decide ((g.length : Int) ≤ 50))
  else
   some false) k 0

def spec_EqualInts.s4 {R : Type} (k : Nat) (v0 v1 : LI) (e0 e1 : Option R) (rec : Int → Option R) (v2 : Int) : Option R :=
 bif decide (v2 < (v0.length : Int)) then
  chk ((decide (0 ≤ v2)) && (decide (v2 < (v0.length : Int)))) <|
  chk ((decide (0 ≤ v2)) && (decide (v2 < (v1.length : Int)))) <|
  bif ((v0.getD v2.toNat 0) != (v1.getD v2.toNat 0)) then
   e0
  else
   rec (IntKind.wrap .i64 (v2 + 1))
 else
  e1
def spec_EqualInts.l4 {R : Type} (k : Nat) (v0 v1 : LI) (e0 e1 : Option R) (n : Nat) (v2 : Int) : Option R :=
 V.iter (A := Int) (fun rec a => spec_EqualInts.s4 k v0 v1 e0 e1 (fun c0 => rec c0) a) n v2
theorem spec_EqualInts.l4_succ {R : Type} (k : Nat) (v0 v1 : LI) (e0 e1 : Option R) (n : Nat) (v2 : Int) : spec_EqualInts.l4 (R := R) k v0 v1 e0 e1 (n + 1) v2 = spec_EqualInts.s4 k v0 v1 e0 e1 (spec_EqualInts.l4 k v0 v1 e0 e1 n) v2 := rfl
def spec_EqualInts.f (k : Nat) (a g : LI) : Option (Bool) :=
 bif ((a.length : Int) != (g.length : Int)) then
  some false
 else
  spec_EqualInts.l4 k a g (some false) (some true) k 0

def spec_EqualRules.f (k : Nat) (a0 a1 : Int) (a2 a3 : Bool) (a4 a5 : LI) (a6 a7 g0 g1 : Int) (g2 g3 : Bool) (g4 g5 : LI) (g6 g7 : Int) : Option (Bool) :=
 bif (a0 == g0) then
  bif (a1 == g1) then
   bif (a2 == g2) then
    bif (a3 == g3) then
     (spec_EqualInts.f k a4 g4).bind fun r1 =>
     bif r1 then
      (spec_EqualInts.f k a5 g5).bind fun r2 =>
      bif r2 then
       bif (a6 == g6) then
        some (a7 == g7)
       else
        some false
      else
       some false
     else
      some false
    else
     some false
   else
    some false
  else
   some false
 else
  some false

def spec_EqualGames.s4 {R : Type} (k : Nat) (v9 v23 : LL) (e0 e1 : Option R) (rec : Int → Option R) (v0 : Int) : Option R :=
 bif decide (v0 < (v9.length : Int)) then
  chk ((decide (0 ≤ v0)) && (decide (v0 < (v9.length : Int)))) <|
  chk ((decide (0 ≤ v0)) && (decide (v0 < (v23.length : Int)))) <|
  (spec_EqualInts.f k (v9.getD v0.toNat []) (v23.getD v0.toNat [])).bind fun r1 =>
  bif (!r1) then
   e0
  else
   rec (IntKind.wrap .i64 (v0 + 1))
 else
  e1
def spec_EqualGames.l4 {R : Type} (k : Nat) (v9 v23 : LL) (e0 e1 : Option R) (n : Nat) (v0 : Int) : Option R :=
 V.iter (A := Int) (fun rec a => spec_EqualGames.s4 k v9 v23 e0 e1 (fun c0 => rec c0) a) n v0
theorem spec_EqualGames.l4_succ {R : Type} (k : Nat) (v9 v23 : LL) (e0 e1 : Option R) (n : Nat) (v0 : Int) : spec_EqualGames.l4 (R := R) k v9 v23 e0 e1 (n + 1) v0 = spec_EqualGames.s4 k v9 v23 e0 e1 (spec_EqualGames.l4 k v9 v23 e0 e1 n) v0 := rfl
def spec_EqualGames.f (k : Nat) (a0 a1 : Int) (a2 a3 : Bool) (a4 a5 : LI) (a6 a7 : Int) (a8 : LL) (a9 a10 : LI) (a11 a12 a13 g0 g1 : Int) (g2 g3 : Bool) (g4 g5 : LI) (g6 g7 : Int) (g8 : LL) (g9 g10 : LI) (g11 g12 g13 : Int) : Option (Bool) :=
 bif ((a8.length : Int) != (g8.length : Int)) then
  some false
 else
  spec_EqualGames.l4 k a8 g8 (some false) ((spec_EqualRules.f k a0 a1 a2 a3 a4 a5 a6 a7 g0 g1 g2 g3 g4 g5 g6 g7).bind fun r2 =>
   bif r2 then
    (spec_EqualInts.f k a9 g9).bind fun r3 =>
    bif r3 then
     (spec_EqualInts.f k a10 g10).bind fun r4 =>
     bif r4 then
      bif (a11 == g11) then
       bif (a12 == g12) then
        some (a13 == g13)
       else
        some false
      else
       some false
     else
      some false
    else
     some false
   else
    some false) k 0

def spec_IsGame.s5 {R : Type} (k : Nat) (v9 : LL) (e0 : LI → Option R) (rec : Int → LI → Option R) (v0 : Int) (v15 : LI) : Option R :=
 bif decide (v0 < (v9.length : Int)) then
  chk ((decide (0 ≤ v0)) && (decide (v0 < (v9.length : Int)))) <|
  chk (decide ((v15.length + ((v9.getD v0.toNat []).length)) * 8 ≤ room)) <|
  rec (IntKind.wrap .i64 (v0 + 1)) (v15 ++ (v9.getD v0.toNat []))
 else
  e0 v15
def spec_IsGame.l5 {R : Type} (k : Nat) (v9 : LL) (e0 : LI → Option R) (n : Nat) (v0 : Int) (v15 : LI) : Option R :=
 V.iter (A := Int × LI) (fun rec a => spec_IsGame.s5 k v9 e0 (fun c0 c1 => rec (c0, c1)) a.1 a.2) n (v0, v15)
theorem spec_IsGame.l5_succ {R : Type} (k : Nat) (v9 : LL) (e0 : LI → Option R) (n : Nat) (v0 : Int) (v15 : LI) : spec_IsGame.l5 (R := R) k v9 e0 (n + 1) v0 v15 = spec_IsGame.s5 k v9 e0 (spec_IsGame.l5 k v9 e0 n) v0 v15 := rfl
def spec_IsGame.f (k : Nat) (a0 a1 : Int) (a2 a3 : Bool) (a4 a5 : LI) (a6 a7 : Int) (a8 : LL) (a9 a10 : LI) (a11 a12 a13 : Int) : Option (Bool) :=
 (spec_IsRules.f k a0 a1 a2 a3 a4 a5 a6 a7).bind fun r1 =>
 bif (!r1) then
  some false
 else
  bif ((a8.length : Int) != a0) then
   some false
  else
   bif ((a10.length : Int) == 0) then
    some false
   else
    (spec_l1In.f k a11 0 (IntKind.wrap .i64 (a0 - 1))).bind fun r2 =>
    bif (!r2) then
     some false
    else
     (spec_l1In.f k a12 0 a7).bind fun r3 =>
     bif (!r3) then
      some false
     else
      (spec_l1In.f k a13 0 a12).bind fun r4 =>
      bif (!r4) then
       some false
      else
       chk (decide ((0 + a9.length) * 8 ≤ room)) <|
       chk (decide (((([] ++ a9).length) + a10.length) * 8 ≤ room)) <|
       spec_IsGame.l5 k a8 (fun x5 =>
        bif ((x5.length : Int) == 52) then
         (spec_IsHand.f k x5).bind fun r6 =>
         some r6
        else
         some false) k 0 (([] ++ a9) ++ a10)

def spec_l24First.s2 {R : Type} (k : Nat) (v9 : LL) (e0 : Int → Option R) (e1 : Option R) (rec : Int → Option R) (v0 : Int) : Option R :=
 bif decide (v0 < (v9.length : Int)) then
  chk ((decide (0 ≤ v0)) && (decide (v0 < (v9.length : Int)))) <|
  bif (((v9.getD v0.toNat []).length : Int) == 0) then
   e0 v0
  else
   rec (IntKind.wrap .i64 (v0 + 1))
 else
  e1
def spec_l24First.l2 {R : Type} (k : Nat) (v9 : LL) (e0 : Int → Option R) (e1 : Option R) (n : Nat) (v0 : Int) : Option R :=
 V.iter (A := Int) (fun rec a => spec_l24First.s2 k v9 e0 e1 (fun c0 => rec c0) a) n v0
theorem spec_l24First.l2_succ {R : Type} (k : Nat) (v9 : LL) (e0 : Int → Option R) (e1 : Option R) (n : Nat) (v0 : Int) : spec_l24First.l2 (R := R) k v9 e0 e1 (n + 1) v0 = spec_l24First.s2 k v9 e0 e1 (spec_l24First.l2 k v9 e0 e1 n) v0 := rfl
def spec_l24First.f (k : Nat) (a0 a1 : Int) (a2 a3 : Bool) (a4 a5 : LI) (a6 a7 : Int) (a8 : LL) (a9 a10 : LI) (a11 a12 a13 : Int) : Option (Int) :=
 spec_l24First.l2 k a8 (fun x1 =>
  some x1) (some (-1)) k 0

def spec_l24Over.f (k : Nat) (a0 a1 : Int) (a2 a3 : Bool) (a4 a5 : LI) (a6 a7 : Int) (a8 : LL) (a9 a10 : LI) (a11 a12 a13 : Int) : Option (Bool) :=
 (spec_l24First.f k a0 a1 a2 a3 a4 a5 a6 a7 a8 a9 a10 a11 a12 a13).bind fun r1 =>
 bif decide (r1 ≥ 0) then
  some true
 else
  bif (a12 == a7) then
   some true
  else
   some (decide (a13 ≥ a0))

def spec_Sorted.s6 {R : Type} (k : Nat) (v0 : LI) (v1 : Int) (v3 : LI) (e0 rec : Int → Option R) (v2 : Int) : Option R :=
 bif decide (v2 > 0) then
  chk ((decide (0 ≤ (IntKind.wrap .i64 (v2 - 1)))) && (decide ((IntKind.wrap .i64 (v2 - 1)) < (v3.length : Int)))) <|
  chk ((decide (0 ≤ v1)) && (decide (v1 < (v0.length : Int)))) <|
  bif decide ((v3.getD ((IntKind.wrap .i64 (v2 - 1)).toNat) 0) > (v0.getD v1.toNat 0)) then
   rec (IntKind.wrap .i64 (v2 - 1))
  else
   e0 v2
 else
  e0 v2
def spec_Sorted.l6 {R : Type} (k : Nat) (v0 : LI) (v1 : Int) (v3 : LI) (e0 : Int → Option R) (n : Nat) (v2 : Int) : Option R :=
 V.iter (A := Int) (fun rec a => spec_Sorted.s6 k v0 v1 v3 e0 (fun c0 => rec c0) a) n v2
theorem spec_Sorted.l6_succ {R : Type} (k : Nat) (v0 : LI) (v1 : Int) (v3 : LI) (e0 : Int → Option R) (n : Nat) (v2 : Int) : spec_Sorted.l6 (R := R) k v0 v1 v3 e0 (n + 1) v2 = spec_Sorted.s6 k v0 v1 v3 e0 (spec_Sorted.l6 k v0 v1 v3 e0 n) v2 := rfl
def spec_Sorted.s3 {R : Type} (k : Nat) (v0 : LI) (e0 : LI → Option R) (rec : Int → LI → Option R) (v1 : Int) (v2 : LI) : Option R :=
 bif decide (v1 < (v0.length : Int)) then
  spec_Sorted.l6 k v0 v1 v2 (fun x1 =>
   chk ((decide (0 ≤ x1)) && (decide (x1 ≤ (v2.length : Int)))) <|
   chk (decide (0 ≤ x1)) <|
   chk (decide ((0 + (((v2.take x1.toNat).drop 0).length)) * 8 ≤ room)) <|
   chk ((decide (0 ≤ v1)) && (decide (v1 < (v0.length : Int)))) <|
   chk (decide (((([] ++ ((v2.take x1.toNat).drop 0)).length) + 1) * 8 ≤ room)) <|
   chk ((decide (0 ≤ (v2.length : Int))) && (decide ((v2.length : Int) ≤ (v2.length : Int)))) <|
   chk ((decide (0 ≤ x1)) && (decide (x1 ≤ (v2.length : Int)))) <|
   chk (decide ((((([] ++ ((v2.take x1.toNat).drop 0)) ++ [v0.getD v1.toNat 0]).length) + (((v2.take ((v2.length : Int).toNat)).drop x1.toNat).length)) * 8 ≤ room)) <|
   rec (IntKind.wrap .i64 (v1 + 1)) ((([] ++ ((v2.take x1.toNat).drop 0)) ++ [v0.getD v1.toNat 0]) ++ ((v2.take ((v2.length : Int).toNat)).drop x1.toNat))) k (v2.length : Int)
 else
  e0 v2
def spec_Sorted.l3 {R : Type} (k : Nat) (v0 : LI) (e0 : LI → Option R) (n : Nat) (v1 : Int) (v2 : LI) : Option R :=
 V.iter (A := Int × LI) (fun rec a => spec_Sorted.s3 k v0 e0 (fun c0 c1 => rec (c0, c1)) a.1 a.2) n (v1, v2)
theorem spec_Sorted.l3_succ {R : Type} (k : Nat) (v0 : LI) (e0 : LI → Option R) (n : Nat) (v1 : Int) (v2 : LI) : spec_Sorted.l3 (R := R) k v0 e0 (n + 1) v1 v2 = spec_Sorted.s3 k v0 e0 (spec_Sorted.l3 k v0 e0 n) v1 v2 := rfl
def spec_Sorted.f (k : Nat) (a : LI) : Option (LI) :=
 spec_Sorted.l3 k a (fun x2 =>
  some x2) k 0 []

def spec_SuitOf.f (k : Nat) (a : Int) : Option (Int) :=
 (spec_IsCard.f k a).bind fun r1 =>
 bif (!r1) then
  some (-1)
 else
  some (IntKind.wrap .i64 (a.tdiv 13))

def spec_RankOf.f (k : Nat) (a : Int) : Option (Int) :=
 (spec_IsCard.f k a).bind fun r1 =>
 bif (!r1) then
  some (-1)
 else
  some (a.tmod 13)

def spec_IsRed.f (k : Nat) (a : Int) : Option (Bool) :=
 (spec_SuitOf.f k a).bind fun r1 =>
 (spec_l1In.f k r1 1 2).bind fun r2 =>
 some r2

def spec_l8Value.f (k : Nat) (a g : Int) : Option (Bool) :=
 bif (a == 400) then
  (spec_IsRed.f k g).bind fun r1 =>
  some r1
 else
  bif decide (a ≥ 300) then
   (spec_RankOf.f k g).bind fun r2 =>
   some (decide (r2 ≥ (IntKind.wrap .i64 (a - 300))))
  else
   bif decide (a ≥ 200) then
    (spec_RankOf.f k g).bind fun r3 =>
    some (r3 == (IntKind.wrap .i64 (a - 200)))
   else
    (spec_SuitOf.f k g).bind fun r4 =>
    some (r4 == (IntKind.wrap .i64 (a - 100)))

def spec_Matches.s5 {R : Type} (k : Nat) (v0 : LI) (v1 : Int) (e0 : List Bool → Option R) (rec : Int → List Bool → Option R) (v2 : Int) (v3 : List Bool) : Option R :=
 bif decide (v2 < (v0.length : Int)) then
  chk ((decide (0 ≤ v2)) && (decide (v2 < (v0.length : Int)))) <|
  bif ((v0.getD v2.toNat 0) == (-1)) then
   chk ((decide (0 ≤ (IntKind.wrap .i64 ((v3.length : Int) - 1)))) && (decide ((IntKind.wrap .i64 ((v3.length : Int) - 1)) < (v3.length : Int)))) <|
   chk ((decide (0 ≤ (IntKind.wrap .i64 ((v3.length : Int) - 1)))) && (decide ((IntKind.wrap .i64 ((v3.length : Int) - 1)) < (v3.length : Int)))) <|
   rec (IntKind.wrap .i64 (v2 + 1)) (v3.set ((IntKind.wrap .i64 ((v3.length : Int) - 1)).toNat) (!(v3.getD ((IntKind.wrap .i64 ((v3.length : Int) - 1)).toNat) false)))
  else
   bif ((v0.getD v2.toNat 0) == (-2)) then
    chk ((decide (0 ≤ (IntKind.wrap .i64 ((v3.length : Int) - 2)))) && (decide ((IntKind.wrap .i64 ((v3.length : Int) - 2)) ≤ (v3.length : Int)))) <|
    chk (decide (0 ≤ (IntKind.wrap .i64 ((v3.length : Int) - 2)))) <|
    chk ((decide (0 ≤ (IntKind.wrap .i64 ((v3.length : Int) - 2)))) && (decide ((IntKind.wrap .i64 ((v3.length : Int) - 2)) < (v3.length : Int)))) <|
    bif (v3.getD ((IntKind.wrap .i64 ((v3.length : Int) - 2)).toNat) false) then
     chk ((decide (0 ≤ (IntKind.wrap .i64 ((v3.length : Int) - 1)))) && (decide ((IntKind.wrap .i64 ((v3.length : Int) - 1)) < (v3.length : Int)))) <|
     chk (decide ((((v3.take ((IntKind.wrap .i64 ((v3.length : Int) - 2)).toNat)).length) + 1) * 1 ≤ room)) <|
     rec (IntKind.wrap .i64 (v2 + 1)) ((v3.take ((IntKind.wrap .i64 ((v3.length : Int) - 2)).toNat)) ++ [v3.getD ((IntKind.wrap .i64 ((v3.length : Int) - 1)).toNat) false])
    else
     chk (decide ((((v3.take ((IntKind.wrap .i64 ((v3.length : Int) - 2)).toNat)).length) + 1) * 1 ≤ room)) <|
     rec (IntKind.wrap .i64 (v2 + 1)) ((v3.take ((IntKind.wrap .i64 ((v3.length : Int) - 2)).toNat)) ++ [false])
   else
    bif ((v0.getD v2.toNat 0) == (-3)) then
     chk ((decide (0 ≤ (IntKind.wrap .i64 ((v3.length : Int) - 2)))) && (decide ((IntKind.wrap .i64 ((v3.length : Int) - 2)) ≤ (v3.length : Int)))) <|
     chk (decide (0 ≤ (IntKind.wrap .i64 ((v3.length : Int) - 2)))) <|
     chk ((decide (0 ≤ (IntKind.wrap .i64 ((v3.length : Int) - 2)))) && (decide ((IntKind.wrap .i64 ((v3.length : Int) - 2)) < (v3.length : Int)))) <|
     bif (v3.getD ((IntKind.wrap .i64 ((v3.length : Int) - 2)).toNat) false) then
      chk (decide ((((v3.take ((IntKind.wrap .i64 ((v3.length : Int) - 2)).toNat)).length) + 1) * 1 ≤ room)) <|
      rec (IntKind.wrap .i64 (v2 + 1)) ((v3.take ((IntKind.wrap .i64 ((v3.length : Int) - 2)).toNat)) ++ [true])
     else
      chk ((decide (0 ≤ (IntKind.wrap .i64 ((v3.length : Int) - 1)))) && (decide ((IntKind.wrap .i64 ((v3.length : Int) - 1)) < (v3.length : Int)))) <|
      chk (decide ((((v3.take ((IntKind.wrap .i64 ((v3.length : Int) - 2)).toNat)).length) + 1) * 1 ≤ room)) <|
      rec (IntKind.wrap .i64 (v2 + 1)) ((v3.take ((IntKind.wrap .i64 ((v3.length : Int) - 2)).toNat)) ++ [v3.getD ((IntKind.wrap .i64 ((v3.length : Int) - 1)).toNat) false])
    else
     chk ((decide (0 ≤ v2)) && (decide (v2 < (v0.length : Int)))) <|
     (spec_l8Value.f k (v0.getD v2.toNat 0) v1).bind fun r3 =>
     chk (decide ((v3.length + 1) * 1 ≤ room)) <|
     rec (IntKind.wrap .i64 (v2 + 1)) (v3 ++ [r3])
 else
  e0 v3
def spec_Matches.l5 {R : Type} (k : Nat) (v0 : LI) (v1 : Int) (e0 : List Bool → Option R) (n : Nat) (v2 : Int) (v3 : List Bool) : Option R :=
 V.iter (A := Int × List Bool) (fun rec a => spec_Matches.s5 k v0 v1 e0 (fun c0 c1 => rec (c0, c1)) a.1 a.2) n (v2, v3)
theorem spec_Matches.l5_succ {R : Type} (k : Nat) (v0 : LI) (v1 : Int) (e0 : List Bool → Option R) (n : Nat) (v2 : Int) (v3 : List Bool) : spec_Matches.l5 (R := R) k v0 v1 e0 (n + 1) v2 v3 = spec_Matches.s5 k v0 v1 e0 (spec_Matches.l5 k v0 v1 e0 n) v2 v3 := rfl
def spec_Matches.f (k : Nat) (a : LI) (g : Int) : Option (Bool) :=
 (spec_IsPattern.f k a).bind fun r1 =>
 bif (!r1) then
  some false
 else
  (spec_IsCard.f k g).bind fun r2 =>
  bif (!r2) then
   some false
  else
   spec_Matches.l5 k a g (fun x4 =>
    chk (decide (0 < (x4.length : Int))) <|
    some (x4.getD 0 false)) k 0 []

def spec_FitsOn.f (k : Nat) (a0 a1 : Int) (a2 a3 : Bool) (a4 a5 : LI) (a6 a7 g i : Int) : Option (Bool) :=
 (spec_IsRules.f k a0 a1 a2 a3 a4 a5 a6 a7).bind fun r1 =>
 bif (!r1) then
  some false
 else
  (spec_IsCard.f k g).bind fun r2 =>
  bif (!r2) then
   some false
  else
   (spec_IsCard.f k i).bind fun r3 =>
   bif (!r3) then
    some false
   else
    bif a2 then
     (spec_SuitOf.f k i).bind fun r4 =>
     (spec_SuitOf.f k g).bind fun r5 =>
     bif (r4 == r5) then
      some true
     else
      bif a3 then
       (spec_RankOf.f k i).bind fun r6 =>
       (spec_RankOf.f k g).bind fun r7 =>
       bif (r6 == r7) then
        some true
       else
        (spec_Matches.f k a4 i).bind fun r8 =>
        some r8
      else
       (spec_Matches.f k a4 i).bind fun r9 =>
       some r9
    else
     bif a3 then
      (spec_RankOf.f k i).bind fun r10 =>
      (spec_RankOf.f k g).bind fun r11 =>
      bif (r10 == r11) then
       some true
      else
       (spec_Matches.f k a4 i).bind fun r12 =>
       some r12
     else
      (spec_Matches.f k a4 i).bind fun r13 =>
      some r13

def spec_Playable.s6 {R : Type} (k : Nat) (v1 v2 : Int) (v3 v4 : Bool) (v5 v6 : LI) (v7 v8 : Int) (v11 v16 : LI) (e0 : LI → Option R) (rec : Int → LI → Option R) (v0 : Int) (v15 : LI) : Option R :=
 bif decide (v0 < (v16.length : Int)) then
  chk ((decide (0 ≤ (IntKind.wrap .i64 ((v11.length : Int) - 1)))) && (decide ((IntKind.wrap .i64 ((v11.length : Int) - 1)) < (v11.length : Int)))) <|
  chk ((decide (0 ≤ v0)) && (decide (v0 < (v16.length : Int)))) <|
  (spec_FitsOn.f k v1 v2 v3 v4 v5 v6 v7 v8 (v11.getD ((IntKind.wrap .i64 ((v11.length : Int) - 1)).toNat) 0) (v16.getD v0.toNat 0)).bind fun r4 =>
  bif r4 then
   chk ((decide (0 ≤ v0)) && (decide (v0 < (v16.length : Int)))) <|
   chk (decide ((v15.length + 1) * 8 ≤ room)) <|
   rec (IntKind.wrap .i64 (v0 + 1)) (v15 ++ [v16.getD v0.toNat 0])
  else
   rec (IntKind.wrap .i64 (v0 + 1)) v15
 else
  e0 v15
def spec_Playable.l6 {R : Type} (k : Nat) (v1 v2 : Int) (v3 v4 : Bool) (v5 v6 : LI) (v7 v8 : Int) (v11 v16 : LI) (e0 : LI → Option R) (n : Nat) (v0 : Int) (v15 : LI) : Option R :=
 V.iter (A := Int × LI) (fun rec a => spec_Playable.s6 k v1 v2 v3 v4 v5 v6 v7 v8 v11 v16 e0 (fun c0 c1 => rec (c0, c1)) a.1 a.2) n (v0, v15)
theorem spec_Playable.l6_succ {R : Type} (k : Nat) (v1 v2 : Int) (v3 v4 : Bool) (v5 v6 : LI) (v7 v8 : Int) (v11 v16 : LI) (e0 : LI → Option R) (n : Nat) (v0 : Int) (v15 : LI) : spec_Playable.l6 (R := R) k v1 v2 v3 v4 v5 v6 v7 v8 v11 v16 e0 (n + 1) v0 v15 = spec_Playable.s6 k v1 v2 v3 v4 v5 v6 v7 v8 v11 v16 e0 (spec_Playable.l6 k v1 v2 v3 v4 v5 v6 v7 v8 v11 v16 e0 n) v0 v15 := rfl
def spec_Playable.f (k : Nat) (a0 a1 : Int) (a2 a3 : Bool) (a4 a5 : LI) (a6 a7 : Int) (a8 : LL) (a9 a10 : LI) (a11 a12 a13 : Int) : Option (LI) :=
 (spec_IsGame.f k a0 a1 a2 a3 a4 a5 a6 a7 a8 a9 a10 a11 a12 a13).bind fun r1 =>
 bif (!r1) then
  some ([])
 else
  (spec_l24Over.f k a0 a1 a2 a3 a4 a5 a6 a7 a8 a9 a10 a11 a12 a13).bind fun r2 =>
  bif r2 then
   some ([])
  else
   chk ((decide (0 ≤ a11)) && (decide (a11 < (a8.length : Int)))) <|
   (spec_Sorted.f k (a8.getD a11.toNat [])).bind fun r3 =>
   spec_Playable.l6 k a0 a1 a2 a3 a4 a5 a6 a7 a10 r3 (fun x5 =>
    some x5) k 0 []

def spec_Without.s3 {R : Type} (k : Nat) (v0 : LI) (v1 : Int) (e0 : LI → Option R) (rec : Int → LI → Option R) (v2 : Int) (v3 : LI) : Option R :=
 bif decide (v2 < (v0.length : Int)) then
  chk ((decide (0 ≤ v2)) && (decide (v2 < (v0.length : Int)))) <|
  bif ((v0.getD v2.toNat 0) != v1) then
   chk ((decide (0 ≤ v2)) && (decide (v2 < (v0.length : Int)))) <|
   chk (decide ((v3.length + 1) * 8 ≤ room)) <|
   rec (IntKind.wrap .i64 (v2 + 1)) (v3 ++ [v0.getD v2.toNat 0])
  else
   rec (IntKind.wrap .i64 (v2 + 1)) v3
 else
  e0 v3
def spec_Without.l3 {R : Type} (k : Nat) (v0 : LI) (v1 : Int) (e0 : LI → Option R) (n : Nat) (v2 : Int) (v3 : LI) : Option R :=
 V.iter (A := Int × LI) (fun rec a => spec_Without.s3 k v0 v1 e0 (fun c0 c1 => rec (c0, c1)) a.1 a.2) n (v2, v3)
theorem spec_Without.l3_succ {R : Type} (k : Nat) (v0 : LI) (v1 : Int) (e0 : LI → Option R) (n : Nat) (v2 : Int) (v3 : LI) : spec_Without.l3 (R := R) k v0 v1 e0 (n + 1) v2 v3 = spec_Without.s3 k v0 v1 e0 (spec_Without.l3 k v0 v1 e0 n) v2 v3 := rfl
def spec_Without.f (k : Nat) (a : LI) (g : Int) : Option (LI) :=
 spec_Without.l3 k a g (fun x1 =>
  some x1) k 0 []

def spec_DoesSkip.f (k : Nat) (a0 a1 : Int) (a2 a3 : Bool) (a4 a5 : LI) (a6 a7 g : Int) : Option (Bool) :=
 (spec_IsRules.f k a0 a1 a2 a3 a4 a5 a6 a7).bind fun r1 =>
 bif r1 then
  (spec_Matches.f k a5 g).bind fun r2 =>
  some r2
 else
  some false

def spec_PlayOn.f (k : Nat) (a0 a1 : Int) (a2 a3 : Bool) (a4 a5 : LI) (a6 a7 : Int) (a8 : LL) (a9 a10 : LI) (a11 a12 a13 g : Int) : Option (Int × Int × Bool × Bool × LI × LI × Int × Int × LL × LI × LI × Int × Int × Int × Bool) :=
 (spec_l24Copy.f k a0 a1 a2 a3 a4 a5 a6 a7 a8 a9 a10 a11 a12 a13).bind fun r1 =>
 (spec_Playable.f k a0 a1 a2 a3 a4 a5 a6 a7 a8 a9 a10 a11 a12 a13).bind fun r2 =>
 (spec_HasCard.f k r2 g).bind fun r3 =>
 bif (!r3) then
  some (r1.1, r1.2.1, (t2 r1).1, (t3 r1).1, (t4 r1).1, (t5 r1).1, (t6 r1).1, (t7 r1).1, (t8 r1).1, (t9 r1).1, (t9 r1.2).1, (t9 (t2 r1)).1, (t9 (t3 r1)).1, (t9 (t4 r1)), false)
 else
  chk ((decide (0 ≤ a11)) && (decide (a11 < (a8.length : Int)))) <|
  (spec_Without.f k (a8.getD a11.toNat []) g).bind fun r4 =>
  chk ((decide (0 ≤ a11)) && (decide (a11 < ((t8 r1).1.length : Int)))) <|
  chk (decide (((t9 r1.2).1.length + 1) * 8 ≤ room)) <|
  (spec_DoesSkip.f k a0 a1 a2 a3 a4 a5 a6 a7 g).bind fun r5 =>
  bif r5 then
   chk (!(decide (a0 = 0))) <|
   some (r1.1, r1.2.1, (t2 r1).1, (t3 r1).1, (t4 r1).1, (t5 r1).1, (t6 r1).1, (t7 r1).1, (t8 r1).1.set a11.toNat r4, (t9 r1).1, (t9 r1.2).1 ++ [g], (IntKind.wrap .i64 (a11 + 2)).tmod a0, IntKind.wrap .i64 (a12 + 1), 0, true)
  else
   chk (!(decide (a0 = 0))) <|
   some (r1.1, r1.2.1, (t2 r1).1, (t3 r1).1, (t4 r1).1, (t5 r1).1, (t6 r1).1, (t7 r1).1, (t8 r1).1.set a11.toNat r4, (t9 r1).1, (t9 r1.2).1 ++ [g], (IntKind.wrap .i64 (a11 + 1)).tmod a0, IntKind.wrap .i64 (a12 + 1), 0, true)

def spec_TakeCards.s6 {R : Type} (k : Nat) (v8 v13 : Int) (e0 : Int → LL → LI → LI → Option R) (rec : Int → Int → LL → LI → LI → Option R) (v0 v1 : Int) (v36 : LL) (v37 v38 : LI) : Option R :=
 bif decide (v1 < v8) then
  bif ((v37.length : Int) == 0) then
   chk ((decide (0 ≤ (IntKind.wrap .i64 ((v38.length : Int) - 1)))) && (decide ((IntKind.wrap .i64 ((v38.length : Int) - 1)) ≤ (v38.length : Int)))) <|
   chk (decide (0 ≤ (IntKind.wrap .i64 ((v38.length : Int) - 1)))) <|
   chk (decide ((0 + (((v38.take ((IntKind.wrap .i64 ((v38.length : Int) - 1)).toNat)).drop 0).length)) * 8 ≤ room)) <|
   chk ((decide (0 ≤ (v38.length : Int))) && (decide ((v38.length : Int) ≤ (v38.length : Int)))) <|
   chk ((decide (0 ≤ (IntKind.wrap .i64 ((v38.length : Int) - 1)))) && (decide ((IntKind.wrap .i64 ((v38.length : Int) - 1)) ≤ (v38.length : Int)))) <|
   chk (decide ((0 + (((v38.take ((v38.length : Int).toNat)).drop ((IntKind.wrap .i64 ((v38.length : Int) - 1)).toNat)).length)) * 8 ≤ room)) <|
   bif ((([] ++ ((v38.take ((IntKind.wrap .i64 ((v38.length : Int) - 1)).toNat)).drop 0)).length : Int) == 0) then
    e0 v0 v36 ([] ++ ((v38.take ((IntKind.wrap .i64 ((v38.length : Int) - 1)).toNat)).drop 0)) ([] ++ ((v38.take ((v38.length : Int).toNat)).drop ((IntKind.wrap .i64 ((v38.length : Int) - 1)).toNat)))
   else
    chk ((decide (0 ≤ v13)) && (decide (v13 < (v36.length : Int)))) <|
    chk (decide (0 < (([] ++ ((v38.take ((IntKind.wrap .i64 ((v38.length : Int) - 1)).toNat)).drop 0)).length : Int))) <|
    chk (decide ((((v36.getD v13.toNat []).length) + 1) * 8 ≤ room)) <|
    chk ((decide (0 ≤ v13)) && (decide (v13 < (v36.length : Int)))) <|
    chk (v13.toNat == v13.toNat) <|
    chk ((decide (0 ≤ (([] ++ ((v38.take ((IntKind.wrap .i64 ((v38.length : Int) - 1)).toNat)).drop 0)).length : Int))) && (decide ((([] ++ ((v38.take ((IntKind.wrap .i64 ((v38.length : Int) - 1)).toNat)).drop 0)).length : Int) ≤ (([] ++ ((v38.take ((IntKind.wrap .i64 ((v38.length : Int) - 1)).toNat)).drop 0)).length : Int)))) <|
    chk (decide (1 ≤ (([] ++ ((v38.take ((IntKind.wrap .i64 ((v38.length : Int) - 1)).toNat)).drop 0)).length : Int))) <|
    chk (decide ((0 + (((([] ++ ((v38.take ((IntKind.wrap .i64 ((v38.length : Int) - 1)).toNat)).drop 0)).take ((([] ++ ((v38.take ((IntKind.wrap .i64 ((v38.length : Int) - 1)).toNat)).drop 0)).length : Int).toNat)).drop 1).length)) * 8 ≤ room)) <|
    rec (IntKind.wrap .i64 (v0 + 1)) (IntKind.wrap .i64 (v1 + 1)) (v36.set v13.toNat ((v36.getD v13.toNat []) ++ ([([] ++ ((v38.take ((IntKind.wrap .i64 ((v38.length : Int) - 1)).toNat)).drop 0)).getD 0 0]))) ([] ++ ((([] ++ ((v38.take ((IntKind.wrap .i64 ((v38.length : Int) - 1)).toNat)).drop 0)).take ((([] ++ ((v38.take ((IntKind.wrap .i64 ((v38.length : Int) - 1)).toNat)).drop 0)).length : Int).toNat)).drop 1)) ([] ++ ((v38.take ((v38.length : Int).toNat)).drop ((IntKind.wrap .i64 ((v38.length : Int) - 1)).toNat)))
  else
   bif ((v37.length : Int) == 0) then
    e0 v0 v36 v37 v38
   else
    chk ((decide (0 ≤ v13)) && (decide (v13 < (v36.length : Int)))) <|
    chk (decide (0 < (v37.length : Int))) <|
    chk (decide ((((v36.getD v13.toNat []).length) + 1) * 8 ≤ room)) <|
    chk ((decide (0 ≤ v13)) && (decide (v13 < (v36.length : Int)))) <|
    chk (v13.toNat == v13.toNat) <|
    chk ((decide (0 ≤ (v37.length : Int))) && (decide ((v37.length : Int) ≤ (v37.length : Int)))) <|
    chk (decide (1 ≤ (v37.length : Int))) <|
    chk (decide ((0 + (((v37.take ((v37.length : Int).toNat)).drop 1).length)) * 8 ≤ room)) <|
    rec (IntKind.wrap .i64 (v0 + 1)) (IntKind.wrap .i64 (v1 + 1)) (v36.set v13.toNat ((v36.getD v13.toNat []) ++ [v37.getD 0 0])) ([] ++ ((v37.take ((v37.length : Int).toNat)).drop 1)) v38
 else
  e0 v0 v36 v37 v38
def spec_TakeCards.l6 {R : Type} (k : Nat) (v8 v13 : Int) (e0 : Int → LL → LI → LI → Option R) (n : Nat) (v0 v1 : Int) (v36 : LL) (v37 v38 : LI) : Option R :=
 V.iter (A := Int × Int × LL × LI × LI) (fun rec a => spec_TakeCards.s6 k v8 v13 e0 (fun c0 c1 c2 c3 c4 => rec (c0, c1, c2, c3, c4)) a.1 a.2.1 (t2 a).1 (t3 a).1 (t4 a)) n (v0, v1, v36, v37, v38)
theorem spec_TakeCards.l6_succ {R : Type} (k : Nat) (v8 v13 : Int) (e0 : Int → LL → LI → LI → Option R) (n : Nat) (v0 v1 : Int) (v36 : LL) (v37 v38 : LI) : spec_TakeCards.l6 (R := R) k v8 v13 e0 (n + 1) v0 v1 v36 v37 v38 = spec_TakeCards.s6 k v8 v13 e0 (spec_TakeCards.l6 k v8 v13 e0 n) v0 v1 v36 v37 v38 := rfl
def spec_TakeCards.f (k : Nat) (a0 a1 : Int) (a2 a3 : Bool) (a4 a5 : LI) (a6 a7 : Int) (a8 : LL) (a9 a10 : LI) (a11 a12 a13 : Int) : Option (Int × Int × Bool × Bool × LI × LI × Int × Int × LL × LI × LI × Int × Int × Int × Bool) :=
 (spec_l24Copy.f k a0 a1 a2 a3 a4 a5 a6 a7 a8 a9 a10 a11 a12 a13).bind fun r1 =>
 (spec_IsGame.f k a0 a1 a2 a3 a4 a5 a6 a7 a8 a9 a10 a11 a12 a13).bind fun r2 =>
 bif (!r2) then
  some (r1.1, r1.2.1, (t2 r1).1, (t3 r1).1, (t4 r1).1, (t5 r1).1, (t6 r1).1, (t7 r1).1, (t8 r1).1, (t9 r1).1, (t9 r1.2).1, (t9 (t2 r1)).1, (t9 (t3 r1)).1, (t9 (t4 r1)), false)
 else
  (spec_l24Over.f k a0 a1 a2 a3 a4 a5 a6 a7 a8 a9 a10 a11 a12 a13).bind fun r3 =>
  bif r3 then
   some (r1.1, r1.2.1, (t2 r1).1, (t3 r1).1, (t4 r1).1, (t5 r1).1, (t6 r1).1, (t7 r1).1, (t8 r1).1, (t9 r1).1, (t9 r1.2).1, (t9 (t2 r1)).1, (t9 (t3 r1)).1, (t9 (t4 r1)), false)
  else
   spec_TakeCards.l6 k a6 a11 (fun x4 x5 x6 x7 =>
    bif (x4 == 0) then
     chk (!(decide (a0 = 0))) <|
     some (r1.1, r1.2.1, (t2 r1).1, (t3 r1).1, (t4 r1).1, (t5 r1).1, (t6 r1).1, (t7 r1).1, x5, x6, x7, (IntKind.wrap .i64 (a11 + 1)).tmod a0, IntKind.wrap .i64 (a12 + 1), IntKind.wrap .i64 (a13 + 1), true)
    else
     chk (!(decide (a0 = 0))) <|
     some (r1.1, r1.2.1, (t2 r1).1, (t3 r1).1, (t4 r1).1, (t5 r1).1, (t6 r1).1, (t7 r1).1, x5, x6, x7, (IntKind.wrap .i64 (a11 + 1)).tmod a0, IntKind.wrap .i64 (a12 + 1), 0, true)) k 0 0 (t8 r1).1 (t9 r1).1 (t9 r1.2).1

def spec_ReplayMove.f (k : Nat) (a0 a1 : Int) (a2 a3 : Bool) (a4 a5 : LI) (a6 a7 : Int) (a8 : LL) (a9 a10 : LI) (a11 a12 a13 g : Int) : Option (Int × Int × Bool × Bool × LI × LI × Int × Int × LL × LI × LI × Int × Int × Int × Bool) :=
 bif (g == (-1)) then
  (spec_TakeCards.f k a0 a1 a2 a3 a4 a5 a6 a7 a8 a9 a10 a11 a12 a13).bind fun r1 =>
  some (r1.1, r1.2.1, (t2 r1).1, (t3 r1).1, (t4 r1).1, (t5 r1).1, (t6 r1).1, (t7 r1).1, (t8 r1).1, (t9 r1).1, (t9 r1.2).1, (t9 (t2 r1)).1, (t9 (t3 r1)).1, (t9 (t4 r1)).1, (t9 (t5 r1)))
 else
  (spec_PlayOn.f k a0 a1 a2 a3 a4 a5 a6 a7 a8 a9 a10 a11 a12 a13 g).bind fun r2 =>
  some (r2.1, r2.2.1, (t2 r2).1, (t3 r2).1, (t4 r2).1, (t5 r2).1, (t6 r2).1, (t7 r2).1, (t8 r2).1, (t9 r2).1, (t9 r2.2).1, (t9 (t2 r2)).1, (t9 (t3 r2)).1, (t9 (t4 r2)).1, (t9 (t5 r2)))

def spec_Replayed.s3 {R : Type} (k : Nat) (v0 : LI) (e0 : Int → Int → Int → Bool → Bool → Int → Int → Int → Int → Int → LI → LI → LL → LI → LI → Option R) (e1 : Int → Int → Bool → Bool → Int → Int → Int → Int → Int → LI → LI → LL → LI → LI → Option R) (rec : Int → Int → Int → Bool → Bool → Int → Int → Int → Int → Int → LI → LI → LL → LI → LI → Option R) (v1 v11 v12 : Int) (v13 v14 : Bool) (v15 v16 v17 v18 v19 : Int) (v20 v21 : LI) (v22 : LL) (v23 v24 : LI) : Option R :=
 bif decide (v1 < (v0.length : Int)) then
  chk ((decide (0 ≤ v1)) && (decide (v1 < (v0.length : Int)))) <|
  (spec_ReplayMove.f k v11 v12 v13 v14 v20 v21 v15 v16 v22 v23 v24 v17 v18 v19 (v0.getD v1.toNat 0)).bind fun r2 =>
  bif (!(t9 (t5 r2))) then
   e0 v1 v11 v12 v13 v14 v15 v16 v17 v18 v19 v20 v21 v22 v23 v24
  else
   rec (IntKind.wrap .i64 (v1 + 1)) r2.1 r2.2.1 (t2 r2).1 (t3 r2).1 (t6 r2).1 (t7 r2).1 (t9 (t2 r2)).1 (t9 (t3 r2)).1 (t9 (t4 r2)).1 (t4 r2).1 (t5 r2).1 (t8 r2).1 (t9 r2).1 (t9 r2.2).1
 else
  e1 v11 v12 v13 v14 v15 v16 v17 v18 v19 v20 v21 v22 v23 v24
def spec_Replayed.l3 {R : Type} (k : Nat) (v0 : LI) (e0 : Int → Int → Int → Bool → Bool → Int → Int → Int → Int → Int → LI → LI → LL → LI → LI → Option R) (e1 : Int → Int → Bool → Bool → Int → Int → Int → Int → Int → LI → LI → LL → LI → LI → Option R) (n : Nat) (v1 v11 v12 : Int) (v13 v14 : Bool) (v15 v16 v17 v18 v19 : Int) (v20 v21 : LI) (v22 : LL) (v23 v24 : LI) : Option R :=
 V.iter (A := Int × Int × Int × Bool × Bool × Int × Int × Int × Int × Int × LI × LI × LL × LI × LI) (fun rec a => spec_Replayed.s3 k v0 e0 e1 (fun c0 c1 c2 c3 c4 c5 c6 c7 c8 c9 c10 c11 c12 c13 c14 => rec (c0, c1, c2, c3, c4, c5, c6, c7, c8, c9, c10, c11, c12, c13, c14)) a.1 a.2.1 (t2 a).1 (t3 a).1 (t4 a).1 (t5 a).1 (t6 a).1 (t7 a).1 (t8 a).1 (t9 a).1 (t9 a.2).1 (t9 (t2 a)).1 (t9 (t3 a)).1 (t9 (t4 a)).1 (t9 (t5 a))) n (v1, v11, v12, v13, v14, v15, v16, v17, v18, v19, v20, v21, v22, v23, v24)
theorem spec_Replayed.l3_succ {R : Type} (k : Nat) (v0 : LI) (e0 : Int → Int → Int → Bool → Bool → Int → Int → Int → Int → Int → LI → LI → LL → LI → LI → Option R) (e1 : Int → Int → Bool → Bool → Int → Int → Int → Int → Int → LI → LI → LL → LI → LI → Option R) (n : Nat) (v1 v11 v12 : Int) (v13 v14 : Bool) (v15 v16 v17 v18 v19 : Int) (v20 v21 : LI) (v22 : LL) (v23 v24 : LI) : spec_Replayed.l3 (R := R) k v0 e0 e1 (n + 1) v1 v11 v12 v13 v14 v15 v16 v17 v18 v19 v20 v21 v22 v23 v24 = spec_Replayed.s3 k v0 e0 e1 (spec_Replayed.l3 k v0 e0 e1 n) v1 v11 v12 v13 v14 v15 v16 v17 v18 v19 v20 v21 v22 v23 v24 := rfl
def spec_Replayed.f (k : Nat) (a0 a1 : Int) (a2 a3 : Bool) (a4 a5 : LI) (a6 a7 : Int) (a8 : LL) (a9 a10 : LI) (a11 a12 a13 : Int) (g : LI) : Option (Int × Int × Bool × Bool × LI × LI × Int × Int × LL × LI × LI × Int × Int × Int × Int) :=
 (spec_l24Copy.f k a0 a1 a2 a3 a4 a5 a6 a7 a8 a9 a10 a11 a12 a13).bind fun r1 =>
 spec_Replayed.l3 k g (fun x3 x4 x5 x6 x7 x8 x9 x10 x11 x12 x13 x14 x15 x16 x17 =>
  some (x4, x5, x6, x7, x13, x14, x8, x9, x15, x16, x17, x10, x11, x12, x3)) (fun x18 x19 x20 x21 x22 x23 x24 x25 x26 x27 x28 x29 x30 x31 =>
  some (x18, x19, x20, x21, x27, x28, x22, x23, x29, x30, x31, x24, x25, x26, (g.length : Int))) k 0 r1.1 r1.2.1 (t2 r1).1 (t3 r1).1 (t6 r1).1 (t7 r1).1 (t9 (t2 r1)).1 (t9 (t3 r1)).1 (t9 (t4 r1)) (t4 r1).1 (t5 r1).1 (t8 r1).1 (t9 r1).1 (t9 r1.2).1

def spec_IsTable.f (k : Nat) (a0 a1 : Int) (a2 a3 : Bool) (a4 a5 : LI) (a6 a7 : Int) (a8 : LI) (a9 : Bool) (a10 : LI) (a11 a12 : Int) (a13 a14 : Bool) (a15 a16 : LI) (a17 a18 : Int) (a19 : LL) (a20 a21 : LI) (a22 a23 a24 : Int) (a25 : LI) (a26 : LL) : Option (Bool) :=
 (spec_IsRules.f k a0 a1 a2 a3 a4 a5 a6 a7).bind fun r1 =>
 bif (!r1) then
  some false
 else
  bif decide ((a8.length : Int) > a0) then
   some false
  else
   (spec_IsSheet.f k a0 a26).bind fun r2 =>
   bif (!r2) then
    some false
   else
    bif (!a9) then
     bif ((a10.length : Int) == 0) then
      bif ((a25.length : Int) == 0) then
       (spec_EqualGames.f k a11 a12 a13 a14 a15 a16 a17 a18 a19 a20 a21 a22 a23 a24 0 0 false false [] [] 0 0 [] [] [] 0 0 0).bind fun r3 =>
       some r3
      else
       some false
     else
      some false
    else
     (spec_NewGame.f k a0 a1 a2 a3 a4 a5 a6 a7 a10).bind fun r4 =>
     (spec_Replayed.f k r4.1 r4.2.1 (t2 r4).1 (t3 r4).1 (t4 r4).1 (t5 r4).1 (t6 r4).1 (t7 r4).1 (t8 r4).1 (t9 r4).1 (t9 r4.2).1 (t9 (t2 r4)).1 (t9 (t3 r4)).1 (t9 (t4 r4)).1 a25).bind fun r5 =>
     bif (t9 (t5 r4)) then
      bif ((a8.length : Int) == a0) then
       bif ((t9 (t5 r5)) == (a25.length : Int)) then
        (spec_EqualGames.f k r5.1 r5.2.1 (t2 r5).1 (t3 r5).1 (t4 r5).1 (t5 r5).1 (t6 r5).1 (t7 r5).1 (t8 r5).1 (t9 r5).1 (t9 r5.2).1 (t9 (t2 r5)).1 (t9 (t3 r5)).1 (t9 (t4 r5)).1 a11 a12 a13 a14 a15 a16 a17 a18 a19 a20 a21 a22 a23 a24).bind fun r6 =>
        some r6
       else
        some false
      else
       some false
     else
      some false

def spec_l34Done.f (k : Nat) (a0 a1 : Int) (a2 a3 : Bool) (a4 a5 : LI) (a6 a7 : Int) (a8 : LI) (a9 : Bool) (a10 : LI) (a11 a12 : Int) (a13 a14 : Bool) (a15 a16 : LI) (a17 a18 : Int) (a19 : LL) (a20 a21 : LI) (a22 a23 a24 : Int) (a25 : LI) (a26 : LL) (g0 g1 : Int) (g2 g3 : Bool) (g4 g5 : LI) (g6 g7 : Int) (g8 : LI) (g9 : Bool) (g10 : LI) (g11 g12 : Int) (g13 g14 : Bool) (g15 g16 : LI) (g17 g18 : Int) (g19 : LL) (g20 g21 : LI) (g22 g23 g24 : Int) (g25 : LI) (g26 : LL) (i : Bool) : Option (Int × Int × Bool × Bool × LI × LI × Int × Int × LI × Bool × LI × Int × Int × Bool × Bool × LI × LI × Int × Int × LL × LI × LI × Int × Int × Int × LI × LL × Bool) :=
 bif (!i) then
  (spec_l33Copy.f k a0 a1 a2 a3 a4 a5 a6 a7 a8 a9 a10 a11 a12 a13 a14 a15 a16 a17 a18 a19 a20 a21 a22 a23 a24 a25 a26).bind fun r1 =>
  some (r1.1, r1.2.1, (t2 r1).1, (t3 r1).1, (t4 r1).1, (t5 r1).1, (t6 r1).1, (t7 r1).1, (t8 r1).1, (t9 r1).1, (t9 r1.2).1, (t9 (t2 r1)).1, (t9 (t3 r1)).1, (t9 (t4 r1)).1, (t9 (t5 r1)).1, (t9 (t6 r1)).1, (t9 (t7 r1)).1, (t9 (t8 r1)).1, (t9 (t9 r1)).1, (t9 (t9 r1.2)).1, (t9 (t9 (t2 r1))).1, (t9 (t9 (t3 r1))).1, (t9 (t9 (t4 r1))).1, (t9 (t9 (t5 r1))).1, (t9 (t9 (t6 r1))).1, (t9 (t9 (t7 r1))).1, (t9 (t9 (t8 r1))), false)
 else
  (spec_IsTable.f k a0 a1 a2 a3 a4 a5 a6 a7 a8 a9 a10 a11 a12 a13 a14 a15 a16 a17 a18 a19 a20 a21 a22 a23 a24 a25 a26).bind fun r2 =>
  bif (!r2) then
   (spec_l33Copy.f k a0 a1 a2 a3 a4 a5 a6 a7 a8 a9 a10 a11 a12 a13 a14 a15 a16 a17 a18 a19 a20 a21 a22 a23 a24 a25 a26).bind fun r3 =>
   some (r3.1, r3.2.1, (t2 r3).1, (t3 r3).1, (t4 r3).1, (t5 r3).1, (t6 r3).1, (t7 r3).1, (t8 r3).1, (t9 r3).1, (t9 r3.2).1, (t9 (t2 r3)).1, (t9 (t3 r3)).1, (t9 (t4 r3)).1, (t9 (t5 r3)).1, (t9 (t6 r3)).1, (t9 (t7 r3)).1, (t9 (t8 r3)).1, (t9 (t9 r3)).1, (t9 (t9 r3.2)).1, (t9 (t9 (t2 r3))).1, (t9 (t9 (t3 r3))).1, (t9 (t9 (t4 r3))).1, (t9 (t9 (t5 r3))).1, (t9 (t9 (t6 r3))).1, (t9 (t9 (t7 r3))).1, (t9 (t9 (t8 r3))), false)
  else
   (spec_IsTable.f k g0 g1 g2 g3 g4 g5 g6 g7 g8 g9 g10 g11 g12 g13 g14 g15 g16 g17 g18 g19 g20 g21 g22 g23 g24 g25 g26).bind fun r4 =>
   bif (!r4) then
    (spec_l33Copy.f k a0 a1 a2 a3 a4 a5 a6 a7 a8 a9 a10 a11 a12 a13 a14 a15 a16 a17 a18 a19 a20 a21 a22 a23 a24 a25 a26).bind fun r5 =>
    some (r5.1, r5.2.1, (t2 r5).1, (t3 r5).1, (t4 r5).1, (t5 r5).1, (t6 r5).1, (t7 r5).1, (t8 r5).1, (t9 r5).1, (t9 r5.2).1, (t9 (t2 r5)).1, (t9 (t3 r5)).1, (t9 (t4 r5)).1, (t9 (t5 r5)).1, (t9 (t6 r5)).1, (t9 (t7 r5)).1, (t9 (t8 r5)).1, (t9 (t9 r5)).1, (t9 (t9 r5.2)).1, (t9 (t9 (t2 r5))).1, (t9 (t9 (t3 r5))).1, (t9 (t9 (t4 r5))).1, (t9 (t9 (t5 r5))).1, (t9 (t9 (t6 r5))).1, (t9 (t9 (t7 r5))).1, (t9 (t9 (t8 r5))), false)
   else
    some (g0, g1, g2, g3, g4, g5, g6, g7, g8, g9, g10, g11, g12, g13, g14, g15, g16, g17, g18, g19, g20, g21, g22, g23, g24, g25, g26, true)

def spec_IsSealed.f (k : Nat) (a0 a1 : Int) (a2 a3 : Bool) (a4 a5 : LI) (a6 a7 : Int) (a8 : LI) (a9 : Bool) (a10 : LI) (a11 a12 : Int) (a13 a14 : Bool) (a15 a16 : LI) (a17 a18 : Int) (a19 : LL) (a20 a21 : LI) (a22 a23 a24 : Int) (a25 : LI) (a26 : LL) : Option (Bool) :=
 bif ((a8.length : Int) == a0) then
  some (!a9)
 else
  some false

def spec_StepDeal.f (k : Nat) (a0 a1 : Int) (a2 a3 : Bool) (a4 a5 : LI) (a6 a7 : Int) (a8 : LI) (a9 : Bool) (a10 : LI) (a11 a12 : Int) (a13 a14 : Bool) (a15 a16 : LI) (a17 a18 : Int) (a19 : LL) (a20 a21 : LI) (a22 a23 a24 : Int) (a25 : LI) (a26 : LL) (g i : LI) : Option (Int × Int × Bool × Bool × LI × LI × Int × Int × LI × Bool × LI × Int × Int × Bool × Bool × LI × LI × Int × Int × LL × LI × LI × Int × Int × Int × LI × LL × Bool) :=
 (spec_l33Copy.f k a0 a1 a2 a3 a4 a5 a6 a7 a8 a9 a10 a11 a12 a13 a14 a15 a16 a17 a18 a19 a20 a21 a22 a23 a24 a25 a26).bind fun r1 =>
 (spec_JointDeck.f k a8 g i).bind fun r2 =>
 (spec_NewGame.f k a0 a1 a2 a3 a4 a5 a6 a7 r2.1).bind fun r3 =>
 bif r2.2 then
  bif (t9 (t5 r3)) then
   (spec_IsSealed.f k a0 a1 a2 a3 a4 a5 a6 a7 a8 a9 a10 a11 a12 a13 a14 a15 a16 a17 a18 a19 a20 a21 a22 a23 a24 a25 a26).bind fun r4 =>
   (spec_l34Done.f k a0 a1 a2 a3 a4 a5 a6 a7 a8 a9 a10 a11 a12 a13 a14 a15 a16 a17 a18 a19 a20 a21 a22 a23 a24 a25 a26 r1.1 r1.2.1 (t2 r1).1 (t3 r1).1 (t4 r1).1 (t5 r1).1 (t6 r1).1 (t7 r1).1 (t8 r1).1 true r2.1 r3.1 r3.2.1 (t2 r3).1 (t3 r3).1 (t4 r3).1 (t5 r3).1 (t6 r3).1 (t7 r3).1 (t8 r3).1 (t9 r3).1 (t9 r3.2).1 (t9 (t2 r3)).1 (t9 (t3 r3)).1 (t9 (t4 r3)).1 (t9 (t9 (t7 r1))).1 (t9 (t9 (t8 r1))) r4).bind fun r5 =>
   some (r5.1, r5.2.1, (t2 r5).1, (t3 r5).1, (t4 r5).1, (t5 r5).1, (t6 r5).1, (t7 r5).1, (t8 r5).1, (t9 r5).1, (t9 r5.2).1, (t9 (t2 r5)).1, (t9 (t3 r5)).1, (t9 (t4 r5)).1, (t9 (t5 r5)).1, (t9 (t6 r5)).1, (t9 (t7 r5)).1, (t9 (t8 r5)).1, (t9 (t9 r5)).1, (t9 (t9 r5.2)).1, (t9 (t9 (t2 r5))).1, (t9 (t9 (t3 r5))).1, (t9 (t9 (t4 r5))).1, (t9 (t9 (t5 r5))).1, (t9 (t9 (t6 r5))).1, (t9 (t9 (t7 r5))).1, (t9 (t9 (t8 r5))).1, (t9 (t9 (t9 r5))))
  else
   (spec_l34Done.f k a0 a1 a2 a3 a4 a5 a6 a7 a8 a9 a10 a11 a12 a13 a14 a15 a16 a17 a18 a19 a20 a21 a22 a23 a24 a25 a26 r1.1 r1.2.1 (t2 r1).1 (t3 r1).1 (t4 r1).1 (t5 r1).1 (t6 r1).1 (t7 r1).1 (t8 r1).1 true r2.1 r3.1 r3.2.1 (t2 r3).1 (t3 r3).1 (t4 r3).1 (t5 r3).1 (t6 r3).1 (t7 r3).1 (t8 r3).1 (t9 r3).1 (t9 r3.2).1 (t9 (t2 r3)).1 (t9 (t3 r3)).1 (t9 (t4 r3)).1 (t9 (t9 (t7 r1))).1 (t9 (t9 (t8 r1))) false).bind fun r6 =>
   some (r6.1, r6.2.1, (t2 r6).1, (t3 r6).1, (t4 r6).1, (t5 r6).1, (t6 r6).1, (t7 r6).1, (t8 r6).1, (t9 r6).1, (t9 r6.2).1, (t9 (t2 r6)).1, (t9 (t3 r6)).1, (t9 (t4 r6)).1, (t9 (t5 r6)).1, (t9 (t6 r6)).1, (t9 (t7 r6)).1, (t9 (t8 r6)).1, (t9 (t9 r6)).1, (t9 (t9 r6.2)).1, (t9 (t9 (t2 r6))).1, (t9 (t9 (t3 r6))).1, (t9 (t9 (t4 r6))).1, (t9 (t9 (t5 r6))).1, (t9 (t9 (t6 r6))).1, (t9 (t9 (t7 r6))).1, (t9 (t9 (t8 r6))).1, (t9 (t9 (t9 r6))))
 else
  (spec_l34Done.f k a0 a1 a2 a3 a4 a5 a6 a7 a8 a9 a10 a11 a12 a13 a14 a15 a16 a17 a18 a19 a20 a21 a22 a23 a24 a25 a26 r1.1 r1.2.1 (t2 r1).1 (t3 r1).1 (t4 r1).1 (t5 r1).1 (t6 r1).1 (t7 r1).1 (t8 r1).1 true r2.1 r3.1 r3.2.1 (t2 r3).1 (t3 r3).1 (t4 r3).1 (t5 r3).1 (t6 r3).1 (t7 r3).1 (t8 r3).1 (t9 r3).1 (t9 r3.2).1 (t9 (t2 r3)).1 (t9 (t3 r3)).1 (t9 (t4 r3)).1 (t9 (t9 (t7 r1))).1 (t9 (t9 (t8 r1))) false).bind fun r7 =>
  some (r7.1, r7.2.1, (t2 r7).1, (t3 r7).1, (t4 r7).1, (t5 r7).1, (t6 r7).1, (t7 r7).1, (t8 r7).1, (t9 r7).1, (t9 r7.2).1, (t9 (t2 r7)).1, (t9 (t3 r7)).1, (t9 (t4 r7)).1, (t9 (t5 r7)).1, (t9 (t6 r7)).1, (t9 (t7 r7)).1, (t9 (t8 r7)).1, (t9 (t9 r7)).1, (t9 (t9 r7.2)).1, (t9 (t9 (t2 r7))).1, (t9 (t9 (t3 r7))).1, (t9 (t9 (t4 r7))).1, (t9 (t9 (t5 r7))).1, (t9 (t9 (t6 r7))).1, (t9 (t9 (t7 r7))).1, (t9 (t9 (t8 r7))).1, (t9 (t9 (t9 r7))))

def spec_StepSeal.f (k : Nat) (a0 a1 : Int) (a2 a3 : Bool) (a4 a5 : LI) (a6 a7 : Int) (a8 : LI) (a9 : Bool) (a10 : LI) (a11 a12 : Int) (a13 a14 : Bool) (a15 a16 : LI) (a17 a18 : Int) (a19 : LL) (a20 a21 : LI) (a22 a23 a24 : Int) (a25 : LI) (a26 : LL) (g : Int) : Option (Int × Int × Bool × Bool × LI × LI × Int × Int × LI × Bool × LI × Int × Int × Bool × Bool × LI × LI × Int × Int × LL × LI × LI × Int × Int × Int × LI × LL × Bool) :=
 (spec_l33Copy.f k a0 a1 a2 a3 a4 a5 a6 a7 a8 a9 a10 a11 a12 a13 a14 a15 a16 a17 a18 a19 a20 a21 a22 a23 a24 a25 a26).bind fun r1 =>
 chk (decide (((t8 r1).1.length + 1) * 8 ≤ room)) <|
 (spec_l34Done.f k a0 a1 a2 a3 a4 a5 a6 a7 a8 a9 a10 a11 a12 a13 a14 a15 a16 a17 a18 a19 a20 a21 a22 a23 a24 a25 a26 r1.1 r1.2.1 (t2 r1).1 (t3 r1).1 (t4 r1).1 (t5 r1).1 (t6 r1).1 (t7 r1).1 ((t8 r1).1 ++ [g]) (t9 r1).1 (t9 r1.2).1 (t9 (t2 r1)).1 (t9 (t3 r1)).1 (t9 (t4 r1)).1 (t9 (t5 r1)).1 (t9 (t6 r1)).1 (t9 (t7 r1)).1 (t9 (t8 r1)).1 (t9 (t9 r1)).1 (t9 (t9 r1.2)).1 (t9 (t9 (t2 r1))).1 (t9 (t9 (t3 r1))).1 (t9 (t9 (t4 r1))).1 (t9 (t9 (t5 r1))).1 (t9 (t9 (t6 r1))).1 (t9 (t9 (t7 r1))).1 (t9 (t9 (t8 r1))) (!a9)).bind fun r2 =>
 some (r2.1, r2.2.1, (t2 r2).1, (t3 r2).1, (t4 r2).1, (t5 r2).1, (t6 r2).1, (t7 r2).1, (t8 r2).1, (t9 r2).1, (t9 r2.2).1, (t9 (t2 r2)).1, (t9 (t3 r2)).1, (t9 (t4 r2)).1, (t9 (t5 r2)).1, (t9 (t6 r2)).1, (t9 (t7 r2)).1, (t9 (t8 r2)).1, (t9 (t9 r2)).1, (t9 (t9 r2.2)).1, (t9 (t9 (t2 r2))).1, (t9 (t9 (t3 r2))).1, (t9 (t9 (t4 r2))).1, (t9 (t9 (t5 r2))).1, (t9 (t9 (t6 r2))).1, (t9 (t9 (t7 r2))).1, (t9 (t9 (t8 r2))).1, (t9 (t9 (t9 r2))))

def spec_l34Move.f (k : Nat) (a0 a1 : Int) (a2 a3 : Bool) (a4 a5 : LI) (a6 a7 : Int) (a8 : LI) (a9 : Bool) (a10 : LI) (a11 a12 : Int) (a13 a14 : Bool) (a15 a16 : LI) (a17 a18 : Int) (a19 : LL) (a20 a21 : LI) (a22 a23 a24 : Int) (a25 : LI) (a26 : LL) (g : Int) : Option (Int × Int × Bool × Bool × LI × LI × Int × Int × LI × Bool × LI × Int × Int × Bool × Bool × LI × LI × Int × Int × LL × LI × LI × Int × Int × Int × LI × LL × Bool) :=
 (spec_l33Copy.f k a0 a1 a2 a3 a4 a5 a6 a7 a8 a9 a10 a11 a12 a13 a14 a15 a16 a17 a18 a19 a20 a21 a22 a23 a24 a25 a26).bind fun r1 =>
 (spec_ReplayMove.f k a11 a12 a13 a14 a15 a16 a17 a18 a19 a20 a21 a22 a23 a24 g).bind fun r2 =>
 chk (decide (((t9 (t9 (t7 r1))).1.length + 1) * 8 ≤ room)) <|
 bif (t9 (t5 r2)) then
  (spec_l34Done.f k a0 a1 a2 a3 a4 a5 a6 a7 a8 a9 a10 a11 a12 a13 a14 a15 a16 a17 a18 a19 a20 a21 a22 a23 a24 a25 a26 r1.1 r1.2.1 (t2 r1).1 (t3 r1).1 (t4 r1).1 (t5 r1).1 (t6 r1).1 (t7 r1).1 (t8 r1).1 (t9 r1).1 (t9 r1.2).1 r2.1 r2.2.1 (t2 r2).1 (t3 r2).1 (t4 r2).1 (t5 r2).1 (t6 r2).1 (t7 r2).1 (t8 r2).1 (t9 r2).1 (t9 r2.2).1 (t9 (t2 r2)).1 (t9 (t3 r2)).1 (t9 (t4 r2)).1 ((t9 (t9 (t7 r1))).1 ++ [g]) (t9 (t9 (t8 r1))) a9).bind fun r3 =>
  some (r3.1, r3.2.1, (t2 r3).1, (t3 r3).1, (t4 r3).1, (t5 r3).1, (t6 r3).1, (t7 r3).1, (t8 r3).1, (t9 r3).1, (t9 r3.2).1, (t9 (t2 r3)).1, (t9 (t3 r3)).1, (t9 (t4 r3)).1, (t9 (t5 r3)).1, (t9 (t6 r3)).1, (t9 (t7 r3)).1, (t9 (t8 r3)).1, (t9 (t9 r3)).1, (t9 (t9 r3.2)).1, (t9 (t9 (t2 r3))).1, (t9 (t9 (t3 r3))).1, (t9 (t9 (t4 r3))).1, (t9 (t9 (t5 r3))).1, (t9 (t9 (t6 r3))).1, (t9 (t9 (t7 r3))).1, (t9 (t9 (t8 r3))).1, (t9 (t9 (t9 r3))))
 else
  (spec_l34Done.f k a0 a1 a2 a3 a4 a5 a6 a7 a8 a9 a10 a11 a12 a13 a14 a15 a16 a17 a18 a19 a20 a21 a22 a23 a24 a25 a26 r1.1 r1.2.1 (t2 r1).1 (t3 r1).1 (t4 r1).1 (t5 r1).1 (t6 r1).1 (t7 r1).1 (t8 r1).1 (t9 r1).1 (t9 r1.2).1 r2.1 r2.2.1 (t2 r2).1 (t3 r2).1 (t4 r2).1 (t5 r2).1 (t6 r2).1 (t7 r2).1 (t8 r2).1 (t9 r2).1 (t9 r2.2).1 (t9 (t2 r2)).1 (t9 (t3 r2)).1 (t9 (t4 r2)).1 ((t9 (t9 (t7 r1))).1 ++ [g]) (t9 (t9 (t8 r1))) false).bind fun r4 =>
  some (r4.1, r4.2.1, (t2 r4).1, (t3 r4).1, (t4 r4).1, (t5 r4).1, (t6 r4).1, (t7 r4).1, (t8 r4).1, (t9 r4).1, (t9 r4.2).1, (t9 (t2 r4)).1, (t9 (t3 r4)).1, (t9 (t4 r4)).1, (t9 (t5 r4)).1, (t9 (t6 r4)).1, (t9 (t7 r4)).1, (t9 (t8 r4)).1, (t9 (t9 r4)).1, (t9 (t9 r4.2)).1, (t9 (t9 (t2 r4))).1, (t9 (t9 (t3 r4))).1, (t9 (t9 (t4 r4))).1, (t9 (t9 (t5 r4))).1, (t9 (t9 (t6 r4))).1, (t9 (t9 (t7 r4))).1, (t9 (t9 (t8 r4))).1, (t9 (t9 (t9 r4))))

def spec_StepPlay.f (k : Nat) (a0 a1 : Int) (a2 a3 : Bool) (a4 a5 : LI) (a6 a7 : Int) (a8 : LI) (a9 : Bool) (a10 : LI) (a11 a12 : Int) (a13 a14 : Bool) (a15 a16 : LI) (a17 a18 : Int) (a19 : LL) (a20 a21 : LI) (a22 a23 a24 : Int) (a25 : LI) (a26 : LL) (g : Int) : Option (Int × Int × Bool × Bool × LI × LI × Int × Int × LI × Bool × LI × Int × Int × Bool × Bool × LI × LI × Int × Int × LL × LI × LI × Int × Int × Int × LI × LL × Bool) :=
 (spec_IsCard.f k g).bind fun r1 =>
 bif (!r1) then
  (spec_l33Copy.f k a0 a1 a2 a3 a4 a5 a6 a7 a8 a9 a10 a11 a12 a13 a14 a15 a16 a17 a18 a19 a20 a21 a22 a23 a24 a25 a26).bind fun r2 =>
  some (r2.1, r2.2.1, (t2 r2).1, (t3 r2).1, (t4 r2).1, (t5 r2).1, (t6 r2).1, (t7 r2).1, (t8 r2).1, (t9 r2).1, (t9 r2.2).1, (t9 (t2 r2)).1, (t9 (t3 r2)).1, (t9 (t4 r2)).1, (t9 (t5 r2)).1, (t9 (t6 r2)).1, (t9 (t7 r2)).1, (t9 (t8 r2)).1, (t9 (t9 r2)).1, (t9 (t9 r2.2)).1, (t9 (t9 (t2 r2))).1, (t9 (t9 (t3 r2))).1, (t9 (t9 (t4 r2))).1, (t9 (t9 (t5 r2))).1, (t9 (t9 (t6 r2))).1, (t9 (t9 (t7 r2))).1, (t9 (t9 (t8 r2))), false)
 else
  (spec_l34Move.f k a0 a1 a2 a3 a4 a5 a6 a7 a8 a9 a10 a11 a12 a13 a14 a15 a16 a17 a18 a19 a20 a21 a22 a23 a24 a25 a26 g).bind fun r3 =>
  some (r3.1, r3.2.1, (t2 r3).1, (t3 r3).1, (t4 r3).1, (t5 r3).1, (t6 r3).1, (t7 r3).1, (t8 r3).1, (t9 r3).1, (t9 r3.2).1, (t9 (t2 r3)).1, (t9 (t3 r3)).1, (t9 (t4 r3)).1, (t9 (t5 r3)).1, (t9 (t6 r3)).1, (t9 (t7 r3)).1, (t9 (t8 r3)).1, (t9 (t9 r3)).1, (t9 (t9 r3.2)).1, (t9 (t9 (t2 r3))).1, (t9 (t9 (t3 r3))).1, (t9 (t9 (t4 r3))).1, (t9 (t9 (t5 r3))).1, (t9 (t9 (t6 r3))).1, (t9 (t9 (t7 r3))).1, (t9 (t9 (t8 r3))).1, (t9 (t9 (t9 r3))))

def spec_StepTake.f (k : Nat) (a0 a1 : Int) (a2 a3 : Bool) (a4 a5 : LI) (a6 a7 : Int) (a8 : LI) (a9 : Bool) (a10 : LI) (a11 a12 : Int) (a13 a14 : Bool) (a15 a16 : LI) (a17 a18 : Int) (a19 : LL) (a20 a21 : LI) (a22 a23 a24 : Int) (a25 : LI) (a26 : LL) : Option (Int × Int × Bool × Bool × LI × LI × Int × Int × LI × Bool × LI × Int × Int × Bool × Bool × LI × LI × Int × Int × LL × LI × LI × Int × Int × Int × LI × LL × Bool) :=
 (spec_l34Move.f k a0 a1 a2 a3 a4 a5 a6 a7 a8 a9 a10 a11 a12 a13 a14 a15 a16 a17 a18 a19 a20 a21 a22 a23 a24 a25 a26 (-1)).bind fun r1 =>
 some (r1.1, r1.2.1, (t2 r1).1, (t3 r1).1, (t4 r1).1, (t5 r1).1, (t6 r1).1, (t7 r1).1, (t8 r1).1, (t9 r1).1, (t9 r1.2).1, (t9 (t2 r1)).1, (t9 (t3 r1)).1, (t9 (t4 r1)).1, (t9 (t5 r1)).1, (t9 (t6 r1)).1, (t9 (t7 r1)).1, (t9 (t8 r1)).1, (t9 (t9 r1)).1, (t9 (t9 r1.2)).1, (t9 (t9 (t2 r1))).1, (t9 (t9 (t3 r1))).1, (t9 (t9 (t4 r1))).1, (t9 (t9 (t5 r1))).1, (t9 (t9 (t6 r1))).1, (t9 (t9 (t7 r1))).1, (t9 (t9 (t8 r1))).1, (t9 (t9 (t9 r1))))

def spec_IsEnded.f (k : Nat) (a0 a1 : Int) (a2 a3 : Bool) (a4 a5 : LI) (a6 a7 : Int) (a8 : LL) (a9 a10 : LI) (a11 a12 a13 : Int) : Option (Bool) :=
 (spec_IsGame.f k a0 a1 a2 a3 a4 a5 a6 a7 a8 a9 a10 a11 a12 a13).bind fun r1 =>
 bif r1 then
  (spec_l24Over.f k a0 a1 a2 a3 a4 a5 a6 a7 a8 a9 a10 a11 a12 a13).bind fun r2 =>
  some r2
 else
  some false

def spec_ValueOf.f (k : Nat) (a : Int) : Option (Int) :=
 (spec_RankOf.f k a).bind fun r1 =>
 bif decide (r1 < 0) then
  some 0
 else
  bif decide (r1 ≤ 8) then
   some (IntKind.wrap .i64 (r1 + 2))
  else
   bif (r1 == 12) then
    some 1
   else
    some 10

def spec_l10Sum.s3 {R : Type} (k : Nat) (v0 : LI) (e0 : Int → Option R) (rec : Int → Int → Option R) (v1 v2 : Int) : Option R :=
 bif decide (v2 < (v0.length : Int)) then
  chk ((decide (0 ≤ v2)) && (decide (v2 < (v0.length : Int)))) <|
  (spec_ValueOf.f k (v0.getD v2.toNat 0)).bind fun r1 =>
  rec (IntKind.wrap .i64 (v1 + r1)) (IntKind.wrap .i64 (v2 + 1))
 else
  e0 v1
def spec_l10Sum.l3 {R : Type} (k : Nat) (v0 : LI) (e0 : Int → Option R) (n : Nat) (v1 v2 : Int) : Option R :=
 V.iter (A := Int × Int) (fun rec a => spec_l10Sum.s3 k v0 e0 (fun c0 c1 => rec (c0, c1)) a.1 a.2) n (v1, v2)
theorem spec_l10Sum.l3_succ {R : Type} (k : Nat) (v0 : LI) (e0 : Int → Option R) (n : Nat) (v1 v2 : Int) : spec_l10Sum.l3 (R := R) k v0 e0 (n + 1) v1 v2 = spec_l10Sum.s3 k v0 e0 (spec_l10Sum.l3 k v0 e0 n) v1 v2 := rfl
def spec_l10Sum.f (k : Nat) (a : LI) : Option (Int) :=
 spec_l10Sum.l3 k a (fun x2 =>
  some x2) k 0 0

def spec_LeftPoints.s3 {R : Type} (k : Nat) (v9 : LL) (e0 : LI → Option R) (rec : Int → LI → Option R) (v0 : Int) (v15 : LI) : Option R :=
 bif decide (v0 < (v9.length : Int)) then
  chk ((decide (0 ≤ v0)) && (decide (v0 < (v9.length : Int)))) <|
  (spec_l10Sum.f k (v9.getD v0.toNat [])).bind fun r1 =>
  chk (decide ((v15.length + 1) * 8 ≤ room)) <|
  rec (IntKind.wrap .i64 (v0 + 1)) (v15 ++ [r1])
 else
  e0 v15
def spec_LeftPoints.l3 {R : Type} (k : Nat) (v9 : LL) (e0 : LI → Option R) (n : Nat) (v0 : Int) (v15 : LI) : Option R :=
 V.iter (A := Int × LI) (fun rec a => spec_LeftPoints.s3 k v9 e0 (fun c0 c1 => rec (c0, c1)) a.1 a.2) n (v0, v15)
theorem spec_LeftPoints.l3_succ {R : Type} (k : Nat) (v9 : LL) (e0 : LI → Option R) (n : Nat) (v0 : Int) (v15 : LI) : spec_LeftPoints.l3 (R := R) k v9 e0 (n + 1) v0 v15 = spec_LeftPoints.s3 k v9 e0 (spec_LeftPoints.l3 k v9 e0 n) v0 v15 := rfl
def spec_LeftPoints.f (k : Nat) (a0 a1 : Int) (a2 a3 : Bool) (a4 a5 : LI) (a6 a7 : Int) (a8 : LL) (a9 a10 : LI) (a11 a12 a13 : Int) : Option (LI) :=
 spec_LeftPoints.l3 k a8 (fun x2 =>
  some x2) k 0 []

def spec_Winner.f (k : Nat) (a0 a1 : Int) (a2 a3 : Bool) (a4 a5 : LI) (a6 a7 : Int) (a8 : LL) (a9 a10 : LI) (a11 a12 a13 : Int) : Option (Int) :=
 (spec_IsGame.f k a0 a1 a2 a3 a4 a5 a6 a7 a8 a9 a10 a11 a12 a13).bind fun r1 =>
 bif (!r1) then
  some (-1)
 else
  (spec_l24First.f k a0 a1 a2 a3 a4 a5 a6 a7 a8 a9 a10 a11 a12 a13).bind fun r2 =>
  some r2

def spec_Settled.s13 {R : Type} (k : Nat) (v19 : LI) (e0 : Int → Option R) (rec : Int → Int → Option R) (v2 v3 : Int) : Option R :=
 bif decide (v3 < (v19.length : Int)) then
  chk ((decide (0 ≤ v3)) && (decide (v3 < (v19.length : Int)))) <|
  rec (IntKind.wrap .i64 (v2 + (v19.getD v3.toNat 0))) (IntKind.wrap .i64 (v3 + 1))
 else
  e0 v2
def spec_Settled.l13 {R : Type} (k : Nat) (v19 : LI) (e0 : Int → Option R) (n : Nat) (v2 v3 : Int) : Option R :=
 V.iter (A := Int × Int) (fun rec a => spec_Settled.s13 k v19 e0 (fun c0 c1 => rec (c0, c1)) a.1 a.2) n (v2, v3)
theorem spec_Settled.l13_succ {R : Type} (k : Nat) (v19 : LI) (e0 : Int → Option R) (n : Nat) (v2 v3 : Int) : spec_Settled.l13 (R := R) k v19 e0 (n + 1) v2 v3 = spec_Settled.s13 k v19 e0 (spec_Settled.l13 k v19 e0 n) v2 v3 := rfl
def spec_Settled.s5 {R : Type} (k : Nat) (v0 v2 v3 : Int) (v4 v5 : Bool) (v6 v7 : LI) (v8 v9 : Int) (v10 : LL) (v11 v12 : LI) (v13 v14 v15 : Int) (v17 : LI) (e0 : LI → Option R) (rec : Int → LI → Option R) (v1 : Int) (v16 : LI) : Option R :=
 bif decide (v1 < (v17.length : Int)) then
  (spec_IsGame.f k v2 v3 v4 v5 v6 v7 v8 v9 v10 v11 v12 v13 v14 v15).bind fun r3 =>
  bif r3 then
   bif decide (v0 < 0) then
    chk (decide ((v16.length + 1) * 8 ≤ room)) <|
    rec (IntKind.wrap .i64 (v1 + 1)) (v16 ++ [0])
   else
    bif (v1 == v0) then
     spec_Settled.l13 k v17 (fun x4 =>
      chk (decide ((v16.length + 1) * 8 ≤ room)) <|
      rec (IntKind.wrap .i64 (v1 + 1)) (v16 ++ [x4])) k 0 0
    else
     chk ((decide (0 ≤ v1)) && (decide (v1 < (v17.length : Int)))) <|
     chk (decide ((v16.length + 1) * 8 ≤ room)) <|
     rec (IntKind.wrap .i64 (v1 + 1)) (v16 ++ [IntKind.wrap .i64 (0 - (v17.getD v1.toNat 0))])
  else
   e0 v16
 else
  e0 v16
def spec_Settled.l5 {R : Type} (k : Nat) (v0 v2 v3 : Int) (v4 v5 : Bool) (v6 v7 : LI) (v8 v9 : Int) (v10 : LL) (v11 v12 : LI) (v13 v14 v15 : Int) (v17 : LI) (e0 : LI → Option R) (n : Nat) (v1 : Int) (v16 : LI) : Option R :=
 V.iter (A := Int × LI) (fun rec a => spec_Settled.s5 k v0 v2 v3 v4 v5 v6 v7 v8 v9 v10 v11 v12 v13 v14 v15 v17 e0 (fun c0 c1 => rec (c0, c1)) a.1 a.2) n (v1, v16)
theorem spec_Settled.l5_succ {R : Type} (k : Nat) (v0 v2 v3 : Int) (v4 v5 : Bool) (v6 v7 : LI) (v8 v9 : Int) (v10 : LL) (v11 v12 : LI) (v13 v14 v15 : Int) (v17 : LI) (e0 : LI → Option R) (n : Nat) (v1 : Int) (v16 : LI) : spec_Settled.l5 (R := R) k v0 v2 v3 v4 v5 v6 v7 v8 v9 v10 v11 v12 v13 v14 v15 v17 e0 (n + 1) v1 v16 = spec_Settled.s5 k v0 v2 v3 v4 v5 v6 v7 v8 v9 v10 v11 v12 v13 v14 v15 v17 e0 (spec_Settled.l5 k v0 v2 v3 v4 v5 v6 v7 v8 v9 v10 v11 v12 v13 v14 v15 v17 e0 n) v1 v16 := rfl
def spec_Settled.f (k : Nat) (a0 a1 : Int) (a2 a3 : Bool) (a4 a5 : LI) (a6 a7 : Int) (a8 : LL) (a9 a10 : LI) (a11 a12 a13 : Int) : Option (LI) :=
 (spec_LeftPoints.f k a0 a1 a2 a3 a4 a5 a6 a7 a8 a9 a10 a11 a12 a13).bind fun r1 =>
 (spec_Winner.f k a0 a1 a2 a3 a4 a5 a6 a7 a8 a9 a10 a11 a12 a13).bind fun r2 =>
 spec_Settled.l5 k r2 a0 a1 a2 a3 a4 a5 a6 a7 a8 a9 a10 a11 a12 a13 r1 (fun x5 =>
  some x5) k 0 []

def spec_StepSettle.f (k : Nat) (a0 a1 : Int) (a2 a3 : Bool) (a4 a5 : LI) (a6 a7 : Int) (a8 : LI) (a9 : Bool) (a10 : LI) (a11 a12 : Int) (a13 a14 : Bool) (a15 a16 : LI) (a17 a18 : Int) (a19 : LL) (a20 a21 : LI) (a22 a23 a24 : Int) (a25 : LI) (a26 : LL) : Option (Int × Int × Bool × Bool × LI × LI × Int × Int × LI × Bool × LI × Int × Int × Bool × Bool × LI × LI × Int × Int × LL × LI × LI × Int × Int × Int × LI × LL × Bool) :=
 (spec_l33Copy.f k a0 a1 a2 a3 a4 a5 a6 a7 a8 a9 a10 a11 a12 a13 a14 a15 a16 a17 a18 a19 a20 a21 a22 a23 a24 a25 a26).bind fun r1 =>
 bif (!a9) then
  some (r1.1, r1.2.1, (t2 r1).1, (t3 r1).1, (t4 r1).1, (t5 r1).1, (t6 r1).1, (t7 r1).1, (t8 r1).1, (t9 r1).1, (t9 r1.2).1, (t9 (t2 r1)).1, (t9 (t3 r1)).1, (t9 (t4 r1)).1, (t9 (t5 r1)).1, (t9 (t6 r1)).1, (t9 (t7 r1)).1, (t9 (t8 r1)).1, (t9 (t9 r1)).1, (t9 (t9 r1.2)).1, (t9 (t9 (t2 r1))).1, (t9 (t9 (t3 r1))).1, (t9 (t9 (t4 r1))).1, (t9 (t9 (t5 r1))).1, (t9 (t9 (t6 r1))).1, (t9 (t9 (t7 r1))).1, (t9 (t9 (t8 r1))), false)
 else
  (spec_IsEnded.f k a11 a12 a13 a14 a15 a16 a17 a18 a19 a20 a21 a22 a23 a24).bind fun r2 =>
  bif (!r2) then
   some (r1.1, r1.2.1, (t2 r1).1, (t3 r1).1, (t4 r1).1, (t5 r1).1, (t6 r1).1, (t7 r1).1, (t8 r1).1, (t9 r1).1, (t9 r1.2).1, (t9 (t2 r1)).1, (t9 (t3 r1)).1, (t9 (t4 r1)).1, (t9 (t5 r1)).1, (t9 (t6 r1)).1, (t9 (t7 r1)).1, (t9 (t8 r1)).1, (t9 (t9 r1)).1, (t9 (t9 r1.2)).1, (t9 (t9 (t2 r1))).1, (t9 (t9 (t3 r1))).1, (t9 (t9 (t4 r1))).1, (t9 (t9 (t5 r1))).1, (t9 (t9 (t6 r1))).1, (t9 (t9 (t7 r1))).1, (t9 (t9 (t8 r1))), false)
  else
   (spec_Settled.f k a11 a12 a13 a14 a15 a16 a17 a18 a19 a20 a21 a22 a23 a24).bind fun r3 =>
   chk (decide (((t9 (t9 (t8 r1))).length + 1) * 24 ≤ room)) <|
   (spec_l34Done.f k a0 a1 a2 a3 a4 a5 a6 a7 a8 a9 a10 a11 a12 a13 a14 a15 a16 a17 a18 a19 a20 a21 a22 a23 a24 a25 a26 r1.1 r1.2.1 (t2 r1).1 (t3 r1).1 (t4 r1).1 (t5 r1).1 (t6 r1).1 (t7 r1).1 [] false [] 0 0 false false [] [] 0 0 [] [] [] 0 0 0 [] ((t9 (t9 (t8 r1))) ++ [r3]) true).bind fun r4 =>
   some (r4.1, r4.2.1, (t2 r4).1, (t3 r4).1, (t4 r4).1, (t5 r4).1, (t6 r4).1, (t7 r4).1, (t8 r4).1, (t9 r4).1, (t9 r4.2).1, (t9 (t2 r4)).1, (t9 (t3 r4)).1, (t9 (t4 r4)).1, (t9 (t5 r4)).1, (t9 (t6 r4)).1, (t9 (t7 r4)).1, (t9 (t8 r4)).1, (t9 (t9 r4)).1, (t9 (t9 r4.2)).1, (t9 (t9 (t2 r4))).1, (t9 (t9 (t3 r4))).1, (t9 (t9 (t4 r4))).1, (t9 (t9 (t5 r4))).1, (t9 (t9 (t6 r4))).1, (t9 (t9 (t7 r4))).1, (t9 (t9 (t8 r4))).1, (t9 (t9 (t9 r4))))

def spec_ApplyEvent.f (k : Nat) (a0 a1 : Int) (a2 a3 : Bool) (a4 a5 : LI) (a6 a7 : Int) (a8 : LI) (a9 : Bool) (a10 : LI) (a11 a12 : Int) (a13 a14 : Bool) (a15 a16 : LI) (a17 a18 : Int) (a19 : LL) (a20 a21 : LI) (a22 a23 a24 : Int) (a25 : LI) (a26 : LL) (g0 g1 : Int) (g2 g3 : LI) : Option (Int × Int × Bool × Bool × LI × LI × Int × Int × LI × Bool × LI × Int × Int × Bool × Bool × LI × LI × Int × Int × LL × LI × LI × Int × Int × Int × LI × LL × Bool) :=
 bif (g0 == 1) then
  (spec_StepSeal.f k a0 a1 a2 a3 a4 a5 a6 a7 a8 a9 a10 a11 a12 a13 a14 a15 a16 a17 a18 a19 a20 a21 a22 a23 a24 a25 a26 g1).bind fun r1 =>
  some (r1.1, r1.2.1, (t2 r1).1, (t3 r1).1, (t4 r1).1, (t5 r1).1, (t6 r1).1, (t7 r1).1, (t8 r1).1, (t9 r1).1, (t9 r1.2).1, (t9 (t2 r1)).1, (t9 (t3 r1)).1, (t9 (t4 r1)).1, (t9 (t5 r1)).1, (t9 (t6 r1)).1, (t9 (t7 r1)).1, (t9 (t8 r1)).1, (t9 (t9 r1)).1, (t9 (t9 r1.2)).1, (t9 (t9 (t2 r1))).1, (t9 (t9 (t3 r1))).1, (t9 (t9 (t4 r1))).1, (t9 (t9 (t5 r1))).1, (t9 (t9 (t6 r1))).1, (t9 (t9 (t7 r1))).1, (t9 (t9 (t8 r1))).1, (t9 (t9 (t9 r1))))
 else
  bif (g0 == 2) then
   (spec_StepDeal.f k a0 a1 a2 a3 a4 a5 a6 a7 a8 a9 a10 a11 a12 a13 a14 a15 a16 a17 a18 a19 a20 a21 a22 a23 a24 a25 a26 g2 g3).bind fun r2 =>
   some (r2.1, r2.2.1, (t2 r2).1, (t3 r2).1, (t4 r2).1, (t5 r2).1, (t6 r2).1, (t7 r2).1, (t8 r2).1, (t9 r2).1, (t9 r2.2).1, (t9 (t2 r2)).1, (t9 (t3 r2)).1, (t9 (t4 r2)).1, (t9 (t5 r2)).1, (t9 (t6 r2)).1, (t9 (t7 r2)).1, (t9 (t8 r2)).1, (t9 (t9 r2)).1, (t9 (t9 r2.2)).1, (t9 (t9 (t2 r2))).1, (t9 (t9 (t3 r2))).1, (t9 (t9 (t4 r2))).1, (t9 (t9 (t5 r2))).1, (t9 (t9 (t6 r2))).1, (t9 (t9 (t7 r2))).1, (t9 (t9 (t8 r2))).1, (t9 (t9 (t9 r2))))
  else
   bif (g0 == 3) then
    (spec_StepPlay.f k a0 a1 a2 a3 a4 a5 a6 a7 a8 a9 a10 a11 a12 a13 a14 a15 a16 a17 a18 a19 a20 a21 a22 a23 a24 a25 a26 g1).bind fun r3 =>
    some (r3.1, r3.2.1, (t2 r3).1, (t3 r3).1, (t4 r3).1, (t5 r3).1, (t6 r3).1, (t7 r3).1, (t8 r3).1, (t9 r3).1, (t9 r3.2).1, (t9 (t2 r3)).1, (t9 (t3 r3)).1, (t9 (t4 r3)).1, (t9 (t5 r3)).1, (t9 (t6 r3)).1, (t9 (t7 r3)).1, (t9 (t8 r3)).1, (t9 (t9 r3)).1, (t9 (t9 r3.2)).1, (t9 (t9 (t2 r3))).1, (t9 (t9 (t3 r3))).1, (t9 (t9 (t4 r3))).1, (t9 (t9 (t5 r3))).1, (t9 (t9 (t6 r3))).1, (t9 (t9 (t7 r3))).1, (t9 (t9 (t8 r3))).1, (t9 (t9 (t9 r3))))
   else
    bif (g0 == 4) then
     (spec_StepTake.f k a0 a1 a2 a3 a4 a5 a6 a7 a8 a9 a10 a11 a12 a13 a14 a15 a16 a17 a18 a19 a20 a21 a22 a23 a24 a25 a26).bind fun r4 =>
     some (r4.1, r4.2.1, (t2 r4).1, (t3 r4).1, (t4 r4).1, (t5 r4).1, (t6 r4).1, (t7 r4).1, (t8 r4).1, (t9 r4).1, (t9 r4.2).1, (t9 (t2 r4)).1, (t9 (t3 r4)).1, (t9 (t4 r4)).1, (t9 (t5 r4)).1, (t9 (t6 r4)).1, (t9 (t7 r4)).1, (t9 (t8 r4)).1, (t9 (t9 r4)).1, (t9 (t9 r4.2)).1, (t9 (t9 (t2 r4))).1, (t9 (t9 (t3 r4))).1, (t9 (t9 (t4 r4))).1, (t9 (t9 (t5 r4))).1, (t9 (t9 (t6 r4))).1, (t9 (t9 (t7 r4))).1, (t9 (t9 (t8 r4))).1, (t9 (t9 (t9 r4))))
    else
     bif (g0 == 5) then
      (spec_StepSettle.f k a0 a1 a2 a3 a4 a5 a6 a7 a8 a9 a10 a11 a12 a13 a14 a15 a16 a17 a18 a19 a20 a21 a22 a23 a24 a25 a26).bind fun r5 =>
      some (r5.1, r5.2.1, (t2 r5).1, (t3 r5).1, (t4 r5).1, (t5 r5).1, (t6 r5).1, (t7 r5).1, (t8 r5).1, (t9 r5).1, (t9 r5.2).1, (t9 (t2 r5)).1, (t9 (t3 r5)).1, (t9 (t4 r5)).1, (t9 (t5 r5)).1, (t9 (t6 r5)).1, (t9 (t7 r5)).1, (t9 (t8 r5)).1, (t9 (t9 r5)).1, (t9 (t9 r5.2)).1, (t9 (t9 (t2 r5))).1, (t9 (t9 (t3 r5))).1, (t9 (t9 (t4 r5))).1, (t9 (t9 (t5 r5))).1, (t9 (t9 (t6 r5))).1, (t9 (t9 (t7 r5))).1, (t9 (t9 (t8 r5))).1, (t9 (t9 (t9 r5))))
     else
      (spec_l33Copy.f k a0 a1 a2 a3 a4 a5 a6 a7 a8 a9 a10 a11 a12 a13 a14 a15 a16 a17 a18 a19 a20 a21 a22 a23 a24 a25 a26).bind fun r6 =>
      some (r6.1, r6.2.1, (t2 r6).1, (t3 r6).1, (t4 r6).1, (t5 r6).1, (t6 r6).1, (t7 r6).1, (t8 r6).1, (t9 r6).1, (t9 r6.2).1, (t9 (t2 r6)).1, (t9 (t3 r6)).1, (t9 (t4 r6)).1, (t9 (t5 r6)).1, (t9 (t6 r6)).1, (t9 (t7 r6)).1, (t9 (t8 r6)).1, (t9 (t9 r6)).1, (t9 (t9 r6.2)).1, (t9 (t9 (t2 r6))).1, (t9 (t9 (t3 r6))).1, (t9 (t9 (t4 r6))).1, (t9 (t9 (t5 r6))).1, (t9 (t9 (t6 r6))).1, (t9 (t9 (t7 r6))).1, (t9 (t9 (t8 r6))), false)

def spec_l1New.s3 {R : Type} (k : Nat) (v0 : LI) (e0 : Int → Option R) (rec : Int → Int → Option R) (v1 v2 : Int) : Option R :=
 bif decide (v2 < (v0.length : Int)) then
  bif decide (v2 < 4000) then
   chk ((decide (0 ≤ v2)) && (decide (v2 < (v0.length : Int)))) <|
   rec (ibits .and .i64 (IntKind.wrap .i64 ((IntKind.wrap .i64 ((IntKind.wrap .i64 (v1 * 137)) + (IntKind.wrap .i64 (v0.getD v2.toNat 0)))) + 11)) 1073741823) (IntKind.wrap .i64 (v2 + 1))
  else
   e0 v1
 else
  e0 v1
def spec_l1New.l3 {R : Type} (k : Nat) (v0 : LI) (e0 : Int → Option R) (n : Nat) (v1 v2 : Int) : Option R :=
 V.iter (A := Int × Int) (fun rec a => spec_l1New.s3 k v0 e0 (fun c0 c1 => rec (c0, c1)) a.1 a.2) n (v1, v2)
theorem spec_l1New.l3_succ {R : Type} (k : Nat) (v0 : LI) (e0 : Int → Option R) (n : Nat) (v1 v2 : Int) : spec_l1New.l3 (R := R) k v0 e0 (n + 1) v1 v2 = spec_l1New.s3 k v0 e0 (spec_l1New.l3 k v0 e0 n) v1 v2 := rfl
def spec_l1New.f (k : Nat) (a : LI) : Option (LI × Int × Int) :=
 spec_l1New.l3 k a (fun x1 =>
  some (a, 0, x1)) k (IntKind.wrap .i64 (193017 + (a.length : Int))) 0

def spec_l1Byte.f (k : Nat) (a0 : LI) (a1 a2 : Int) : Option (Int × LI × Int × Int) :=
 bif decide (a1 < (a0.length : Int)) then
  chk ((decide (0 ≤ a1)) && (decide (a1 < (a0.length : Int)))) <|
  some (ibits .and .i64 (IntKind.wrap .i64 ((ibits .and .i64 (ibits .xor .i64 ((IntKind.wrap .i64 ((IntKind.wrap .i64 (a2 * 6364136223846793005)) + 1442695040888963407)).fdiv (2 ^ (min 33 (IntKind.bits .i64)))) ((IntKind.wrap .i64 ((IntKind.wrap .i64 (a2 * 6364136223846793005)) + 1442695040888963407)).fdiv (2 ^ (min 47 (IntKind.bits .i64))))) 255) + (IntKind.wrap .i64 (a0.getD a1.toNat 0)))) 255, a0, IntKind.wrap .i64 (a1 + 1), IntKind.wrap .i64 ((IntKind.wrap .i64 (a2 * 6364136223846793005)) + 1442695040888963407))
 else
  some (ibits .and .i64 (ibits .xor .i64 ((IntKind.wrap .i64 ((IntKind.wrap .i64 (a2 * 6364136223846793005)) + 1442695040888963407)).fdiv (2 ^ (min 33 (IntKind.bits .i64)))) ((IntKind.wrap .i64 ((IntKind.wrap .i64 (a2 * 6364136223846793005)) + 1442695040888963407)).fdiv (2 ^ (min 47 (IntKind.bits .i64))))) 255, a0, a1, IntKind.wrap .i64 ((IntKind.wrap .i64 (a2 * 6364136223846793005)) + 1442695040888963407))

def spec_l1Below.f (k : Nat) (a0 : LI) (a1 a2 g : Int) : Option (Int × LI × Int × Int) :=
 bif decide (g ≤ 0) then
  some (0, a0, a1, a2)
 else
  bif decide (g ≤ 256) then
   (spec_l1Byte.f k a0 a1 a2).bind fun r1 =>
   chk (!(decide (g = 0))) <|
   some (r1.1.tmod g, r1.2.1, (t2 r1).1, (t3 r1))
  else
   (spec_l1Byte.f k a0 a1 a2).bind fun r2 =>
   (spec_l1Byte.f k r2.2.1 (t2 r2).1 (t3 r2)).bind fun r3 =>
   (spec_l1Byte.f k r3.2.1 (t2 r3).1 (t3 r3)).bind fun r4 =>
   chk (!(decide (g = 0))) <|
   some ((IntKind.wrap .i64 ((IntKind.wrap .i64 ((IntKind.wrap .i64 (r2.1 * 65536)) + (IntKind.wrap .i64 (r3.1 * 256)))) + r4.1)).tmod g, r4.2.1, (t2 r4).1, (t3 r4))

def spec_l1Once.f (k : Nat) (a0 : LI) (a1 a2 g : Int) : Option (Bool × LI × Int × Int) :=
 (spec_l1Below.f k a0 a1 a2 g).bind fun r1 =>
 some (r1.1 == 0, r1.2.1, (t2 r1).1, (t3 r1))

def spec_l1Int.f (k : Nat) (a0 : LI) (a1 a2 : Int) (g : LI) : Option (Int × LI × Int × Int) :=
 (spec_l1Below.f k a0 a1 a2 (g.length : Int)).bind fun r1 =>
 chk ((decide (0 ≤ r1.1)) && (decide (r1.1 < (g.length : Int)))) <|
 some (g.getD r1.1.toNat 0, r1.2.1, (t2 r1).1, (t3 r1))

def spec_l4Card.f (k : Nat) (a0 : LI) (a1 a2 : Int) : Option (Int × LI × Int × Int) :=
 (spec_l1Below.f k a0 a1 a2 52).bind fun r1 =>
 (spec_l1Below.f k r1.2.1 (t2 r1).1 (t3 r1) 52).bind fun r2 =>
 (spec_l1Below.f k r2.2.1 (t2 r2).1 (t3 r2) 52).bind fun r3 =>
 (spec_l1Int.f k r3.2.1 (t2 r3).1 (t3 r3) [r1.1, r2.1, r3.1, 0, 51, 52, (-1), 9223372036854775807]).bind fun r4 =>
 some (r4.1, r4.2.1, (t2 r4).1, (t3 r4))

def spec_l8Leaves.f (k : Nat) (a0 : LI) (a1 a2 : Int) : Option (Int × LI × Int × Int) :=
 (spec_l1Below.f k a0 a1 a2 4).bind fun r1 =>
 (spec_l1Below.f k r1.2.1 (t2 r1).1 (t3 r1) 13).bind fun r2 =>
 (spec_l1Below.f k r2.2.1 (t2 r2).1 (t3 r2) 13).bind fun r3 =>
 (spec_l1Int.f k r3.2.1 (t2 r3).1 (t3 r3) [IntKind.wrap .i64 (100 + r1.1), IntKind.wrap .i64 (200 + r2.1), IntKind.wrap .i64 (300 + r3.1), 400]).bind fun r4 =>
 some (r4.1, r4.2.1, (t2 r4).1, (t3 r4))

def spec_l8Draw.b (k : Nat) (self : LI → Int → Int → Int → Option (LI × LI × Int × Int)) (a0 : LI) (a1 a2 g : Int) : Option (LI × LI × Int × Int) :=
 bif (g == 0) then
  (spec_l8Leaves.f k a0 a1 a2).bind fun r1 =>
  some ([r1.1], r1.2.1, (t2 r1).1, (t3 r1))
 else
  (spec_l1Once.f k a0 a1 a2 4).bind fun r2 =>
  bif r2.1 then
   (spec_l8Leaves.f k r2.2.1 (t2 r2).1 (t3 r2)).bind fun r3 =>
   some ([r3.1], r3.2.1, (t2 r3).1, (t3 r3))
  else
   (spec_l1Once.f k r2.2.1 (t2 r2).1 (t3 r2) 4).bind fun r4 =>
   bif r4.1 then
    (self r4.2.1 (t2 r4).1 (t3 r4) (IntKind.wrap .i64 (g - 1))).bind fun r5 =>
    chk (decide ((r5.1.length + 1) * 8 ≤ room)) <|
    some (r5.1 ++ [(-1)], r5.2.1, (t2 r5).1, (t3 r5))
   else
    (self r4.2.1 (t2 r4).1 (t3 r4) (IntKind.wrap .i64 (g - 1))).bind fun r6 =>
    (self r6.2.1 (t2 r6).1 (t3 r6) (IntKind.wrap .i64 (g - 1))).bind fun r7 =>
    chk (decide ((r6.1.length + r7.1.length) * 8 ≤ room)) <|
    (spec_l1Below.f k r7.2.1 (t2 r7).1 (t3 r7) 2).bind fun r8 =>
    chk (decide ((((r6.1 ++ r7.1).length) + 1) * 8 ≤ room)) <|
    some ((r6.1 ++ r7.1) ++ [IntKind.wrap .i64 ((-2) - r8.1)], r8.2.1, (t2 r8).1, (t3 r8))
def spec_l8Draw.g (k : Nat) : Nat → LI → Int → Int → Int → Option (LI × LI × Int × Int)
 | 0 => fun _ _ _ _ => none
 | n + 1 => spec_l8Draw.b k (spec_l8Draw.g k n)
def spec_l8Draw.f (k : Nat) : LI → Int → Int → Int → Option (LI × LI × Int × Int) := spec_l8Draw.g k k

def spec_l22Draw.f (k : Nat) (a0 : LI) (a1 a2 : Int) : Option (Int × Int × Bool × Bool × LI × LI × Int × Int × LI × Int × Int) :=
 (spec_l1Below.f k a0 a1 a2 4).bind fun r1 =>
 (spec_l1Below.f k r1.2.1 (t2 r1).1 (t3 r1) 6).bind fun r2 =>
 (spec_l1Once.f k r2.2.1 (t2 r2).1 (t3 r2) 2).bind fun r3 =>
 (spec_l1Below.f k r3.2.1 (t2 r3).1 (t3 r3) 2).bind fun r4 =>
 (spec_l1Below.f k r4.2.1 (t2 r4).1 (t3 r4) 60).bind fun r5 =>
 (spec_l1Once.f k r5.2.1 (t2 r5).1 (t3 r5) 2).bind fun r6 =>
 bif r6.1 then
  (spec_l8Draw.f k r6.2.1 (t2 r6).1 (t3 r6) 1).bind fun r7 =>
  (spec_l1Once.f k r7.2.1 (t2 r7).1 (t3 r7) 2).bind fun r8 =>
  bif r8.1 then
   (spec_l8Draw.f k r8.2.1 (t2 r8).1 (t3 r8) 1).bind fun r9 =>
   some (IntKind.wrap .i64 (2 + r1.1), IntKind.wrap .i64 (1 + r2.1), r3.1, true, r7.1, r9.1, IntKind.wrap .i64 (1 + r4.1), IntKind.wrap .i64 (20 + r5.1), r9.2.1, (t2 r9).1, (t3 r9))
  else
   some (IntKind.wrap .i64 (2 + r1.1), IntKind.wrap .i64 (1 + r2.1), r3.1, true, r7.1, [], IntKind.wrap .i64 (1 + r4.1), IntKind.wrap .i64 (20 + r5.1), r8.2.1, (t2 r8).1, (t3 r8))
 else
  (spec_l1Once.f k r6.2.1 (t2 r6).1 (t3 r6) 2).bind fun r10 =>
  bif r10.1 then
   (spec_l8Draw.f k r10.2.1 (t2 r10).1 (t3 r10) 1).bind fun r11 =>
   some (IntKind.wrap .i64 (2 + r1.1), IntKind.wrap .i64 (1 + r2.1), r3.1, true, [], r11.1, IntKind.wrap .i64 (1 + r4.1), IntKind.wrap .i64 (20 + r5.1), r11.2.1, (t2 r11).1, (t3 r11))
  else
   some (IntKind.wrap .i64 (2 + r1.1), IntKind.wrap .i64 (1 + r2.1), r3.1, true, [], [], IntKind.wrap .i64 (1 + r4.1), IntKind.wrap .i64 (20 + r5.1), r10.2.1, (t2 r10).1, (t3 r10))

def spec_NewTable.f (k : Nat) (a0 a1 : Int) (a2 a3 : Bool) (a4 a5 : LI) (a6 a7 : Int) : Option (Int × Int × Bool × Bool × LI × LI × Int × Int × LI × Bool × LI × Int × Int × Bool × Bool × LI × LI × Int × Int × LL × LI × LI × Int × Int × Int × LI × LL × Bool) :=
 (spec_IsRules.f k a0 a1 a2 a3 a4 a5 a6 a7).bind fun r1 =>
 bif (!r1) then
  some (0, 0, false, false, [], [], 0, 0, [], false, [], 0, 0, false, false, [], [], 0, 0, [], [], [], 0, 0, 0, [], [], false)
 else
  (spec_l22Copy.f k a0 a1 a2 a3 a4 a5 a6 a7).bind fun r2 =>
  some (r2.1, r2.2.1, (t2 r2).1, (t3 r2).1, (t4 r2).1, (t5 r2).1, (t6 r2).1, (t7 r2), [], false, [], 0, 0, false, false, [], [], 0, 0, [], [], [], 0, 0, 0, [], [], true)

def spec_DealEvents.s6 {R : Type} (k : Nat) (v0 : LI) (v1 : Int) (e0 : List (List Leaf) → LI → Option R) (rec : Int → List (List Leaf) → LI → Option R) (v2 : Int) (v3 : List (List Leaf)) (v4 : LI) : Option R :=
 bif decide (v2 < (v0.length : Int)) then
  chk ((decide (0 ≤ v2)) && (decide (v2 < (v0.length : Int)))) <|
  (spec_SeedSeal.f k v2 (v0.getD v2.toNat 0) v1).bind fun r2 =>
  chk (decide ((v3.length + 1) * 64 ≤ room)) <|
  chk (decide ((v4.length + 1) * 8 ≤ room)) <|
  rec (IntKind.wrap .i64 (v2 + 1)) (v3 ++ ([[.int 1, .int r2, .ints [], .ints []]])) (v4 ++ [v1])
 else
  e0 v3 v4
def spec_DealEvents.l6 {R : Type} (k : Nat) (v0 : LI) (v1 : Int) (e0 : List (List Leaf) → LI → Option R) (n : Nat) (v2 : Int) (v3 : List (List Leaf)) (v4 : LI) : Option R :=
 V.iter (A := Int × List (List Leaf) × LI) (fun rec a => spec_DealEvents.s6 k v0 v1 e0 (fun c0 c1 c2 => rec (c0, c1, c2)) a.1 a.2.1 (t2 a)) n (v2, v3, v4)
theorem spec_DealEvents.l6_succ {R : Type} (k : Nat) (v0 : LI) (v1 : Int) (e0 : List (List Leaf) → LI → Option R) (n : Nat) (v2 : Int) (v3 : List (List Leaf)) (v4 : LI) : spec_DealEvents.l6 (R := R) k v0 v1 e0 (n + 1) v2 v3 v4 = spec_DealEvents.s6 k v0 v1 e0 (spec_DealEvents.l6 k v0 v1 e0 n) v2 v3 v4 := rfl
def spec_DealEvents.f (k : Nat) (a0 a1 : Int) (a2 a3 : Bool) (a4 a5 : LI) (a6 a7 : Int) (g : LI) (i : Int) : Option (List (List Leaf)) :=
 (spec_IsRules.f k a0 a1 a2 a3 a4 a5 a6 a7).bind fun r1 =>
 bif (!r1) then
  some ([])
 else
  bif ((g.length : Int) != a0) then
   some ([])
  else
   spec_DealEvents.l6 k g i (fun x3 x4 =>
    chk (decide ((0 + g.length) * 8 ≤ room)) <|
    chk (decide ((x3.length + 1) * 64 ≤ room)) <|
    some (x3 ++ ([[.int 2, .int 0, .ints ([] ++ g), .ints x4]]))) k 0 [] []

def spec_RunEvents.s3 {R : Type} (k : Nat) (v0 : List (List Leaf)) (e0 : Int → Int → Bool → Bool → Int → Int → Bool → Int → Int → Bool → Bool → Int → Int → Int → Int → Int → LI → LI → LI → LI → LI → LI → LL → LI → LI → LI → LL → Option R) (rec : Int → Int → Int → Bool → Bool → Int → Int → Bool → Int → Int → Bool → Bool → Int → Int → Int → Int → Int → LI → LI → LI → LI → LI → LI → LL → LI → LI → LI → LL → Option R) (v1 v18 v19 : Int) (v20 v21 : Bool) (v22 v23 : Int) (v24 : Bool) (v25 v26 : Int) (v27 v28 : Bool) (v29 v30 v31 v32 v33 : Int) (v34 v35 v36 v37 v38 v39 : LI) (v40 : LL) (v41 v42 v43 : LI) (v44 : LL) : Option R :=
 bif decide (v1 < (v0.length : Int)) then
  chk ((decide (0 ≤ v1)) && (decide (v1 < (v0.length : Int)))) <|
  (spec_ApplyEvent.f k v18 v19 v20 v21 v34 v35 v22 v23 v36 v24 v37 v25 v26 v27 v28 v38 v39 v29 v30 v40 v41 v42 v31 v32 v33 v43 v44 (gi (v0.getD v1.toNat []) 0) (gi (v0.getD v1.toNat []) 1) (gl (v0.getD v1.toNat []) 2) (gl (v0.getD v1.toNat []) 3)).bind fun r2 =>
  rec (IntKind.wrap .i64 (v1 + 1)) r2.1 r2.2.1 (t2 r2).1 (t3 r2).1 (t6 r2).1 (t7 r2).1 (t9 r2).1 (t9 (t2 r2)).1 (t9 (t3 r2)).1 (t9 (t4 r2)).1 (t9 (t5 r2)).1 (t9 (t8 r2)).1 (t9 (t9 r2)).1 (t9 (t9 (t4 r2))).1 (t9 (t9 (t5 r2))).1 (t9 (t9 (t6 r2))).1 (t4 r2).1 (t5 r2).1 (t8 r2).1 (t9 r2.2).1 (t9 (t6 r2)).1 (t9 (t7 r2)).1 (t9 (t9 r2.2)).1 (t9 (t9 (t2 r2))).1 (t9 (t9 (t3 r2))).1 (t9 (t9 (t7 r2))).1 (t9 (t9 (t8 r2))).1
 else
  e0 v18 v19 v20 v21 v22 v23 v24 v25 v26 v27 v28 v29 v30 v31 v32 v33 v34 v35 v36 v37 v38 v39 v40 v41 v42 v43 v44
def spec_RunEvents.l3 {R : Type} (k : Nat) (v0 : List (List Leaf)) (e0 : Int → Int → Bool → Bool → Int → Int → Bool → Int → Int → Bool → Bool → Int → Int → Int → Int → Int → LI → LI → LI → LI → LI → LI → LL → LI → LI → LI → LL → Option R) (n : Nat) (v1 v18 v19 : Int) (v20 v21 : Bool) (v22 v23 : Int) (v24 : Bool) (v25 v26 : Int) (v27 v28 : Bool) (v29 v30 v31 v32 v33 : Int) (v34 v35 v36 v37 v38 v39 : LI) (v40 : LL) (v41 v42 v43 : LI) (v44 : LL) : Option R :=
 V.iter (A := Int × Int × Int × Bool × Bool × Int × Int × Bool × Int × Int × Bool × Bool × Int × Int × Int × Int × Int × LI × LI × LI × LI × LI × LI × LL × LI × LI × LI × LL) (fun rec a => spec_RunEvents.s3 k v0 e0 (fun c0 c1 c2 c3 c4 c5 c6 c7 c8 c9 c10 c11 c12 c13 c14 c15 c16 c17 c18 c19 c20 c21 c22 c23 c24 c25 c26 c27 => rec (c0, c1, c2, c3, c4, c5, c6, c7, c8, c9, c10, c11, c12, c13, c14, c15, c16, c17, c18, c19, c20, c21, c22, c23, c24, c25, c26, c27)) a.1 a.2.1 (t2 a).1 (t3 a).1 (t4 a).1 (t5 a).1 (t6 a).1 (t7 a).1 (t8 a).1 (t9 a).1 (t9 a.2).1 (t9 (t2 a)).1 (t9 (t3 a)).1 (t9 (t4 a)).1 (t9 (t5 a)).1 (t9 (t6 a)).1 (t9 (t7 a)).1 (t9 (t8 a)).1 (t9 (t9 a)).1 (t9 (t9 a.2)).1 (t9 (t9 (t2 a))).1 (t9 (t9 (t3 a))).1 (t9 (t9 (t4 a))).1 (t9 (t9 (t5 a))).1 (t9 (t9 (t6 a))).1 (t9 (t9 (t7 a))).1 (t9 (t9 (t8 a))).1 (t9 (t9 (t9 a)))) n (v1, v18, v19, v20, v21, v22, v23, v24, v25, v26, v27, v28, v29, v30, v31, v32, v33, v34, v35, v36, v37, v38, v39, v40, v41, v42, v43, v44)
theorem spec_RunEvents.l3_succ {R : Type} (k : Nat) (v0 : List (List Leaf)) (e0 : Int → Int → Bool → Bool → Int → Int → Bool → Int → Int → Bool → Bool → Int → Int → Int → Int → Int → LI → LI → LI → LI → LI → LI → LL → LI → LI → LI → LL → Option R) (n : Nat) (v1 v18 v19 : Int) (v20 v21 : Bool) (v22 v23 : Int) (v24 : Bool) (v25 v26 : Int) (v27 v28 : Bool) (v29 v30 v31 v32 v33 : Int) (v34 v35 v36 v37 v38 v39 : LI) (v40 : LL) (v41 v42 v43 : LI) (v44 : LL) : spec_RunEvents.l3 (R := R) k v0 e0 (n + 1) v1 v18 v19 v20 v21 v22 v23 v24 v25 v26 v27 v28 v29 v30 v31 v32 v33 v34 v35 v36 v37 v38 v39 v40 v41 v42 v43 v44 = spec_RunEvents.s3 k v0 e0 (spec_RunEvents.l3 k v0 e0 n) v1 v18 v19 v20 v21 v22 v23 v24 v25 v26 v27 v28 v29 v30 v31 v32 v33 v34 v35 v36 v37 v38 v39 v40 v41 v42 v43 v44 := rfl
def spec_RunEvents.f (k : Nat) (a0 a1 : Int) (a2 a3 : Bool) (a4 a5 : LI) (a6 a7 : Int) (a8 : LI) (a9 : Bool) (a10 : LI) (a11 a12 : Int) (a13 a14 : Bool) (a15 a16 : LI) (a17 a18 : Int) (a19 : LL) (a20 a21 : LI) (a22 a23 a24 : Int) (a25 : LI) (a26 : LL) (g : List (List Leaf)) : Option (Int × Int × Bool × Bool × LI × LI × Int × Int × LI × Bool × LI × Int × Int × Bool × Bool × LI × LI × Int × Int × LL × LI × LI × Int × Int × Int × LI × LL) :=
 (spec_l33Copy.f k a0 a1 a2 a3 a4 a5 a6 a7 a8 a9 a10 a11 a12 a13 a14 a15 a16 a17 a18 a19 a20 a21 a22 a23 a24 a25 a26).bind fun r1 =>
 spec_RunEvents.l3 k g (fun x3 x4 x5 x6 x7 x8 x9 x10 x11 x12 x13 x14 x15 x16 x17 x18 x19 x20 x21 x22 x23 x24 x25 x26 x27 x28 x29 =>
  some (x3, x4, x5, x6, x19, x20, x7, x8, x21, x9, x22, x10, x11, x12, x13, x23, x24, x14, x15, x25, x26, x27, x16, x17, x18, x28, x29)) k 0 r1.1 r1.2.1 (t2 r1).1 (t3 r1).1 (t6 r1).1 (t7 r1).1 (t9 r1).1 (t9 (t2 r1)).1 (t9 (t3 r1)).1 (t9 (t4 r1)).1 (t9 (t5 r1)).1 (t9 (t8 r1)).1 (t9 (t9 r1)).1 (t9 (t9 (t4 r1))).1 (t9 (t9 (t5 r1))).1 (t9 (t9 (t6 r1))).1 (t4 r1).1 (t5 r1).1 (t8 r1).1 (t9 r1.2).1 (t9 (t6 r1)).1 (t9 (t7 r1)).1 (t9 (t9 r1.2)).1 (t9 (t9 (t2 r1))).1 (t9 (t9 (t3 r1))).1 (t9 (t9 (t7 r1))).1 (t9 (t9 (t8 r1)))

def spec_DrawRunEvents.s7 {R : Type} (k : Nat) (v20 : Int) (e0 : LI → Int → Int → LI → Option R) (rec : Int → LI → Int → Int → LI → Option R) (v0 : Int) (v17 : LI) (v18 v19 : Int) (v55 : LI) : Option R :=
 bif decide (v0 < v20) then
  (spec_l1Below.f k v17 v18 v19 999).bind fun r5 =>
  chk (decide ((v55.length + 1) * 8 ≤ room)) <|
  rec (IntKind.wrap .i64 (v0 + 1)) r5.2.1 (t2 r5).1 (t3 r5) (v55 ++ [r5.1])
 else
  e0 v17 v18 v19 v55
def spec_DrawRunEvents.l7 {R : Type} (k : Nat) (v20 : Int) (e0 : LI → Int → Int → LI → Option R) (n : Nat) (v0 : Int) (v17 : LI) (v18 v19 : Int) (v55 : LI) : Option R :=
 V.iter (A := Int × LI × Int × Int × LI) (fun rec a => spec_DrawRunEvents.s7 k v20 e0 (fun c0 c1 c2 c3 c4 => rec (c0, c1, c2, c3, c4)) a.1 a.2.1 (t2 a).1 (t3 a).1 (t4 a)) n (v0, v17, v18, v19, v55)
theorem spec_DrawRunEvents.l7_succ {R : Type} (k : Nat) (v20 : Int) (e0 : LI → Int → Int → LI → Option R) (n : Nat) (v0 : Int) (v17 : LI) (v18 v19 : Int) (v55 : LI) : spec_DrawRunEvents.l7 (R := R) k v20 e0 (n + 1) v0 v17 v18 v19 v55 = spec_DrawRunEvents.s7 k v20 e0 (spec_DrawRunEvents.l7 k v20 e0 n) v0 v17 v18 v19 v55 := rfl
def spec_DrawRunEvents.s13 {R : Type} (k : Nat) (e0 : List (List Leaf) → Option R) (rec : Int → LI → Int → Int → List (List Leaf) → Int → Int → Bool → Bool → Int → Int → Bool → Int → Int → Bool → Bool → Int → Int → Int → Int → Int → LI → LI → LI → LI → LI → LI → LL → LI → LI → LI → LL → Option R) (v0 : Int) (v17 : LI) (v18 v19 : Int) (v47 : List (List Leaf)) (v48 v49 : Int) (v50 v51 : Bool) (v52 v53 : Int) (v54 : Bool) (v55 v56 : Int) (v57 v58 : Bool) (v59 v60 v61 v62 v63 : Int) (v64 v65 v66 v67 v68 v69 : LI) (v70 : LL) (v71 v72 v73 : LI) (v74 : LL) : Option R :=
 bif decide (v0 > 0) then
  (spec_l1Int.f k v17 v18 v19 [3, 3, 3, 3, 4, 4, 5, 1]).bind fun r13 =>
  (spec_l4Card.f k r13.2.1 (t2 r13).1 (t3 r13)).bind fun r14 =>
  (spec_Playable.f k v55 v56 v57 v58 v68 v69 v59 v60 v70 v71 v72 v61 v62 v63).bind fun r15 =>
  bif (r13.1 == 3) then
   bif decide ((r15.length : Int) > 0) then
    (spec_l1Once.f k r14.2.1 (t2 r14).1 (t3 r14) 6).bind fun r16 =>
    bif (!r16.1) then
     (spec_l1Below.f k r16.2.1 (t2 r16).1 (t3 r16) (r15.length : Int)).bind fun r17 =>
     chk ((decide (0 ≤ r17.1)) && (decide (r17.1 < (r15.length : Int)))) <|
     chk (decide ((v47.length + 1) * 64 ≤ room)) <|
     (spec_ApplyEvent.f k v48 v49 v50 v51 v64 v65 v52 v53 v66 v54 v67 v55 v56 v57 v58 v68 v69 v59 v60 v70 v71 v72 v61 v62 v63 v73 v74 r13.1 (r15.getD r17.1.toNat 0) [] []).bind fun r18 =>
     rec (IntKind.wrap .i64 (v0 - 1)) r17.2.1 (t2 r17).1 (t3 r17) (v47 ++ ([[.int r13.1, .int (r15.getD r17.1.toNat 0), .ints [], .ints []]])) r18.1 r18.2.1 (t2 r18).1 (t3 r18).1 (t6 r18).1 (t7 r18).1 (t9 r18).1 (t9 (t2 r18)).1 (t9 (t3 r18)).1 (t9 (t4 r18)).1 (t9 (t5 r18)).1 (t9 (t8 r18)).1 (t9 (t9 r18)).1 (t9 (t9 (t4 r18))).1 (t9 (t9 (t5 r18))).1 (t9 (t9 (t6 r18))).1 (t4 r18).1 (t5 r18).1 (t8 r18).1 (t9 r18.2).1 (t9 (t6 r18)).1 (t9 (t7 r18)).1 (t9 (t9 r18.2)).1 (t9 (t9 (t2 r18))).1 (t9 (t9 (t3 r18))).1 (t9 (t9 (t7 r18))).1 (t9 (t9 (t8 r18))).1
    else
     chk (decide ((v47.length + 1) * 64 ≤ room)) <|
     (spec_ApplyEvent.f k v48 v49 v50 v51 v64 v65 v52 v53 v66 v54 v67 v55 v56 v57 v58 v68 v69 v59 v60 v70 v71 v72 v61 v62 v63 v73 v74 r13.1 r14.1 [] []).bind fun r19 =>
     rec (IntKind.wrap .i64 (v0 - 1)) r16.2.1 (t2 r16).1 (t3 r16) (v47 ++ ([[.int r13.1, .int r14.1, .ints [], .ints []]])) r19.1 r19.2.1 (t2 r19).1 (t3 r19).1 (t6 r19).1 (t7 r19).1 (t9 r19).1 (t9 (t2 r19)).1 (t9 (t3 r19)).1 (t9 (t4 r19)).1 (t9 (t5 r19)).1 (t9 (t8 r19)).1 (t9 (t9 r19)).1 (t9 (t9 (t4 r19))).1 (t9 (t9 (t5 r19))).1 (t9 (t9 (t6 r19))).1 (t4 r19).1 (t5 r19).1 (t8 r19).1 (t9 r19.2).1 (t9 (t6 r19)).1 (t9 (t7 r19)).1 (t9 (t9 r19.2)).1 (t9 (t9 (t2 r19))).1 (t9 (t9 (t3 r19))).1 (t9 (t9 (t7 r19))).1 (t9 (t9 (t8 r19))).1
   else
    chk (decide ((v47.length + 1) * 64 ≤ room)) <|
    (spec_ApplyEvent.f k v48 v49 v50 v51 v64 v65 v52 v53 v66 v54 v67 v55 v56 v57 v58 v68 v69 v59 v60 v70 v71 v72 v61 v62 v63 v73 v74 r13.1 r14.1 [] []).bind fun r20 =>
    rec (IntKind.wrap .i64 (v0 - 1)) r14.2.1 (t2 r14).1 (t3 r14) (v47 ++ ([[.int r13.1, .int r14.1, .ints [], .ints []]])) r20.1 r20.2.1 (t2 r20).1 (t3 r20).1 (t6 r20).1 (t7 r20).1 (t9 r20).1 (t9 (t2 r20)).1 (t9 (t3 r20)).1 (t9 (t4 r20)).1 (t9 (t5 r20)).1 (t9 (t8 r20)).1 (t9 (t9 r20)).1 (t9 (t9 (t4 r20))).1 (t9 (t9 (t5 r20))).1 (t9 (t9 (t6 r20))).1 (t4 r20).1 (t5 r20).1 (t8 r20).1 (t9 r20.2).1 (t9 (t6 r20)).1 (t9 (t7 r20)).1 (t9 (t9 r20.2)).1 (t9 (t9 (t2 r20))).1 (t9 (t9 (t3 r20))).1 (t9 (t9 (t7 r20))).1 (t9 (t9 (t8 r20))).1
  else
   chk (decide ((v47.length + 1) * 64 ≤ room)) <|
   (spec_ApplyEvent.f k v48 v49 v50 v51 v64 v65 v52 v53 v66 v54 v67 v55 v56 v57 v58 v68 v69 v59 v60 v70 v71 v72 v61 v62 v63 v73 v74 r13.1 r14.1 [] []).bind fun r21 =>
   rec (IntKind.wrap .i64 (v0 - 1)) r14.2.1 (t2 r14).1 (t3 r14) (v47 ++ ([[.int r13.1, .int r14.1, .ints [], .ints []]])) r21.1 r21.2.1 (t2 r21).1 (t3 r21).1 (t6 r21).1 (t7 r21).1 (t9 r21).1 (t9 (t2 r21)).1 (t9 (t3 r21)).1 (t9 (t4 r21)).1 (t9 (t5 r21)).1 (t9 (t8 r21)).1 (t9 (t9 r21)).1 (t9 (t9 (t4 r21))).1 (t9 (t9 (t5 r21))).1 (t9 (t9 (t6 r21))).1 (t4 r21).1 (t5 r21).1 (t8 r21).1 (t9 r21.2).1 (t9 (t6 r21)).1 (t9 (t7 r21)).1 (t9 (t9 r21.2)).1 (t9 (t9 (t2 r21))).1 (t9 (t9 (t3 r21))).1 (t9 (t9 (t7 r21))).1 (t9 (t9 (t8 r21))).1
 else
  e0 v47
def spec_DrawRunEvents.l13 {R : Type} (k : Nat) (e0 : List (List Leaf) → Option R) (n : Nat) (v0 : Int) (v17 : LI) (v18 v19 : Int) (v47 : List (List Leaf)) (v48 v49 : Int) (v50 v51 : Bool) (v52 v53 : Int) (v54 : Bool) (v55 v56 : Int) (v57 v58 : Bool) (v59 v60 v61 v62 v63 : Int) (v64 v65 v66 v67 v68 v69 : LI) (v70 : LL) (v71 v72 v73 : LI) (v74 : LL) : Option R :=
 V.iter (A := Int × LI × Int × Int × List (List Leaf) × Int × Int × Bool × Bool × Int × Int × Bool × Int × Int × Bool × Bool × Int × Int × Int × Int × Int × LI × LI × LI × LI × LI × LI × LL × LI × LI × LI × LL) (fun rec a => spec_DrawRunEvents.s13 k e0 (fun c0 c1 c2 c3 c4 c5 c6 c7 c8 c9 c10 c11 c12 c13 c14 c15 c16 c17 c18 c19 c20 c21 c22 c23 c24 c25 c26 c27 c28 c29 c30 c31 => rec (c0, c1, c2, c3, c4, c5, c6, c7, c8, c9, c10, c11, c12, c13, c14, c15, c16, c17, c18, c19, c20, c21, c22, c23, c24, c25, c26, c27, c28, c29, c30, c31)) a.1 a.2.1 (t2 a).1 (t3 a).1 (t4 a).1 (t5 a).1 (t6 a).1 (t7 a).1 (t8 a).1 (t9 a).1 (t9 a.2).1 (t9 (t2 a)).1 (t9 (t3 a)).1 (t9 (t4 a)).1 (t9 (t5 a)).1 (t9 (t6 a)).1 (t9 (t7 a)).1 (t9 (t8 a)).1 (t9 (t9 a)).1 (t9 (t9 a.2)).1 (t9 (t9 (t2 a))).1 (t9 (t9 (t3 a))).1 (t9 (t9 (t4 a))).1 (t9 (t9 (t5 a))).1 (t9 (t9 (t6 a))).1 (t9 (t9 (t7 a))).1 (t9 (t9 (t8 a))).1 (t9 (t9 (t9 a))).1 (t9 (t9 (t9 a.2))).1 (t9 (t9 (t9 (t2 a)))).1 (t9 (t9 (t9 (t3 a)))).1 (t9 (t9 (t9 (t4 a))))) n (v0, v17, v18, v19, v47, v48, v49, v50, v51, v52, v53, v54, v55, v56, v57, v58, v59, v60, v61, v62, v63, v64, v65, v66, v67, v68, v69, v70, v71, v72, v73, v74)
theorem spec_DrawRunEvents.l13_succ {R : Type} (k : Nat) (e0 : List (List Leaf) → Option R) (n : Nat) (v0 : Int) (v17 : LI) (v18 v19 : Int) (v47 : List (List Leaf)) (v48 v49 : Int) (v50 v51 : Bool) (v52 v53 : Int) (v54 : Bool) (v55 v56 : Int) (v57 v58 : Bool) (v59 v60 v61 v62 v63 : Int) (v64 v65 v66 v67 v68 v69 : LI) (v70 : LL) (v71 v72 v73 : LI) (v74 : LL) : spec_DrawRunEvents.l13 (R := R) k e0 (n + 1) v0 v17 v18 v19 v47 v48 v49 v50 v51 v52 v53 v54 v55 v56 v57 v58 v59 v60 v61 v62 v63 v64 v65 v66 v67 v68 v69 v70 v71 v72 v73 v74 = spec_DrawRunEvents.s13 k e0 (spec_DrawRunEvents.l13 k e0 n) v0 v17 v18 v19 v47 v48 v49 v50 v51 v52 v53 v54 v55 v56 v57 v58 v59 v60 v61 v62 v63 v64 v65 v66 v67 v68 v69 v70 v71 v72 v73 v74 := rfl
def spec_DrawRunEvents.f (k : Nat) (a : LI) : Option (Int × Int × Bool × Bool × LI × LI × Int × Int × LI × Bool × LI × Int × Int × Bool × Bool × LI × LI × Int × Int × LL × LI × LI × Int × Int × Int × LI × LL × List (List Leaf)) :=
 (spec_l1New.f k a).bind fun r1 =>
 (spec_l22Draw.f k r1.1 r1.2.1 (t2 r1)).bind fun r2 =>
 (spec_l1Below.f k (t8 r2).1 (t9 r2).1 (t9 r2.2) 12).bind fun r3 =>
 (spec_NewTable.f k r2.1 r2.2.1 (t2 r2).1 (t3 r2).1 (t4 r2).1 (t5 r2).1 (t6 r2).1 (IntKind.wrap .i64 (1 + r3.1))).bind fun r4 =>
 spec_DrawRunEvents.l7 k r2.1 (fun x6 x7 x8 x9 =>
  (spec_DealEvents.f k r2.1 r2.2.1 (t2 r2).1 (t3 r2).1 (t4 r2).1 (t5 r2).1 (t6 r2).1 (IntKind.wrap .i64 (1 + r3.1)) x9 5).bind fun r10 =>
  (spec_RunEvents.f k r4.1 r4.2.1 (t2 r4).1 (t3 r4).1 (t4 r4).1 (t5 r4).1 (t6 r4).1 (t7 r4).1 (t8 r4).1 (t9 r4).1 (t9 r4.2).1 (t9 (t2 r4)).1 (t9 (t3 r4)).1 (t9 (t4 r4)).1 (t9 (t5 r4)).1 (t9 (t6 r4)).1 (t9 (t7 r4)).1 (t9 (t8 r4)).1 (t9 (t9 r4)).1 (t9 (t9 r4.2)).1 (t9 (t9 (t2 r4))).1 (t9 (t9 (t3 r4))).1 (t9 (t9 (t4 r4))).1 (t9 (t9 (t5 r4))).1 (t9 (t9 (t6 r4))).1 (t9 (t9 (t7 r4))).1 (t9 (t9 (t8 r4))).1 r10).bind fun r11 =>
  (spec_l1Below.f k x6 x7 x8 16).bind fun r12 =>
  spec_DrawRunEvents.l13 k (fun x22 =>
   some (r4.1, r4.2.1, (t2 r4).1, (t3 r4).1, (t4 r4).1, (t5 r4).1, (t6 r4).1, (t7 r4).1, (t8 r4).1, (t9 r4).1, (t9 r4.2).1, (t9 (t2 r4)).1, (t9 (t3 r4)).1, (t9 (t4 r4)).1, (t9 (t5 r4)).1, (t9 (t6 r4)).1, (t9 (t7 r4)).1, (t9 (t8 r4)).1, (t9 (t9 r4)).1, (t9 (t9 r4.2)).1, (t9 (t9 (t2 r4))).1, (t9 (t9 (t3 r4))).1, (t9 (t9 (t4 r4))).1, (t9 (t9 (t5 r4))).1, (t9 (t9 (t6 r4))).1, (t9 (t9 (t7 r4))).1, (t9 (t9 (t8 r4))).1, x22)) k r12.1 r12.2.1 (t2 r12).1 (t3 r12) r10 r11.1 r11.2.1 (t2 r11).1 (t3 r11).1 (t6 r11).1 (t7 r11).1 (t9 r11).1 (t9 (t2 r11)).1 (t9 (t3 r11)).1 (t9 (t4 r11)).1 (t9 (t5 r11)).1 (t9 (t8 r11)).1 (t9 (t9 r11)).1 (t9 (t9 (t4 r11))).1 (t9 (t9 (t5 r11))).1 (t9 (t9 (t6 r11))).1 (t4 r11).1 (t5 r11).1 (t8 r11).1 (t9 r11.2).1 (t9 (t6 r11)).1 (t9 (t7 r11)).1 (t9 (t9 r11.2)).1 (t9 (t9 (t2 r11))).1 (t9 (t9 (t3 r11))).1 (t9 (t9 (t7 r11))).1 (t9 (t9 (t8 r11)))) k 0 r3.2.1 (t2 r3).1 (t3 r3) []

def impl_Table_copied.f (k : Nat) (a0 a1 : Int) (a2 a3 : Bool) (a4 a5 : LI) (a6 a7 : Int) (a8 : LI) (a9 : Bool) (a10 : LI) (a11 a12 : Int) (a13 a14 : Bool) (a15 a16 : LI) (a17 a18 : Int) (a19 : LL) (a20 a21 : LI) (a22 a23 a24 : Int) (a25 : LI) (a26 : LL) : Option (Int × Int × Bool × Bool × LI × LI × Int × Int × LI × Bool × LI × Int × Int × Bool × Bool × LI × LI × Int × Int × LL × LI × LI × Int × Int × Int × LI × LL) :=
 (impl_Rules_copied.f k a0 a1 a2 a3 a4 a5 a6 a7).bind fun r1 =>
 (impl_copyOf.f k a8).bind fun r2 =>
 (impl_copyOf.f k a10).bind fun r3 =>
 (impl_Game_copied.f k a11 a12 a13 a14 a15 a16 a17 a18 a19 a20 a21 a22 a23 a24).bind fun r4 =>
 (impl_copyOf.f k a25).bind fun r5 =>
 (impl_copyRows.f k a26).bind fun r6 =>
 some (r1.1, r1.2.1, (t2 r1).1, (t3 r1).1, (t4 r1).1, (t5 r1).1, (t6 r1).1, (t7 r1), r2, a9, r3, r4.1, r4.2.1, (t2 r4).1, (t3 r4).1, (t4 r4).1, (t5 r4).1, (t6 r4).1, (t7 r4).1, (t8 r4).1, (t9 r4).1, (t9 r4.2).1, (t9 (t2 r4)).1, (t9 (t3 r4)).1, (t9 (t4 r4)), r5, r6)

def impl_Table_becomes.f (k : Nat) (a0 a1 : Int) (a2 a3 : Bool) (a4 a5 : LI) (a6 a7 : Int) (a8 : LI) (a9 : Bool) (a10 : LI) (a11 a12 : Int) (a13 a14 : Bool) (a15 a16 : LI) (a17 a18 : Int) (a19 : LL) (a20 a21 : LI) (a22 a23 a24 : Int) (a25 : LI) (a26 : LL) (g0 g1 : Int) (g2 g3 : Bool) (g4 g5 : LI) (g6 g7 : Int) (g8 : LI) (g9 : Bool) (g10 : LI) (g11 g12 : Int) (g13 g14 : Bool) (g15 g16 : LI) (g17 g18 : Int) (g19 : LL) (g20 g21 : LI) (g22 g23 g24 : Int) (g25 : LI) (g26 : LL) (i : Bool) : Option (Int × Int × Bool × Bool × LI × LI × Int × Int × LI × Bool × LI × Int × Int × Bool × Bool × LI × LI × Int × Int × LL × LI × LI × Int × Int × Int × LI × LL × Bool) :=
 bif (!i) then
  (impl_Table_copied.f k a0 a1 a2 a3 a4 a5 a6 a7 a8 a9 a10 a11 a12 a13 a14 a15 a16 a17 a18 a19 a20 a21 a22 a23 a24 a25 a26).bind fun r1 =>
  some (r1.1, r1.2.1, (t2 r1).1, (t3 r1).1, (t4 r1).1, (t5 r1).1, (t6 r1).1, (t7 r1).1, (t8 r1).1, (t9 r1).1, (t9 r1.2).1, (t9 (t2 r1)).1, (t9 (t3 r1)).1, (t9 (t4 r1)).1, (t9 (t5 r1)).1, (t9 (t6 r1)).1, (t9 (t7 r1)).1, (t9 (t8 r1)).1, (t9 (t9 r1)).1, (t9 (t9 r1.2)).1, (t9 (t9 (t2 r1))).1, (t9 (t9 (t3 r1))).1, (t9 (t9 (t4 r1))).1, (t9 (t9 (t5 r1))).1, (t9 (t9 (t6 r1))).1, (t9 (t9 (t7 r1))).1, (t9 (t9 (t8 r1))), false)
 else
  (impl_IsTable.f k a0 a1 a2 a3 a4 a5 a6 a7 a8 a9 a10 a11 a12 a13 a14 a15 a16 a17 a18 a19 a20 a21 a22 a23 a24 a25 a26).bind fun r2 =>
  bif (!r2) then
   (impl_Table_copied.f k a0 a1 a2 a3 a4 a5 a6 a7 a8 a9 a10 a11 a12 a13 a14 a15 a16 a17 a18 a19 a20 a21 a22 a23 a24 a25 a26).bind fun r3 =>
   some (r3.1, r3.2.1, (t2 r3).1, (t3 r3).1, (t4 r3).1, (t5 r3).1, (t6 r3).1, (t7 r3).1, (t8 r3).1, (t9 r3).1, (t9 r3.2).1, (t9 (t2 r3)).1, (t9 (t3 r3)).1, (t9 (t4 r3)).1, (t9 (t5 r3)).1, (t9 (t6 r3)).1, (t9 (t7 r3)).1, (t9 (t8 r3)).1, (t9 (t9 r3)).1, (t9 (t9 r3.2)).1, (t9 (t9 (t2 r3))).1, (t9 (t9 (t3 r3))).1, (t9 (t9 (t4 r3))).1, (t9 (t9 (t5 r3))).1, (t9 (t9 (t6 r3))).1, (t9 (t9 (t7 r3))).1, (t9 (t9 (t8 r3))), false)
  else
   (impl_IsTable.f k g0 g1 g2 g3 g4 g5 g6 g7 g8 g9 g10 g11 g12 g13 g14 g15 g16 g17 g18 g19 g20 g21 g22 g23 g24 g25 g26).bind fun r4 =>
   bif (!r4) then
    (impl_Table_copied.f k a0 a1 a2 a3 a4 a5 a6 a7 a8 a9 a10 a11 a12 a13 a14 a15 a16 a17 a18 a19 a20 a21 a22 a23 a24 a25 a26).bind fun r5 =>
    some (r5.1, r5.2.1, (t2 r5).1, (t3 r5).1, (t4 r5).1, (t5 r5).1, (t6 r5).1, (t7 r5).1, (t8 r5).1, (t9 r5).1, (t9 r5.2).1, (t9 (t2 r5)).1, (t9 (t3 r5)).1, (t9 (t4 r5)).1, (t9 (t5 r5)).1, (t9 (t6 r5)).1, (t9 (t7 r5)).1, (t9 (t8 r5)).1, (t9 (t9 r5)).1, (t9 (t9 r5.2)).1, (t9 (t9 (t2 r5))).1, (t9 (t9 (t3 r5))).1, (t9 (t9 (t4 r5))).1, (t9 (t9 (t5 r5))).1, (t9 (t9 (t6 r5))).1, (t9 (t9 (t7 r5))).1, (t9 (t9 (t8 r5))), false)
   else
    some (g0, g1, g2, g3, g4, g5, g6, g7, g8, g9, g10, g11, g12, g13, g14, g15, g16, g17, g18, g19, g20, g21, g22, g23, g24, g25, g26, true)

def impl_stepMove.f (k : Nat) (a0 a1 : Int) (a2 a3 : Bool) (a4 a5 : LI) (a6 a7 : Int) (a8 : LI) (a9 : Bool) (a10 : LI) (a11 a12 : Int) (a13 a14 : Bool) (a15 a16 : LI) (a17 a18 : Int) (a19 : LL) (a20 a21 : LI) (a22 a23 a24 : Int) (a25 : LI) (a26 : LL) (g : Int) : Option (Int × Int × Bool × Bool × LI × LI × Int × Int × LI × Bool × LI × Int × Int × Bool × Bool × LI × LI × Int × Int × LL × LI × LI × Int × Int × Int × LI × LL × Bool) :=
 (impl_Table_copied.f k a0 a1 a2 a3 a4 a5 a6 a7 a8 a9 a10 a11 a12 a13 a14 a15 a16 a17 a18 a19 a20 a21 a22 a23 a24 a25 a26).bind fun r1 =>
 (impl_ReplayMove.f k a11 a12 a13 a14 a15 a16 a17 a18 a19 a20 a21 a22 a23 a24 g).bind fun r2 =>
 chk (decide (((t9 (t9 (t7 r1))).1.length + 1) * 8 ≤ room)) <|
 bif a9 then
  (impl_Table_becomes.f k a0 a1 a2 a3 a4 a5 a6 a7 a8 a9 a10 a11 a12 a13 a14 a15 a16 a17 a18 a19 a20 a21 a22 a23 a24 a25 a26 r1.1 r1.2.1 (t2 r1).1 (t3 r1).1 (t4 r1).1 (t5 r1).1 (t6 r1).1 (t7 r1).1 (t8 r1).1 (t9 r1).1 (t9 r1.2).1 r2.1 r2.2.1 (t2 r2).1 (t3 r2).1 (t4 r2).1 (t5 r2).1 (t6 r2).1 (t7 r2).1 (t8 r2).1 (t9 r2).1 (t9 r2.2).1 (t9 (t2 r2)).1 (t9 (t3 r2)).1 (t9 (t4 r2)).1 ((t9 (t9 (t7 r1))).1 ++ [g]) (t9 (t9 (t8 r1))) (t9 (t5 r2))).bind fun r3 =>
  some (r3.1, r3.2.1, (t2 r3).1, (t3 r3).1, (t4 r3).1, (t5 r3).1, (t6 r3).1, (t7 r3).1, (t8 r3).1, (t9 r3).1, (t9 r3.2).1, (t9 (t2 r3)).1, (t9 (t3 r3)).1, (t9 (t4 r3)).1, (t9 (t5 r3)).1, (t9 (t6 r3)).1, (t9 (t7 r3)).1, (t9 (t8 r3)).1, (t9 (t9 r3)).1, (t9 (t9 r3.2)).1, (t9 (t9 (t2 r3))).1, (t9 (t9 (t3 r3))).1, (t9 (t9 (t4 r3))).1, (t9 (t9 (t5 r3))).1, (t9 (t9 (t6 r3))).1, (t9 (t9 (t7 r3))).1, (t9 (t9 (t8 r3))).1, (t9 (t9 (t9 r3))))
 else
  (impl_Table_becomes.f k a0 a1 a2 a3 a4 a5 a6 a7 a8 a9 a10 a11 a12 a13 a14 a15 a16 a17 a18 a19 a20 a21 a22 a23 a24 a25 a26 r1.1 r1.2.1 (t2 r1).1 (t3 r1).1 (t4 r1).1 (t5 r1).1 (t6 r1).1 (t7 r1).1 (t8 r1).1 (t9 r1).1 (t9 r1.2).1 r2.1 r2.2.1 (t2 r2).1 (t3 r2).1 (t4 r2).1 (t5 r2).1 (t6 r2).1 (t7 r2).1 (t8 r2).1 (t9 r2).1 (t9 r2.2).1 (t9 (t2 r2)).1 (t9 (t3 r2)).1 (t9 (t4 r2)).1 ((t9 (t9 (t7 r1))).1 ++ [g]) (t9 (t9 (t8 r1))) false).bind fun r4 =>
  some (r4.1, r4.2.1, (t2 r4).1, (t3 r4).1, (t4 r4).1, (t5 r4).1, (t6 r4).1, (t7 r4).1, (t8 r4).1, (t9 r4).1, (t9 r4.2).1, (t9 (t2 r4)).1, (t9 (t3 r4)).1, (t9 (t4 r4)).1, (t9 (t5 r4)).1, (t9 (t6 r4)).1, (t9 (t7 r4)).1, (t9 (t8 r4)).1, (t9 (t9 r4)).1, (t9 (t9 r4.2)).1, (t9 (t9 (t2 r4))).1, (t9 (t9 (t3 r4))).1, (t9 (t9 (t4 r4))).1, (t9 (t9 (t5 r4))).1, (t9 (t9 (t6 r4))).1, (t9 (t9 (t7 r4))).1, (t9 (t9 (t8 r4))).1, (t9 (t9 (t9 r4))))

def impl_StepTake.f (k : Nat) (a0 a1 : Int) (a2 a3 : Bool) (a4 a5 : LI) (a6 a7 : Int) (a8 : LI) (a9 : Bool) (a10 : LI) (a11 a12 : Int) (a13 a14 : Bool) (a15 a16 : LI) (a17 a18 : Int) (a19 : LL) (a20 a21 : LI) (a22 a23 a24 : Int) (a25 : LI) (a26 : LL) : Option (Int × Int × Bool × Bool × LI × LI × Int × Int × LI × Bool × LI × Int × Int × Bool × Bool × LI × LI × Int × Int × LL × LI × LI × Int × Int × Int × LI × LL × Bool) :=
 (impl_stepMove.f k a0 a1 a2 a3 a4 a5 a6 a7 a8 a9 a10 a11 a12 a13 a14 a15 a16 a17 a18 a19 a20 a21 a22 a23 a24 a25 a26 (-1)).bind fun r1 =>
 some (r1.1, r1.2.1, (t2 r1).1, (t3 r1).1, (t4 r1).1, (t5 r1).1, (t6 r1).1, (t7 r1).1, (t8 r1).1, (t9 r1).1, (t9 r1.2).1, (t9 (t2 r1)).1, (t9 (t3 r1)).1, (t9 (t4 r1)).1, (t9 (t5 r1)).1, (t9 (t6 r1)).1, (t9 (t7 r1)).1, (t9 (t8 r1)).1, (t9 (t9 r1)).1, (t9 (t9 r1.2)).1, (t9 (t9 (t2 r1))).1, (t9 (t9 (t3 r1))).1, (t9 (t9 (t4 r1))).1, (t9 (t9 (t5 r1))).1, (t9 (t9 (t6 r1))).1, (t9 (t9 (t7 r1))).1, (t9 (t9 (t8 r1))).1, (t9 (t9 (t9 r1))))

def impl_StepSeal.f (k : Nat) (a0 a1 : Int) (a2 a3 : Bool) (a4 a5 : LI) (a6 a7 : Int) (a8 : LI) (a9 : Bool) (a10 : LI) (a11 a12 : Int) (a13 a14 : Bool) (a15 a16 : LI) (a17 a18 : Int) (a19 : LL) (a20 a21 : LI) (a22 a23 a24 : Int) (a25 : LI) (a26 : LL) (g : Int) : Option (Int × Int × Bool × Bool × LI × LI × Int × Int × LI × Bool × LI × Int × Int × Bool × Bool × LI × LI × Int × Int × LL × LI × LI × Int × Int × Int × LI × LL × Bool) :=
 (impl_Table_copied.f k a0 a1 a2 a3 a4 a5 a6 a7 a8 a9 a10 a11 a12 a13 a14 a15 a16 a17 a18 a19 a20 a21 a22 a23 a24 a25 a26).bind fun r1 =>
 chk (decide (((t8 r1).1.length + 1) * 8 ≤ room)) <|
 bif (!a9) then
  (impl_Table_becomes.f k a0 a1 a2 a3 a4 a5 a6 a7 a8 a9 a10 a11 a12 a13 a14 a15 a16 a17 a18 a19 a20 a21 a22 a23 a24 a25 a26 r1.1 r1.2.1 (t2 r1).1 (t3 r1).1 (t4 r1).1 (t5 r1).1 (t6 r1).1 (t7 r1).1 ((t8 r1).1 ++ [g]) (t9 r1).1 (t9 r1.2).1 (t9 (t2 r1)).1 (t9 (t3 r1)).1 (t9 (t4 r1)).1 (t9 (t5 r1)).1 (t9 (t6 r1)).1 (t9 (t7 r1)).1 (t9 (t8 r1)).1 (t9 (t9 r1)).1 (t9 (t9 r1.2)).1 (t9 (t9 (t2 r1))).1 (t9 (t9 (t3 r1))).1 (t9 (t9 (t4 r1))).1 (t9 (t9 (t5 r1))).1 (t9 (t9 (t6 r1))).1 (t9 (t9 (t7 r1))).1 (t9 (t9 (t8 r1))) (decide ((a8.length : Int) < a0))).bind fun r2 =>
  some (r2.1, r2.2.1, (t2 r2).1, (t3 r2).1, (t4 r2).1, (t5 r2).1, (t6 r2).1, (t7 r2).1, (t8 r2).1, (t9 r2).1, (t9 r2.2).1, (t9 (t2 r2)).1, (t9 (t3 r2)).1, (t9 (t4 r2)).1, (t9 (t5 r2)).1, (t9 (t6 r2)).1, (t9 (t7 r2)).1, (t9 (t8 r2)).1, (t9 (t9 r2)).1, (t9 (t9 r2.2)).1, (t9 (t9 (t2 r2))).1, (t9 (t9 (t3 r2))).1, (t9 (t9 (t4 r2))).1, (t9 (t9 (t5 r2))).1, (t9 (t9 (t6 r2))).1, (t9 (t9 (t7 r2))).1, (t9 (t9 (t8 r2))).1, (t9 (t9 (t9 r2))))
 else
  (impl_Table_becomes.f k a0 a1 a2 a3 a4 a5 a6 a7 a8 a9 a10 a11 a12 a13 a14 a15 a16 a17 a18 a19 a20 a21 a22 a23 a24 a25 a26 r1.1 r1.2.1 (t2 r1).1 (t3 r1).1 (t4 r1).1 (t5 r1).1 (t6 r1).1 (t7 r1).1 ((t8 r1).1 ++ [g]) (t9 r1).1 (t9 r1.2).1 (t9 (t2 r1)).1 (t9 (t3 r1)).1 (t9 (t4 r1)).1 (t9 (t5 r1)).1 (t9 (t6 r1)).1 (t9 (t7 r1)).1 (t9 (t8 r1)).1 (t9 (t9 r1)).1 (t9 (t9 r1.2)).1 (t9 (t9 (t2 r1))).1 (t9 (t9 (t3 r1))).1 (t9 (t9 (t4 r1))).1 (t9 (t9 (t5 r1))).1 (t9 (t9 (t6 r1))).1 (t9 (t9 (t7 r1))).1 (t9 (t9 (t8 r1))) false).bind fun r3 =>
  some (r3.1, r3.2.1, (t2 r3).1, (t3 r3).1, (t4 r3).1, (t5 r3).1, (t6 r3).1, (t7 r3).1, (t8 r3).1, (t9 r3).1, (t9 r3.2).1, (t9 (t2 r3)).1, (t9 (t3 r3)).1, (t9 (t4 r3)).1, (t9 (t5 r3)).1, (t9 (t6 r3)).1, (t9 (t7 r3)).1, (t9 (t8 r3)).1, (t9 (t9 r3)).1, (t9 (t9 r3.2)).1, (t9 (t9 (t2 r3))).1, (t9 (t9 (t3 r3))).1, (t9 (t9 (t4 r3))).1, (t9 (t9 (t5 r3))).1, (t9 (t9 (t6 r3))).1, (t9 (t9 (t7 r3))).1, (t9 (t9 (t8 r3))).1, (t9 (t9 (t9 r3))))

def impl_Mod.f (k : Nat) (a g : Int) : Option (Int) :=
 (impl_InRange.f k g 1 1000000000000).bind fun r1 =>
 bif (!r1) then
  some 0
 else
  chk (!(decide (g = 0))) <|
  chk (!(decide (g = 0))) <|
  some ((IntKind.wrap .i64 ((a.tmod g) + g)).tmod g)

def impl_Hash.s3 {R : Type} (k : Nat) (v1 : LI) (v2 : Int) (e0 : Int → Option R) (rec : Int → Int → Option R) (v0 v3 : Int) : Option R :=
 bif decide (v3 < v2) then
  chk ((decide (0 ≤ v3)) && (decide (v3 < (v1.length : Int)))) <|
  (impl_Mod.f k (v1.getD v3.toNat 0) 2147483647).bind fun r1 =>
  rec ((IntKind.wrap .i64 ((IntKind.wrap .i64 ((IntKind.wrap .i64 (v0 * 1000003)) + r1)) + 13)).tmod 2147483647) (IntKind.wrap .i64 (v3 + 1))
 else
  e0 v0
def impl_Hash.l3 {R : Type} (k : Nat) (v1 : LI) (v2 : Int) (e0 : Int → Option R) (n : Nat) (v0 v3 : Int) : Option R :=
 V.iter (A := Int × Int) (fun rec a => impl_Hash.s3 k v1 v2 e0 (fun c0 c1 => rec (c0, c1)) a.1 a.2) n (v0, v3)
theorem impl_Hash.l3_succ {R : Type} (k : Nat) (v1 : LI) (v2 : Int) (e0 : Int → Option R) (n : Nat) (v0 v3 : Int) : impl_Hash.l3 (R := R) k v1 v2 e0 (n + 1) v0 v3 = impl_Hash.s3 k v1 v2 e0 (impl_Hash.l3 k v1 v2 e0 n) v0 v3 := rfl
def impl_Hash.f (k : Nat) (a : LI) : Option (Int) :=
 impl_Hash.l3 k a (a.length : Int) (fun x2 =>
  some x2) k 11 0

def impl_Shuffled.s3 {R : Type} (k : Nat) (v0 : Int) (e0 : LI → Option R) (rec : Int → LI → Option R) (v1 : Int) (v2 : LI) : Option R :=
 bif decide (v1 ≥ 1) then
  (impl_Hash.f k [v0, v1]).bind fun r2 =>
  (impl_Mod.f k r2 (IntKind.wrap .i64 (v1 + 1))).bind fun r3 =>
  chk ((decide (0 ≤ r3)) && (decide (r3 < (v2.length : Int)))) <|
  chk ((decide (0 ≤ v1)) && (decide (v1 < (v2.length : Int)))) <|
  chk ((decide (0 ≤ v1)) && (decide (v1 < (v2.length : Int)))) <|
  chk ((decide (0 ≤ r3)) && (decide (r3 < ((v2.set v1.toNat (v2.getD r3.toNat 0)).length : Int)))) <|
  rec (IntKind.wrap .i64 (v1 - 1)) ((v2.set v1.toNat (v2.getD r3.toNat 0)).set r3.toNat (v2.getD v1.toNat 0))
 else
  e0 v2
def impl_Shuffled.l3 {R : Type} (k : Nat) (v0 : Int) (e0 : LI → Option R) (n : Nat) (v1 : Int) (v2 : LI) : Option R :=
 V.iter (A := Int × LI) (fun rec a => impl_Shuffled.s3 k v0 e0 (fun c0 c1 => rec (c0, c1)) a.1 a.2) n (v1, v2)
theorem impl_Shuffled.l3_succ {R : Type} (k : Nat) (v0 : Int) (e0 : LI → Option R) (n : Nat) (v1 : Int) (v2 : LI) : impl_Shuffled.l3 (R := R) k v0 e0 (n + 1) v1 v2 = impl_Shuffled.s3 k v0 e0 (impl_Shuffled.l3 k v0 e0 n) v1 v2 := rfl
def impl_Shuffled.f (k : Nat) (a : LI) (g : Int) : Option (LI) :=
 (impl_copyOf.f k a).bind fun r1 =>
 impl_Shuffled.l3 k g (fun x4 =>
  some x4) k (IntKind.wrap .i64 ((r1.length : Int) - 1)) r1

def impl_Missing.s3 {R : Type} (k : Nat) (v0 : LI) (e0 : LI → Option R) (rec : Int → LI → Option R) (v1 : Int) (v2 : LI) : Option R :=
 bif decide (v1 < 52) then
  (impl_HasCard.f k v0 v1).bind fun r1 =>
  bif (!r1) then
   chk (decide ((v2.length + 1) * 8 ≤ room)) <|
   rec (IntKind.wrap .i64 (v1 + 1)) (v2 ++ [v1])
  else
   rec (IntKind.wrap .i64 (v1 + 1)) v2
 else
  e0 v2
def impl_Missing.l3 {R : Type} (k : Nat) (v0 : LI) (e0 : LI → Option R) (n : Nat) (v1 : Int) (v2 : LI) : Option R :=
 V.iter (A := Int × LI) (fun rec a => impl_Missing.s3 k v0 e0 (fun c0 c1 => rec (c0, c1)) a.1 a.2) n (v1, v2)
theorem impl_Missing.l3_succ {R : Type} (k : Nat) (v0 : LI) (e0 : LI → Option R) (n : Nat) (v1 : Int) (v2 : LI) : impl_Missing.l3 (R := R) k v0 e0 (n + 1) v1 v2 = impl_Missing.s3 k v0 e0 (impl_Missing.l3 k v0 e0 n) v1 v2 := rfl
def impl_Missing.f (k : Nat) (a : LI) : Option (LI) :=
 impl_Missing.l3 k a (fun x2 =>
  some x2) k 0 []

def impl_FullDeck.f (k : Nat) : Option (LI) :=
 (impl_Missing.f k []).bind fun r1 =>
 some r1

def impl_SeedSeal.f (k : Nat) (a g i : Int) : Option (Int) :=
 (impl_Hash.f k [a, g, i]).bind fun r1 =>
 some r1

def impl_IsOpened.f (k : Nat) (a g i j : Int) : Option (Bool) :=
 (impl_InRange.f k g 0 1000000).bind fun r1 =>
 bif r1 then
  (impl_InRange.f k i 0 1000000).bind fun r2 =>
  bif r2 then
   (impl_SeedSeal.f k a g i).bind fun r3 =>
   some (r3 == j)
  else
   some false
 else
  some false

def impl_AreOpened.s5 {R : Type} (k : Nat) (v0 v1 v2 : LI) (v3 : Int) (e0 e1 : Option R) (rec : Int → Option R) (v4 : Int) : Option R :=
 bif decide (v4 < v3) then
  chk ((decide (0 ≤ v4)) && (decide (v4 < (v1.length : Int)))) <|
  chk ((decide (0 ≤ v4)) && (decide (v4 < (v2.length : Int)))) <|
  chk ((decide (0 ≤ v4)) && (decide (v4 < (v0.length : Int)))) <|
  (impl_IsOpened.f k v4 (v1.getD v4.toNat 0) (v2.getD v4.toNat 0) (v0.getD v4.toNat 0)).bind fun r2 =>
  bif (!r2) then
   e0
  else
   rec (IntKind.wrap .i64 (v4 + 1))
 else
  e1
def impl_AreOpened.l5 {R : Type} (k : Nat) (v0 v1 v2 : LI) (v3 : Int) (e0 e1 : Option R) (n : Nat) (v4 : Int) : Option R :=
 V.iter (A := Int) (fun rec a => impl_AreOpened.s5 k v0 v1 v2 v3 e0 e1 (fun c0 => rec c0) a) n v4
theorem impl_AreOpened.l5_succ {R : Type} (k : Nat) (v0 v1 v2 : LI) (v3 : Int) (e0 e1 : Option R) (n : Nat) (v4 : Int) : impl_AreOpened.l5 (R := R) k v0 v1 v2 v3 e0 e1 (n + 1) v4 = impl_AreOpened.s5 k v0 v1 v2 v3 e0 e1 (impl_AreOpened.l5 k v0 v1 v2 v3 e0 e1 n) v4 := rfl
def impl_AreOpened.f (k : Nat) (a g i : LI) : Option (Bool) :=
 (impl_InRange.f k (a.length : Int) 1 6).bind fun r1 =>
 bif (!r1) then
  some false
 else
  bif ((g.length : Int) != (a.length : Int)) then
   some false
  else
   bif ((i.length : Int) != (a.length : Int)) then
    some false
   else
    impl_AreOpened.l5 k a g i (a.length : Int) (some false) (some true) k 0

def impl_JointSeed.s3 {R : Type} (k : Nat) (v1 : LI) (v2 : Int) (e0 : Int → Option R) (rec : Int → Int → Option R) (v0 v3 : Int) : Option R :=
 bif decide (v3 < v2) then
  chk ((decide (0 ≤ v3)) && (decide (v3 < (v1.length : Int)))) <|
  (impl_Mod.f k (v1.getD v3.toNat 0) 1000001).bind fun r1 =>
  rec ((IntKind.wrap .i64 (v0 + r1)).tmod 1000001) (IntKind.wrap .i64 (v3 + 1))
 else
  e0 v0
def impl_JointSeed.l3 {R : Type} (k : Nat) (v1 : LI) (v2 : Int) (e0 : Int → Option R) (n : Nat) (v0 v3 : Int) : Option R :=
 V.iter (A := Int × Int) (fun rec a => impl_JointSeed.s3 k v1 v2 e0 (fun c0 c1 => rec (c0, c1)) a.1 a.2) n (v0, v3)
theorem impl_JointSeed.l3_succ {R : Type} (k : Nat) (v1 : LI) (v2 : Int) (e0 : Int → Option R) (n : Nat) (v0 v3 : Int) : impl_JointSeed.l3 (R := R) k v1 v2 e0 (n + 1) v0 v3 = impl_JointSeed.s3 k v1 v2 e0 (impl_JointSeed.l3 k v1 v2 e0 n) v0 v3 := rfl
def impl_JointSeed.f (k : Nat) (a : LI) : Option (Int) :=
 impl_JointSeed.l3 k a (a.length : Int) (fun x2 =>
  some x2) k 0 0

def impl_JointDeck.f (k : Nat) (a g i : LI) : Option (LI × Bool) :=
 (impl_AreOpened.f k a g i).bind fun r1 =>
 bif (!r1) then
  some ([], false)
 else
  (impl_FullDeck.f k).bind fun r2 =>
  (impl_JointSeed.f k g).bind fun r3 =>
  (impl_Shuffled.f k r2 r3).bind fun r4 =>
  some (r4, true)

def impl_IsSealed.f (k : Nat) (a0 a1 : Int) (a2 a3 : Bool) (a4 a5 : LI) (a6 a7 : Int) (a8 : LI) (a9 : Bool) (a10 : LI) (a11 a12 : Int) (a13 a14 : Bool) (a15 a16 : LI) (a17 a18 : Int) (a19 : LL) (a20 a21 : LI) (a22 a23 a24 : Int) (a25 : LI) (a26 : LL) : Option (Bool) :=
 bif ((a8.length : Int) == a0) then
  some (!a9)
 else
  some false

def impl_StepDeal.f (k : Nat) (a0 a1 : Int) (a2 a3 : Bool) (a4 a5 : LI) (a6 a7 : Int) (a8 : LI) (a9 : Bool) (a10 : LI) (a11 a12 : Int) (a13 a14 : Bool) (a15 a16 : LI) (a17 a18 : Int) (a19 : LL) (a20 a21 : LI) (a22 a23 a24 : Int) (a25 : LI) (a26 : LL) (g i : LI) : Option (Int × Int × Bool × Bool × LI × LI × Int × Int × LI × Bool × LI × Int × Int × Bool × Bool × LI × LI × Int × Int × LL × LI × LI × Int × Int × Int × LI × LL × Bool) :=
 (impl_Table_copied.f k a0 a1 a2 a3 a4 a5 a6 a7 a8 a9 a10 a11 a12 a13 a14 a15 a16 a17 a18 a19 a20 a21 a22 a23 a24 a25 a26).bind fun r1 =>
 (impl_JointDeck.f k a8 g i).bind fun r2 =>
 (impl_NewGame.f k a0 a1 a2 a3 a4 a5 a6 a7 r2.1).bind fun r3 =>
 (impl_IsSealed.f k a0 a1 a2 a3 a4 a5 a6 a7 a8 a9 a10 a11 a12 a13 a14 a15 a16 a17 a18 a19 a20 a21 a22 a23 a24 a25 a26).bind fun r4 =>
 bif r4 then
  bif r2.2 then
   (impl_Table_becomes.f k a0 a1 a2 a3 a4 a5 a6 a7 a8 a9 a10 a11 a12 a13 a14 a15 a16 a17 a18 a19 a20 a21 a22 a23 a24 a25 a26 r1.1 r1.2.1 (t2 r1).1 (t3 r1).1 (t4 r1).1 (t5 r1).1 (t6 r1).1 (t7 r1).1 (t8 r1).1 true r2.1 r3.1 r3.2.1 (t2 r3).1 (t3 r3).1 (t4 r3).1 (t5 r3).1 (t6 r3).1 (t7 r3).1 (t8 r3).1 (t9 r3).1 (t9 r3.2).1 (t9 (t2 r3)).1 (t9 (t3 r3)).1 (t9 (t4 r3)).1 [] (t9 (t9 (t8 r1))) (t9 (t5 r3))).bind fun r5 =>
   some (r5.1, r5.2.1, (t2 r5).1, (t3 r5).1, (t4 r5).1, (t5 r5).1, (t6 r5).1, (t7 r5).1, (t8 r5).1, (t9 r5).1, (t9 r5.2).1, (t9 (t2 r5)).1, (t9 (t3 r5)).1, (t9 (t4 r5)).1, (t9 (t5 r5)).1, (t9 (t6 r5)).1, (t9 (t7 r5)).1, (t9 (t8 r5)).1, (t9 (t9 r5)).1, (t9 (t9 r5.2)).1, (t9 (t9 (t2 r5))).1, (t9 (t9 (t3 r5))).1, (t9 (t9 (t4 r5))).1, (t9 (t9 (t5 r5))).1, (t9 (t9 (t6 r5))).1, (t9 (t9 (t7 r5))).1, (t9 (t9 (t8 r5))).1, (t9 (t9 (t9 r5))))
  else
   (impl_Table_becomes.f k a0 a1 a2 a3 a4 a5 a6 a7 a8 a9 a10 a11 a12 a13 a14 a15 a16 a17 a18 a19 a20 a21 a22 a23 a24 a25 a26 r1.1 r1.2.1 (t2 r1).1 (t3 r1).1 (t4 r1).1 (t5 r1).1 (t6 r1).1 (t7 r1).1 (t8 r1).1 true r2.1 r3.1 r3.2.1 (t2 r3).1 (t3 r3).1 (t4 r3).1 (t5 r3).1 (t6 r3).1 (t7 r3).1 (t8 r3).1 (t9 r3).1 (t9 r3.2).1 (t9 (t2 r3)).1 (t9 (t3 r3)).1 (t9 (t4 r3)).1 [] (t9 (t9 (t8 r1))) false).bind fun r6 =>
   some (r6.1, r6.2.1, (t2 r6).1, (t3 r6).1, (t4 r6).1, (t5 r6).1, (t6 r6).1, (t7 r6).1, (t8 r6).1, (t9 r6).1, (t9 r6.2).1, (t9 (t2 r6)).1, (t9 (t3 r6)).1, (t9 (t4 r6)).1, (t9 (t5 r6)).1, (t9 (t6 r6)).1, (t9 (t7 r6)).1, (t9 (t8 r6)).1, (t9 (t9 r6)).1, (t9 (t9 r6.2)).1, (t9 (t9 (t2 r6))).1, (t9 (t9 (t3 r6))).1, (t9 (t9 (t4 r6))).1, (t9 (t9 (t5 r6))).1, (t9 (t9 (t6 r6))).1, (t9 (t9 (t7 r6))).1, (t9 (t9 (t8 r6))).1, (t9 (t9 (t9 r6))))
 else
  (impl_Table_becomes.f k a0 a1 a2 a3 a4 a5 a6 a7 a8 a9 a10 a11 a12 a13 a14 a15 a16 a17 a18 a19 a20 a21 a22 a23 a24 a25 a26 r1.1 r1.2.1 (t2 r1).1 (t3 r1).1 (t4 r1).1 (t5 r1).1 (t6 r1).1 (t7 r1).1 (t8 r1).1 true r2.1 r3.1 r3.2.1 (t2 r3).1 (t3 r3).1 (t4 r3).1 (t5 r3).1 (t6 r3).1 (t7 r3).1 (t8 r3).1 (t9 r3).1 (t9 r3.2).1 (t9 (t2 r3)).1 (t9 (t3 r3)).1 (t9 (t4 r3)).1 [] (t9 (t9 (t8 r1))) false).bind fun r7 =>
  some (r7.1, r7.2.1, (t2 r7).1, (t3 r7).1, (t4 r7).1, (t5 r7).1, (t6 r7).1, (t7 r7).1, (t8 r7).1, (t9 r7).1, (t9 r7.2).1, (t9 (t2 r7)).1, (t9 (t3 r7)).1, (t9 (t4 r7)).1, (t9 (t5 r7)).1, (t9 (t6 r7)).1, (t9 (t7 r7)).1, (t9 (t8 r7)).1, (t9 (t9 r7)).1, (t9 (t9 r7.2)).1, (t9 (t9 (t2 r7))).1, (t9 (t9 (t3 r7))).1, (t9 (t9 (t4 r7))).1, (t9 (t9 (t5 r7))).1, (t9 (t9 (t6 r7))).1, (t9 (t9 (t7 r7))).1, (t9 (t9 (t8 r7))).1, (t9 (t9 (t9 r7))))

def impl_StepPlay.f (k : Nat) (a0 a1 : Int) (a2 a3 : Bool) (a4 a5 : LI) (a6 a7 : Int) (a8 : LI) (a9 : Bool) (a10 : LI) (a11 a12 : Int) (a13 a14 : Bool) (a15 a16 : LI) (a17 a18 : Int) (a19 : LL) (a20 a21 : LI) (a22 a23 a24 : Int) (a25 : LI) (a26 : LL) (g : Int) : Option (Int × Int × Bool × Bool × LI × LI × Int × Int × LI × Bool × LI × Int × Int × Bool × Bool × LI × LI × Int × Int × LL × LI × LI × Int × Int × Int × LI × LL × Bool) :=
 (impl_IsCard.f k g).bind fun r1 =>
 bif (!r1) then
  (impl_Table_copied.f k a0 a1 a2 a3 a4 a5 a6 a7 a8 a9 a10 a11 a12 a13 a14 a15 a16 a17 a18 a19 a20 a21 a22 a23 a24 a25 a26).bind fun r2 =>
  some (r2.1, r2.2.1, (t2 r2).1, (t3 r2).1, (t4 r2).1, (t5 r2).1, (t6 r2).1, (t7 r2).1, (t8 r2).1, (t9 r2).1, (t9 r2.2).1, (t9 (t2 r2)).1, (t9 (t3 r2)).1, (t9 (t4 r2)).1, (t9 (t5 r2)).1, (t9 (t6 r2)).1, (t9 (t7 r2)).1, (t9 (t8 r2)).1, (t9 (t9 r2)).1, (t9 (t9 r2.2)).1, (t9 (t9 (t2 r2))).1, (t9 (t9 (t3 r2))).1, (t9 (t9 (t4 r2))).1, (t9 (t9 (t5 r2))).1, (t9 (t9 (t6 r2))).1, (t9 (t9 (t7 r2))).1, (t9 (t9 (t8 r2))), false)
 else
  (impl_stepMove.f k a0 a1 a2 a3 a4 a5 a6 a7 a8 a9 a10 a11 a12 a13 a14 a15 a16 a17 a18 a19 a20 a21 a22 a23 a24 a25 a26 g).bind fun r3 =>
  some (r3.1, r3.2.1, (t2 r3).1, (t3 r3).1, (t4 r3).1, (t5 r3).1, (t6 r3).1, (t7 r3).1, (t8 r3).1, (t9 r3).1, (t9 r3.2).1, (t9 (t2 r3)).1, (t9 (t3 r3)).1, (t9 (t4 r3)).1, (t9 (t5 r3)).1, (t9 (t6 r3)).1, (t9 (t7 r3)).1, (t9 (t8 r3)).1, (t9 (t9 r3)).1, (t9 (t9 r3.2)).1, (t9 (t9 (t2 r3))).1, (t9 (t9 (t3 r3))).1, (t9 (t9 (t4 r3))).1, (t9 (t9 (t5 r3))).1, (t9 (t9 (t6 r3))).1, (t9 (t9 (t7 r3))).1, (t9 (t9 (t8 r3))).1, (t9 (t9 (t9 r3))))

def impl_ValueOf.f (k : Nat) (a : Int) : Option (Int) :=
 (impl_RankOf.f k a).bind fun r1 =>
 bif decide (r1 < 0) then
  some 0
 else
  bif decide (r1 ≤ 8) then
   some (IntKind.wrap .i64 (r1 + 2))
  else
   bif (r1 == 12) then
    some 1
   else
    some 10

def impl_values.s3 {R : Type} (k : Nat) (v1 : LI) (v2 : Int) (e0 : Int → Option R) (rec : Int → Int → Option R) (v0 v3 : Int) : Option R :=
 bif decide (v3 < v2) then
  chk ((decide (0 ≤ v3)) && (decide (v3 < (v1.length : Int)))) <|
  (impl_ValueOf.f k (v1.getD v3.toNat 0)).bind fun r1 =>
  rec (IntKind.wrap .i64 (v0 + r1)) (IntKind.wrap .i64 (v3 + 1))
 else
  e0 v0
def impl_values.l3 {R : Type} (k : Nat) (v1 : LI) (v2 : Int) (e0 : Int → Option R) (n : Nat) (v0 v3 : Int) : Option R :=
 V.iter (A := Int × Int) (fun rec a => impl_values.s3 k v1 v2 e0 (fun c0 c1 => rec (c0, c1)) a.1 a.2) n (v0, v3)
theorem impl_values.l3_succ {R : Type} (k : Nat) (v1 : LI) (v2 : Int) (e0 : Int → Option R) (n : Nat) (v0 v3 : Int) : impl_values.l3 (R := R) k v1 v2 e0 (n + 1) v0 v3 = impl_values.s3 k v1 v2 e0 (impl_values.l3 k v1 v2 e0 n) v0 v3 := rfl
def impl_values.f (k : Nat) (a : LI) : Option (Int) :=
 impl_values.l3 k a (a.length : Int) (fun x2 =>
  some x2) k 0 0

def impl_LeftPoints.s3 {R : Type} (k : Nat) (v0 : LL) (v1 : Int) (e0 : LI → Option R) (rec : Int → LI → Option R) (v2 : Int) (v3 : LI) : Option R :=
 bif decide (v2 < v1) then
  chk ((decide (0 ≤ v2)) && (decide (v2 < (v0.length : Int)))) <|
  (impl_values.f k (v0.getD v2.toNat [])).bind fun r1 =>
  chk (decide ((v3.length + 1) * 8 ≤ room)) <|
  rec (IntKind.wrap .i64 (v2 + 1)) (v3 ++ [r1])
 else
  e0 v3
def impl_LeftPoints.l3 {R : Type} (k : Nat) (v0 : LL) (v1 : Int) (e0 : LI → Option R) (n : Nat) (v2 : Int) (v3 : LI) : Option R :=
 V.iter (A := Int × LI) (fun rec a => impl_LeftPoints.s3 k v0 v1 e0 (fun c0 c1 => rec (c0, c1)) a.1 a.2) n (v2, v3)
theorem impl_LeftPoints.l3_succ {R : Type} (k : Nat) (v0 : LL) (v1 : Int) (e0 : LI → Option R) (n : Nat) (v2 : Int) (v3 : LI) : impl_LeftPoints.l3 (R := R) k v0 v1 e0 (n + 1) v2 v3 = impl_LeftPoints.s3 k v0 v1 e0 (impl_LeftPoints.l3 k v0 v1 e0 n) v2 v3 := rfl
def impl_LeftPoints.f (k : Nat) (a0 a1 : Int) (a2 a3 : Bool) (a4 a5 : LI) (a6 a7 : Int) (a8 : LL) (a9 a10 : LI) (a11 a12 a13 : Int) : Option (LI) :=
 impl_LeftPoints.l3 k a8 (a8.length : Int) (fun x2 =>
  some x2) k 0 []

def impl_Settled.s8 {R : Type} (k : Nat) (v1 : Int) (v3 : LI) (e0 : LI → Option R) (rec : Int → LI → Option R) (v2 : Int) (v4 : LI) : Option R :=
 bif decide (v2 < v1) then
  chk ((decide (0 ≤ v2)) && (decide (v2 < (v3.length : Int)))) <|
  chk ((decide (0 ≤ v2)) && (decide (v2 < (v4.length : Int)))) <|
  rec (IntKind.wrap .i64 (v2 + 1)) (v4.set v2.toNat (IntKind.wrap .i64 (0 - (v3.getD v2.toNat 0))))
 else
  e0 v4
def impl_Settled.l8 {R : Type} (k : Nat) (v1 : Int) (v3 : LI) (e0 : LI → Option R) (n : Nat) (v2 : Int) (v4 : LI) : Option R :=
 V.iter (A := Int × LI) (fun rec a => impl_Settled.s8 k v1 v3 e0 (fun c0 c1 => rec (c0, c1)) a.1 a.2) n (v2, v4)
theorem impl_Settled.l8_succ {R : Type} (k : Nat) (v1 : Int) (v3 : LI) (e0 : LI → Option R) (n : Nat) (v2 : Int) (v4 : LI) : impl_Settled.l8 (R := R) k v1 v3 e0 (n + 1) v2 v4 = impl_Settled.s8 k v1 v3 e0 (impl_Settled.l8 k v1 v3 e0 n) v2 v4 := rfl
def impl_Settled.f (k : Nat) (a0 a1 : Int) (a2 a3 : Bool) (a4 a5 : LI) (a6 a7 : Int) (a8 : LL) (a9 a10 : LI) (a11 a12 a13 : Int) : Option (LI) :=
 (impl_IsGame.f k a0 a1 a2 a3 a4 a5 a6 a7 a8 a9 a10 a11 a12 a13).bind fun r1 =>
 bif (!r1) then
  some ([])
 else
  (impl_Winner.f k a0 a1 a2 a3 a4 a5 a6 a7 a8 a9 a10 a11 a12 a13).bind fun r2 =>
  (impl_LeftPoints.f k a0 a1 a2 a3 a4 a5 a6 a7 a8 a9 a10 a11 a12 a13).bind fun r3 =>
  chk ((decide (0 ≤ (r3.length : Int))) && (decide (((r3.length : Int).toNat) * 8 ≤ room))) <|
  bif decide (r2 < 0) then
   some (List.replicate ((r3.length : Int).toNat) 0)
  else
   impl_Settled.l8 k (r3.length : Int) r3 (fun x4 =>
    (impl_sum.f k r3).bind fun r5 =>
    chk ((decide (0 ≤ r2)) && (decide (r2 < (x4.length : Int)))) <|
    some (x4.set r2.toNat r5)) k 0 (List.replicate ((r3.length : Int).toNat) 0)

def impl_StepSettle.f (k : Nat) (a0 a1 : Int) (a2 a3 : Bool) (a4 a5 : LI) (a6 a7 : Int) (a8 : LI) (a9 : Bool) (a10 : LI) (a11 a12 : Int) (a13 a14 : Bool) (a15 a16 : LI) (a17 a18 : Int) (a19 : LL) (a20 a21 : LI) (a22 a23 a24 : Int) (a25 : LI) (a26 : LL) : Option (Int × Int × Bool × Bool × LI × LI × Int × Int × LI × Bool × LI × Int × Int × Bool × Bool × LI × LI × Int × Int × LL × LI × LI × Int × Int × Int × LI × LL × Bool) :=
 (impl_Table_copied.f k a0 a1 a2 a3 a4 a5 a6 a7 a8 a9 a10 a11 a12 a13 a14 a15 a16 a17 a18 a19 a20 a21 a22 a23 a24 a25 a26).bind fun r1 =>
 (impl_Settled.f k a11 a12 a13 a14 a15 a16 a17 a18 a19 a20 a21 a22 a23 a24).bind fun r2 =>
 chk (decide (((t9 (t9 (t8 r1))).length + 1) * 24 ≤ room)) <|
 bif a9 then
  (impl_IsEnded.f k a11 a12 a13 a14 a15 a16 a17 a18 a19 a20 a21 a22 a23 a24).bind fun r3 =>
  (impl_Table_becomes.f k a0 a1 a2 a3 a4 a5 a6 a7 a8 a9 a10 a11 a12 a13 a14 a15 a16 a17 a18 a19 a20 a21 a22 a23 a24 a25 a26 r1.1 r1.2.1 (t2 r1).1 (t3 r1).1 (t4 r1).1 (t5 r1).1 (t6 r1).1 (t7 r1).1 [] false [] 0 0 false false [] [] 0 0 [] [] [] 0 0 0 [] ((t9 (t9 (t8 r1))) ++ [r2]) r3).bind fun r4 =>
  some (r4.1, r4.2.1, (t2 r4).1, (t3 r4).1, (t4 r4).1, (t5 r4).1, (t6 r4).1, (t7 r4).1, (t8 r4).1, (t9 r4).1, (t9 r4.2).1, (t9 (t2 r4)).1, (t9 (t3 r4)).1, (t9 (t4 r4)).1, (t9 (t5 r4)).1, (t9 (t6 r4)).1, (t9 (t7 r4)).1, (t9 (t8 r4)).1, (t9 (t9 r4)).1, (t9 (t9 r4.2)).1, (t9 (t9 (t2 r4))).1, (t9 (t9 (t3 r4))).1, (t9 (t9 (t4 r4))).1, (t9 (t9 (t5 r4))).1, (t9 (t9 (t6 r4))).1, (t9 (t9 (t7 r4))).1, (t9 (t9 (t8 r4))).1, (t9 (t9 (t9 r4))))
 else
  (impl_Table_becomes.f k a0 a1 a2 a3 a4 a5 a6 a7 a8 a9 a10 a11 a12 a13 a14 a15 a16 a17 a18 a19 a20 a21 a22 a23 a24 a25 a26 r1.1 r1.2.1 (t2 r1).1 (t3 r1).1 (t4 r1).1 (t5 r1).1 (t6 r1).1 (t7 r1).1 [] false [] 0 0 false false [] [] 0 0 [] [] [] 0 0 0 [] ((t9 (t9 (t8 r1))) ++ [r2]) false).bind fun r5 =>
  some (r5.1, r5.2.1, (t2 r5).1, (t3 r5).1, (t4 r5).1, (t5 r5).1, (t6 r5).1, (t7 r5).1, (t8 r5).1, (t9 r5).1, (t9 r5.2).1, (t9 (t2 r5)).1, (t9 (t3 r5)).1, (t9 (t4 r5)).1, (t9 (t5 r5)).1, (t9 (t6 r5)).1, (t9 (t7 r5)).1, (t9 (t8 r5)).1, (t9 (t9 r5)).1, (t9 (t9 r5.2)).1, (t9 (t9 (t2 r5))).1, (t9 (t9 (t3 r5))).1, (t9 (t9 (t4 r5))).1, (t9 (t9 (t5 r5))).1, (t9 (t9 (t6 r5))).1, (t9 (t9 (t7 r5))).1, (t9 (t9 (t8 r5))).1, (t9 (t9 (t9 r5))))

def impl_ApplyEvent.f (k : Nat) (a0 a1 : Int) (a2 a3 : Bool) (a4 a5 : LI) (a6 a7 : Int) (a8 : LI) (a9 : Bool) (a10 : LI) (a11 a12 : Int) (a13 a14 : Bool) (a15 a16 : LI) (a17 a18 : Int) (a19 : LL) (a20 a21 : LI) (a22 a23 a24 : Int) (a25 : LI) (a26 : LL) (g0 g1 : Int) (g2 g3 : LI) : Option (Int × Int × Bool × Bool × LI × LI × Int × Int × LI × Bool × LI × Int × Int × Bool × Bool × LI × LI × Int × Int × LL × LI × LI × Int × Int × Int × LI × LL × Bool) :=
 bif (g0 == 1) then
  (impl_StepSeal.f k a0 a1 a2 a3 a4 a5 a6 a7 a8 a9 a10 a11 a12 a13 a14 a15 a16 a17 a18 a19 a20 a21 a22 a23 a24 a25 a26 g1).bind fun r1 =>
  some (r1.1, r1.2.1, (t2 r1).1, (t3 r1).1, (t4 r1).1, (t5 r1).1, (t6 r1).1, (t7 r1).1, (t8 r1).1, (t9 r1).1, (t9 r1.2).1, (t9 (t2 r1)).1, (t9 (t3 r1)).1, (t9 (t4 r1)).1, (t9 (t5 r1)).1, (t9 (t6 r1)).1, (t9 (t7 r1)).1, (t9 (t8 r1)).1, (t9 (t9 r1)).1, (t9 (t9 r1.2)).1, (t9 (t9 (t2 r1))).1, (t9 (t9 (t3 r1))).1, (t9 (t9 (t4 r1))).1, (t9 (t9 (t5 r1))).1, (t9 (t9 (t6 r1))).1, (t9 (t9 (t7 r1))).1, (t9 (t9 (t8 r1))).1, (t9 (t9 (t9 r1))))
 else
  bif (g0 == 2) then
   (impl_StepDeal.f k a0 a1 a2 a3 a4 a5 a6 a7 a8 a9 a10 a11 a12 a13 a14 a15 a16 a17 a18 a19 a20 a21 a22 a23 a24 a25 a26 g2 g3).bind fun r2 =>
   some (r2.1, r2.2.1, (t2 r2).1, (t3 r2).1, (t4 r2).1, (t5 r2).1, (t6 r2).1, (t7 r2).1, (t8 r2).1, (t9 r2).1, (t9 r2.2).1, (t9 (t2 r2)).1, (t9 (t3 r2)).1, (t9 (t4 r2)).1, (t9 (t5 r2)).1, (t9 (t6 r2)).1, (t9 (t7 r2)).1, (t9 (t8 r2)).1, (t9 (t9 r2)).1, (t9 (t9 r2.2)).1, (t9 (t9 (t2 r2))).1, (t9 (t9 (t3 r2))).1, (t9 (t9 (t4 r2))).1, (t9 (t9 (t5 r2))).1, (t9 (t9 (t6 r2))).1, (t9 (t9 (t7 r2))).1, (t9 (t9 (t8 r2))).1, (t9 (t9 (t9 r2))))
  else
   bif (g0 == 3) then
    (impl_StepPlay.f k a0 a1 a2 a3 a4 a5 a6 a7 a8 a9 a10 a11 a12 a13 a14 a15 a16 a17 a18 a19 a20 a21 a22 a23 a24 a25 a26 g1).bind fun r3 =>
    some (r3.1, r3.2.1, (t2 r3).1, (t3 r3).1, (t4 r3).1, (t5 r3).1, (t6 r3).1, (t7 r3).1, (t8 r3).1, (t9 r3).1, (t9 r3.2).1, (t9 (t2 r3)).1, (t9 (t3 r3)).1, (t9 (t4 r3)).1, (t9 (t5 r3)).1, (t9 (t6 r3)).1, (t9 (t7 r3)).1, (t9 (t8 r3)).1, (t9 (t9 r3)).1, (t9 (t9 r3.2)).1, (t9 (t9 (t2 r3))).1, (t9 (t9 (t3 r3))).1, (t9 (t9 (t4 r3))).1, (t9 (t9 (t5 r3))).1, (t9 (t9 (t6 r3))).1, (t9 (t9 (t7 r3))).1, (t9 (t9 (t8 r3))).1, (t9 (t9 (t9 r3))))
   else
    bif (g0 == 4) then
     (impl_StepTake.f k a0 a1 a2 a3 a4 a5 a6 a7 a8 a9 a10 a11 a12 a13 a14 a15 a16 a17 a18 a19 a20 a21 a22 a23 a24 a25 a26).bind fun r4 =>
     some (r4.1, r4.2.1, (t2 r4).1, (t3 r4).1, (t4 r4).1, (t5 r4).1, (t6 r4).1, (t7 r4).1, (t8 r4).1, (t9 r4).1, (t9 r4.2).1, (t9 (t2 r4)).1, (t9 (t3 r4)).1, (t9 (t4 r4)).1, (t9 (t5 r4)).1, (t9 (t6 r4)).1, (t9 (t7 r4)).1, (t9 (t8 r4)).1, (t9 (t9 r4)).1, (t9 (t9 r4.2)).1, (t9 (t9 (t2 r4))).1, (t9 (t9 (t3 r4))).1, (t9 (t9 (t4 r4))).1, (t9 (t9 (t5 r4))).1, (t9 (t9 (t6 r4))).1, (t9 (t9 (t7 r4))).1, (t9 (t9 (t8 r4))).1, (t9 (t9 (t9 r4))))
    else
     bif (g0 == 5) then
      (impl_StepSettle.f k a0 a1 a2 a3 a4 a5 a6 a7 a8 a9 a10 a11 a12 a13 a14 a15 a16 a17 a18 a19 a20 a21 a22 a23 a24 a25 a26).bind fun r5 =>
      some (r5.1, r5.2.1, (t2 r5).1, (t3 r5).1, (t4 r5).1, (t5 r5).1, (t6 r5).1, (t7 r5).1, (t8 r5).1, (t9 r5).1, (t9 r5.2).1, (t9 (t2 r5)).1, (t9 (t3 r5)).1, (t9 (t4 r5)).1, (t9 (t5 r5)).1, (t9 (t6 r5)).1, (t9 (t7 r5)).1, (t9 (t8 r5)).1, (t9 (t9 r5)).1, (t9 (t9 r5.2)).1, (t9 (t9 (t2 r5))).1, (t9 (t9 (t3 r5))).1, (t9 (t9 (t4 r5))).1, (t9 (t9 (t5 r5))).1, (t9 (t9 (t6 r5))).1, (t9 (t9 (t7 r5))).1, (t9 (t9 (t8 r5))).1, (t9 (t9 (t9 r5))))
     else
      (impl_Table_copied.f k a0 a1 a2 a3 a4 a5 a6 a7 a8 a9 a10 a11 a12 a13 a14 a15 a16 a17 a18 a19 a20 a21 a22 a23 a24 a25 a26).bind fun r6 =>
      some (r6.1, r6.2.1, (t2 r6).1, (t3 r6).1, (t4 r6).1, (t5 r6).1, (t6 r6).1, (t7 r6).1, (t8 r6).1, (t9 r6).1, (t9 r6.2).1, (t9 (t2 r6)).1, (t9 (t3 r6)).1, (t9 (t4 r6)).1, (t9 (t5 r6)).1, (t9 (t6 r6)).1, (t9 (t7 r6)).1, (t9 (t8 r6)).1, (t9 (t9 r6)).1, (t9 (t9 r6.2)).1, (t9 (t9 (t2 r6))).1, (t9 (t9 (t3 r6))).1, (t9 (t9 (t4 r6))).1, (t9 (t9 (t5 r6))).1, (t9 (t9 (t6 r6))).1, (t9 (t9 (t7 r6))).1, (t9 (t9 (t8 r6))), false)

def impl_RunEvents.s3 {R : Type} (k : Nat) (v0 : List (List Leaf)) (v1 : Int) (e0 : Int → Int → Bool → Bool → Int → Int → Bool → Int → Int → Bool → Bool → Int → Int → Int → Int → Int → LI → LI → LI → LI → LI → LI → LL → LI → LI → LI → LL → Option R) (rec : Int → Int → Int → Bool → Bool → Int → Int → Bool → Int → Int → Bool → Bool → Int → Int → Int → Int → Int → LI → LI → LI → LI → LI → LI → LL → LI → LI → LI → LL → Option R) (v2 v19 v20 : Int) (v21 v22 : Bool) (v23 v24 : Int) (v25 : Bool) (v26 v27 : Int) (v28 v29 : Bool) (v30 v31 v32 v33 v34 : Int) (v35 v36 v37 v38 v39 v40 : LI) (v41 : LL) (v42 v43 v44 : LI) (v45 : LL) : Option R :=
 bif decide (v2 < v1) then
  chk ((decide (0 ≤ v2)) && (decide (v2 < (v0.length : Int)))) <|
  (impl_ApplyEvent.f k v19 v20 v21 v22 v35 v36 v23 v24 v37 v25 v38 v26 v27 v28 v29 v39 v40 v30 v31 v41 v42 v43 v32 v33 v34 v44 v45 (gi (v0.getD v2.toNat []) 0) (gi (v0.getD v2.toNat []) 1) (gl (v0.getD v2.toNat []) 2) (gl (v0.getD v2.toNat []) 3)).bind fun r2 =>
  rec (IntKind.wrap .i64 (v2 + 1)) r2.1 r2.2.1 (t2 r2).1 (t3 r2).1 (t6 r2).1 (t7 r2).1 (t9 r2).1 (t9 (t2 r2)).1 (t9 (t3 r2)).1 (t9 (t4 r2)).1 (t9 (t5 r2)).1 (t9 (t8 r2)).1 (t9 (t9 r2)).1 (t9 (t9 (t4 r2))).1 (t9 (t9 (t5 r2))).1 (t9 (t9 (t6 r2))).1 (t4 r2).1 (t5 r2).1 (t8 r2).1 (t9 r2.2).1 (t9 (t6 r2)).1 (t9 (t7 r2)).1 (t9 (t9 r2.2)).1 (t9 (t9 (t2 r2))).1 (t9 (t9 (t3 r2))).1 (t9 (t9 (t7 r2))).1 (t9 (t9 (t8 r2))).1
 else
  e0 v19 v20 v21 v22 v23 v24 v25 v26 v27 v28 v29 v30 v31 v32 v33 v34 v35 v36 v37 v38 v39 v40 v41 v42 v43 v44 v45
def impl_RunEvents.l3 {R : Type} (k : Nat) (v0 : List (List Leaf)) (v1 : Int) (e0 : Int → Int → Bool → Bool → Int → Int → Bool → Int → Int → Bool → Bool → Int → Int → Int → Int → Int → LI → LI → LI → LI → LI → LI → LL → LI → LI → LI → LL → Option R) (n : Nat) (v2 v19 v20 : Int) (v21 v22 : Bool) (v23 v24 : Int) (v25 : Bool) (v26 v27 : Int) (v28 v29 : Bool) (v30 v31 v32 v33 v34 : Int) (v35 v36 v37 v38 v39 v40 : LI) (v41 : LL) (v42 v43 v44 : LI) (v45 : LL) : Option R :=
 V.iter (A := Int × Int × Int × Bool × Bool × Int × Int × Bool × Int × Int × Bool × Bool × Int × Int × Int × Int × Int × LI × LI × LI × LI × LI × LI × LL × LI × LI × LI × LL) (fun rec a => impl_RunEvents.s3 k v0 v1 e0 (fun c0 c1 c2 c3 c4 c5 c6 c7 c8 c9 c10 c11 c12 c13 c14 c15 c16 c17 c18 c19 c20 c21 c22 c23 c24 c25 c26 c27 => rec (c0, c1, c2, c3, c4, c5, c6, c7, c8, c9, c10, c11, c12, c13, c14, c15, c16, c17, c18, c19, c20, c21, c22, c23, c24, c25, c26, c27)) a.1 a.2.1 (t2 a).1 (t3 a).1 (t4 a).1 (t5 a).1 (t6 a).1 (t7 a).1 (t8 a).1 (t9 a).1 (t9 a.2).1 (t9 (t2 a)).1 (t9 (t3 a)).1 (t9 (t4 a)).1 (t9 (t5 a)).1 (t9 (t6 a)).1 (t9 (t7 a)).1 (t9 (t8 a)).1 (t9 (t9 a)).1 (t9 (t9 a.2)).1 (t9 (t9 (t2 a))).1 (t9 (t9 (t3 a))).1 (t9 (t9 (t4 a))).1 (t9 (t9 (t5 a))).1 (t9 (t9 (t6 a))).1 (t9 (t9 (t7 a))).1 (t9 (t9 (t8 a))).1 (t9 (t9 (t9 a)))) n (v2, v19, v20, v21, v22, v23, v24, v25, v26, v27, v28, v29, v30, v31, v32, v33, v34, v35, v36, v37, v38, v39, v40, v41, v42, v43, v44, v45)
theorem impl_RunEvents.l3_succ {R : Type} (k : Nat) (v0 : List (List Leaf)) (v1 : Int) (e0 : Int → Int → Bool → Bool → Int → Int → Bool → Int → Int → Bool → Bool → Int → Int → Int → Int → Int → LI → LI → LI → LI → LI → LI → LL → LI → LI → LI → LL → Option R) (n : Nat) (v2 v19 v20 : Int) (v21 v22 : Bool) (v23 v24 : Int) (v25 : Bool) (v26 v27 : Int) (v28 v29 : Bool) (v30 v31 v32 v33 v34 : Int) (v35 v36 v37 v38 v39 v40 : LI) (v41 : LL) (v42 v43 v44 : LI) (v45 : LL) : impl_RunEvents.l3 (R := R) k v0 v1 e0 (n + 1) v2 v19 v20 v21 v22 v23 v24 v25 v26 v27 v28 v29 v30 v31 v32 v33 v34 v35 v36 v37 v38 v39 v40 v41 v42 v43 v44 v45 = impl_RunEvents.s3 k v0 v1 e0 (impl_RunEvents.l3 k v0 v1 e0 n) v2 v19 v20 v21 v22 v23 v24 v25 v26 v27 v28 v29 v30 v31 v32 v33 v34 v35 v36 v37 v38 v39 v40 v41 v42 v43 v44 v45 := rfl
def impl_RunEvents.f (k : Nat) (a0 a1 : Int) (a2 a3 : Bool) (a4 a5 : LI) (a6 a7 : Int) (a8 : LI) (a9 : Bool) (a10 : LI) (a11 a12 : Int) (a13 a14 : Bool) (a15 a16 : LI) (a17 a18 : Int) (a19 : LL) (a20 a21 : LI) (a22 a23 a24 : Int) (a25 : LI) (a26 : LL) (g : List (List Leaf)) : Option (Int × Int × Bool × Bool × LI × LI × Int × Int × LI × Bool × LI × Int × Int × Bool × Bool × LI × LI × Int × Int × LL × LI × LI × Int × Int × Int × LI × LL) :=
 (impl_Table_copied.f k a0 a1 a2 a3 a4 a5 a6 a7 a8 a9 a10 a11 a12 a13 a14 a15 a16 a17 a18 a19 a20 a21 a22 a23 a24 a25 a26).bind fun r1 =>
 impl_RunEvents.l3 k g (g.length : Int) (fun x3 x4 x5 x6 x7 x8 x9 x10 x11 x12 x13 x14 x15 x16 x17 x18 x19 x20 x21 x22 x23 x24 x25 x26 x27 x28 x29 =>
  some (x3, x4, x5, x6, x19, x20, x7, x8, x21, x9, x22, x10, x11, x12, x13, x23, x24, x14, x15, x25, x26, x27, x16, x17, x18, x28, x29)) k 0 r1.1 r1.2.1 (t2 r1).1 (t3 r1).1 (t6 r1).1 (t7 r1).1 (t9 r1).1 (t9 (t2 r1)).1 (t9 (t3 r1)).1 (t9 (t4 r1)).1 (t9 (t5 r1)).1 (t9 (t8 r1)).1 (t9 (t9 r1)).1 (t9 (t9 (t4 r1))).1 (t9 (t9 (t5 r1))).1 (t9 (t9 (t6 r1))).1 (t4 r1).1 (t5 r1).1 (t8 r1).1 (t9 r1.2).1 (t9 (t6 r1)).1 (t9 (t7 r1)).1 (t9 (t9 r1.2)).1 (t9 (t9 (t2 r1))).1 (t9 (t9 (t3 r1))).1 (t9 (t9 (t7 r1))).1 (t9 (t9 (t8 r1)))

def laws_at.f (k : Nat) (a : LI) (g : Int) : Option (Int) :=
 bif decide (g < (a.length : Int)) then
  chk ((decide (0 ≤ g)) && (decide (g < (a.length : Int)))) <|
  some (IntKind.wrap .i64 (a.getD g.toNat 0))
 else
  some ((IntKind.wrap .i64 ((IntKind.wrap .i64 (g * 31)) + (IntKind.wrap .i64 ((a.length : Int) * 7)))).tmod 256)

def impl_EqualTables.f (k : Nat) (a0 a1 : Int) (a2 a3 : Bool) (a4 a5 : LI) (a6 a7 : Int) (a8 : LI) (a9 : Bool) (a10 : LI) (a11 a12 : Int) (a13 a14 : Bool) (a15 a16 : LI) (a17 a18 : Int) (a19 : LL) (a20 a21 : LI) (a22 a23 a24 : Int) (a25 : LI) (a26 : LL) (g0 g1 : Int) (g2 g3 : Bool) (g4 g5 : LI) (g6 g7 : Int) (g8 : LI) (g9 : Bool) (g10 : LI) (g11 g12 : Int) (g13 g14 : Bool) (g15 g16 : LI) (g17 g18 : Int) (g19 : LL) (g20 g21 : LI) (g22 g23 g24 : Int) (g25 : LI) (g26 : LL) : Option (Bool) :=
 (impl_EqualRules.f k a0 a1 a2 a3 a4 a5 a6 a7 g0 g1 g2 g3 g4 g5 g6 g7).bind fun r1 =>
 bif r1 then
  (impl_EqualInts.f k a8 g8).bind fun r2 =>
  bif r2 then
   bif (a9 == g9) then
    (impl_EqualInts.f k a10 g10).bind fun r3 =>
    bif r3 then
     (impl_EqualGames.f k a11 a12 a13 a14 a15 a16 a17 a18 a19 a20 a21 a22 a23 a24 g11 g12 g13 g14 g15 g16 g17 g18 g19 g20 g21 g22 g23 g24).bind fun r4 =>
     bif r4 then
      (impl_EqualInts.f k a25 g25).bind fun r5 =>
      bif r5 then
       (impl_sameRows.f k a26 g26).bind fun r6 =>
       some r6
      else
       some false
     else
      some false
    else
     some false
   else
    some false
  else
   some false
 else
  some false

def impl_CountEvents.s3 {R : Type} (k : Nat) (v0 : Int) (v2 : List (List Leaf)) (v3 : Int) (e0 : Int → Option R) (rec : Int → Int → Option R) (v1 v4 : Int) : Option R :=
 bif decide (v4 < v3) then
  chk ((decide (0 ≤ v4)) && (decide (v4 < (v2.length : Int)))) <|
  bif ((gi (v2.getD v4.toNat []) 0) == v0) then
   rec (IntKind.wrap .i64 (v1 + 1)) (IntKind.wrap .i64 (v4 + 1))
  else
   rec v1 (IntKind.wrap .i64 (v4 + 1))
 else
  e0 v1
def impl_CountEvents.l3 {R : Type} (k : Nat) (v0 : Int) (v2 : List (List Leaf)) (v3 : Int) (e0 : Int → Option R) (n : Nat) (v1 v4 : Int) : Option R :=
 V.iter (A := Int × Int) (fun rec a => impl_CountEvents.s3 k v0 v2 v3 e0 (fun c0 c1 => rec (c0, c1)) a.1 a.2) n (v1, v4)
theorem impl_CountEvents.l3_succ {R : Type} (k : Nat) (v0 : Int) (v2 : List (List Leaf)) (v3 : Int) (e0 : Int → Option R) (n : Nat) (v1 v4 : Int) : impl_CountEvents.l3 (R := R) k v0 v2 v3 e0 (n + 1) v1 v4 = impl_CountEvents.s3 k v0 v2 v3 e0 (impl_CountEvents.l3 k v0 v2 v3 e0 n) v1 v4 := rfl
def impl_CountEvents.f (k : Nat) (a : List (List Leaf)) (g : Int) : Option (Int) :=
 impl_CountEvents.l3 k g a (a.length : Int) (fun x1 =>
  some x1) k 0 0

def spec_l8Any.f (k : Nat) (a0 : LI) (a1 a2 : Int) : Option (LI × LI × Int × Int) :=
 (spec_l8Draw.f k a0 a1 a2 2).bind fun r1 =>
 (spec_l1Below.f k r1.2.1 (t2 r1).1 (t3 r1) 10).bind fun r2 =>
 bif (r2.1 == 0) then
  (spec_l1Below.f k r2.2.1 (t2 r2).1 (t3 r2) (r1.1.length : Int)).bind fun r3 =>
  (spec_l1Int.f k r3.2.1 (t2 r3).1 (t3 r3) [104, 99, 213, 313, 401, (-4), (-2), 9223372036854775807]).bind fun r4 =>
  chk ((decide (0 ≤ r3.1)) && (decide (r3.1 < (r1.1.length : Int)))) <|
  some (r1.1.set r3.1.toNat r4.1, r4.2.1, (t2 r4).1, (t3 r4))
 else
  bif (r2.1 == 1) then
   chk ((decide (0 ≤ (r1.1.length : Int))) && (decide ((r1.1.length : Int) ≤ (r1.1.length : Int)))) <|
   chk (decide (1 ≤ (r1.1.length : Int))) <|
   some ((r1.1.take ((r1.1.length : Int).toNat)).drop 1, r2.2.1, (t2 r2).1, (t3 r2))
  else
   some (r1.1, r2.2.1, (t2 r2).1, (t3 r2))

def spec_l22Any.f (k : Nat) (a0 : LI) (a1 a2 : Int) : Option (Int × Int × Bool × Bool × LI × LI × Int × Int × LI × Int × Int) :=
 (spec_l22Draw.f k a0 a1 a2).bind fun r1 =>
 (spec_l1Below.f k (t8 r1).1 (t9 r1).1 (t9 r1.2) 14).bind fun r2 =>
 bif (r2.1 == 0) then
  (spec_l1Int.f k r2.2.1 (t2 r2).1 (t3 r2) [1, 6, 7]).bind fun r3 =>
  some (r3.1, r1.2.1, (t2 r1).1, (t3 r1).1, (t4 r1).1, (t5 r1).1, (t6 r1).1, (t7 r1).1, r3.2.1, (t2 r3).1, (t3 r3))
 else
  bif (r2.1 == 1) then
   (spec_l1Int.f k r2.2.1 (t2 r2).1 (t3 r2) [0, 8, 9]).bind fun r4 =>
   some (r1.1, r4.1, (t2 r1).1, (t3 r1).1, (t4 r1).1, (t5 r1).1, (t6 r1).1, (t7 r1).1, r4.2.1, (t2 r4).1, (t3 r4))
  else
   bif (r2.1 == 2) then
    some (r1.1, r1.2.1, (t2 r1).1, false, (t4 r1).1, (t5 r1).1, (t6 r1).1, (t7 r1).1, r2.2.1, (t2 r2).1, (t3 r2))
   else
    bif (r2.1 == 3) then
     (spec_l8Any.f k r2.2.1 (t2 r2).1 (t3 r2)).bind fun r5 =>
     some (r1.1, r1.2.1, (t2 r1).1, (t3 r1).1, r5.1, (t5 r1).1, (t6 r1).1, (t7 r1).1, r5.2.1, (t2 r5).1, (t3 r5))
    else
     bif (r2.1 == 4) then
      (spec_l1Int.f k r2.2.1 (t2 r2).1 (t3 r2) [0, 4, 5]).bind fun r6 =>
      some (r1.1, r1.2.1, (t2 r1).1, (t3 r1).1, (t4 r1).1, (t5 r1).1, r6.1, (t7 r1).1, r6.2.1, (t2 r6).1, (t3 r6))
     else
      bif (r2.1 == 5) then
       (spec_l1Int.f k r2.2.1 (t2 r2).1 (t3 r2) [0, 400, 401]).bind fun r7 =>
       some (r1.1, r1.2.1, (t2 r1).1, (t3 r1).1, (t4 r1).1, (t5 r1).1, (t6 r1).1, r7.1, r7.2.1, (t2 r7).1, (t3 r7))
      else
       some (r1.1, r1.2.1, (t2 r1).1, (t3 r1).1, (t4 r1).1, (t5 r1).1, (t6 r1).1, (t7 r1).1, r2.2.1, (t2 r2).1, (t3 r2))

def spec_Min.f (k : Nat) (a g : Int) : Option (Int) :=
 bif decide (g < a) then
  some g
 else
  some a

def spec_Max.f (k : Nat) (a g : Int) : Option (Int) :=
 bif decide (g > a) then
  some g
 else
  some a

def spec_DrawDealEvents.s5 {R : Type} (k : Nat) (v10 : Int) (e0 : LI → Int → Int → LI → Option R) (rec : Int → LI → Int → Int → LI → Option R) (v0 : Int) (v7 : LI) (v8 v9 : Int) (v18 : LI) : Option R :=
 (spec_Min.f k 6 v10).bind fun r3 =>
 (spec_Max.f k 0 r3).bind fun r4 =>
 bif decide (v0 < r4) then
  (spec_l1Below.f k v7 v8 v9 999).bind fun r5 =>
  chk (decide ((v18.length + 1) * 8 ≤ room)) <|
  rec (IntKind.wrap .i64 (v0 + 1)) r5.2.1 (t2 r5).1 (t3 r5) (v18 ++ [r5.1])
 else
  e0 v7 v8 v9 v18
def spec_DrawDealEvents.l5 {R : Type} (k : Nat) (v10 : Int) (e0 : LI → Int → Int → LI → Option R) (n : Nat) (v0 : Int) (v7 : LI) (v8 v9 : Int) (v18 : LI) : Option R :=
 V.iter (A := Int × LI × Int × Int × LI) (fun rec a => spec_DrawDealEvents.s5 k v10 e0 (fun c0 c1 c2 c3 c4 => rec (c0, c1, c2, c3, c4)) a.1 a.2.1 (t2 a).1 (t3 a).1 (t4 a)) n (v0, v7, v8, v9, v18)
theorem spec_DrawDealEvents.l5_succ {R : Type} (k : Nat) (v10 : Int) (e0 : LI → Int → Int → LI → Option R) (n : Nat) (v0 : Int) (v7 : LI) (v8 v9 : Int) (v18 : LI) : spec_DrawDealEvents.l5 (R := R) k v10 e0 (n + 1) v0 v7 v8 v9 v18 = spec_DrawDealEvents.s5 k v10 e0 (spec_DrawDealEvents.l5 k v10 e0 n) v0 v7 v8 v9 v18 := rfl
def spec_DrawDealEvents.f (k : Nat) (a : LI) : Option (Int × Int × Bool × Bool × LI × LI × Int × Int × LI × Int) :=
 (spec_l1New.f k a).bind fun r1 =>
 (spec_l22Any.f k r1.1 r1.2.1 (t2 r1)).bind fun r2 =>
 spec_DrawDealEvents.l5 k r2.1 (fun x6 x7 x8 x9 =>
  (spec_l1Once.f k x6 x7 x8 8).bind fun r10 =>
  bif r10.1 then
   chk (decide ((x9.length + 1) * 8 ≤ room)) <|
   (spec_l1Int.f k r10.2.1 (t2 r10).1 (t3 r10) [0, 5, 1000000]).bind fun r11 =>
   some (r2.1, r2.2.1, (t2 r2).1, (t3 r2).1, (t4 r2).1, (t5 r2).1, (t6 r2).1, (t7 r2).1, x9 ++ [1], r11.1)
  else
   (spec_l1Int.f k r10.2.1 (t2 r10).1 (t3 r10) [0, 5, 1000000]).bind fun r12 =>
   some (r2.1, r2.2.1, (t2 r2).1, (t3 r2).1, (t4 r2).1, (t5 r2).1, (t6 r2).1, (t7 r2).1, x9, r12.1)) k 0 (t8 r2).1 (t9 r2).1 (t9 r2.2) []

def impl_DealEvents.s5 {R : Type} (k : Nat) (v1 : Int) (v2 : LI) (v3 : Int) (e0 : List (List Leaf) → LI → Option R) (rec : Int → List (List Leaf) → LI → Option R) (v4 : Int) (v5 : List (List Leaf)) (v6 : LI) : Option R :=
 bif decide (v4 < v3) then
  chk ((decide (0 ≤ v4)) && (decide (v4 < (v2.length : Int)))) <|
  (impl_SeedSeal.f k v4 (v2.getD v4.toNat 0) v1).bind fun r2 =>
  chk (decide ((v5.length + 1) * 64 ≤ room)) <|
  chk (decide ((v6.length + 1) * 8 ≤ room)) <|
  rec (IntKind.wrap .i64 (v4 + 1)) (v5 ++ ([[.int 1, .int r2, .ints [], .ints []]])) (v6 ++ [v1])
 else
  e0 v5 v6
def impl_DealEvents.l5 {R : Type} (k : Nat) (v1 : Int) (v2 : LI) (v3 : Int) (e0 : List (List Leaf) → LI → Option R) (n : Nat) (v4 : Int) (v5 : List (List Leaf)) (v6 : LI) : Option R :=
 V.iter (A := Int × List (List Leaf) × LI) (fun rec a => impl_DealEvents.s5 k v1 v2 v3 e0 (fun c0 c1 c2 => rec (c0, c1, c2)) a.1 a.2.1 (t2 a)) n (v4, v5, v6)
theorem impl_DealEvents.l5_succ {R : Type} (k : Nat) (v1 : Int) (v2 : LI) (v3 : Int) (e0 : List (List Leaf) → LI → Option R) (n : Nat) (v4 : Int) (v5 : List (List Leaf)) (v6 : LI) : impl_DealEvents.l5 (R := R) k v1 v2 v3 e0 (n + 1) v4 v5 v6 = impl_DealEvents.s5 k v1 v2 v3 e0 (impl_DealEvents.l5 k v1 v2 v3 e0 n) v4 v5 v6 := rfl
def impl_DealEvents.f (k : Nat) (a0 a1 : Int) (a2 a3 : Bool) (a4 a5 : LI) (a6 a7 : Int) (g : LI) (i : Int) : Option (List (List Leaf)) :=
 (impl_IsRules.f k a0 a1 a2 a3 a4 a5 a6 a7).bind fun r1 =>
 bif (!r1) then
  some ([])
 else
  bif ((g.length : Int) != a0) then
   some ([])
  else
   impl_DealEvents.l5 k i g (g.length : Int) (fun x3 x4 =>
    (impl_copyOf.f k g).bind fun r5 =>
    chk (decide ((x3.length + 1) * 64 ≤ room)) <|
    some (x3 ++ ([[.int 2, .int 0, .ints r5, .ints x4]]))) k 0 [] []

def impl_NewTable.f (k : Nat) (a0 a1 : Int) (a2 a3 : Bool) (a4 a5 : LI) (a6 a7 : Int) : Option (Int × Int × Bool × Bool × LI × LI × Int × Int × LI × Bool × LI × Int × Int × Bool × Bool × LI × LI × Int × Int × LL × LI × LI × Int × Int × Int × LI × LL × Bool) :=
 (impl_IsRules.f k a0 a1 a2 a3 a4 a5 a6 a7).bind fun r1 =>
 bif (!r1) then
  some (0, 0, false, false, [], [], 0, 0, [], false, [], 0, 0, false, false, [], [], 0, 0, [], [], [], 0, 0, 0, [], [], false)
 else
  (impl_Rules_copied.f k a0 a1 a2 a3 a4 a5 a6 a7).bind fun r2 =>
  some (r2.1, r2.2.1, (t2 r2).1, (t3 r2).1, (t4 r2).1, (t5 r2).1, (t6 r2).1, (t7 r2), [], false, [], 0, 0, false, false, [], [], 0, 0, [], [], [], 0, 0, 0, [], [], true)

def spec_l34Sealed.s4 {R : Type} (k : Nat) (v0 : Int) (e0 : Int → Int → Bool → Bool → LI → LI → Int → Int → LI → Bool → LI → Int → Int → Bool → Bool → LI → LI → Int → Int → LL → LI → LI → Int → Int → Int → LI → LL → LI → LI → Option R) (rec : Int → Int → Int → Bool → Bool → LI → LI → Int → Int → LI → Bool → LI → Int → Int → Bool → Bool → LI → LI → Int → Int → LL → LI → LI → Int → Int → Int → LI → LL → LI → LI → Option R) (v1 v2 v3 : Int) (v4 v5 : Bool) (v6 v7 : LI) (v8 v9 : Int) (v10 : LI) (v11 : Bool) (v12 : LI) (v13 v14 : Int) (v15 v16 : Bool) (v17 v18 : LI) (v19 v20 : Int) (v21 : LL) (v22 v23 : LI) (v24 v25 v26 : Int) (v27 : LI) (v28 : LL) (v45 v46 : LI) : Option R :=
 bif decide (v1 < v2) then
  (spec_SeedSeal.f k v1 (IntKind.wrap .i64 (v0 + v1)) 5).bind fun r1 =>
  (spec_StepSeal.f k v2 v3 v4 v5 v6 v7 v8 v9 v10 v11 v12 v13 v14 v15 v16 v17 v18 v19 v20 v21 v22 v23 v24 v25 v26 v27 v28 r1).bind fun r2 =>
  chk (decide ((v45.length + 1) * 8 ≤ room)) <|
  chk (decide ((v46.length + 1) * 8 ≤ room)) <|
  rec (IntKind.wrap .i64 (v1 + 1)) r2.1 r2.2.1 (t2 r2).1 (t3 r2).1 (t4 r2).1 (t5 r2).1 (t6 r2).1 (t7 r2).1 (t8 r2).1 (t9 r2).1 (t9 r2.2).1 (t9 (t2 r2)).1 (t9 (t3 r2)).1 (t9 (t4 r2)).1 (t9 (t5 r2)).1 (t9 (t6 r2)).1 (t9 (t7 r2)).1 (t9 (t8 r2)).1 (t9 (t9 r2)).1 (t9 (t9 r2.2)).1 (t9 (t9 (t2 r2))).1 (t9 (t9 (t3 r2))).1 (t9 (t9 (t4 r2))).1 (t9 (t9 (t5 r2))).1 (t9 (t9 (t6 r2))).1 (t9 (t9 (t7 r2))).1 (t9 (t9 (t8 r2))).1 (v45 ++ [IntKind.wrap .i64 (v0 + v1)]) (v46 ++ [5])
 else
  e0 v2 v3 v4 v5 v6 v7 v8 v9 v10 v11 v12 v13 v14 v15 v16 v17 v18 v19 v20 v21 v22 v23 v24 v25 v26 v27 v28 v45 v46
def spec_l34Sealed.l4 {R : Type} (k : Nat) (v0 : Int) (e0 : Int → Int → Bool → Bool → LI → LI → Int → Int → LI → Bool → LI → Int → Int → Bool → Bool → LI → LI → Int → Int → LL → LI → LI → Int → Int → Int → LI → LL → LI → LI → Option R) (n : Nat) (v1 v2 v3 : Int) (v4 v5 : Bool) (v6 v7 : LI) (v8 v9 : Int) (v10 : LI) (v11 : Bool) (v12 : LI) (v13 v14 : Int) (v15 v16 : Bool) (v17 v18 : LI) (v19 v20 : Int) (v21 : LL) (v22 v23 : LI) (v24 v25 v26 : Int) (v27 : LI) (v28 : LL) (v45 v46 : LI) : Option R :=
 V.iter (A := Int × Int × Int × Bool × Bool × LI × LI × Int × Int × LI × Bool × LI × Int × Int × Bool × Bool × LI × LI × Int × Int × LL × LI × LI × Int × Int × Int × LI × LL × LI × LI) (fun rec a => spec_l34Sealed.s4 k v0 e0 (fun c0 c1 c2 c3 c4 c5 c6 c7 c8 c9 c10 c11 c12 c13 c14 c15 c16 c17 c18 c19 c20 c21 c22 c23 c24 c25 c26 c27 c28 c29 => rec (c0, c1, c2, c3, c4, c5, c6, c7, c8, c9, c10, c11, c12, c13, c14, c15, c16, c17, c18, c19, c20, c21, c22, c23, c24, c25, c26, c27, c28, c29)) a.1 a.2.1 (t2 a).1 (t3 a).1 (t4 a).1 (t5 a).1 (t6 a).1 (t7 a).1 (t8 a).1 (t9 a).1 (t9 a.2).1 (t9 (t2 a)).1 (t9 (t3 a)).1 (t9 (t4 a)).1 (t9 (t5 a)).1 (t9 (t6 a)).1 (t9 (t7 a)).1 (t9 (t8 a)).1 (t9 (t9 a)).1 (t9 (t9 a.2)).1 (t9 (t9 (t2 a))).1 (t9 (t9 (t3 a))).1 (t9 (t9 (t4 a))).1 (t9 (t9 (t5 a))).1 (t9 (t9 (t6 a))).1 (t9 (t9 (t7 a))).1 (t9 (t9 (t8 a))).1 (t9 (t9 (t9 a))).1 (t9 (t9 (t9 a.2))).1 (t9 (t9 (t9 (t2 a))))) n (v1, v2, v3, v4, v5, v6, v7, v8, v9, v10, v11, v12, v13, v14, v15, v16, v17, v18, v19, v20, v21, v22, v23, v24, v25, v26, v27, v28, v45, v46)
theorem spec_l34Sealed.l4_succ {R : Type} (k : Nat) (v0 : Int) (e0 : Int → Int → Bool → Bool → LI → LI → Int → Int → LI → Bool → LI → Int → Int → Bool → Bool → LI → LI → Int → Int → LL → LI → LI → Int → Int → Int → LI → LL → LI → LI → Option R) (n : Nat) (v1 v2 v3 : Int) (v4 v5 : Bool) (v6 v7 : LI) (v8 v9 : Int) (v10 : LI) (v11 : Bool) (v12 : LI) (v13 v14 : Int) (v15 v16 : Bool) (v17 v18 : LI) (v19 v20 : Int) (v21 : LL) (v22 v23 : LI) (v24 v25 v26 : Int) (v27 : LI) (v28 : LL) (v45 v46 : LI) : spec_l34Sealed.l4 (R := R) k v0 e0 (n + 1) v1 v2 v3 v4 v5 v6 v7 v8 v9 v10 v11 v12 v13 v14 v15 v16 v17 v18 v19 v20 v21 v22 v23 v24 v25 v26 v27 v28 v45 v46 = spec_l34Sealed.s4 k v0 e0 (spec_l34Sealed.l4 k v0 e0 n) v1 v2 v3 v4 v5 v6 v7 v8 v9 v10 v11 v12 v13 v14 v15 v16 v17 v18 v19 v20 v21 v22 v23 v24 v25 v26 v27 v28 v45 v46 := rfl
def spec_l34Sealed.f (k : Nat) (a0 a1 : Int) (a2 a3 : Bool) (a4 a5 : LI) (a6 a7 : Int) (a8 : LI) (a9 : Bool) (a10 : LI) (a11 a12 : Int) (a13 a14 : Bool) (a15 a16 : LI) (a17 a18 : Int) (a19 : LL) (a20 a21 : LI) (a22 a23 a24 : Int) (a25 : LI) (a26 : LL) (g : Int) : Option (Int × Int × Bool × Bool × LI × LI × Int × Int × LI × Bool × LI × Int × Int × Bool × Bool × LI × LI × Int × Int × LL × LI × LI × Int × Int × Int × LI × LL) :=
 spec_l34Sealed.l4 k g (fun x3 x4 x5 x6 x7 x8 x9 x10 x11 x12 x13 x14 x15 x16 x17 x18 x19 x20 x21 x22 x23 x24 x25 x26 x27 x28 x29 x30 x31 =>
  (spec_StepDeal.f k x3 x4 x5 x6 x7 x8 x9 x10 x11 x12 x13 x14 x15 x16 x17 x18 x19 x20 x21 x22 x23 x24 x25 x26 x27 x28 x29 x30 x31).bind fun r32 =>
  some (r32.1, r32.2.1, (t2 r32).1, (t3 r32).1, (t4 r32).1, (t5 r32).1, (t6 r32).1, (t7 r32).1, (t8 r32).1, (t9 r32).1, (t9 r32.2).1, (t9 (t2 r32)).1, (t9 (t3 r32)).1, (t9 (t4 r32)).1, (t9 (t5 r32)).1, (t9 (t6 r32)).1, (t9 (t7 r32)).1, (t9 (t8 r32)).1, (t9 (t9 r32)).1, (t9 (t9 r32.2)).1, (t9 (t9 (t2 r32))).1, (t9 (t9 (t3 r32))).1, (t9 (t9 (t4 r32))).1, (t9 (t9 (t5 r32))).1, (t9 (t9 (t6 r32))).1, (t9 (t9 (t7 r32))).1, (t9 (t9 (t8 r32))).1)) k 0 a0 a1 a2 a3 a4 a5 a6 a7 a8 a9 a10 a11 a12 a13 a14 a15 a16 a17 a18 a19 a20 a21 a22 a23 a24 a25 a26 [] []

def spec_l34Move2.f (k : Nat) (a0 : LI) (a1 a2 g0 g1 : Int) (g2 g3 : Bool) (g4 g5 : LI) (g6 g7 : Int) (g8 : LI) (g9 : Bool) (g10 : LI) (g11 g12 : Int) (g13 g14 : Bool) (g15 g16 : LI) (g17 g18 : Int) (g19 : LL) (g20 g21 : LI) (g22 g23 g24 : Int) (g25 : LI) (g26 : LL) : Option (Int × Int × Bool × Bool × LI × LI × Int × Int × LI × Bool × LI × Int × Int × Bool × Bool × LI × LI × Int × Int × LL × LI × LI × Int × Int × Int × LI × LL × LI × Int × Int) :=
 (spec_Playable.f k g11 g12 g13 g14 g15 g16 g17 g18 g19 g20 g21 g22 g23 g24).bind fun r1 =>
 bif decide ((r1.length : Int) > 0) then
  (spec_l1Once.f k a0 a1 a2 4).bind fun r2 =>
  bif (!r2.1) then
   (spec_l1Below.f k r2.2.1 (t2 r2).1 (t3 r2) (r1.length : Int)).bind fun r3 =>
   chk ((decide (0 ≤ r3.1)) && (decide (r3.1 < (r1.length : Int)))) <|
   (spec_StepPlay.f k g0 g1 g2 g3 g4 g5 g6 g7 g8 g9 g10 g11 g12 g13 g14 g15 g16 g17 g18 g19 g20 g21 g22 g23 g24 g25 g26 (r1.getD r3.1.toNat 0)).bind fun r4 =>
   some (r4.1, r4.2.1, (t2 r4).1, (t3 r4).1, (t4 r4).1, (t5 r4).1, (t6 r4).1, (t7 r4).1, (t8 r4).1, (t9 r4).1, (t9 r4.2).1, (t9 (t2 r4)).1, (t9 (t3 r4)).1, (t9 (t4 r4)).1, (t9 (t5 r4)).1, (t9 (t6 r4)).1, (t9 (t7 r4)).1, (t9 (t8 r4)).1, (t9 (t9 r4)).1, (t9 (t9 r4.2)).1, (t9 (t9 (t2 r4))).1, (t9 (t9 (t3 r4))).1, (t9 (t9 (t4 r4))).1, (t9 (t9 (t5 r4))).1, (t9 (t9 (t6 r4))).1, (t9 (t9 (t7 r4))).1, (t9 (t9 (t8 r4))).1, r3.2.1, (t2 r3).1, (t3 r3))
  else
   (spec_StepTake.f k g0 g1 g2 g3 g4 g5 g6 g7 g8 g9 g10 g11 g12 g13 g14 g15 g16 g17 g18 g19 g20 g21 g22 g23 g24 g25 g26).bind fun r5 =>
   some (r5.1, r5.2.1, (t2 r5).1, (t3 r5).1, (t4 r5).1, (t5 r5).1, (t6 r5).1, (t7 r5).1, (t8 r5).1, (t9 r5).1, (t9 r5.2).1, (t9 (t2 r5)).1, (t9 (t3 r5)).1, (t9 (t4 r5)).1, (t9 (t5 r5)).1, (t9 (t6 r5)).1, (t9 (t7 r5)).1, (t9 (t8 r5)).1, (t9 (t9 r5)).1, (t9 (t9 r5.2)).1, (t9 (t9 (t2 r5))).1, (t9 (t9 (t3 r5))).1, (t9 (t9 (t4 r5))).1, (t9 (t9 (t5 r5))).1, (t9 (t9 (t6 r5))).1, (t9 (t9 (t7 r5))).1, (t9 (t9 (t8 r5))).1, r2.2.1, (t2 r2).1, (t3 r2))
 else
  (spec_StepTake.f k g0 g1 g2 g3 g4 g5 g6 g7 g8 g9 g10 g11 g12 g13 g14 g15 g16 g17 g18 g19 g20 g21 g22 g23 g24 g25 g26).bind fun r6 =>
  some (r6.1, r6.2.1, (t2 r6).1, (t3 r6).1, (t4 r6).1, (t5 r6).1, (t6 r6).1, (t7 r6).1, (t8 r6).1, (t9 r6).1, (t9 r6.2).1, (t9 (t2 r6)).1, (t9 (t3 r6)).1, (t9 (t4 r6)).1, (t9 (t5 r6)).1, (t9 (t6 r6)).1, (t9 (t7 r6)).1, (t9 (t8 r6)).1, (t9 (t9 r6)).1, (t9 (t9 r6.2)).1, (t9 (t9 (t2 r6))).1, (t9 (t9 (t3 r6))).1, (t9 (t9 (t4 r6))).1, (t9 (t9 (t5 r6))).1, (t9 (t9 (t6 r6))).1, (t9 (t9 (t7 r6))).1, (t9 (t9 (t8 r6))).1, a0, a1, a2)

def spec_l34Draw.s10 {R : Type} (k : Nat) (e0 : LI → Int → Int → Int → Int → Bool → Bool → Int → Int → Bool → Int → Int → Bool → Bool → Int → Int → Int → Int → Int → LI → LI → LI → LI → LI → LI → LL → LI → LI → LI → LL → Option R) (rec : Int → LI → Int → Int → Int → Int → Bool → Bool → Int → Int → Bool → Int → Int → Bool → Bool → Int → Int → Int → Int → Int → LI → LI → LI → LI → LI → LI → LL → LI → LI → LI → LL → Option R) (v0 : Int) (v1 : LI) (v2 v3 v20 v21 : Int) (v22 v23 : Bool) (v24 v25 : Int) (v26 : Bool) (v27 v28 : Int) (v29 v30 : Bool) (v31 v32 v33 v34 v35 : Int) (v36 v37 v38 v39 v40 v41 : LI) (v42 : LL) (v43 v44 v45 : LI) (v46 : LL) : Option R :=
 bif decide (v0 > 0) then
  (spec_l34Move2.f k v1 v2 v3 v20 v21 v22 v23 v36 v37 v24 v25 v38 v26 v39 v27 v28 v29 v30 v40 v41 v31 v32 v42 v43 v44 v33 v34 v35 v45 v46).bind fun r11 =>
  rec (IntKind.wrap .i64 (v0 - 1)) (t9 (t9 (t9 r11))).1 (t9 (t9 (t9 r11.2))).1 (t9 (t9 (t9 (t2 r11)))) r11.1 r11.2.1 (t2 r11).1 (t3 r11).1 (t6 r11).1 (t7 r11).1 (t9 r11).1 (t9 (t2 r11)).1 (t9 (t3 r11)).1 (t9 (t4 r11)).1 (t9 (t5 r11)).1 (t9 (t8 r11)).1 (t9 (t9 r11)).1 (t9 (t9 (t4 r11))).1 (t9 (t9 (t5 r11))).1 (t9 (t9 (t6 r11))).1 (t4 r11).1 (t5 r11).1 (t8 r11).1 (t9 r11.2).1 (t9 (t6 r11)).1 (t9 (t7 r11)).1 (t9 (t9 r11.2)).1 (t9 (t9 (t2 r11))).1 (t9 (t9 (t3 r11))).1 (t9 (t9 (t7 r11))).1 (t9 (t9 (t8 r11))).1
 else
  e0 v1 v2 v3 v20 v21 v22 v23 v24 v25 v26 v27 v28 v29 v30 v31 v32 v33 v34 v35 v36 v37 v38 v39 v40 v41 v42 v43 v44 v45 v46
def spec_l34Draw.l10 {R : Type} (k : Nat) (e0 : LI → Int → Int → Int → Int → Bool → Bool → Int → Int → Bool → Int → Int → Bool → Bool → Int → Int → Int → Int → Int → LI → LI → LI → LI → LI → LI → LL → LI → LI → LI → LL → Option R) (n : Nat) (v0 : Int) (v1 : LI) (v2 v3 v20 v21 : Int) (v22 v23 : Bool) (v24 v25 : Int) (v26 : Bool) (v27 v28 : Int) (v29 v30 : Bool) (v31 v32 v33 v34 v35 : Int) (v36 v37 v38 v39 v40 v41 : LI) (v42 : LL) (v43 v44 v45 : LI) (v46 : LL) : Option R :=
 V.iter (A := Int × LI × Int × Int × Int × Int × Bool × Bool × Int × Int × Bool × Int × Int × Bool × Bool × Int × Int × Int × Int × Int × LI × LI × LI × LI × LI × LI × LL × LI × LI × LI × LL) (fun rec a => spec_l34Draw.s10 k e0 (fun c0 c1 c2 c3 c4 c5 c6 c7 c8 c9 c10 c11 c12 c13 c14 c15 c16 c17 c18 c19 c20 c21 c22 c23 c24 c25 c26 c27 c28 c29 c30 => rec (c0, c1, c2, c3, c4, c5, c6, c7, c8, c9, c10, c11, c12, c13, c14, c15, c16, c17, c18, c19, c20, c21, c22, c23, c24, c25, c26, c27, c28, c29, c30)) a.1 a.2.1 (t2 a).1 (t3 a).1 (t4 a).1 (t5 a).1 (t6 a).1 (t7 a).1 (t8 a).1 (t9 a).1 (t9 a.2).1 (t9 (t2 a)).1 (t9 (t3 a)).1 (t9 (t4 a)).1 (t9 (t5 a)).1 (t9 (t6 a)).1 (t9 (t7 a)).1 (t9 (t8 a)).1 (t9 (t9 a)).1 (t9 (t9 a.2)).1 (t9 (t9 (t2 a))).1 (t9 (t9 (t3 a))).1 (t9 (t9 (t4 a))).1 (t9 (t9 (t5 a))).1 (t9 (t9 (t6 a))).1 (t9 (t9 (t7 a))).1 (t9 (t9 (t8 a))).1 (t9 (t9 (t9 a))).1 (t9 (t9 (t9 a.2))).1 (t9 (t9 (t9 (t2 a)))).1 (t9 (t9 (t9 (t3 a))))) n (v0, v1, v2, v3, v20, v21, v22, v23, v24, v25, v26, v27, v28, v29, v30, v31, v32, v33, v34, v35, v36, v37, v38, v39, v40, v41, v42, v43, v44, v45, v46)
theorem spec_l34Draw.l10_succ {R : Type} (k : Nat) (e0 : LI → Int → Int → Int → Int → Bool → Bool → Int → Int → Bool → Int → Int → Bool → Bool → Int → Int → Int → Int → Int → LI → LI → LI → LI → LI → LI → LL → LI → LI → LI → LL → Option R) (n : Nat) (v0 : Int) (v1 : LI) (v2 v3 v20 v21 : Int) (v22 v23 : Bool) (v24 v25 : Int) (v26 : Bool) (v27 v28 : Int) (v29 v30 : Bool) (v31 v32 v33 v34 v35 : Int) (v36 v37 v38 v39 v40 v41 : LI) (v42 : LL) (v43 v44 v45 : LI) (v46 : LL) : spec_l34Draw.l10 (R := R) k e0 (n + 1) v0 v1 v2 v3 v20 v21 v22 v23 v24 v25 v26 v27 v28 v29 v30 v31 v32 v33 v34 v35 v36 v37 v38 v39 v40 v41 v42 v43 v44 v45 v46 = spec_l34Draw.s10 k e0 (spec_l34Draw.l10 k e0 n) v0 v1 v2 v3 v20 v21 v22 v23 v24 v25 v26 v27 v28 v29 v30 v31 v32 v33 v34 v35 v36 v37 v38 v39 v40 v41 v42 v43 v44 v45 v46 := rfl
def spec_l34Draw.f (k : Nat) (a0 : LI) (a1 a2 : Int) : Option (Int × Int × Bool × Bool × LI × LI × Int × Int × LI × Bool × LI × Int × Int × Bool × Bool × LI × LI × Int × Int × LL × LI × LI × Int × Int × Int × LI × LL × LI × Int × Int) :=
 (spec_l22Draw.f k a0 a1 a2).bind fun r1 =>
 (spec_l1Once.f k (t8 r1).1 (t9 r1).1 (t9 r1.2) 2).bind fun r2 =>
 bif r2.1 then
  (spec_l1Below.f k r2.2.1 (t2 r2).1 (t3 r2) 6).bind fun r3 =>
  (spec_NewTable.f k r1.1 r1.2.1 (t2 r1).1 (t3 r1).1 (t4 r1).1 (t5 r1).1 (t6 r1).1 (IntKind.wrap .i64 (1 + r3.1))).bind fun r4 =>
  (spec_l1Once.f k r3.2.1 (t2 r3).1 (t3 r3) 6).bind fun r5 =>
  bif r5.1 then
   (spec_SeedSeal.f k 0 3 5).bind fun r6 =>
   (spec_StepSeal.f k r4.1 r4.2.1 (t2 r4).1 (t3 r4).1 (t4 r4).1 (t5 r4).1 (t6 r4).1 (t7 r4).1 (t8 r4).1 (t9 r4).1 (t9 r4.2).1 (t9 (t2 r4)).1 (t9 (t3 r4)).1 (t9 (t4 r4)).1 (t9 (t5 r4)).1 (t9 (t6 r4)).1 (t9 (t7 r4)).1 (t9 (t8 r4)).1 (t9 (t9 r4)).1 (t9 (t9 r4.2)).1 (t9 (t9 (t2 r4))).1 (t9 (t9 (t3 r4))).1 (t9 (t9 (t4 r4))).1 (t9 (t9 (t5 r4))).1 (t9 (t9 (t6 r4))).1 (t9 (t9 (t7 r4))).1 (t9 (t9 (t8 r4))).1 r6).bind fun r7 =>
   some (r7.1, r7.2.1, (t2 r7).1, (t3 r7).1, (t4 r7).1, (t5 r7).1, (t6 r7).1, (t7 r7).1, (t8 r7).1, (t9 r7).1, (t9 r7.2).1, (t9 (t2 r7)).1, (t9 (t3 r7)).1, (t9 (t4 r7)).1, (t9 (t5 r7)).1, (t9 (t6 r7)).1, (t9 (t7 r7)).1, (t9 (t8 r7)).1, (t9 (t9 r7)).1, (t9 (t9 r7.2)).1, (t9 (t9 (t2 r7))).1, (t9 (t9 (t3 r7))).1, (t9 (t9 (t4 r7))).1, (t9 (t9 (t5 r7))).1, (t9 (t9 (t6 r7))).1, (t9 (t9 (t7 r7))).1, (t9 (t9 (t8 r7))).1, r5.2.1, (t2 r5).1, (t3 r5))
  else
   (spec_l1Below.f k r5.2.1 (t2 r5).1 (t3 r5) 900).bind fun r8 =>
   (spec_l34Sealed.f k r4.1 r4.2.1 (t2 r4).1 (t3 r4).1 (t4 r4).1 (t5 r4).1 (t6 r4).1 (t7 r4).1 (t8 r4).1 (t9 r4).1 (t9 r4.2).1 (t9 (t2 r4)).1 (t9 (t3 r4)).1 (t9 (t4 r4)).1 (t9 (t5 r4)).1 (t9 (t6 r4)).1 (t9 (t7 r4)).1 (t9 (t8 r4)).1 (t9 (t9 r4)).1 (t9 (t9 r4.2)).1 (t9 (t9 (t2 r4))).1 (t9 (t9 (t3 r4))).1 (t9 (t9 (t4 r4))).1 (t9 (t9 (t5 r4))).1 (t9 (t9 (t6 r4))).1 (t9 (t9 (t7 r4))).1 (t9 (t9 (t8 r4))).1 r8.1).bind fun r9 =>
   (spec_l1Below.f k r8.2.1 (t2 r8).1 (t3 r8) 10).bind fun r10 =>
   spec_l34Draw.l10 k (fun x12 x13 x14 x15 x16 x17 x18 x19 x20 x21 x22 x23 x24 x25 x26 x27 x28 x29 x30 x31 x32 x33 x34 x35 x36 x37 x38 x39 x40 x41 =>
    (spec_l1Once.f k x12 x13 x14 2).bind fun r42 =>
    bif r42.1 then
     (spec_StepSettle.f k x15 x16 x17 x18 x31 x32 x19 x20 x33 x21 x34 x22 x23 x24 x25 x35 x36 x26 x27 x37 x38 x39 x28 x29 x30 x40 x41).bind fun r43 =>
     some (r43.1, r43.2.1, (t2 r43).1, (t3 r43).1, (t4 r43).1, (t5 r43).1, (t6 r43).1, (t7 r43).1, (t8 r43).1, (t9 r43).1, (t9 r43.2).1, (t9 (t2 r43)).1, (t9 (t3 r43)).1, (t9 (t4 r43)).1, (t9 (t5 r43)).1, (t9 (t6 r43)).1, (t9 (t7 r43)).1, (t9 (t8 r43)).1, (t9 (t9 r43)).1, (t9 (t9 r43.2)).1, (t9 (t9 (t2 r43))).1, (t9 (t9 (t3 r43))).1, (t9 (t9 (t4 r43))).1, (t9 (t9 (t5 r43))).1, (t9 (t9 (t6 r43))).1, (t9 (t9 (t7 r43))).1, (t9 (t9 (t8 r43))).1, r42.2.1, (t2 r42).1, (t3 r42))
    else
     some (x15, x16, x17, x18, x31, x32, x19, x20, x33, x21, x34, x22, x23, x24, x25, x35, x36, x26, x27, x37, x38, x39, x28, x29, x30, x40, x41, r42.2.1, (t2 r42).1, (t3 r42))) k r10.1 r10.2.1 (t2 r10).1 (t3 r10) r9.1 r9.2.1 (t2 r9).1 (t3 r9).1 (t6 r9).1 (t7 r9).1 (t9 r9).1 (t9 (t2 r9)).1 (t9 (t3 r9)).1 (t9 (t4 r9)).1 (t9 (t5 r9)).1 (t9 (t8 r9)).1 (t9 (t9 r9)).1 (t9 (t9 (t4 r9))).1 (t9 (t9 (t5 r9))).1 (t9 (t9 (t6 r9))).1 (t4 r9).1 (t5 r9).1 (t8 r9).1 (t9 r9.2).1 (t9 (t6 r9)).1 (t9 (t7 r9)).1 (t9 (t9 r9.2)).1 (t9 (t9 (t2 r9))).1 (t9 (t9 (t3 r9))).1 (t9 (t9 (t7 r9))).1 (t9 (t9 (t8 r9)))
 else
  (spec_NewTable.f k r1.1 r1.2.1 (t2 r1).1 (t3 r1).1 (t4 r1).1 (t5 r1).1 (t6 r1).1 (t7 r1).1).bind fun r44 =>
  (spec_l1Once.f k r2.2.1 (t2 r2).1 (t3 r2) 6).bind fun r45 =>
  bif r45.1 then
   (spec_SeedSeal.f k 0 3 5).bind fun r46 =>
   (spec_StepSeal.f k r44.1 r44.2.1 (t2 r44).1 (t3 r44).1 (t4 r44).1 (t5 r44).1 (t6 r44).1 (t7 r44).1 (t8 r44).1 (t9 r44).1 (t9 r44.2).1 (t9 (t2 r44)).1 (t9 (t3 r44)).1 (t9 (t4 r44)).1 (t9 (t5 r44)).1 (t9 (t6 r44)).1 (t9 (t7 r44)).1 (t9 (t8 r44)).1 (t9 (t9 r44)).1 (t9 (t9 r44.2)).1 (t9 (t9 (t2 r44))).1 (t9 (t9 (t3 r44))).1 (t9 (t9 (t4 r44))).1 (t9 (t9 (t5 r44))).1 (t9 (t9 (t6 r44))).1 (t9 (t9 (t7 r44))).1 (t9 (t9 (t8 r44))).1 r46).bind fun r47 =>
   some (r47.1, r47.2.1, (t2 r47).1, (t3 r47).1, (t4 r47).1, (t5 r47).1, (t6 r47).1, (t7 r47).1, (t8 r47).1, (t9 r47).1, (t9 r47.2).1, (t9 (t2 r47)).1, (t9 (t3 r47)).1, (t9 (t4 r47)).1, (t9 (t5 r47)).1, (t9 (t6 r47)).1, (t9 (t7 r47)).1, (t9 (t8 r47)).1, (t9 (t9 r47)).1, (t9 (t9 r47.2)).1, (t9 (t9 (t2 r47))).1, (t9 (t9 (t3 r47))).1, (t9 (t9 (t4 r47))).1, (t9 (t9 (t5 r47))).1, (t9 (t9 (t6 r47))).1, (t9 (t9 (t7 r47))).1, (t9 (t9 (t8 r47))).1, r45.2.1, (t2 r45).1, (t3 r45))
  else
   (spec_l1Below.f k r45.2.1 (t2 r45).1 (t3 r45) 900).bind fun r48 =>
   (spec_l34Sealed.f k r44.1 r44.2.1 (t2 r44).1 (t3 r44).1 (t4 r44).1 (t5 r44).1 (t6 r44).1 (t7 r44).1 (t8 r44).1 (t9 r44).1 (t9 r44.2).1 (t9 (t2 r44)).1 (t9 (t3 r44)).1 (t9 (t4 r44)).1 (t9 (t5 r44)).1 (t9 (t6 r44)).1 (t9 (t7 r44)).1 (t9 (t8 r44)).1 (t9 (t9 r44)).1 (t9 (t9 r44.2)).1 (t9 (t9 (t2 r44))).1 (t9 (t9 (t3 r44))).1 (t9 (t9 (t4 r44))).1 (t9 (t9 (t5 r44))).1 (t9 (t9 (t6 r44))).1 (t9 (t9 (t7 r44))).1 (t9 (t9 (t8 r44))).1 r48.1).bind fun r49 =>
   (spec_l1Below.f k r48.2.1 (t2 r48).1 (t3 r48) 10).bind fun r50 =>
   spec_l34Draw.l10 k (fun x51 x52 x53 x54 x55 x56 x57 x58 x59 x60 x61 x62 x63 x64 x65 x66 x67 x68 x69 x70 x71 x72 x73 x74 x75 x76 x77 x78 x79 x80 =>
    (spec_l1Once.f k x51 x52 x53 2).bind fun r81 =>
    bif r81.1 then
     (spec_StepSettle.f k x54 x55 x56 x57 x70 x71 x58 x59 x72 x60 x73 x61 x62 x63 x64 x74 x75 x65 x66 x76 x77 x78 x67 x68 x69 x79 x80).bind fun r82 =>
     some (r82.1, r82.2.1, (t2 r82).1, (t3 r82).1, (t4 r82).1, (t5 r82).1, (t6 r82).1, (t7 r82).1, (t8 r82).1, (t9 r82).1, (t9 r82.2).1, (t9 (t2 r82)).1, (t9 (t3 r82)).1, (t9 (t4 r82)).1, (t9 (t5 r82)).1, (t9 (t6 r82)).1, (t9 (t7 r82)).1, (t9 (t8 r82)).1, (t9 (t9 r82)).1, (t9 (t9 r82.2)).1, (t9 (t9 (t2 r82))).1, (t9 (t9 (t3 r82))).1, (t9 (t9 (t4 r82))).1, (t9 (t9 (t5 r82))).1, (t9 (t9 (t6 r82))).1, (t9 (t9 (t7 r82))).1, (t9 (t9 (t8 r82))).1, r81.2.1, (t2 r81).1, (t3 r81))
    else
     some (x54, x55, x56, x57, x70, x71, x58, x59, x72, x60, x73, x61, x62, x63, x64, x74, x75, x65, x66, x76, x77, x78, x67, x68, x69, x79, x80, r81.2.1, (t2 r81).1, (t3 r81))) k r50.1 r50.2.1 (t2 r50).1 (t3 r50) r49.1 r49.2.1 (t2 r49).1 (t3 r49).1 (t6 r49).1 (t7 r49).1 (t9 r49).1 (t9 (t2 r49)).1 (t9 (t3 r49)).1 (t9 (t4 r49)).1 (t9 (t5 r49)).1 (t9 (t8 r49)).1 (t9 (t9 r49)).1 (t9 (t9 (t4 r49))).1 (t9 (t9 (t5 r49))).1 (t9 (t9 (t6 r49))).1 (t4 r49).1 (t5 r49).1 (t8 r49).1 (t9 r49.2).1 (t9 (t6 r49)).1 (t9 (t7 r49)).1 (t9 (t9 r49.2)).1 (t9 (t9 (t2 r49))).1 (t9 (t9 (t3 r49))).1 (t9 (t9 (t7 r49))).1 (t9 (t9 (t8 r49)))

def spec_DrawApplyEvent.f (k : Nat) (a : LI) : Option (Int × Int × Bool × Bool × LI × LI × Int × Int × LI × Bool × LI × Int × Int × Bool × Bool × LI × LI × Int × Int × LL × LI × LI × Int × Int × Int × LI × LL × Int × Int × LI × LI) :=
 (spec_l1New.f k a).bind fun r1 =>
 (spec_l34Draw.f k r1.1 r1.2.1 (t2 r1)).bind fun r2 =>
 (spec_l1Int.f k (t9 (t9 (t9 r2))).1 (t9 (t9 (t9 r2.2))).1 (t9 (t9 (t9 (t2 r2)))) [1, 3, 3, 4, 5, 6, 0]).bind fun r3 =>
 (spec_l4Card.f k r3.2.1 (t2 r3).1 (t3 r3)).bind fun r4 =>
 (spec_Playable.f k (t9 (t2 r2)).1 (t9 (t3 r2)).1 (t9 (t4 r2)).1 (t9 (t5 r2)).1 (t9 (t6 r2)).1 (t9 (t7 r2)).1 (t9 (t8 r2)).1 (t9 (t9 r2)).1 (t9 (t9 r2.2)).1 (t9 (t9 (t2 r2))).1 (t9 (t9 (t3 r2))).1 (t9 (t9 (t4 r2))).1 (t9 (t9 (t5 r2))).1 (t9 (t9 (t6 r2))).1).bind fun r5 =>
 bif (r3.1 == 3) then
  bif decide ((r5.length : Int) > 0) then
   chk (decide (0 < (r5.length : Int))) <|
   some (r2.1, r2.2.1, (t2 r2).1, (t3 r2).1, (t4 r2).1, (t5 r2).1, (t6 r2).1, (t7 r2).1, (t8 r2).1, (t9 r2).1, (t9 r2.2).1, (t9 (t2 r2)).1, (t9 (t3 r2)).1, (t9 (t4 r2)).1, (t9 (t5 r2)).1, (t9 (t6 r2)).1, (t9 (t7 r2)).1, (t9 (t8 r2)).1, (t9 (t9 r2)).1, (t9 (t9 r2.2)).1, (t9 (t9 (t2 r2))).1, (t9 (t9 (t3 r2))).1, (t9 (t9 (t4 r2))).1, (t9 (t9 (t5 r2))).1, (t9 (t9 (t6 r2))).1, (t9 (t9 (t7 r2))).1, (t9 (t9 (t8 r2))).1, r3.1, r5.getD 0 0, [], [])
  else
   some (r2.1, r2.2.1, (t2 r2).1, (t3 r2).1, (t4 r2).1, (t5 r2).1, (t6 r2).1, (t7 r2).1, (t8 r2).1, (t9 r2).1, (t9 r2.2).1, (t9 (t2 r2)).1, (t9 (t3 r2)).1, (t9 (t4 r2)).1, (t9 (t5 r2)).1, (t9 (t6 r2)).1, (t9 (t7 r2)).1, (t9 (t8 r2)).1, (t9 (t9 r2)).1, (t9 (t9 r2.2)).1, (t9 (t9 (t2 r2))).1, (t9 (t9 (t3 r2))).1, (t9 (t9 (t4 r2))).1, (t9 (t9 (t5 r2))).1, (t9 (t9 (t6 r2))).1, (t9 (t9 (t7 r2))).1, (t9 (t9 (t8 r2))).1, r3.1, r4.1, [], [])
 else
  some (r2.1, r2.2.1, (t2 r2).1, (t3 r2).1, (t4 r2).1, (t5 r2).1, (t6 r2).1, (t7 r2).1, (t8 r2).1, (t9 r2).1, (t9 r2.2).1, (t9 (t2 r2)).1, (t9 (t3 r2)).1, (t9 (t4 r2)).1, (t9 (t5 r2)).1, (t9 (t6 r2)).1, (t9 (t7 r2)).1, (t9 (t8 r2)).1, (t9 (t9 r2)).1, (t9 (t9 r2.2)).1, (t9 (t9 (t2 r2))).1, (t9 (t9 (t3 r2))).1, (t9 (t9 (t4 r2))).1, (t9 (t9 (t5 r2))).1, (t9 (t9 (t6 r2))).1, (t9 (t9 (t7 r2))).1, (t9 (t9 (t8 r2))).1, r3.1, r4.1, [], [])

def impl_EventName.f (k : Nat) (a : Int) : Option (ByteArray) :=
 (impl_InRange.f k a 1 5).bind fun r1 =>
 bif (!r1) then
  some ByteArray.empty
 else
  chk ((decide (0 ≤ (IntKind.wrap .i64 (a - 1)))) && (decide ((IntKind.wrap .i64 (a - 1)) < 5))) <|
  some (([(⟨#[115, 101, 97, 108]⟩ : ByteArray), (⟨#[100, 101, 97, 108]⟩ : ByteArray), (⟨#[112, 108, 97, 121]⟩ : ByteArray), (⟨#[116, 97, 107, 101]⟩ : ByteArray), (⟨#[115, 101, 116, 116, 108, 101]⟩ : ByteArray)]).getD ((IntKind.wrap .i64 (a - 1)).toNat) ByteArray.empty)

def laws_FnEvents.f (k : Nat) (a : LI) : Option (Bool) :=
 (laws_big.f k a).bind fun r1 =>
 bif r1 then
  some true
 else
  (spec_DrawRunEvents.f k a).bind fun r2 =>
  (impl_RunEvents.f k r2.1 r2.2.1 (t2 r2).1 (t3 r2).1 (t4 r2).1 (t5 r2).1 (t6 r2).1 (t7 r2).1 (t8 r2).1 (t9 r2).1 (t9 r2.2).1 (t9 (t2 r2)).1 (t9 (t3 r2)).1 (t9 (t4 r2)).1 (t9 (t5 r2)).1 (t9 (t6 r2)).1 (t9 (t7 r2)).1 (t9 (t8 r2)).1 (t9 (t9 r2)).1 (t9 (t9 r2.2)).1 (t9 (t9 (t2 r2))).1 (t9 (t9 (t3 r2))).1 (t9 (t9 (t4 r2))).1 (t9 (t9 (t5 r2))).1 (t9 (t9 (t6 r2))).1 (t9 (t9 (t7 r2))).1 (t9 (t9 (t8 r2))).1 (t9 (t9 (t9 r2)))).bind fun r3 =>
  (laws_at.f k a 3).bind fun r4 =>
  chk (!(decide (((t9 (t9 (t9 r2))).length : Int) = 0))) <|
  (impl_IsTable.f k r2.1 r2.2.1 (t2 r2).1 (t3 r2).1 (t4 r2).1 (t5 r2).1 (t6 r2).1 (t7 r2).1 (t8 r2).1 (t9 r2).1 (t9 r2.2).1 (t9 (t2 r2)).1 (t9 (t3 r2)).1 (t9 (t4 r2)).1 (t9 (t5 r2)).1 (t9 (t6 r2)).1 (t9 (t7 r2)).1 (t9 (t8 r2)).1 (t9 (t9 r2)).1 (t9 (t9 r2.2)).1 (t9 (t9 (t2 r2))).1 (t9 (t9 (t3 r2))).1 (t9 (t9 (t4 r2))).1 (t9 (t9 (t5 r2))).1 (t9 (t9 (t6 r2))).1 (t9 (t9 (t7 r2))).1 (t9 (t9 (t8 r2))).1).bind fun r5 =>
  (impl_IsTable.f k r3.1 r3.2.1 (t2 r3).1 (t3 r3).1 (t4 r3).1 (t5 r3).1 (t6 r3).1 (t7 r3).1 (t8 r3).1 (t9 r3).1 (t9 r3.2).1 (t9 (t2 r3)).1 (t9 (t3 r3)).1 (t9 (t4 r3)).1 (t9 (t5 r3)).1 (t9 (t6 r3)).1 (t9 (t7 r3)).1 (t9 (t8 r3)).1 (t9 (t9 r3)).1 (t9 (t9 r3.2)).1 (t9 (t9 (t2 r3))).1 (t9 (t9 (t3 r3))).1 (t9 (t9 (t4 r3))).1 (t9 (t9 (t5 r3))).1 (t9 (t9 (t6 r3))).1 (t9 (t9 (t7 r3))).1 (t9 (t9 (t8 r3)))).bind fun r6 =>
  bif (!(r5 == r6)) then
   some false
  else
   chk ((decide (0 ≤ (r4.tmod ((t9 (t9 (t9 r2))).length : Int)))) && (decide ((r4.tmod ((t9 (t9 (t9 r2))).length : Int)) ≤ ((t9 (t9 (t9 r2))).length : Int)))) <|
   chk (decide (0 ≤ (r4.tmod ((t9 (t9 (t9 r2))).length : Int)))) <|
   (impl_RunEvents.f k r2.1 r2.2.1 (t2 r2).1 (t3 r2).1 (t4 r2).1 (t5 r2).1 (t6 r2).1 (t7 r2).1 (t8 r2).1 (t9 r2).1 (t9 r2.2).1 (t9 (t2 r2)).1 (t9 (t3 r2)).1 (t9 (t4 r2)).1 (t9 (t5 r2)).1 (t9 (t6 r2)).1 (t9 (t7 r2)).1 (t9 (t8 r2)).1 (t9 (t9 r2)).1 (t9 (t9 r2.2)).1 (t9 (t9 (t2 r2))).1 (t9 (t9 (t3 r2))).1 (t9 (t9 (t4 r2))).1 (t9 (t9 (t5 r2))).1 (t9 (t9 (t6 r2))).1 (t9 (t9 (t7 r2))).1 (t9 (t9 (t8 r2))).1 (((t9 (t9 (t9 r2))).take ((r4.tmod ((t9 (t9 (t9 r2))).length : Int)).toNat)).drop 0)).bind fun r7 =>
   chk ((decide (0 ≤ ((t9 (t9 (t9 r2))).length : Int))) && (decide (((t9 (t9 (t9 r2))).length : Int) ≤ ((t9 (t9 (t9 r2))).length : Int)))) <|
   chk ((decide (0 ≤ (r4.tmod ((t9 (t9 (t9 r2))).length : Int)))) && (decide ((r4.tmod ((t9 (t9 (t9 r2))).length : Int)) ≤ ((t9 (t9 (t9 r2))).length : Int)))) <|
   (impl_RunEvents.f k r7.1 r7.2.1 (t2 r7).1 (t3 r7).1 (t4 r7).1 (t5 r7).1 (t6 r7).1 (t7 r7).1 (t8 r7).1 (t9 r7).1 (t9 r7.2).1 (t9 (t2 r7)).1 (t9 (t3 r7)).1 (t9 (t4 r7)).1 (t9 (t5 r7)).1 (t9 (t6 r7)).1 (t9 (t7 r7)).1 (t9 (t8 r7)).1 (t9 (t9 r7)).1 (t9 (t9 r7.2)).1 (t9 (t9 (t2 r7))).1 (t9 (t9 (t3 r7))).1 (t9 (t9 (t4 r7))).1 (t9 (t9 (t5 r7))).1 (t9 (t9 (t6 r7))).1 (t9 (t9 (t7 r7))).1 (t9 (t9 (t8 r7))) (((t9 (t9 (t9 r2))).take (((t9 (t9 (t9 r2))).length : Int).toNat)).drop ((r4.tmod ((t9 (t9 (t9 r2))).length : Int)).toNat))).bind fun r8 =>
   (impl_EqualTables.f k r3.1 r3.2.1 (t2 r3).1 (t3 r3).1 (t4 r3).1 (t5 r3).1 (t6 r3).1 (t7 r3).1 (t8 r3).1 (t9 r3).1 (t9 r3.2).1 (t9 (t2 r3)).1 (t9 (t3 r3)).1 (t9 (t4 r3)).1 (t9 (t5 r3)).1 (t9 (t6 r3)).1 (t9 (t7 r3)).1 (t9 (t8 r3)).1 (t9 (t9 r3)).1 (t9 (t9 r3.2)).1 (t9 (t9 (t2 r3))).1 (t9 (t9 (t3 r3))).1 (t9 (t9 (t4 r3))).1 (t9 (t9 (t5 r3))).1 (t9 (t9 (t6 r3))).1 (t9 (t9 (t7 r3))).1 (t9 (t9 (t8 r3))) r8.1 r8.2.1 (t2 r8).1 (t3 r8).1 (t4 r8).1 (t5 r8).1 (t6 r8).1 (t7 r8).1 (t8 r8).1 (t9 r8).1 (t9 r8.2).1 (t9 (t2 r8)).1 (t9 (t3 r8)).1 (t9 (t4 r8)).1 (t9 (t5 r8)).1 (t9 (t6 r8)).1 (t9 (t7 r8)).1 (t9 (t8 r8)).1 (t9 (t9 r8)).1 (t9 (t9 r8.2)).1 (t9 (t9 (t2 r8))).1 (t9 (t9 (t3 r8))).1 (t9 (t9 (t4 r8))).1 (t9 (t9 (t5 r8))).1 (t9 (t9 (t6 r8))).1 (t9 (t9 (t7 r8))).1 (t9 (t9 (t8 r8)))).bind fun r9 =>
   bif (!r9) then
    some false
   else
    (impl_CountEvents.f k (t9 (t9 (t9 r2))) 2).bind fun r10 =>
    bif decide (r10 < 1) then
     some false
    else
     (spec_DrawDealEvents.f k a).bind fun r11 =>
     (impl_DealEvents.f k r11.1 r11.2.1 (t2 r11).1 (t3 r11).1 (t4 r11).1 (t5 r11).1 (t6 r11).1 (t7 r11).1 (t8 r11).1 (t9 r11)).bind fun r12 =>
     (impl_NewTable.f k r11.1 r11.2.1 (t2 r11).1 (t3 r11).1 (t4 r11).1 (t5 r11).1 (t6 r11).1 (t7 r11).1).bind fun r13 =>
     bif (t9 (t9 (t9 r13))) then
      bif decide ((r12.length : Int) > 0) then
       (impl_RunEvents.f k r13.1 r13.2.1 (t2 r13).1 (t3 r13).1 (t4 r13).1 (t5 r13).1 (t6 r13).1 (t7 r13).1 (t8 r13).1 (t9 r13).1 (t9 r13.2).1 (t9 (t2 r13)).1 (t9 (t3 r13)).1 (t9 (t4 r13)).1 (t9 (t5 r13)).1 (t9 (t6 r13)).1 (t9 (t7 r13)).1 (t9 (t8 r13)).1 (t9 (t9 r13)).1 (t9 (t9 r13.2)).1 (t9 (t9 (t2 r13))).1 (t9 (t9 (t3 r13))).1 (t9 (t9 (t4 r13))).1 (t9 (t9 (t5 r13))).1 (t9 (t9 (t6 r13))).1 (t9 (t9 (t7 r13))).1 (t9 (t9 (t8 r13))).1 r12).bind fun r14 =>
       bif (!(t9 r14).1) then
        some false
       else
        (impl_IsTable.f k r14.1 r14.2.1 (t2 r14).1 (t3 r14).1 (t4 r14).1 (t5 r14).1 (t6 r14).1 (t7 r14).1 (t8 r14).1 (t9 r14).1 (t9 r14.2).1 (t9 (t2 r14)).1 (t9 (t3 r14)).1 (t9 (t4 r14)).1 (t9 (t5 r14)).1 (t9 (t6 r14)).1 (t9 (t7 r14)).1 (t9 (t8 r14)).1 (t9 (t9 r14)).1 (t9 (t9 r14.2)).1 (t9 (t9 (t2 r14))).1 (t9 (t9 (t3 r14))).1 (t9 (t9 (t4 r14))).1 (t9 (t9 (t5 r14))).1 (t9 (t9 (t6 r14))).1 (t9 (t9 (t7 r14))).1 (t9 (t9 (t8 r14)))).bind fun r15 =>
        bif (!r15) then
         some false
        else
         (impl_CountEvents.f k r12 1).bind fun r16 =>
         bif (r16 != r11.1) then
          some false
         else
          (spec_DrawApplyEvent.f k a).bind fun r17 =>
          (impl_ApplyEvent.f k r17.1 r17.2.1 (t2 r17).1 (t3 r17).1 (t4 r17).1 (t5 r17).1 (t6 r17).1 (t7 r17).1 (t8 r17).1 (t9 r17).1 (t9 r17.2).1 (t9 (t2 r17)).1 (t9 (t3 r17)).1 (t9 (t4 r17)).1 (t9 (t5 r17)).1 (t9 (t6 r17)).1 (t9 (t7 r17)).1 (t9 (t8 r17)).1 (t9 (t9 r17)).1 (t9 (t9 r17.2)).1 (t9 (t9 (t2 r17))).1 (t9 (t9 (t3 r17))).1 (t9 (t9 (t4 r17))).1 (t9 (t9 (t5 r17))).1 (t9 (t9 (t6 r17))).1 (t9 (t9 (t7 r17))).1 (t9 (t9 (t8 r17))).1 (t9 (t9 (t9 r17))).1 (t9 (t9 (t9 r17.2))).1 (t9 (t9 (t9 (t2 r17)))).1 (t9 (t9 (t9 (t3 r17))))).bind fun r18 =>
          bif (t9 (t9 (t9 r18))) then
           bif (!(t9 (t9 (t9 r18)))) then
            some true
           else
            (impl_EventName.f k (t9 (t9 (t9 r17))).1).bind fun r19 =>
            some (!(r19.toList == ByteArray.empty.toList))
          else
           (impl_EqualTables.f k r17.1 r17.2.1 (t2 r17).1 (t3 r17).1 (t4 r17).1 (t5 r17).1 (t6 r17).1 (t7 r17).1 (t8 r17).1 (t9 r17).1 (t9 r17.2).1 (t9 (t2 r17)).1 (t9 (t3 r17)).1 (t9 (t4 r17)).1 (t9 (t5 r17)).1 (t9 (t6 r17)).1 (t9 (t7 r17)).1 (t9 (t8 r17)).1 (t9 (t9 r17)).1 (t9 (t9 r17.2)).1 (t9 (t9 (t2 r17))).1 (t9 (t9 (t3 r17))).1 (t9 (t9 (t4 r17))).1 (t9 (t9 (t5 r17))).1 (t9 (t9 (t6 r17))).1 (t9 (t9 (t7 r17))).1 (t9 (t9 (t8 r17))).1 r18.1 r18.2.1 (t2 r18).1 (t3 r18).1 (t4 r18).1 (t5 r18).1 (t6 r18).1 (t7 r18).1 (t8 r18).1 (t9 r18).1 (t9 r18.2).1 (t9 (t2 r18)).1 (t9 (t3 r18)).1 (t9 (t4 r18)).1 (t9 (t5 r18)).1 (t9 (t6 r18)).1 (t9 (t7 r18)).1 (t9 (t8 r18)).1 (t9 (t9 r18)).1 (t9 (t9 r18.2)).1 (t9 (t9 (t2 r18))).1 (t9 (t9 (t3 r18))).1 (t9 (t9 (t4 r18))).1 (t9 (t9 (t5 r18))).1 (t9 (t9 (t6 r18))).1 (t9 (t9 (t7 r18))).1 (t9 (t9 (t8 r18))).1).bind fun r20 =>
           bif r20 then
            bif (!(t9 (t9 (t9 r18)))) then
             some true
            else
             (impl_EventName.f k (t9 (t9 (t9 r17))).1).bind fun r21 =>
             some (!(r21.toList == ByteArray.empty.toList))
           else
            some false
      else
       (spec_DrawApplyEvent.f k a).bind fun r22 =>
       (impl_ApplyEvent.f k r22.1 r22.2.1 (t2 r22).1 (t3 r22).1 (t4 r22).1 (t5 r22).1 (t6 r22).1 (t7 r22).1 (t8 r22).1 (t9 r22).1 (t9 r22.2).1 (t9 (t2 r22)).1 (t9 (t3 r22)).1 (t9 (t4 r22)).1 (t9 (t5 r22)).1 (t9 (t6 r22)).1 (t9 (t7 r22)).1 (t9 (t8 r22)).1 (t9 (t9 r22)).1 (t9 (t9 r22.2)).1 (t9 (t9 (t2 r22))).1 (t9 (t9 (t3 r22))).1 (t9 (t9 (t4 r22))).1 (t9 (t9 (t5 r22))).1 (t9 (t9 (t6 r22))).1 (t9 (t9 (t7 r22))).1 (t9 (t9 (t8 r22))).1 (t9 (t9 (t9 r22))).1 (t9 (t9 (t9 r22.2))).1 (t9 (t9 (t9 (t2 r22)))).1 (t9 (t9 (t9 (t3 r22))))).bind fun r23 =>
       bif (t9 (t9 (t9 r23))) then
        bif (!(t9 (t9 (t9 r23)))) then
         some true
        else
         (impl_EventName.f k (t9 (t9 (t9 r22))).1).bind fun r24 =>
         some (!(r24.toList == ByteArray.empty.toList))
       else
        (impl_EqualTables.f k r22.1 r22.2.1 (t2 r22).1 (t3 r22).1 (t4 r22).1 (t5 r22).1 (t6 r22).1 (t7 r22).1 (t8 r22).1 (t9 r22).1 (t9 r22.2).1 (t9 (t2 r22)).1 (t9 (t3 r22)).1 (t9 (t4 r22)).1 (t9 (t5 r22)).1 (t9 (t6 r22)).1 (t9 (t7 r22)).1 (t9 (t8 r22)).1 (t9 (t9 r22)).1 (t9 (t9 r22.2)).1 (t9 (t9 (t2 r22))).1 (t9 (t9 (t3 r22))).1 (t9 (t9 (t4 r22))).1 (t9 (t9 (t5 r22))).1 (t9 (t9 (t6 r22))).1 (t9 (t9 (t7 r22))).1 (t9 (t9 (t8 r22))).1 r23.1 r23.2.1 (t2 r23).1 (t3 r23).1 (t4 r23).1 (t5 r23).1 (t6 r23).1 (t7 r23).1 (t8 r23).1 (t9 r23).1 (t9 r23.2).1 (t9 (t2 r23)).1 (t9 (t3 r23)).1 (t9 (t4 r23)).1 (t9 (t5 r23)).1 (t9 (t6 r23)).1 (t9 (t7 r23)).1 (t9 (t8 r23)).1 (t9 (t9 r23)).1 (t9 (t9 r23.2)).1 (t9 (t9 (t2 r23))).1 (t9 (t9 (t3 r23))).1 (t9 (t9 (t4 r23))).1 (t9 (t9 (t5 r23))).1 (t9 (t9 (t6 r23))).1 (t9 (t9 (t7 r23))).1 (t9 (t9 (t8 r23))).1).bind fun r25 =>
        bif r25 then
         bif (!(t9 (t9 (t9 r23)))) then
          some true
         else
          (impl_EventName.f k (t9 (t9 (t9 r22))).1).bind fun r26 =>
          some (!(r26.toList == ByteArray.empty.toList))
        else
         some false
     else
      (spec_DrawApplyEvent.f k a).bind fun r27 =>
      (impl_ApplyEvent.f k r27.1 r27.2.1 (t2 r27).1 (t3 r27).1 (t4 r27).1 (t5 r27).1 (t6 r27).1 (t7 r27).1 (t8 r27).1 (t9 r27).1 (t9 r27.2).1 (t9 (t2 r27)).1 (t9 (t3 r27)).1 (t9 (t4 r27)).1 (t9 (t5 r27)).1 (t9 (t6 r27)).1 (t9 (t7 r27)).1 (t9 (t8 r27)).1 (t9 (t9 r27)).1 (t9 (t9 r27.2)).1 (t9 (t9 (t2 r27))).1 (t9 (t9 (t3 r27))).1 (t9 (t9 (t4 r27))).1 (t9 (t9 (t5 r27))).1 (t9 (t9 (t6 r27))).1 (t9 (t9 (t7 r27))).1 (t9 (t9 (t8 r27))).1 (t9 (t9 (t9 r27))).1 (t9 (t9 (t9 r27.2))).1 (t9 (t9 (t9 (t2 r27)))).1 (t9 (t9 (t9 (t3 r27))))).bind fun r28 =>
      bif (t9 (t9 (t9 r28))) then
       bif (!(t9 (t9 (t9 r28)))) then
        some true
       else
        (impl_EventName.f k (t9 (t9 (t9 r27))).1).bind fun r29 =>
        some (!(r29.toList == ByteArray.empty.toList))
      else
       (impl_EqualTables.f k r27.1 r27.2.1 (t2 r27).1 (t3 r27).1 (t4 r27).1 (t5 r27).1 (t6 r27).1 (t7 r27).1 (t8 r27).1 (t9 r27).1 (t9 r27.2).1 (t9 (t2 r27)).1 (t9 (t3 r27)).1 (t9 (t4 r27)).1 (t9 (t5 r27)).1 (t9 (t6 r27)).1 (t9 (t7 r27)).1 (t9 (t8 r27)).1 (t9 (t9 r27)).1 (t9 (t9 r27.2)).1 (t9 (t9 (t2 r27))).1 (t9 (t9 (t3 r27))).1 (t9 (t9 (t4 r27))).1 (t9 (t9 (t5 r27))).1 (t9 (t9 (t6 r27))).1 (t9 (t9 (t7 r27))).1 (t9 (t9 (t8 r27))).1 r28.1 r28.2.1 (t2 r28).1 (t3 r28).1 (t4 r28).1 (t5 r28).1 (t6 r28).1 (t7 r28).1 (t8 r28).1 (t9 r28).1 (t9 r28.2).1 (t9 (t2 r28)).1 (t9 (t3 r28)).1 (t9 (t4 r28)).1 (t9 (t5 r28)).1 (t9 (t6 r28)).1 (t9 (t7 r28)).1 (t9 (t8 r28)).1 (t9 (t9 r28)).1 (t9 (t9 r28.2)).1 (t9 (t9 (t2 r28))).1 (t9 (t9 (t3 r28))).1 (t9 (t9 (t4 r28))).1 (t9 (t9 (t5 r28))).1 (t9 (t9 (t6 r28))).1 (t9 (t9 (t7 r28))).1 (t9 (t9 (t8 r28))).1).bind fun r30 =>
       bif r30 then
        bif (!(t9 (t9 (t9 r28)))) then
         some true
        else
         (impl_EventName.f k (t9 (t9 (t9 r27))).1).bind fun r31 =>
         some (!(r31.toList == ByteArray.empty.toList))
       else
        some false
end Go.Proofs.YtpdkglbbhfhlfaaGreat
