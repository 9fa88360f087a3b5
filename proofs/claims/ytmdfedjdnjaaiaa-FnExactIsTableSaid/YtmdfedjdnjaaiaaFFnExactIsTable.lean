/- Plain Lean functions, printed by a program out of the Go functions' translation: what each computes, without program and memory. -/
import Derived.Test.YtmdfedjdnjaaiaaFFnExactPlayOut
set_option linter.unusedVariables false
namespace Go.Proofs.Ytmdfedjdnjaaiaa
open Go Go.Proofs.Ytmdfedjdnjaaiaa.V

def laws_szTable.f (k : Nat) (a0 a1 : Int) (a2 a3 : Bool) (a4 a5 : LI) (a6 a7 : Int) (a8 : LI) (a9 : Bool) (a10 : LI) (a11 a12 : Int) (a13 a14 : Bool) (a15 a16 : LI) (a17 a18 : Int) (a19 : LL) (a20 a21 : LI) (a22 a23 a24 : Int) (a25 : LI) (a26 : LL) (g : Int) : Option (Int) :=
 (laws_szRules.f k a0 a1 a2 a3 a4 a5 a6 a7 g).bind fun r1 =>
 bif decide (r1 < 0) then
  some (-1)
 else
  (laws_szIntS.f k a8 r1).bind fun r2 =>
  bif decide (r2 < 0) then
   some (-1)
  else
   (laws_szIntS.f k a10 r2).bind fun r3 =>
   bif decide (r3 < 0) then
    some (-1)
   else
    (laws_szGame.f k a11 a12 a13 a14 a15 a16 a17 a18 a19 a20 a21 a22 a23 a24 r3).bind fun r4 =>
    bif decide (r4 < 0) then
     some (-1)
    else
     (laws_szIntS.f k a25 r4).bind fun r5 =>
     bif decide (r5 < 0) then
      some (-1)
     else
      (laws_szIntSS.f k a26 r5).bind fun r6 =>
      bif decide (r6 < 0) then
       some (-1)
      else
       some r6

def spec_IsRound.s3 {R : Type} (k : Nat) (v1 : LI) (e0 e1 : Int → Option R) (rec : Int → Int → Option R) (v2 v3 : Int) : Option R :=
 bif decide (v3 < (v1.length : Int)) then
  chk ((decide (0 ≤ v3)) && (decide (v3 < (v1.length : Int)))) <|
  (spec_l1In.f k (v1.getD v3.toNat 0) (-1000) 1000).bind fun r1 =>
  bif (!r1) then
   e0 v2
  else
   chk ((decide (0 ≤ v3)) && (decide (v3 < (v1.length : Int)))) <|
   rec (IntKind.wrap .i64 (v2 + (v1.getD v3.toNat 0))) (IntKind.wrap .i64 (v3 + 1))
 else
  e1 v2
def spec_IsRound.l3 {R : Type} (k : Nat) (v1 : LI) (e0 e1 : Int → Option R) (n : Nat) (v2 v3 : Int) : Option R :=
 V.iter (A := Int × Int) (fun rec a => spec_IsRound.s3 k v1 e0 e1 (fun c0 c1 => rec (c0, c1)) a.1 a.2) n (v2, v3)
theorem spec_IsRound.l3_succ {R : Type} (k : Nat) (v1 : LI) (e0 e1 : Int → Option R) (n : Nat) (v2 v3 : Int) : spec_IsRound.l3 (R := R) k v1 e0 e1 (n + 1) v2 v3 = spec_IsRound.s3 k v1 e0 e1 (spec_IsRound.l3 k v1 e0 e1 n) v2 v3 := rfl
def spec_IsRound.f (k : Nat) (a : Int) (g : LI) : Option (Bool) :=
 spec_IsRound.l3 k g (fun x2 =>
  some false) (fun x3 =>
  (spec_l1In.f k a 2 6).bind fun r4 =>
  bif r4 then
   bif ((g.length : Int) == a) then
    some (x3 == 0)
   else
    some false
  else
   some false) k 0 0

def spec_IsSheet.s2 {R : Type} (k : Nat) (v0 : Int) (v1 : LL) (e0 e1 : Option R) (rec : Int → Option R) (v2 : Int) : Option R :=
 bif decide (v2 < (v1.length : Int)) then
  chk ((decide (0 ≤ v2)) && (decide (v2 < (v1.length : Int)))) <|
  (spec_IsRound.f k v0 (v1.getD v2.toNat [])).bind fun r1 =>
  bif (!r1) then
   e0
  else
   rec (IntKind.wrap .i64 (v2 + 1))
 else
  e1
def spec_IsSheet.l2 {R : Type} (k : Nat) (v0 : Int) (v1 : LL) (e0 e1 : Option R) (n : Nat) (v2 : Int) : Option R :=
 V.iter (A := Int) (fun rec a => spec_IsSheet.s2 k v0 v1 e0 e1 (fun c0 => rec c0) a) n v2
theorem spec_IsSheet.l2_succ {R : Type} (k : Nat) (v0 : Int) (v1 : LL) (e0 e1 : Option R) (n : Nat) (v2 : Int) : spec_IsSheet.l2 (R := R) k v0 v1 e0 e1 (n + 1) v2 = spec_IsSheet.s2 k v0 v1 e0 e1 (spec_IsSheet.l2 k v0 v1 e0 e1 n) v2 := rfl
def spec_IsSheet.f (k : Nat) (a : Int) (g : LL) : Option (Bool) :=
 spec_IsSheet.l2 k a g (some false) ((spec_l1In.f k a 2 6).bind fun r2 =>
  bif r2 then
   some (decide ((g.length : Int) ≤ 50))
  else
   some false) k 0

def spec_EqualInts.s4 {R : Type} (k : Nat) (v0 v1 : LI) (e0 e1 : Option R) (rec : Int → Option R) (v2 : Int) : Option R :=
 bif decide (v2 < (v0.length : Int)) then
  chk ((decide (0 ≤ v2)) && (decide (v2 < (v0.length : Int)))) <|
  chk ((decide (0 ≤ v2)) && (decide (v2 < (v1.length : Int)))) <|
  bif ((v0.getD v2.toNat 0) != (v1.getD v2.toNat 0)) then
   e0
  else
   rec (IntKind.wrap .i64 (v2 + 1))
 else
  e1
def spec_EqualInts.l4 {R : Type} (k : Nat) (v0 v1 : LI) (e0 e1 : Option R) (n : Nat) (v2 : Int) : Option R :=
 V.iter (A := Int) (fun rec a => spec_EqualInts.s4 k v0 v1 e0 e1 (fun c0 => rec c0) a) n v2
theorem spec_EqualInts.l4_succ {R : Type} (k : Nat) (v0 v1 : LI) (e0 e1 : Option R) (n : Nat) (v2 : Int) : spec_EqualInts.l4 (R := R) k v0 v1 e0 e1 (n + 1) v2 = spec_EqualInts.s4 k v0 v1 e0 e1 (spec_EqualInts.l4 k v0 v1 e0 e1 n) v2 := rfl
def spec_EqualInts.f (k : Nat) (a g : LI) : Option (Bool) :=
 bif ((a.length : Int) != (g.length : Int)) then
  some false
 else
  spec_EqualInts.l4 k a g (some false) (some true) k 0

def spec_EqualRules.f (k : Nat) (a0 a1 : Int) (a2 a3 : Bool) (a4 a5 : LI) (a6 a7 g0 g1 : Int) (g2 g3 : Bool) (g4 g5 : LI) (g6 g7 : Int) : Option (Bool) :=
 bif (a0 == g0) then
  bif (a1 == g1) then
   bif (a2 == g2) then
    bif (a3 == g3) then
     (spec_EqualInts.f k a4 g4).bind fun r1 =>
     bif r1 then
      (spec_EqualInts.f k a5 g5).bind fun r2 =>
      bif r2 then
       bif (a6 == g6) then
        some (a7 == g7)
       else
        some false
      else
       some false
     else
      some false
    else
     some false
   else
    some false
  else
   some false
 else
  some false

def spec_EqualGames.s4 {R : Type} (k : Nat) (v9 v23 : LL) (e0 e1 : Option R) (rec : Int → Option R) (v0 : Int) : Option R :=
 bif decide (v0 < (v9.length : Int)) then
  chk ((decide (0 ≤ v0)) && (decide (v0 < (v9.length : Int)))) <|
  chk ((decide (0 ≤ v0)) && (decide (v0 < (v23.length : Int)))) <|
  (spec_EqualInts.f k (v9.getD v0.toNat []) (v23.getD v0.toNat [])).bind fun r1 =>
  bif (!r1) then
   e0
  else
   rec (IntKind.wrap .i64 (v0 + 1))
 else
  e1
def spec_EqualGames.l4 {R : Type} (k : Nat) (v9 v23 : LL) (e0 e1 : Option R) (n : Nat) (v0 : Int) : Option R :=
 V.iter (A := Int) (fun rec a => spec_EqualGames.s4 k v9 v23 e0 e1 (fun c0 => rec c0) a) n v0
theorem spec_EqualGames.l4_succ {R : Type} (k : Nat) (v9 v23 : LL) (e0 e1 : Option R) (n : Nat) (v0 : Int) : spec_EqualGames.l4 (R := R) k v9 v23 e0 e1 (n + 1) v0 = spec_EqualGames.s4 k v9 v23 e0 e1 (spec_EqualGames.l4 k v9 v23 e0 e1 n) v0 := rfl
def spec_EqualGames.f (k : Nat) (a0 a1 : Int) (a2 a3 : Bool) (a4 a5 : LI) (a6 a7 : Int) (a8 : LL) (a9 a10 : LI) (a11 a12 a13 g0 g1 : Int) (g2 g3 : Bool) (g4 g5 : LI) (g6 g7 : Int) (g8 : LL) (g9 g10 : LI) (g11 g12 g13 : Int) : Option (Bool) :=
 bif ((a8.length : Int) != (g8.length : Int)) then
  some false
 else
  spec_EqualGames.l4 k a8 g8 (some false) ((spec_EqualRules.f k a0 a1 a2 a3 a4 a5 a6 a7 g0 g1 g2 g3 g4 g5 g6 g7).bind fun r2 =>
   bif r2 then
    (spec_EqualInts.f k a9 g9).bind fun r3 =>
    bif r3 then
     (spec_EqualInts.f k a10 g10).bind fun r4 =>
     bif r4 then
      bif (a11 == g11) then
       bif (a12 == g12) then
        some (a13 == g13)
       else
        some false
      else
       some false
     else
      some false
    else
     some false
   else
    some false) k 0

def spec_Dealt.s9 {R : Type} (k : Nat) (v0 : LI) (v1 v2 v3 : Int) (e0 : LI → Option R) (rec : Int → LI → Option R) (v4 : Int) (v6 : LI) : Option R :=
 bif decide (v4 < v2) then
  chk ((decide (0 ≤ (IntKind.wrap .i64 ((IntKind.wrap .i64 (v4 * v1)) + v3)))) && (decide ((IntKind.wrap .i64 ((IntKind.wrap .i64 (v4 * v1)) + v3)) < (v0.length : Int)))) <|
  chk (decide ((v6.length + 1) * 8 ≤ room)) <|
  rec (IntKind.wrap .i64 (v4 + 1)) (v6 ++ [v0.getD ((IntKind.wrap .i64 ((IntKind.wrap .i64 (v4 * v1)) + v3)).toNat) 0])
 else
  e0 v6
def spec_Dealt.l9 {R : Type} (k : Nat) (v0 : LI) (v1 v2 v3 : Int) (e0 : LI → Option R) (n : Nat) (v4 : Int) (v6 : LI) : Option R :=
 V.iter (A := Int × LI) (fun rec a => spec_Dealt.s9 k v0 v1 v2 v3 e0 (fun c0 c1 => rec (c0, c1)) a.1 a.2) n (v4, v6)
theorem spec_Dealt.l9_succ {R : Type} (k : Nat) (v0 : LI) (v1 v2 v3 : Int) (e0 : LI → Option R) (n : Nat) (v4 : Int) (v6 : LI) : spec_Dealt.l9 (R := R) k v0 v1 v2 v3 e0 (n + 1) v4 v6 = spec_Dealt.s9 k v0 v1 v2 v3 e0 (spec_Dealt.l9 k v0 v1 v2 v3 e0 n) v4 v6 := rfl
def spec_Dealt.s5 {R : Type} (k : Nat) (v0 : LI) (v1 v2 : Int) (e0 : LL → Option R) (rec : Int → LL → Option R) (v3 : Int) (v4 : LL) : Option R :=
 bif decide (v3 < v1) then
  spec_Dealt.l9 k v0 v1 v2 v3 (fun x4 =>
   chk (decide ((v4.length + 1) * 24 ≤ room)) <|
   rec (IntKind.wrap .i64 (v3 + 1)) (v4 ++ [x4])) k 0 []
 else
  e0 v4
def spec_Dealt.l5 {R : Type} (k : Nat) (v0 : LI) (v1 v2 : Int) (e0 : LL → Option R) (n : Nat) (v3 : Int) (v4 : LL) : Option R :=
 V.iter (A := Int × LL) (fun rec a => spec_Dealt.s5 k v0 v1 v2 e0 (fun c0 c1 => rec (c0, c1)) a.1 a.2) n (v3, v4)
theorem spec_Dealt.l5_succ {R : Type} (k : Nat) (v0 : LI) (v1 v2 : Int) (e0 : LL → Option R) (n : Nat) (v3 : Int) (v4 : LL) : spec_Dealt.l5 (R := R) k v0 v1 v2 e0 (n + 1) v3 v4 = spec_Dealt.s5 k v0 v1 v2 e0 (spec_Dealt.l5 k v0 v1 v2 e0 n) v3 v4 := rfl
def spec_Dealt.f (k : Nat) (a : LI) (g i : Int) : Option (LL × LI × Bool) :=
 (spec_IsHand.f k a).bind fun r1 =>
 bif (!r1) then
  chk (decide ((0 + a.length) * 8 ≤ room)) <|
  some ([], [] ++ a, false)
 else
  (spec_l1In.f k g 1 6).bind fun r2 =>
  bif (!r2) then
   chk (decide ((0 + a.length) * 8 ≤ room)) <|
   some ([], [] ++ a, false)
  else
   (spec_l1In.f k i 0 20).bind fun r3 =>
   bif (!r3) then
    chk (decide ((0 + a.length) * 8 ≤ room)) <|
    some ([], [] ++ a, false)
   else
    bif decide ((IntKind.wrap .i64 (g * i)) > (a.length : Int)) then
     chk (decide ((0 + a.length) * 8 ≤ room)) <|
     some ([], [] ++ a, false)
    else
     spec_Dealt.l5 k a g i (fun x5 =>
      chk ((decide (0 ≤ (IntKind.wrap .i64 (g * i)))) && (decide ((IntKind.wrap .i64 (g * i)) ≤ (a.length : Int)))) <|
      chk (decide ((0 + ((a.drop ((IntKind.wrap .i64 (g * i)).toNat)).length)) * 8 ≤ room)) <|
      some (x5, [] ++ (a.drop ((IntKind.wrap .i64 (g * i)).toNat)), true)) k 0 []

def spec_NewGame.f (k : Nat) (a0 a1 : Int) (a2 a3 : Bool) (a4 a5 : LI) (a6 a7 : Int) (g : LI) : Option (Int × Int × Bool × Bool × LI × LI × Int × Int × LL × LI × LI × Int × Int × Int × Bool) :=
 (spec_IsRules.f k a0 a1 a2 a3 a4 a5 a6 a7).bind fun r1 =>
 bif (!r1) then
  some (0, 0, false, false, [], [], 0, 0, [], [], [], 0, 0, 0, false)
 else
  (spec_IsHand.f k g).bind fun r2 =>
  bif (!r2) then
   some (0, 0, false, false, [], [], 0, 0, [], [], [], 0, 0, 0, false)
  else
   bif ((g.length : Int) != 52) then
    some (0, 0, false, false, [], [], 0, 0, [], [], [], 0, 0, 0, false)
   else
    (spec_Dealt.f k g a0 a1).bind fun r3 =>
    (spec_l22Copy.f k a0 a1 a2 a3 a4 a5 a6 a7).bind fun r4 =>
    chk (decide (1 ≤ (r3.2.1.length : Int))) <|
    chk (decide ((0 + (((r3.2.1.take 1).drop 0).length)) * 8 ≤ room)) <|
    chk ((decide (0 ≤ (r3.2.1.length : Int))) && (decide ((r3.2.1.length : Int) ≤ (r3.2.1.length : Int)))) <|
    chk (decide (1 ≤ (r3.2.1.length : Int))) <|
    chk (decide ((0 + (((r3.2.1.take ((r3.2.1.length : Int).toNat)).drop 1).length)) * 8 ≤ room)) <|
    some (r4.1, r4.2.1, (t2 r4).1, (t3 r4).1, (t4 r4).1, (t5 r4).1, (t6 r4).1, (t7 r4), r3.1, [] ++ ((r3.2.1.take ((r3.2.1.length : Int).toNat)).drop 1), [] ++ ((r3.2.1.take 1).drop 0), 0, 0, 0, true)

def spec_ReplayMove.f (k : Nat) (a0 a1 : Int) (a2 a3 : Bool) (a4 a5 : LI) (a6 a7 : Int) (a8 : LL) (a9 a10 : LI) (a11 a12 a13 g : Int) : Option (Int × Int × Bool × Bool × LI × LI × Int × Int × LL × LI × LI × Int × Int × Int × Bool) :=
 bif (g == (-1)) then
  (spec_TakeCards.f k a0 a1 a2 a3 a4 a5 a6 a7 a8 a9 a10 a11 a12 a13).bind fun r1 =>
  some (r1.1, r1.2.1, (t2 r1).1, (t3 r1).1, (t4 r1).1, (t5 r1).1, (t6 r1).1, (t7 r1).1, (t8 r1).1, (t9 r1).1, (t9 r1.2).1, (t9 (t2 r1)).1, (t9 (t3 r1)).1, (t9 (t4 r1)).1, (t9 (t5 r1)))
 else
  (spec_PlayOn.f k a0 a1 a2 a3 a4 a5 a6 a7 a8 a9 a10 a11 a12 a13 g).bind fun r2 =>
  some (r2.1, r2.2.1, (t2 r2).1, (t3 r2).1, (t4 r2).1, (t5 r2).1, (t6 r2).1, (t7 r2).1, (t8 r2).1, (t9 r2).1, (t9 r2.2).1, (t9 (t2 r2)).1, (t9 (t3 r2)).1, (t9 (t4 r2)).1, (t9 (t5 r2)))

def spec_Replayed.s3 {R : Type} (k : Nat) (v0 : LI) (e0 : Int → Int → Int → Bool → Bool → Int → Int → Int → Int → Int → LI → LI → LL → LI → LI → Option R) (e1 : Int → Int → Bool → Bool → Int → Int → Int → Int → Int → LI → LI → LL → LI → LI → Option R) (rec : Int → Int → Int → Bool → Bool → Int → Int → Int → Int → Int → LI → LI → LL → LI → LI → Option R) (v1 v11 v12 : Int) (v13 v14 : Bool) (v15 v16 v17 v18 v19 : Int) (v20 v21 : LI) (v22 : LL) (v23 v24 : LI) : Option R :=
 bif decide (v1 < (v0.length : Int)) then
  chk ((decide (0 ≤ v1)) && (decide (v1 < (v0.length : Int)))) <|
  (spec_ReplayMove.f k v11 v12 v13 v14 v20 v21 v15 v16 v22 v23 v24 v17 v18 v19 (v0.getD v1.toNat 0)).bind fun r2 =>
  bif (!(t9 (t5 r2))) then
   e0 v1 v11 v12 v13 v14 v15 v16 v17 v18 v19 v20 v21 v22 v23 v24
  else
   rec (IntKind.wrap .i64 (v1 + 1)) r2.1 r2.2.1 (t2 r2).1 (t3 r2).1 (t6 r2).1 (t7 r2).1 (t9 (t2 r2)).1 (t9 (t3 r2)).1 (t9 (t4 r2)).1 (t4 r2).1 (t5 r2).1 (t8 r2).1 (t9 r2).1 (t9 r2.2).1
 else
  e1 v11 v12 v13 v14 v15 v16 v17 v18 v19 v20 v21 v22 v23 v24
def spec_Replayed.l3 {R : Type} (k : Nat) (v0 : LI) (e0 : Int → Int → Int → Bool → Bool → Int → Int → Int → Int → Int → LI → LI → LL → LI → LI → Option R) (e1 : Int → Int → Bool → Bool → Int → Int → Int → Int → Int → LI → LI → LL → LI → LI → Option R) (n : Nat) (v1 v11 v12 : Int) (v13 v14 : Bool) (v15 v16 v17 v18 v19 : Int) (v20 v21 : LI) (v22 : LL) (v23 v24 : LI) : Option R :=
 V.iter (A := Int × Int × Int × Bool × Bool × Int × Int × Int × Int × Int × LI × LI × LL × LI × LI) (fun rec a => spec_Replayed.s3 k v0 e0 e1 (fun c0 c1 c2 c3 c4 c5 c6 c7 c8 c9 c10 c11 c12 c13 c14 => rec (c0, c1, c2, c3, c4, c5, c6, c7, c8, c9, c10, c11, c12, c13, c14)) a.1 a.2.1 (t2 a).1 (t3 a).1 (t4 a).1 (t5 a).1 (t6 a).1 (t7 a).1 (t8 a).1 (t9 a).1 (t9 a.2).1 (t9 (t2 a)).1 (t9 (t3 a)).1 (t9 (t4 a)).1 (t9 (t5 a))) n (v1, v11, v12, v13, v14, v15, v16, v17, v18, v19, v20, v21, v22, v23, v24)
theorem spec_Replayed.l3_succ {R : Type} (k : Nat) (v0 : LI) (e0 : Int → Int → Int → Bool → Bool → Int → Int → Int → Int → Int → LI → LI → LL → LI → LI → Option R) (e1 : Int → Int → Bool → Bool → Int → Int → Int → Int → Int → LI → LI → LL → LI → LI → Option R) (n : Nat) (v1 v11 v12 : Int) (v13 v14 : Bool) (v15 v16 v17 v18 v19 : Int) (v20 v21 : LI) (v22 : LL) (v23 v24 : LI) : spec_Replayed.l3 (R := R) k v0 e0 e1 (n + 1) v1 v11 v12 v13 v14 v15 v16 v17 v18 v19 v20 v21 v22 v23 v24 = spec_Replayed.s3 k v0 e0 e1 (spec_Replayed.l3 k v0 e0 e1 n) v1 v11 v12 v13 v14 v15 v16 v17 v18 v19 v20 v21 v22 v23 v24 := rfl
def spec_Replayed.f (k : Nat) (a0 a1 : Int) (a2 a3 : Bool) (a4 a5 : LI) (a6 a7 : Int) (a8 : LL) (a9 a10 : LI) (a11 a12 a13 : Int) (g : LI) : Option (Int × Int × Bool × Bool × LI × LI × Int × Int × LL × LI × LI × Int × Int × Int × Int) :=
 (spec_l24Copy.f k a0 a1 a2 a3 a4 a5 a6 a7 a8 a9 a10 a11 a12 a13).bind fun r1 =>
 spec_Replayed.l3 k g (fun x3 x4 x5 x6 x7 x8 x9 x10 x11 x12 x13 x14 x15 x16 x17 =>
  some (x4, x5, x6, x7, x13, x14, x8, x9, x15, x16, x17, x10, x11, x12, x3)) (fun x18 x19 x20 x21 x22 x23 x24 x25 x26 x27 x28 x29 x30 x31 =>
  some (x18, x19, x20, x21, x27, x28, x22, x23, x29, x30, x31, x24, x25, x26, (g.length : Int))) k 0 r1.1 r1.2.1 (t2 r1).1 (t3 r1).1 (t6 r1).1 (t7 r1).1 (t9 (t2 r1)).1 (t9 (t3 r1)).1 (t9 (t4 r1)) (t4 r1).1 (t5 r1).1 (t8 r1).1 (t9 r1).1 (t9 r1.2).1

def spec_IsTable.f (k : Nat) (a0 a1 : Int) (a2 a3 : Bool) (a4 a5 : LI) (a6 a7 : Int) (a8 : LI) (a9 : Bool) (a10 : LI) (a11 a12 : Int) (a13 a14 : Bool) (a15 a16 : LI) (a17 a18 : Int) (a19 : LL) (a20 a21 : LI) (a22 a23 a24 : Int) (a25 : LI) (a26 : LL) : Option (Bool) :=
 (spec_IsRules.f k a0 a1 a2 a3 a4 a5 a6 a7).bind fun r1 =>
 bif (!r1) then
  some false
 else
  bif decide ((a8.length : Int) > a0) then
   some false
  else
   (spec_IsSheet.f k a0 a26).bind fun r2 =>
   bif (!r2) then
    some false
   else
    bif (!a9) then
     bif ((a10.length : Int) == 0) then
      bif ((a25.length : Int) == 0) then
       (spec_EqualGames.f k a11 a12 a13 a14 a15 a16 a17 a18 a19 a20 a21 a22 a23 a24 0 0 false false [] [] 0 0 [] [] [] 0 0 0).bind fun r3 =>
       some r3
      else
       some false
     else
      some false
    else
     (spec_NewGame.f k a0 a1 a2 a3 a4 a5 a6 a7 a10).bind fun r4 =>
     (spec_Replayed.f k r4.1 r4.2.1 (t2 r4).1 (t3 r4).1 (t4 r4).1 (t5 r4).1 (t6 r4).1 (t7 r4).1 (t8 r4).1 (t9 r4).1 (t9 r4.2).1 (t9 (t2 r4)).1 (t9 (t3 r4)).1 (t9 (t4 r4)).1 a25).bind fun r5 =>
     bif (t9 (t5 r4)) then
      bif ((a8.length : Int) == a0) then
       bif ((t9 (t5 r5)) == (a25.length : Int)) then
        (spec_EqualGames.f k r5.1 r5.2.1 (t2 r5).1 (t3 r5).1 (t4 r5).1 (t5 r5).1 (t6 r5).1 (t7 r5).1 (t8 r5).1 (t9 r5).1 (t9 r5.2).1 (t9 (t2 r5)).1 (t9 (t3 r5)).1 (t9 (t4 r5)).1 a11 a12 a13 a14 a15 a16 a17 a18 a19 a20 a21 a22 a23 a24).bind fun r6 =>
        some r6
       else
        some false
      else
       some false
     else
      some false

def laws_toTable.f (k : Nat) (a0 a1 : Int) (a2 a3 : Bool) (a4 a5 : LI) (a6 a7 : Int) (a8 : LI) (a9 : Bool) (a10 : LI) (a11 a12 : Int) (a13 a14 : Bool) (a15 a16 : LI) (a17 a18 : Int) (a19 : LL) (a20 a21 : LI) (a22 a23 a24 : Int) (a25 : LI) (a26 : LL) : Option (Int × Int × Bool × Bool × LI × LI × Int × Int × LI × Bool × LI × Int × Int × Bool × Bool × LI × LI × Int × Int × LL × LI × LI × Int × Int × Int × LI × LL) :=
 (laws_toRules.f k a0 a1 a2 a3 a4 a5 a6 a7).bind fun r1 =>
 (laws_toIntS.f k a8).bind fun r2 =>
 (laws_toIntS.f k a10).bind fun r3 =>
 (laws_toGame.f k a11 a12 a13 a14 a15 a16 a17 a18 a19 a20 a21 a22 a23 a24).bind fun r4 =>
 (laws_toIntS.f k a25).bind fun r5 =>
 (laws_toIntSS.f k a26).bind fun r6 =>
 some (r1.1, r1.2.1, (t2 r1).1, (t3 r1).1, (t4 r1).1, (t5 r1).1, (t6 r1).1, (t7 r1), r2, a9, r3, r4.1, r4.2.1, (t2 r4).1, (t3 r4).1, (t4 r4).1, (t5 r4).1, (t6 r4).1, (t7 r4).1, (t8 r4).1, (t9 r4).1, (t9 r4.2).1, (t9 (t2 r4)).1, (t9 (t3 r4)).1, (t9 (t4 r4)), r5, r6)

def impl_allIn.s2 {R : Type} (k : Nat) (v0 v1 : Int) (v2 : LI) (v3 : Int) (e0 e1 : Option R) (rec : Int → Option R) (v4 : Int) : Option R :=
 bif decide (v4 < v3) then
  chk ((decide (0 ≤ v4)) && (decide (v4 < (v2.length : Int)))) <|
  (impl_InRange.f k (v2.getD v4.toNat 0) v0 v1).bind fun r1 =>
  bif (!r1) then
   e0
  else
   rec (IntKind.wrap .i64 (v4 + 1))
 else
  e1
def impl_allIn.l2 {R : Type} (k : Nat) (v0 v1 : Int) (v2 : LI) (v3 : Int) (e0 e1 : Option R) (n : Nat) (v4 : Int) : Option R :=
 V.iter (A := Int) (fun rec a => impl_allIn.s2 k v0 v1 v2 v3 e0 e1 (fun c0 => rec c0) a) n v4
theorem impl_allIn.l2_succ {R : Type} (k : Nat) (v0 v1 : Int) (v2 : LI) (v3 : Int) (e0 e1 : Option R) (n : Nat) (v4 : Int) : impl_allIn.l2 (R := R) k v0 v1 v2 v3 e0 e1 (n + 1) v4 = impl_allIn.s2 k v0 v1 v2 v3 e0 e1 (impl_allIn.l2 k v0 v1 v2 v3 e0 e1 n) v4 := rfl
def impl_allIn.f (k : Nat) (a : LI) (g i : Int) : Option (Bool) :=
 impl_allIn.l2 k g i a (a.length : Int) (some false) (some true) k 0

def impl_sum.s3 {R : Type} (k : Nat) (v1 : LI) (v2 : Int) (e0 : Int → Option R) (rec : Int → Int → Option R) (v0 v3 : Int) : Option R :=
 bif decide (v3 < v2) then
  chk ((decide (0 ≤ v3)) && (decide (v3 < (v1.length : Int)))) <|
  rec (IntKind.wrap .i64 (v0 + (v1.getD v3.toNat 0))) (IntKind.wrap .i64 (v3 + 1))
 else
  e0 v0
def impl_sum.l3 {R : Type} (k : Nat) (v1 : LI) (v2 : Int) (e0 : Int → Option R) (n : Nat) (v0 v3 : Int) : Option R :=
 V.iter (A := Int × Int) (fun rec a => impl_sum.s3 k v1 v2 e0 (fun c0 c1 => rec (c0, c1)) a.1 a.2) n (v0, v3)
theorem impl_sum.l3_succ {R : Type} (k : Nat) (v1 : LI) (v2 : Int) (e0 : Int → Option R) (n : Nat) (v0 v3 : Int) : impl_sum.l3 (R := R) k v1 v2 e0 (n + 1) v0 v3 = impl_sum.s3 k v1 v2 e0 (impl_sum.l3 k v1 v2 e0 n) v0 v3 := rfl
def impl_sum.f (k : Nat) (a : LI) : Option (Int) :=
 impl_sum.l3 k a (a.length : Int) (fun x1 =>
  some x1) k 0 0

def impl_IsRound.f (k : Nat) (a : Int) (g : LI) : Option (Bool) :=
 (impl_InRange.f k a 2 6).bind fun r1 =>
 bif r1 then
  bif ((g.length : Int) == a) then
   (impl_allIn.f k g (-1000) 1000).bind fun r2 =>
   bif r2 then
    (impl_sum.f k g).bind fun r3 =>
    some (r3 == 0)
   else
    some false
  else
   some false
 else
  some false

def impl_IsSheet.s2 {R : Type} (k : Nat) (v0 : Int) (v2 : LL) (v3 : Int) (e0 e1 : Option R) (rec : Int → Option R) (v4 : Int) : Option R :=
 bif decide (v4 < v3) then
  chk ((decide (0 ≤ v4)) && (decide (v4 < (v2.length : Int)))) <|
  (impl_IsRound.f k v0 (v2.getD v4.toNat [])).bind fun r1 =>
  bif (!r1) then
   e0
  else
   rec (IntKind.wrap .i64 (v4 + 1))
 else
  e1
def impl_IsSheet.l2 {R : Type} (k : Nat) (v0 : Int) (v2 : LL) (v3 : Int) (e0 e1 : Option R) (n : Nat) (v4 : Int) : Option R :=
 V.iter (A := Int) (fun rec a => impl_IsSheet.s2 k v0 v2 v3 e0 e1 (fun c0 => rec c0) a) n v4
theorem impl_IsSheet.l2_succ {R : Type} (k : Nat) (v0 : Int) (v2 : LL) (v3 : Int) (e0 e1 : Option R) (n : Nat) (v4 : Int) : impl_IsSheet.l2 (R := R) k v0 v2 v3 e0 e1 (n + 1) v4 = impl_IsSheet.s2 k v0 v2 v3 e0 e1 (impl_IsSheet.l2 k v0 v2 v3 e0 e1 n) v4 := rfl
def impl_IsSheet.f (k : Nat) (a : Int) (g : LL) : Option (Bool) :=
 impl_IsSheet.l2 k a g (g.length : Int) (some false) ((impl_InRange.f k a 2 6).bind fun r2 =>
  bif r2 then
   some (decide ((g.length : Int) ≤ 50))
  else
   some false) k 0

def impl_EqualInts.s4 {R : Type} (k : Nat) (v0 v1 : LI) (v2 : Int) (e0 e1 : Option R) (rec : Int → Option R) (v3 : Int) : Option R :=
 bif decide (v3 < v2) then
  chk ((decide (0 ≤ v3)) && (decide (v3 < (v0.length : Int)))) <|
  chk ((decide (0 ≤ v3)) && (decide (v3 < (v1.length : Int)))) <|
  bif ((v0.getD v3.toNat 0) != (v1.getD v3.toNat 0)) then
   e0
  else
   rec (IntKind.wrap .i64 (v3 + 1))
 else
  e1
def impl_EqualInts.l4 {R : Type} (k : Nat) (v0 v1 : LI) (v2 : Int) (e0 e1 : Option R) (n : Nat) (v3 : Int) : Option R :=
 V.iter (A := Int) (fun rec a => impl_EqualInts.s4 k v0 v1 v2 e0 e1 (fun c0 => rec c0) a) n v3
theorem impl_EqualInts.l4_succ {R : Type} (k : Nat) (v0 v1 : LI) (v2 : Int) (e0 e1 : Option R) (n : Nat) (v3 : Int) : impl_EqualInts.l4 (R := R) k v0 v1 v2 e0 e1 (n + 1) v3 = impl_EqualInts.s4 k v0 v1 v2 e0 e1 (impl_EqualInts.l4 k v0 v1 v2 e0 e1 n) v3 := rfl
def impl_EqualInts.f (k : Nat) (a g : LI) : Option (Bool) :=
 bif ((a.length : Int) != (g.length : Int)) then
  some false
 else
  impl_EqualInts.l4 k a g (a.length : Int) (some false) (some true) k 0

def impl_EqualRules.f (k : Nat) (a0 a1 : Int) (a2 a3 : Bool) (a4 a5 : LI) (a6 a7 g0 g1 : Int) (g2 g3 : Bool) (g4 g5 : LI) (g6 g7 : Int) : Option (Bool) :=
 bif (a0 == g0) then
  bif (a1 == g1) then
   bif (a2 == g2) then
    bif (a3 == g3) then
     bif (a6 == g6) then
      bif (a7 == g7) then
       (impl_EqualInts.f k a4 g4).bind fun r1 =>
       bif r1 then
        (impl_EqualInts.f k a5 g5).bind fun r2 =>
        some r2
       else
        some false
      else
       some false
     else
      some false
    else
     some false
   else
    some false
  else
   some false
 else
  some false

def impl_sameRows.s4 {R : Type} (k : Nat) (v0 v1 : LL) (v2 : Int) (e0 e1 : Option R) (rec : Int → Option R) (v3 : Int) : Option R :=
 bif decide (v3 < v2) then
  chk ((decide (0 ≤ v3)) && (decide (v3 < (v0.length : Int)))) <|
  chk ((decide (0 ≤ v3)) && (decide (v3 < (v1.length : Int)))) <|
  (impl_EqualInts.f k (v0.getD v3.toNat []) (v1.getD v3.toNat [])).bind fun r1 =>
  bif (!r1) then
   e0
  else
   rec (IntKind.wrap .i64 (v3 + 1))
 else
  e1
def impl_sameRows.l4 {R : Type} (k : Nat) (v0 v1 : LL) (v2 : Int) (e0 e1 : Option R) (n : Nat) (v3 : Int) : Option R :=
 V.iter (A := Int) (fun rec a => impl_sameRows.s4 k v0 v1 v2 e0 e1 (fun c0 => rec c0) a) n v3
theorem impl_sameRows.l4_succ {R : Type} (k : Nat) (v0 v1 : LL) (v2 : Int) (e0 e1 : Option R) (n : Nat) (v3 : Int) : impl_sameRows.l4 (R := R) k v0 v1 v2 e0 e1 (n + 1) v3 = impl_sameRows.s4 k v0 v1 v2 e0 e1 (impl_sameRows.l4 k v0 v1 v2 e0 e1 n) v3 := rfl
def impl_sameRows.f (k : Nat) (a g : LL) : Option (Bool) :=
 bif ((a.length : Int) != (g.length : Int)) then
  some false
 else
  impl_sameRows.l4 k a g (a.length : Int) (some false) (some true) k 0

def impl_EqualGames.f (k : Nat) (a0 a1 : Int) (a2 a3 : Bool) (a4 a5 : LI) (a6 a7 : Int) (a8 : LL) (a9 a10 : LI) (a11 a12 a13 g0 g1 : Int) (g2 g3 : Bool) (g4 g5 : LI) (g6 g7 : Int) (g8 : LL) (g9 g10 : LI) (g11 g12 g13 : Int) : Option (Bool) :=
 (impl_EqualRules.f k a0 a1 a2 a3 a4 a5 a6 a7 g0 g1 g2 g3 g4 g5 g6 g7).bind fun r1 =>
 bif r1 then
  (impl_sameRows.f k a8 g8).bind fun r2 =>
  bif r2 then
   (impl_EqualInts.f k a9 g9).bind fun r3 =>
   bif r3 then
    (impl_EqualInts.f k a10 g10).bind fun r4 =>
    bif r4 then
     bif (a11 == g11) then
      bif (a12 == g12) then
       some (a13 == g13)
      else
       some false
     else
      some false
    else
     some false
   else
    some false
  else
   some false
 else
  some false

def impl_Dealt.s5 {R : Type} (k : Nat) (v1 : Int) (v3 : LI) (v4 : Int) (e0 : LL → Option R) (rec : Int → LL → Option R) (v5 : Int) (v6 : LL) : Option R :=
 bif decide (v5 < v4) then
  chk ((decide (0 ≤ v5)) && (decide (v5 < (v3.length : Int)))) <|
  chk (!(decide (v1 = 0))) <|
  chk (!(decide (v1 = 0))) <|
  chk ((decide (0 ≤ (v5.tmod v1))) && (decide ((v5.tmod v1) < (v6.length : Int)))) <|
  chk (decide ((((v6.getD ((v5.tmod v1).toNat) []).length) + 1) * 8 ≤ room)) <|
  chk ((decide (0 ≤ (v5.tmod v1))) && (decide ((v5.tmod v1) < (v6.length : Int)))) <|
  chk (((v5.tmod v1).toNat) == ((v5.tmod v1).toNat)) <|
  rec (IntKind.wrap .i64 (v5 + 1)) (v6.set ((v5.tmod v1).toNat) ((v6.getD ((v5.tmod v1).toNat) []) ++ [v3.getD v5.toNat 0]))
 else
  e0 v6
def impl_Dealt.l5 {R : Type} (k : Nat) (v1 : Int) (v3 : LI) (v4 : Int) (e0 : LL → Option R) (n : Nat) (v5 : Int) (v6 : LL) : Option R :=
 V.iter (A := Int × LL) (fun rec a => impl_Dealt.s5 k v1 v3 v4 e0 (fun c0 c1 => rec (c0, c1)) a.1 a.2) n (v5, v6)
theorem impl_Dealt.l5_succ {R : Type} (k : Nat) (v1 : Int) (v3 : LI) (v4 : Int) (e0 : LL → Option R) (n : Nat) (v5 : Int) (v6 : LL) : impl_Dealt.l5 (R := R) k v1 v3 v4 e0 (n + 1) v5 v6 = impl_Dealt.s5 k v1 v3 v4 e0 (impl_Dealt.l5 k v1 v3 v4 e0 n) v5 v6 := rfl
def impl_Dealt.f (k : Nat) (a : LI) (g i : Int) : Option (LL × LI × Bool) :=
 (impl_IsHand.f k a).bind fun r1 =>
 bif (!r1) then
  (impl_copyOf.f k a).bind fun r2 =>
  some ([], r2, false)
 else
  (impl_InRange.f k g 1 6).bind fun r3 =>
  bif (!r3) then
   (impl_copyOf.f k a).bind fun r4 =>
   some ([], r4, false)
  else
   (impl_InRange.f k i 0 20).bind fun r5 =>
   bif (!r5) then
    (impl_copyOf.f k a).bind fun r6 =>
    some ([], r6, false)
   else
    bif decide ((IntKind.wrap .i64 (g * i)) > (a.length : Int)) then
     (impl_copyOf.f k a).bind fun r7 =>
     some ([], r7, false)
    else
     chk ((decide (0 ≤ g)) && (decide (g.toNat * 24 ≤ room))) <|
     chk ((decide (0 ≤ (IntKind.wrap .i64 (g * i)))) && (decide ((IntKind.wrap .i64 (g * i)) ≤ (a.length : Int)))) <|
     impl_Dealt.l5 k g (a.take ((IntKind.wrap .i64 (g * i)).toNat)) ((a.take ((IntKind.wrap .i64 (g * i)).toNat)).length : Int) (fun x8 =>
      chk ((decide (0 ≤ (IntKind.wrap .i64 (g * i)))) && (decide ((IntKind.wrap .i64 (g * i)) ≤ (a.length : Int)))) <|
      (impl_copyOf.f k (a.drop ((IntKind.wrap .i64 (g * i)).toNat))).bind fun r9 =>
      some (x8, r9, true)) k 0 (List.replicate g.toNat [])

def impl_NewGame.f (k : Nat) (a0 a1 : Int) (a2 a3 : Bool) (a4 a5 : LI) (a6 a7 : Int) (g : LI) : Option (Int × Int × Bool × Bool × LI × LI × Int × Int × LL × LI × LI × Int × Int × Int × Bool) :=
 (impl_IsRules.f k a0 a1 a2 a3 a4 a5 a6 a7).bind fun r1 =>
 bif (!r1) then
  some (0, 0, false, false, [], [], 0, 0, [], [], [], 0, 0, 0, false)
 else
  (impl_IsHand.f k g).bind fun r2 =>
  bif (!r2) then
   some (0, 0, false, false, [], [], 0, 0, [], [], [], 0, 0, 0, false)
  else
   bif ((g.length : Int) != 52) then
    some (0, 0, false, false, [], [], 0, 0, [], [], [], 0, 0, 0, false)
   else
    (impl_Dealt.f k g a0 a1).bind fun r3 =>
    (impl_Rules_copied.f k a0 a1 a2 a3 a4 a5 a6 a7).bind fun r4 =>
    chk ((decide (0 ≤ (r3.2.1.length : Int))) && (decide ((r3.2.1.length : Int) ≤ (r3.2.1.length : Int)))) <|
    chk (decide (1 ≤ (r3.2.1.length : Int))) <|
    (impl_copyOf.f k ((r3.2.1.take ((r3.2.1.length : Int).toNat)).drop 1)).bind fun r5 =>
    chk (decide (0 < (r3.2.1.length : Int))) <|
    some (r4.1, r4.2.1, (t2 r4).1, (t3 r4).1, (t4 r4).1, (t5 r4).1, (t6 r4).1, (t7 r4), r3.1, r5, [r3.2.1.getD 0 0], 0, 0, 0, true)

def impl_Replayed.s3 {R : Type} (k : Nat) (v1 : LI) (v2 : Int) (e0 : Int → Int → Int → Bool → Bool → Int → Int → Int → Int → Int → LI → LI → LL → LI → LI → Option R) (e1 : Int → Int → Bool → Bool → Int → Int → Int → Int → Int → LI → LI → LL → LI → LI → Option R) (rec : Int → Int → Int → Bool → Bool → Int → Int → Int → Int → Int → LI → LI → LL → LI → LI → Option R) (v3 v13 v14 : Int) (v15 v16 : Bool) (v17 v18 v19 v20 v21 : Int) (v22 v23 : LI) (v24 : LL) (v25 v26 : LI) : Option R :=
 bif decide (v3 < v2) then
  chk ((decide (0 ≤ v3)) && (decide (v3 < (v1.length : Int)))) <|
  (impl_ReplayMove.f k v13 v14 v15 v16 v22 v23 v17 v18 v24 v25 v26 v19 v20 v21 (v1.getD v3.toNat 0)).bind fun r2 =>
  bif (!(t9 (t5 r2))) then
   e0 v3 v13 v14 v15 v16 v17 v18 v19 v20 v21 v22 v23 v24 v25 v26
  else
   rec (IntKind.wrap .i64 (v3 + 1)) r2.1 r2.2.1 (t2 r2).1 (t3 r2).1 (t6 r2).1 (t7 r2).1 (t9 (t2 r2)).1 (t9 (t3 r2)).1 (t9 (t4 r2)).1 (t4 r2).1 (t5 r2).1 (t8 r2).1 (t9 r2).1 (t9 r2.2).1
 else
  e1 v13 v14 v15 v16 v17 v18 v19 v20 v21 v22 v23 v24 v25 v26
def impl_Replayed.l3 {R : Type} (k : Nat) (v1 : LI) (v2 : Int) (e0 : Int → Int → Int → Bool → Bool → Int → Int → Int → Int → Int → LI → LI → LL → LI → LI → Option R) (e1 : Int → Int → Bool → Bool → Int → Int → Int → Int → Int → LI → LI → LL → LI → LI → Option R) (n : Nat) (v3 v13 v14 : Int) (v15 v16 : Bool) (v17 v18 v19 v20 v21 : Int) (v22 v23 : LI) (v24 : LL) (v25 v26 : LI) : Option R :=
 V.iter (A := Int × Int × Int × Bool × Bool × Int × Int × Int × Int × Int × LI × LI × LL × LI × LI) (fun rec a => impl_Replayed.s3 k v1 v2 e0 e1 (fun c0 c1 c2 c3 c4 c5 c6 c7 c8 c9 c10 c11 c12 c13 c14 => rec (c0, c1, c2, c3, c4, c5, c6, c7, c8, c9, c10, c11, c12, c13, c14)) a.1 a.2.1 (t2 a).1 (t3 a).1 (t4 a).1 (t5 a).1 (t6 a).1 (t7 a).1 (t8 a).1 (t9 a).1 (t9 a.2).1 (t9 (t2 a)).1 (t9 (t3 a)).1 (t9 (t4 a)).1 (t9 (t5 a))) n (v3, v13, v14, v15, v16, v17, v18, v19, v20, v21, v22, v23, v24, v25, v26)
theorem impl_Replayed.l3_succ {R : Type} (k : Nat) (v1 : LI) (v2 : Int) (e0 : Int → Int → Int → Bool → Bool → Int → Int → Int → Int → Int → LI → LI → LL → LI → LI → Option R) (e1 : Int → Int → Bool → Bool → Int → Int → Int → Int → Int → LI → LI → LL → LI → LI → Option R) (n : Nat) (v3 v13 v14 : Int) (v15 v16 : Bool) (v17 v18 v19 v20 v21 : Int) (v22 v23 : LI) (v24 : LL) (v25 v26 : LI) : impl_Replayed.l3 (R := R) k v1 v2 e0 e1 (n + 1) v3 v13 v14 v15 v16 v17 v18 v19 v20 v21 v22 v23 v24 v25 v26 = impl_Replayed.s3 k v1 v2 e0 e1 (impl_Replayed.l3 k v1 v2 e0 e1 n) v3 v13 v14 v15 v16 v17 v18 v19 v20 v21 v22 v23 v24 v25 v26 := rfl
def impl_Replayed.f (k : Nat) (a0 a1 : Int) (a2 a3 : Bool) (a4 a5 : LI) (a6 a7 : Int) (a8 : LL) (a9 a10 : LI) (a11 a12 a13 : Int) (g : LI) : Option (Int × Int × Bool × Bool × LI × LI × Int × Int × LL × LI × LI × Int × Int × Int × Int) :=
 (impl_Game_copied.f k a0 a1 a2 a3 a4 a5 a6 a7 a8 a9 a10 a11 a12 a13).bind fun r1 =>
 impl_Replayed.l3 k g (g.length : Int) (fun x3 x4 x5 x6 x7 x8 x9 x10 x11 x12 x13 x14 x15 x16 x17 =>
  some (x4, x5, x6, x7, x13, x14, x8, x9, x15, x16, x17, x10, x11, x12, x3)) (fun x18 x19 x20 x21 x22 x23 x24 x25 x26 x27 x28 x29 x30 x31 =>
  some (x18, x19, x20, x21, x27, x28, x22, x23, x29, x30, x31, x24, x25, x26, (g.length : Int))) k 0 r1.1 r1.2.1 (t2 r1).1 (t3 r1).1 (t6 r1).1 (t7 r1).1 (t9 (t2 r1)).1 (t9 (t3 r1)).1 (t9 (t4 r1)) (t4 r1).1 (t5 r1).1 (t8 r1).1 (t9 r1).1 (t9 r1.2).1

def impl_IsTable.f (k : Nat) (a0 a1 : Int) (a2 a3 : Bool) (a4 a5 : LI) (a6 a7 : Int) (a8 : LI) (a9 : Bool) (a10 : LI) (a11 a12 : Int) (a13 a14 : Bool) (a15 a16 : LI) (a17 a18 : Int) (a19 : LL) (a20 a21 : LI) (a22 a23 a24 : Int) (a25 : LI) (a26 : LL) : Option (Bool) :=
 (impl_IsRules.f k a0 a1 a2 a3 a4 a5 a6 a7).bind fun r1 =>
 bif (!r1) then
  some false
 else
  bif decide ((a8.length : Int) > a0) then
   some false
  else
   (impl_IsSheet.f k a0 a26).bind fun r2 =>
   bif (!r2) then
    some false
   else
    bif (!a9) then
     bif ((a10.length : Int) == 0) then
      bif ((a25.length : Int) == 0) then
       (impl_EqualGames.f k a11 a12 a13 a14 a15 a16 a17 a18 a19 a20 a21 a22 a23 a24 0 0 false false [] [] 0 0 [] [] [] 0 0 0).bind fun r3 =>
       some r3
      else
       some false
     else
      some false
    else
     (impl_NewGame.f k a0 a1 a2 a3 a4 a5 a6 a7 a10).bind fun r4 =>
     bif (!(t9 (t5 r4))) then
      some false
     else
      bif ((a8.length : Int) != a0) then
       some false
      else
       (impl_Replayed.f k r4.1 r4.2.1 (t2 r4).1 (t3 r4).1 (t4 r4).1 (t5 r4).1 (t6 r4).1 (t7 r4).1 (t8 r4).1 (t9 r4).1 (t9 r4.2).1 (t9 (t2 r4)).1 (t9 (t3 r4)).1 (t9 (t4 r4)).1 a25).bind fun r5 =>
       bif ((t9 (t5 r5)) == (a25.length : Int)) then
        (impl_EqualGames.f k r5.1 r5.2.1 (t2 r5).1 (t3 r5).1 (t4 r5).1 (t5 r5).1 (t6 r5).1 (t7 r5).1 (t8 r5).1 (t9 r5).1 (t9 r5.2).1 (t9 (t2 r5)).1 (t9 (t3 r5)).1 (t9 (t4 r5)).1 a11 a12 a13 a14 a15 a16 a17 a18 a19 a20 a21 a22 a23 a24).bind fun r6 =>
        some r6
       else
        some false

def laws_eqTable.f (k : Nat) (a0 a1 : Int) (a2 a3 : Bool) (a4 a5 : LI) (a6 a7 : Int) (a8 : LI) (a9 : Bool) (a10 : LI) (a11 a12 : Int) (a13 a14 : Bool) (a15 a16 : LI) (a17 a18 : Int) (a19 : LL) (a20 a21 : LI) (a22 a23 a24 : Int) (a25 : LI) (a26 : LL) (g0 g1 : Int) (g2 g3 : Bool) (g4 g5 : LI) (g6 g7 : Int) (g8 : LI) (g9 : Bool) (g10 : LI) (g11 g12 : Int) (g13 g14 : Bool) (g15 g16 : LI) (g17 g18 : Int) (g19 : LL) (g20 g21 : LI) (g22 g23 g24 : Int) (g25 : LI) (g26 : LL) : Option (Bool) :=
 (laws_eqRules.f k a0 a1 a2 a3 a4 a5 a6 a7 g0 g1 g2 g3 g4 g5 g6 g7).bind fun r1 =>
 bif (!r1) then
  some false
 else
  (laws_eqIntS.f k a8 g8).bind fun r2 =>
  bif (!r2) then
   some false
  else
   bif (!(a9 == g9)) then
    some false
   else
    (laws_eqIntS.f k a10 g10).bind fun r3 =>
    bif (!r3) then
     some false
    else
     (laws_eqGame.f k a11 a12 a13 a14 a15 a16 a17 a18 a19 a20 a21 a22 a23 a24 g11 g12 g13 g14 g15 g16 g17 g18 g19 g20 g21 g22 g23 g24).bind fun r4 =>
     bif (!r4) then
      some false
     else
      (laws_eqIntS.f k a25 g25).bind fun r5 =>
      bif (!r5) then
       some false
      else
       (laws_eqIntSS.f k a26 g26).bind fun r6 =>
       bif (!r6) then
        some false
       else
        some true

def laws_FnExactIsTable.f (k : Nat) (a0 a1 : Int) (a2 a3 : Bool) (a4 a5 : LI) (a6 a7 : Int) (a8 : LI) (a9 : Bool) (a10 : LI) (a11 a12 : Int) (a13 a14 : Bool) (a15 a16 : LI) (a17 a18 : Int) (a19 : LL) (a20 a21 : LI) (a22 a23 a24 : Int) (a25 : LI) (a26 : LL) : Option (Bool) :=
 (laws_szTable.f k a0 a1 a2 a3 a4 a5 a6 a7 a8 a9 a10 a11 a12 a13 a14 a15 a16 a17 a18 a19 a20 a21 a22 a23 a24 a25 a26 1048576).bind fun r1 =>
 bif decide (r1 < 0) then
  some true
 else
  (laws_toTable.f k a0 a1 a2 a3 a4 a5 a6 a7 a8 a9 a10 a11 a12 a13 a14 a15 a16 a17 a18 a19 a20 a21 a22 a23 a24 a25 a26).bind fun r2 =>
  (spec_IsTable.f k r2.1 r2.2.1 (t2 r2).1 (t3 r2).1 (t4 r2).1 (t5 r2).1 (t6 r2).1 (t7 r2).1 (t8 r2).1 (t9 r2).1 (t9 r2.2).1 (t9 (t2 r2)).1 (t9 (t3 r2)).1 (t9 (t4 r2)).1 (t9 (t5 r2)).1 (t9 (t6 r2)).1 (t9 (t7 r2)).1 (t9 (t8 r2)).1 (t9 (t9 r2)).1 (t9 (t9 r2.2)).1 (t9 (t9 (t2 r2))).1 (t9 (t9 (t3 r2))).1 (t9 (t9 (t4 r2))).1 (t9 (t9 (t5 r2))).1 (t9 (t9 (t6 r2))).1 (t9 (t9 (t7 r2))).1 (t9 (t9 (t8 r2)))).bind fun r3 =>
  (laws_toTable.f k a0 a1 a2 a3 a4 a5 a6 a7 a8 a9 a10 a11 a12 a13 a14 a15 a16 a17 a18 a19 a20 a21 a22 a23 a24 a25 a26).bind fun r4 =>
  (impl_IsTable.f k r4.1 r4.2.1 (t2 r4).1 (t3 r4).1 (t4 r4).1 (t5 r4).1 (t6 r4).1 (t7 r4).1 (t8 r4).1 (t9 r4).1 (t9 r4.2).1 (t9 (t2 r4)).1 (t9 (t3 r4)).1 (t9 (t4 r4)).1 (t9 (t5 r4)).1 (t9 (t6 r4)).1 (t9 (t7 r4)).1 (t9 (t8 r4)).1 (t9 (t9 r4)).1 (t9 (t9 r4.2)).1 (t9 (t9 (t2 r4))).1 (t9 (t9 (t3 r4))).1 (t9 (t9 (t4 r4))).1 (t9 (t9 (t5 r4))).1 (t9 (t9 (t6 r4))).1 (t9 (t9 (t7 r4))).1 (t9 (t9 (t8 r4)))).bind fun r5 =>
  bif (!(r5 == r3)) then
   some false
  else
   (laws_toTable.f k a0 a1 a2 a3 a4 a5 a6 a7 a8 a9 a10 a11 a12 a13 a14 a15 a16 a17 a18 a19 a20 a21 a22 a23 a24 a25 a26).bind fun r6 =>
   (laws_eqTable.f k r4.1 r4.2.1 (t2 r4).1 (t3 r4).1 (t4 r4).1 (t5 r4).1 (t6 r4).1 (t7 r4).1 (t8 r4).1 (t9 r4).1 (t9 r4.2).1 (t9 (t2 r4)).1 (t9 (t3 r4)).1 (t9 (t4 r4)).1 (t9 (t5 r4)).1 (t9 (t6 r4)).1 (t9 (t7 r4)).1 (t9 (t8 r4)).1 (t9 (t9 r4)).1 (t9 (t9 r4.2)).1 (t9 (t9 (t2 r4))).1 (t9 (t9 (t3 r4))).1 (t9 (t9 (t4 r4))).1 (t9 (t9 (t5 r4))).1 (t9 (t9 (t6 r4))).1 (t9 (t9 (t7 r4))).1 (t9 (t9 (t8 r4))) r6.1 r6.2.1 (t2 r6).1 (t3 r6).1 (t4 r6).1 (t5 r6).1 (t6 r6).1 (t7 r6).1 (t8 r6).1 (t9 r6).1 (t9 r6.2).1 (t9 (t2 r6)).1 (t9 (t3 r6)).1 (t9 (t4 r6)).1 (t9 (t5 r6)).1 (t9 (t6 r6)).1 (t9 (t7 r6)).1 (t9 (t8 r6)).1 (t9 (t9 r6)).1 (t9 (t9 r6.2)).1 (t9 (t9 (t2 r6))).1 (t9 (t9 (t3 r6))).1 (t9 (t9 (t4 r6))).1 (t9 (t9 (t5 r6))).1 (t9 (t9 (t6 r6))).1 (t9 (t9 (t7 r6))).1 (t9 (t9 (t8 r6)))).bind fun r7 =>
   bif (!r7) then
    some false
   else
    some true
end Go.Proofs.Ytmdfedjdnjaaiaa
