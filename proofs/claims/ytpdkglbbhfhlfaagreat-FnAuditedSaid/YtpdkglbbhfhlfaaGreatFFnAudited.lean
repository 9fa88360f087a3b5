/- Plain Lean functions, printed by a program out of the Go functions' translation: what each computes, without program and memory. -/
import Derived.Test.YtpdkglbbhfhlfaaGreatFFnRuns
set_option linter.unusedVariables false
namespace Go.Proofs.YtpdkglbbhfhlfaaGreat
open Go Go.Proofs.YtpdkglbbhfhlfaaGreat.V

def spec_l33Copy.f (k : Nat) (a0 a1 : Int) (a2 a3 : Bool) (a4 a5 : LI) (a6 a7 : Int) (a8 : LI) (a9 : Bool) (a10 : LI) (a11 a12 : Int) (a13 a14 : Bool) (a15 a16 : LI) (a17 a18 : Int) (a19 : LL) (a20 a21 : LI) (a22 a23 a24 : Int) (a25 : LI) (a26 : LL) : Option (Int × Int × Bool × Bool × LI × LI × Int × Int × LI × Bool × LI × Int × Int × Bool × Bool × LI × LI × Int × Int × LL × LI × LI × Int × Int × Int × LI × LL) :=
 (spec_l22Copy.f k a0 a1 a2 a3 a4 a5 a6 a7).bind fun r1 =>
 chk (decide ((0 + a8.length) * 8 ≤ room)) <|
 chk (decide ((0 + a10.length) * 8 ≤ room)) <|
 (spec_l24Copy.f k a11 a12 a13 a14 a15 a16 a17 a18 a19 a20 a21 a22 a23 a24).bind fun r2 =>
 chk (decide ((0 + a25.length) * 8 ≤ room)) <|
 (spec_l15Copy.f k a26).bind fun r3 =>
 some (r1.1, r1.2.1, (t2 r1).1, (t3 r1).1, (t4 r1).1, (t5 r1).1, (t6 r1).1, (t7 r1), [] ++ a8, a9, [] ++ a10, r2.1, r2.2.1, (t2 r2).1, (t3 r2).1, (t4 r2).1, (t5 r2).1, (t6 r2).1, (t7 r2).1, (t8 r2).1, (t9 r2).1, (t9 r2.2).1, (t9 (t2 r2)).1, (t9 (t3 r2)).1, (t9 (t4 r2)), [] ++ a25, r3)

def spec_SeedSeal.f (k : Nat) (a g i : Int) : Option (Int) :=
 (spec_Hash.f k [a, g, i]).bind fun r1 =>
 some r1

def spec_IsOpened.f (k : Nat) (a g i j : Int) : Option (Bool) :=
 (spec_l1In.f k g 0 1000000).bind fun r1 =>
 bif r1 then
  (spec_l1In.f k i 0 1000000).bind fun r2 =>
  bif r2 then
   (spec_SeedSeal.f k a g i).bind fun r3 =>
   some (r3 == j)
  else
   some false
 else
  some false

def spec_AreOpened.s4 {R : Type} (k : Nat) (v0 v1 v2 : LI) (e0 e1 : Option R) (rec : Int → Option R) (v3 : Int) : Option R :=
 bif decide (v3 < (v0.length : Int)) then
  chk ((decide (0 ≤ v3)) && (decide (v3 < (v1.length : Int)))) <|
  chk ((decide (0 ≤ v3)) && (decide (v3 < (v2.length : Int)))) <|
  chk ((decide (0 ≤ v3)) && (decide (v3 < (v0.length : Int)))) <|
  (spec_IsOpened.f k v3 (v1.getD v3.toNat 0) (v2.getD v3.toNat 0) (v0.getD v3.toNat 0)).bind fun r2 =>
  bif (!r2) then
   e0
  else
   rec (IntKind.wrap .i64 (v3 + 1))
 else
  e1
def spec_AreOpened.l4 {R : Type} (k : Nat) (v0 v1 v2 : LI) (e0 e1 : Option R) (n : Nat) (v3 : Int) : Option R :=
 V.iter (A := Int) (fun rec a => spec_AreOpened.s4 k v0 v1 v2 e0 e1 (fun c0 => rec c0) a) n v3
theorem spec_AreOpened.l4_succ {R : Type} (k : Nat) (v0 v1 v2 : LI) (e0 e1 : Option R) (n : Nat) (v3 : Int) : spec_AreOpened.l4 (R := R) k v0 v1 v2 e0 e1 (n + 1) v3 = spec_AreOpened.s4 k v0 v1 v2 e0 e1 (spec_AreOpened.l4 k v0 v1 v2 e0 e1 n) v3 := rfl
def spec_AreOpened.f (k : Nat) (a g i : LI) : Option (Bool) :=
 (spec_l1In.f k (a.length : Int) 1 6).bind fun r1 =>
 bif (!r1) then
  some false
 else
  bif ((g.length : Int) != (a.length : Int)) then
   some false
  else
   bif ((i.length : Int) != (a.length : Int)) then
    some false
   else
    spec_AreOpened.l4 k a g i (some false) (some true) k 0

def spec_JointSeed.s3 {R : Type} (k : Nat) (v0 : LI) (e0 : Int → Option R) (rec : Int → Int → Option R) (v1 v2 : Int) : Option R :=
 bif decide (v2 < (v0.length : Int)) then
  chk ((decide (0 ≤ v2)) && (decide (v2 < (v0.length : Int)))) <|
  (spec_Mod.f k (v0.getD v2.toNat 0) 1000001).bind fun r1 =>
  rec ((IntKind.wrap .i64 (v1 + r1)).tmod 1000001) (IntKind.wrap .i64 (v2 + 1))
 else
  e0 v1
def spec_JointSeed.l3 {R : Type} (k : Nat) (v0 : LI) (e0 : Int → Option R) (n : Nat) (v1 v2 : Int) : Option R :=
 V.iter (A := Int × Int) (fun rec a => spec_JointSeed.s3 k v0 e0 (fun c0 c1 => rec (c0, c1)) a.1 a.2) n (v1, v2)
theorem spec_JointSeed.l3_succ {R : Type} (k : Nat) (v0 : LI) (e0 : Int → Option R) (n : Nat) (v1 v2 : Int) : spec_JointSeed.l3 (R := R) k v0 e0 (n + 1) v1 v2 = spec_JointSeed.s3 k v0 e0 (spec_JointSeed.l3 k v0 e0 n) v1 v2 := rfl
def spec_JointSeed.f (k : Nat) (a : LI) : Option (Int) :=
 spec_JointSeed.l3 k a (fun x2 =>
  some x2) k 0 0

def spec_JointDeck.f (k : Nat) (a g i : LI) : Option (LI × Bool) :=
 (spec_AreOpened.f k a g i).bind fun r1 =>
 bif (!r1) then
  some ([], false)
 else
  (spec_FullDeck.f k).bind fun r2 =>
  (spec_JointSeed.f k g).bind fun r3 =>
  (spec_Shuffled.f k r2 r3).bind fun r4 =>
  some (r4, true)

def spec_IsRound.s3 {R : Type} (k : Nat) (v1 : LI) (e0 e1 : Int → Option R) (rec : Int → Int → Option R) (v2 v3 : Int) : Option R :=
 bif decide (v3 < (v1.length : Int)) then
  chk ((decide (0 ≤ v3)) && (decide (v3 < (v1.length : Int)))) <|
  (spec_l1In.f k (v1.getD v3.toNat 0) (-1000) 1000).bind fun r1 =>
  bif (!r1) then
   e0 v2
  else
   chk ((decide (0 ≤ v3)) && (decide (v3 < (v1.length : Int)))) <|
   rec (IntKind.wrap .i64 (v2 + (v1.getD v3.toNat 0))) (IntKind.wrap .i64 (v3 + 1))
 else
  e1 v2
def spec_IsRound.l3 {R : Type} (k : Nat) (v1 : LI) (e0 e1 : Int → Option R) (n : Nat) (v2 v3 : Int) : Option R :=
 V.iter (A := Int × Int) (fun rec a => spec_IsRound.s3 k v1 e0 e1 (fun c0 c1 => rec (c0, c1)) a.1 a.2) n (v2, v3)
theorem spec_IsRound.l3_succ {R : Type} (k : Nat) (v1 : LI) (e0 e1 : Int → Option R) (n : Nat) (v2 v3 : Int) : spec_IsRound.l3 (R := R) k v1 e0 e1 (n + 1) v2 v3 = spec_IsRound.s3 k v1 e0 e1 (spec_IsRound.l3 k v1 e0 e1 n) v2 v3 := rfl
def spec_IsRound.f (k : Nat) (a : Int) (g : LI) : Option (Bool) :=
 spec_IsRound.l3 k g (fun x2 =>
  some false) (fun x3 =>
  (spec_l1In.f k a 2 6).bind fun r4 =>
  bif r4 then
   bif ((g.length : Int) == a) then
    some (x3 == 0)
   else
    some false
  else
   some false) k 0 0

def spec_IsSheet.s2 {R : Type} (k : Nat) (v0 : Int) (v1 : LL) (e0 e1 : Option R) (rec : Int → Option R) (v2 : Int) : Option R :=
 bif decide (v2 < (v1.length : Int)) then
  chk ((decide (0 ≤ v2)) && (decide (v2 < (v1.length : Int)))) <|
  (spec_IsRound.f k v0 (v1.getD v2.toNat [])).bind fun r1 =>
  bif (!r1) then
   e0
  else
   rec (IntKind.wrap .i64 (v2 + 1))
 else
  e1
def spec_IsSheet.l2 {R : Type} (k : Nat) (v0 : Int) (v1 : LL) (e0 e1 : Option R) (n : Nat) (v2 : Int) : Option R :=
 V.iter (A := Int) (fun rec a => spec_IsSheet.s2 k v0 v1 e0 e1 (fun c0 => rec c0) a) n v2
theorem spec_IsSheet.l2_succ {R : Type} (k : Nat) (v0 : Int) (v1 : LL) (e0 e1 : Option R) (n : Nat) (v2 : Int) : spec_IsSheet.l2 (R := R) k v0 v1 e0 e1 (n + 1) v2 = spec_IsSheet.s2 k v0 v1 e0 e1 (spec_IsSheet.l2 k v0 v1 e0 e1 n) v2 := rfl
def spec_IsSheet.f (k : Nat) (a : Int) (g : LL) : Option (Bool) :=
 spec_IsSheet.l2 k a g (some false) ((spec_l1In.f k a 2 6).bind fun r2 =>
  bif r2 then
   some (decide ((g.length : Int) ≤ 50))
  else
   some false) k 0

def spec_EqualInts.s4 {R : Type} (k : Nat) (v0 v1 : LI) (e0 e1 : Option R) (rec : Int → Option R) (v2 : Int) : Option R :=
 bif decide (v2 < (v0.length : Int)) then
  chk ((decide (0 ≤ v2)) && (decide (v2 < (v0.length : Int)))) <|
  chk ((decide (0 ≤ v2)) && (decide (v2 < (v1.length : Int)))) <|
  bif ((v0.getD v2.toNat 0) != (v1.getD v2.toNat 0)) then
   e0
  else
   rec (IntKind.wrap .i64 (v2 + 1))
 else
  e1
def spec_EqualInts.l4 {R : Type} (k : Nat) (v0 v1 : LI) (e0 e1 : Option R) (n : Nat) (v2 : Int) : Option R :=
 V.iter (A := Int) (fun rec a => spec_EqualInts.s4 k v0 v1 e0 e1 (fun c0 => rec c0) a) n v2
theorem spec_EqualInts.l4_succ {R : Type} (k : Nat) (v0 v1 : LI) (e0 e1 : Option R) (n : Nat) (v2 : Int) : spec_EqualInts.l4 (R := R) k v0 v1 e0 e1 (n + 1) v2 = spec_EqualInts.s4 k v0 v1 e0 e1 (spec_EqualInts.l4 k v0 v1 e0 e1 n) v2 := rfl
def spec_EqualInts.f (k : Nat) (a g : LI) : Option (Bool) :=
 bif ((a.length : Int) != (g.length : Int)) then
  some false
 else
  spec_EqualInts.l4 k a g (some false) (some true) k 0

def spec_EqualRules.f (k : Nat) (a0 a1 : Int) (a2 a3 : Bool) (a4 a5 : LI) (a6 a7 g0 g1 : Int) (g2 g3 : Bool) (g4 g5 : LI) (g6 g7 : Int) : Option (Bool) :=
 bif (a0 == g0) then
  bif (a1 == g1) then
   bif (a2 == g2) then
    bif (a3 == g3) then
     (spec_EqualInts.f k a4 g4).bind fun r1 =>
     bif r1 then
      (spec_EqualInts.f k a5 g5).bind fun r2 =>
      bif r2 then
       bif (a6 == g6) then
        some (a7 == g7)
       else
        some false
      else
       some false
     else
      some false
    else
     some false
   else
    some false
  else
   some false
 else
  some false

def spec_EqualGames.s4 {R : Type} (k : Nat) (v9 v23 : LL) (e0 e1 : Option R) (rec : Int → Option R) (v0 : Int) : Option R :=
 bif decide (v0 < (v9.length : Int)) then
  chk ((decide (0 ≤ v0)) && (decide (v0 < (v9.length : Int)))) <|
  chk ((decide (0 ≤ v0)) && (decide (v0 < (v23.length : Int)))) <|
  (spec_EqualInts.f k (v9.getD v0.toNat []) (v23.getD v0.toNat [])).bind fun r1 =>
  bif (!r1) then
   e0
  else
   rec (IntKind.wrap .i64 (v0 + 1))
 else
  e1
def spec_EqualGames.l4 {R : Type} (k : Nat) (v9 v23 : LL) (e0 e1 : Option R) (n : Nat) (v0 : Int) : Option R :=
 V.iter (A := Int) (fun rec a => spec_EqualGames.s4 k v9 v23 e0 e1 (fun c0 => rec c0) a) n v0
theorem spec_EqualGames.l4_succ {R : Type} (k : Nat) (v9 v23 : LL) (e0 e1 : Option R) (n : Nat) (v0 : Int) : spec_EqualGames.l4 (R := R) k v9 v23 e0 e1 (n + 1) v0 = spec_EqualGames.s4 k v9 v23 e0 e1 (spec_EqualGames.l4 k v9 v23 e0 e1 n) v0 := rfl
def spec_EqualGames.f (k : Nat) (a0 a1 : Int) (a2 a3 : Bool) (a4 a5 : LI) (a6 a7 : Int) (a8 : LL) (a9 a10 : LI) (a11 a12 a13 g0 g1 : Int) (g2 g3 : Bool) (g4 g5 : LI) (g6 g7 : Int) (g8 : LL) (g9 g10 : LI) (g11 g12 g13 : Int) : Option (Bool) :=
 bif ((a8.length : Int) != (g8.length : Int)) then
  some false
 else
  spec_EqualGames.l4 k a8 g8 (some false) ((spec_EqualRules.f k a0 a1 a2 a3 a4 a5 a6 a7 g0 g1 g2 g3 g4 g5 g6 g7).bind fun r2 =>
   bif r2 then
    (spec_EqualInts.f k a9 g9).bind fun r3 =>
    bif r3 then
     (spec_EqualInts.f k a10 g10).bind fun r4 =>
     bif r4 then
      bif (a11 == g11) then
       bif (a12 == g12) then
        some (a13 == g13)
       else
        some false
      else
       some false
     else
      some false
    else
     some false
   else
    some false) k 0

def spec_ReplayMove.f (k : Nat) (a0 a1 : Int) (a2 a3 : Bool) (a4 a5 : LI) (a6 a7 : Int) (a8 : LL) (a9 a10 : LI) (a11 a12 a13 g : Int) : Option (Int × Int × Bool × Bool × LI × LI × Int × Int × LL × LI × LI × Int × Int × Int × Bool) :=
 bif (g == (-1)) then
  (spec_TakeCards.f k a0 a1 a2 a3 a4 a5 a6 a7 a8 a9 a10 a11 a12 a13).bind fun r1 =>
  some (r1.1, r1.2.1, (t2 r1).1, (t3 r1).1, (t4 r1).1, (t5 r1).1, (t6 r1).1, (t7 r1).1, (t8 r1).1, (t9 r1).1, (t9 r1.2).1, (t9 (t2 r1)).1, (t9 (t3 r1)).1, (t9 (t4 r1)).1, (t9 (t5 r1)))
 else
  (spec_PlayOn.f k a0 a1 a2 a3 a4 a5 a6 a7 a8 a9 a10 a11 a12 a13 g).bind fun r2 =>
  some (r2.1, r2.2.1, (t2 r2).1, (t3 r2).1, (t4 r2).1, (t5 r2).1, (t6 r2).1, (t7 r2).1, (t8 r2).1, (t9 r2).1, (t9 r2.2).1, (t9 (t2 r2)).1, (t9 (t3 r2)).1, (t9 (t4 r2)).1, (t9 (t5 r2)))

def spec_Replayed.s3 {R : Type} (k : Nat) (v0 : LI) (e0 : Int → Int → Int → Bool → Bool → Int → Int → Int → Int → Int → LI → LI → LL → LI → LI → Option R) (e1 : Int → Int → Bool → Bool → Int → Int → Int → Int → Int → LI → LI → LL → LI → LI → Option R) (rec : Int → Int → Int → Bool → Bool → Int → Int → Int → Int → Int → LI → LI → LL → LI → LI → Option R) (v1 v11 v12 : Int) (v13 v14 : Bool) (v15 v16 v17 v18 v19 : Int) (v20 v21 : LI) (v22 : LL) (v23 v24 : LI) : Option R :=
 bif decide (v1 < (v0.length : Int)) then
  chk ((decide (0 ≤ v1)) && (decide (v1 < (v0.length : Int)))) <|
  (spec_ReplayMove.f k v11 v12 v13 v14 v20 v21 v15 v16 v22 v23 v24 v17 v18 v19 (v0.getD v1.toNat 0)).bind fun r2 =>
  bif (!(t9 (t5 r2))) then
   e0 v1 v11 v12 v13 v14 v15 v16 v17 v18 v19 v20 v21 v22 v23 v24
  else
   rec (IntKind.wrap .i64 (v1 + 1)) r2.1 r2.2.1 (t2 r2).1 (t3 r2).1 (t6 r2).1 (t7 r2).1 (t9 (t2 r2)).1 (t9 (t3 r2)).1 (t9 (t4 r2)).1 (t4 r2).1 (t5 r2).1 (t8 r2).1 (t9 r2).1 (t9 r2.2).1
 else
  e1 v11 v12 v13 v14 v15 v16 v17 v18 v19 v20 v21 v22 v23 v24
def spec_Replayed.l3 {R : Type} (k : Nat) (v0 : LI) (e0 : Int → Int → Int → Bool → Bool → Int → Int → Int → Int → Int → LI → LI → LL → LI → LI → Option R) (e1 : Int → Int → Bool → Bool → Int → Int → Int → Int → Int → LI → LI → LL → LI → LI → Option R) (n : Nat) (v1 v11 v12 : Int) (v13 v14 : Bool) (v15 v16 v17 v18 v19 : Int) (v20 v21 : LI) (v22 : LL) (v23 v24 : LI) : Option R :=
 V.iter (A := Int × Int × Int × Bool × Bool × Int × Int × Int × Int × Int × LI × LI × LL × LI × LI) (fun rec a => spec_Replayed.s3 k v0 e0 e1 (fun c0 c1 c2 c3 c4 c5 c6 c7 c8 c9 c10 c11 c12 c13 c14 => rec (c0, c1, c2, c3, c4, c5, c6, c7, c8, c9, c10, c11, c12, c13, c14)) a.1 a.2.1 (t2 a).1 (t3 a).1 (t4 a).1 (t5 a).1 (t6 a).1 (t7 a).1 (t8 a).1 (t9 a).1 (t9 a.2).1 (t9 (t2 a)).1 (t9 (t3 a)).1 (t9 (t4 a)).1 (t9 (t5 a))) n (v1, v11, v12, v13, v14, v15, v16, v17, v18, v19, v20, v21, v22, v23, v24)
theorem spec_Replayed.l3_succ {R : Type} (k : Nat) (v0 : LI) (e0 : Int → Int → Int → Bool → Bool → Int → Int → Int → Int → Int → LI → LI → LL → LI → LI → Option R) (e1 : Int → Int → Bool → Bool → Int → Int → Int → Int → Int → LI → LI → LL → LI → LI → Option R) (n : Nat) (v1 v11 v12 : Int) (v13 v14 : Bool) (v15 v16 v17 v18 v19 : Int) (v20 v21 : LI) (v22 : LL) (v23 v24 : LI) : spec_Replayed.l3 (R := R) k v0 e0 e1 (n + 1) v1 v11 v12 v13 v14 v15 v16 v17 v18 v19 v20 v21 v22 v23 v24 = spec_Replayed.s3 k v0 e0 e1 (spec_Replayed.l3 k v0 e0 e1 n) v1 v11 v12 v13 v14 v15 v16 v17 v18 v19 v20 v21 v22 v23 v24 := rfl
def spec_Replayed.f (k : Nat) (a0 a1 : Int) (a2 a3 : Bool) (a4 a5 : LI) (a6 a7 : Int) (a8 : LL) (a9 a10 : LI) (a11 a12 a13 : Int) (g : LI) : Option (Int × Int × Bool × Bool × LI × LI × Int × Int × LL × LI × LI × Int × Int × Int × Int) :=
 (spec_l24Copy.f k a0 a1 a2 a3 a4 a5 a6 a7 a8 a9 a10 a11 a12 a13).bind fun r1 =>
 spec_Replayed.l3 k g (fun x3 x4 x5 x6 x7 x8 x9 x10 x11 x12 x13 x14 x15 x16 x17 =>
  some (x4, x5, x6, x7, x13, x14, x8, x9, x15, x16, x17, x10, x11, x12, x3)) (fun x18 x19 x20 x21 x22 x23 x24 x25 x26 x27 x28 x29 x30 x31 =>
  some (x18, x19, x20, x21, x27, x28, x22, x23, x29, x30, x31, x24, x25, x26, (g.length : Int))) k 0 r1.1 r1.2.1 (t2 r1).1 (t3 r1).1 (t6 r1).1 (t7 r1).1 (t9 (t2 r1)).1 (t9 (t3 r1)).1 (t9 (t4 r1)) (t4 r1).1 (t5 r1).1 (t8 r1).1 (t9 r1).1 (t9 r1.2).1

def spec_IsTable.f (k : Nat) (a0 a1 : Int) (a2 a3 : Bool) (a4 a5 : LI) (a6 a7 : Int) (a8 : LI) (a9 : Bool) (a10 : LI) (a11 a12 : Int) (a13 a14 : Bool) (a15 a16 : LI) (a17 a18 : Int) (a19 : LL) (a20 a21 : LI) (a22 a23 a24 : Int) (a25 : LI) (a26 : LL) : Option (Bool) :=
 (spec_IsRules.f k a0 a1 a2 a3 a4 a5 a6 a7).bind fun r1 =>
 bif (!r1) then
  some false
 else
  bif decide ((a8.length : Int) > a0) then
   some false
  else
   (spec_IsSheet.f k a0 a26).bind fun r2 =>
   bif (!r2) then
    some false
   else
    bif (!a9) then
     bif ((a10.length : Int) == 0) then
      bif ((a25.length : Int) == 0) then
       (spec_EqualGames.f k a11 a12 a13 a14 a15 a16 a17 a18 a19 a20 a21 a22 a23 a24 0 0 false false [] [] 0 0 [] [] [] 0 0 0).bind fun r3 =>
       some r3
      else
       some false
     else
      some false
    else
     (spec_NewGame.f k a0 a1 a2 a3 a4 a5 a6 a7 a10).bind fun r4 =>
     (spec_Replayed.f k r4.1 r4.2.1 (t2 r4).1 (t3 r4).1 (t4 r4).1 (t5 r4).1 (t6 r4).1 (t7 r4).1 (t8 r4).1 (t9 r4).1 (t9 r4.2).1 (t9 (t2 r4)).1 (t9 (t3 r4)).1 (t9 (t4 r4)).1 a25).bind fun r5 =>
     bif (t9 (t5 r4)) then
      bif ((a8.length : Int) == a0) then
       bif ((t9 (t5 r5)) == (a25.length : Int)) then
        (spec_EqualGames.f k r5.1 r5.2.1 (t2 r5).1 (t3 r5).1 (t4 r5).1 (t5 r5).1 (t6 r5).1 (t7 r5).1 (t8 r5).1 (t9 r5).1 (t9 r5.2).1 (t9 (t2 r5)).1 (t9 (t3 r5)).1 (t9 (t4 r5)).1 a11 a12 a13 a14 a15 a16 a17 a18 a19 a20 a21 a22 a23 a24).bind fun r6 =>
        some r6
       else
        some false
      else
       some false
     else
      some false

def spec_l34Done.f (k : Nat) (a0 a1 : Int) (a2 a3 : Bool) (a4 a5 : LI) (a6 a7 : Int) (a8 : LI) (a9 : Bool) (a10 : LI) (a11 a12 : Int) (a13 a14 : Bool) (a15 a16 : LI) (a17 a18 : Int) (a19 : LL) (a20 a21 : LI) (a22 a23 a24 : Int) (a25 : LI) (a26 : LL) (g0 g1 : Int) (g2 g3 : Bool) (g4 g5 : LI) (g6 g7 : Int) (g8 : LI) (g9 : Bool) (g10 : LI) (g11 g12 : Int) (g13 g14 : Bool) (g15 g16 : LI) (g17 g18 : Int) (g19 : LL) (g20 g21 : LI) (g22 g23 g24 : Int) (g25 : LI) (g26 : LL) (i : Bool) : Option (Int × Int × Bool × Bool × LI × LI × Int × Int × LI × Bool × LI × Int × Int × Bool × Bool × LI × LI × Int × Int × LL × LI × LI × Int × Int × Int × LI × LL × Bool) :=
 bif (!i) then
  (spec_l33Copy.f k a0 a1 a2 a3 a4 a5 a6 a7 a8 a9 a10 a11 a12 a13 a14 a15 a16 a17 a18 a19 a20 a21 a22 a23 a24 a25 a26).bind fun r1 =>
  some (r1.1, r1.2.1, (t2 r1).1, (t3 r1).1, (t4 r1).1, (t5 r1).1, (t6 r1).1, (t7 r1).1, (t8 r1).1, (t9 r1).1, (t9 r1.2).1, (t9 (t2 r1)).1, (t9 (t3 r1)).1, (t9 (t4 r1)).1, (t9 (t5 r1)).1, (t9 (t6 r1)).1, (t9 (t7 r1)).1, (t9 (t8 r1)).1, (t9 (t9 r1)).1, (t9 (t9 r1.2)).1, (t9 (t9 (t2 r1))).1, (t9 (t9 (t3 r1))).1, (t9 (t9 (t4 r1))).1, (t9 (t9 (t5 r1))).1, (t9 (t9 (t6 r1))).1, (t9 (t9 (t7 r1))).1, (t9 (t9 (t8 r1))), false)
 else
  (spec_IsTable.f k a0 a1 a2 a3 a4 a5 a6 a7 a8 a9 a10 a11 a12 a13 a14 a15 a16 a17 a18 a19 a20 a21 a22 a23 a24 a25 a26).bind fun r2 =>
  bif (!r2) then
   (spec_l33Copy.f k a0 a1 a2 a3 a4 a5 a6 a7 a8 a9 a10 a11 a12 a13 a14 a15 a16 a17 a18 a19 a20 a21 a22 a23 a24 a25 a26).bind fun r3 =>
   some (r3.1, r3.2.1, (t2 r3).1, (t3 r3).1, (t4 r3).1, (t5 r3).1, (t6 r3).1, (t7 r3).1, (t8 r3).1, (t9 r3).1, (t9 r3.2).1, (t9 (t2 r3)).1, (t9 (t3 r3)).1, (t9 (t4 r3)).1, (t9 (t5 r3)).1, (t9 (t6 r3)).1, (t9 (t7 r3)).1, (t9 (t8 r3)).1, (t9 (t9 r3)).1, (t9 (t9 r3.2)).1, (t9 (t9 (t2 r3))).1, (t9 (t9 (t3 r3))).1, (t9 (t9 (t4 r3))).1, (t9 (t9 (t5 r3))).1, (t9 (t9 (t6 r3))).1, (t9 (t9 (t7 r3))).1, (t9 (t9 (t8 r3))), false)
  else
   (spec_IsTable.f k g0 g1 g2 g3 g4 g5 g6 g7 g8 g9 g10 g11 g12 g13 g14 g15 g16 g17 g18 g19 g20 g21 g22 g23 g24 g25 g26).bind fun r4 =>
   bif (!r4) then
    (spec_l33Copy.f k a0 a1 a2 a3 a4 a5 a6 a7 a8 a9 a10 a11 a12 a13 a14 a15 a16 a17 a18 a19 a20 a21 a22 a23 a24 a25 a26).bind fun r5 =>
    some (r5.1, r5.2.1, (t2 r5).1, (t3 r5).1, (t4 r5).1, (t5 r5).1, (t6 r5).1, (t7 r5).1, (t8 r5).1, (t9 r5).1, (t9 r5.2).1, (t9 (t2 r5)).1, (t9 (t3 r5)).1, (t9 (t4 r5)).1, (t9 (t5 r5)).1, (t9 (t6 r5)).1, (t9 (t7 r5)).1, (t9 (t8 r5)).1, (t9 (t9 r5)).1, (t9 (t9 r5.2)).1, (t9 (t9 (t2 r5))).1, (t9 (t9 (t3 r5))).1, (t9 (t9 (t4 r5))).1, (t9 (t9 (t5 r5))).1, (t9 (t9 (t6 r5))).1, (t9 (t9 (t7 r5))).1, (t9 (t9 (t8 r5))), false)
   else
    some (g0, g1, g2, g3, g4, g5, g6, g7, g8, g9, g10, g11, g12, g13, g14, g15, g16, g17, g18, g19, g20, g21, g22, g23, g24, g25, g26, true)

def spec_IsSealed.f (k : Nat) (a0 a1 : Int) (a2 a3 : Bool) (a4 a5 : LI) (a6 a7 : Int) (a8 : LI) (a9 : Bool) (a10 : LI) (a11 a12 : Int) (a13 a14 : Bool) (a15 a16 : LI) (a17 a18 : Int) (a19 : LL) (a20 a21 : LI) (a22 a23 a24 : Int) (a25 : LI) (a26 : LL) : Option (Bool) :=
 bif ((a8.length : Int) == a0) then
  some (!a9)
 else
  some false

def spec_StepDeal.f (k : Nat) (a0 a1 : Int) (a2 a3 : Bool) (a4 a5 : LI) (a6 a7 : Int) (a8 : LI) (a9 : Bool) (a10 : LI) (a11 a12 : Int) (a13 a14 : Bool) (a15 a16 : LI) (a17 a18 : Int) (a19 : LL) (a20 a21 : LI) (a22 a23 a24 : Int) (a25 : LI) (a26 : LL) (g i : LI) : Option (Int × Int × Bool × Bool × LI × LI × Int × Int × LI × Bool × LI × Int × Int × Bool × Bool × LI × LI × Int × Int × LL × LI × LI × Int × Int × Int × LI × LL × Bool) :=
 (spec_l33Copy.f k a0 a1 a2 a3 a4 a5 a6 a7 a8 a9 a10 a11 a12 a13 a14 a15 a16 a17 a18 a19 a20 a21 a22 a23 a24 a25 a26).bind fun r1 =>
 (spec_JointDeck.f k a8 g i).bind fun r2 =>
 (spec_NewGame.f k a0 a1 a2 a3 a4 a5 a6 a7 r2.1).bind fun r3 =>
 bif r2.2 then
  bif (t9 (t5 r3)) then
   (spec_IsSealed.f k a0 a1 a2 a3 a4 a5 a6 a7 a8 a9 a10 a11 a12 a13 a14 a15 a16 a17 a18 a19 a20 a21 a22 a23 a24 a25 a26).bind fun r4 =>
   (spec_l34Done.f k a0 a1 a2 a3 a4 a5 a6 a7 a8 a9 a10 a11 a12 a13 a14 a15 a16 a17 a18 a19 a20 a21 a22 a23 a24 a25 a26 r1.1 r1.2.1 (t2 r1).1 (t3 r1).1 (t4 r1).1 (t5 r1).1 (t6 r1).1 (t7 r1).1 (t8 r1).1 true r2.1 r3.1 r3.2.1 (t2 r3).1 (t3 r3).1 (t4 r3).1 (t5 r3).1 (t6 r3).1 (t7 r3).1 (t8 r3).1 (t9 r3).1 (t9 r3.2).1 (t9 (t2 r3)).1 (t9 (t3 r3)).1 (t9 (t4 r3)).1 (t9 (t9 (t7 r1))).1 (t9 (t9 (t8 r1))) r4).bind fun r5 =>
   some (r5.1, r5.2.1, (t2 r5).1, (t3 r5).1, (t4 r5).1, (t5 r5).1, (t6 r5).1, (t7 r5).1, (t8 r5).1, (t9 r5).1, (t9 r5.2).1, (t9 (t2 r5)).1, (t9 (t3 r5)).1, (t9 (t4 r5)).1, (t9 (t5 r5)).1, (t9 (t6 r5)).1, (t9 (t7 r5)).1, (t9 (t8 r5)).1, (t9 (t9 r5)).1, (t9 (t9 r5.2)).1, (t9 (t9 (t2 r5))).1, (t9 (t9 (t3 r5))).1, (t9 (t9 (t4 r5))).1, (t9 (t9 (t5 r5))).1, (t9 (t9 (t6 r5))).1, (t9 (t9 (t7 r5))).1, (t9 (t9 (t8 r5))).1, (t9 (t9 (t9 r5))))
  else
   (spec_l34Done.f k a0 a1 a2 a3 a4 a5 a6 a7 a8 a9 a10 a11 a12 a13 a14 a15 a16 a17 a18 a19 a20 a21 a22 a23 a24 a25 a26 r1.1 r1.2.1 (t2 r1).1 (t3 r1).1 (t4 r1).1 (t5 r1).1 (t6 r1).1 (t7 r1).1 (t8 r1).1 true r2.1 r3.1 r3.2.1 (t2 r3).1 (t3 r3).1 (t4 r3).1 (t5 r3).1 (t6 r3).1 (t7 r3).1 (t8 r3).1 (t9 r3).1 (t9 r3.2).1 (t9 (t2 r3)).1 (t9 (t3 r3)).1 (t9 (t4 r3)).1 (t9 (t9 (t7 r1))).1 (t9 (t9 (t8 r1))) false).bind fun r6 =>
   some (r6.1, r6.2.1, (t2 r6).1, (t3 r6).1, (t4 r6).1, (t5 r6).1, (t6 r6).1, (t7 r6).1, (t8 r6).1, (t9 r6).1, (t9 r6.2).1, (t9 (t2 r6)).1, (t9 (t3 r6)).1, (t9 (t4 r6)).1, (t9 (t5 r6)).1, (t9 (t6 r6)).1, (t9 (t7 r6)).1, (t9 (t8 r6)).1, (t9 (t9 r6)).1, (t9 (t9 r6.2)).1, (t9 (t9 (t2 r6))).1, (t9 (t9 (t3 r6))).1, (t9 (t9 (t4 r6))).1, (t9 (t9 (t5 r6))).1, (t9 (t9 (t6 r6))).1, (t9 (t9 (t7 r6))).1, (t9 (t9 (t8 r6))).1, (t9 (t9 (t9 r6))))
 else
  (spec_l34Done.f k a0 a1 a2 a3 a4 a5 a6 a7 a8 a9 a10 a11 a12 a13 a14 a15 a16 a17 a18 a19 a20 a21 a22 a23 a24 a25 a26 r1.1 r1.2.1 (t2 r1).1 (t3 r1).1 (t4 r1).1 (t5 r1).1 (t6 r1).1 (t7 r1).1 (t8 r1).1 true r2.1 r3.1 r3.2.1 (t2 r3).1 (t3 r3).1 (t4 r3).1 (t5 r3).1 (t6 r3).1 (t7 r3).1 (t8 r3).1 (t9 r3).1 (t9 r3.2).1 (t9 (t2 r3)).1 (t9 (t3 r3)).1 (t9 (t4 r3)).1 (t9 (t9 (t7 r1))).1 (t9 (t9 (t8 r1))) false).bind fun r7 =>
  some (r7.1, r7.2.1, (t2 r7).1, (t3 r7).1, (t4 r7).1, (t5 r7).1, (t6 r7).1, (t7 r7).1, (t8 r7).1, (t9 r7).1, (t9 r7.2).1, (t9 (t2 r7)).1, (t9 (t3 r7)).1, (t9 (t4 r7)).1, (t9 (t5 r7)).1, (t9 (t6 r7)).1, (t9 (t7 r7)).1, (t9 (t8 r7)).1, (t9 (t9 r7)).1, (t9 (t9 r7.2)).1, (t9 (t9 (t2 r7))).1, (t9 (t9 (t3 r7))).1, (t9 (t9 (t4 r7))).1, (t9 (t9 (t5 r7))).1, (t9 (t9 (t6 r7))).1, (t9 (t9 (t7 r7))).1, (t9 (t9 (t8 r7))).1, (t9 (t9 (t9 r7))))

def spec_StepSeal.f (k : Nat) (a0 a1 : Int) (a2 a3 : Bool) (a4 a5 : LI) (a6 a7 : Int) (a8 : LI) (a9 : Bool) (a10 : LI) (a11 a12 : Int) (a13 a14 : Bool) (a15 a16 : LI) (a17 a18 : Int) (a19 : LL) (a20 a21 : LI) (a22 a23 a24 : Int) (a25 : LI) (a26 : LL) (g : Int) : Option (Int × Int × Bool × Bool × LI × LI × Int × Int × LI × Bool × LI × Int × Int × Bool × Bool × LI × LI × Int × Int × LL × LI × LI × Int × Int × Int × LI × LL × Bool) :=
 (spec_l33Copy.f k a0 a1 a2 a3 a4 a5 a6 a7 a8 a9 a10 a11 a12 a13 a14 a15 a16 a17 a18 a19 a20 a21 a22 a23 a24 a25 a26).bind fun r1 =>
 chk (decide (((t8 r1).1.length + 1) * 8 ≤ room)) <|
 (spec_l34Done.f k a0 a1 a2 a3 a4 a5 a6 a7 a8 a9 a10 a11 a12 a13 a14 a15 a16 a17 a18 a19 a20 a21 a22 a23 a24 a25 a26 r1.1 r1.2.1 (t2 r1).1 (t3 r1).1 (t4 r1).1 (t5 r1).1 (t6 r1).1 (t7 r1).1 ((t8 r1).1 ++ [g]) (t9 r1).1 (t9 r1.2).1 (t9 (t2 r1)).1 (t9 (t3 r1)).1 (t9 (t4 r1)).1 (t9 (t5 r1)).1 (t9 (t6 r1)).1 (t9 (t7 r1)).1 (t9 (t8 r1)).1 (t9 (t9 r1)).1 (t9 (t9 r1.2)).1 (t9 (t9 (t2 r1))).1 (t9 (t9 (t3 r1))).1 (t9 (t9 (t4 r1))).1 (t9 (t9 (t5 r1))).1 (t9 (t9 (t6 r1))).1 (t9 (t9 (t7 r1))).1 (t9 (t9 (t8 r1))) (!a9)).bind fun r2 =>
 some (r2.1, r2.2.1, (t2 r2).1, (t3 r2).1, (t4 r2).1, (t5 r2).1, (t6 r2).1, (t7 r2).1, (t8 r2).1, (t9 r2).1, (t9 r2.2).1, (t9 (t2 r2)).1, (t9 (t3 r2)).1, (t9 (t4 r2)).1, (t9 (t5 r2)).1, (t9 (t6 r2)).1, (t9 (t7 r2)).1, (t9 (t8 r2)).1, (t9 (t9 r2)).1, (t9 (t9 r2.2)).1, (t9 (t9 (t2 r2))).1, (t9 (t9 (t3 r2))).1, (t9 (t9 (t4 r2))).1, (t9 (t9 (t5 r2))).1, (t9 (t9 (t6 r2))).1, (t9 (t9 (t7 r2))).1, (t9 (t9 (t8 r2))).1, (t9 (t9 (t9 r2))))

def spec_l34Move.f (k : Nat) (a0 a1 : Int) (a2 a3 : Bool) (a4 a5 : LI) (a6 a7 : Int) (a8 : LI) (a9 : Bool) (a10 : LI) (a11 a12 : Int) (a13 a14 : Bool) (a15 a16 : LI) (a17 a18 : Int) (a19 : LL) (a20 a21 : LI) (a22 a23 a24 : Int) (a25 : LI) (a26 : LL) (g : Int) : Option (Int × Int × Bool × Bool × LI × LI × Int × Int × LI × Bool × LI × Int × Int × Bool × Bool × LI × LI × Int × Int × LL × LI × LI × Int × Int × Int × LI × LL × Bool) :=
 (spec_l33Copy.f k a0 a1 a2 a3 a4 a5 a6 a7 a8 a9 a10 a11 a12 a13 a14 a15 a16 a17 a18 a19 a20 a21 a22 a23 a24 a25 a26).bind fun r1 =>
 (spec_ReplayMove.f k a11 a12 a13 a14 a15 a16 a17 a18 a19 a20 a21 a22 a23 a24 g).bind fun r2 =>
 chk (decide (((t9 (t9 (t7 r1))).1.length + 1) * 8 ≤ room)) <|
 bif (t9 (t5 r2)) then
  (spec_l34Done.f k a0 a1 a2 a3 a4 a5 a6 a7 a8 a9 a10 a11 a12 a13 a14 a15 a16 a17 a18 a19 a20 a21 a22 a23 a24 a25 a26 r1.1 r1.2.1 (t2 r1).1 (t3 r1).1 (t4 r1).1 (t5 r1).1 (t6 r1).1 (t7 r1).1 (t8 r1).1 (t9 r1).1 (t9 r1.2).1 r2.1 r2.2.1 (t2 r2).1 (t3 r2).1 (t4 r2).1 (t5 r2).1 (t6 r2).1 (t7 r2).1 (t8 r2).1 (t9 r2).1 (t9 r2.2).1 (t9 (t2 r2)).1 (t9 (t3 r2)).1 (t9 (t4 r2)).1 ((t9 (t9 (t7 r1))).1 ++ [g]) (t9 (t9 (t8 r1))) a9).bind fun r3 =>
  some (r3.1, r3.2.1, (t2 r3).1, (t3 r3).1, (t4 r3).1, (t5 r3).1, (t6 r3).1, (t7 r3).1, (t8 r3).1, (t9 r3).1, (t9 r3.2).1, (t9 (t2 r3)).1, (t9 (t3 r3)).1, (t9 (t4 r3)).1, (t9 (t5 r3)).1, (t9 (t6 r3)).1, (t9 (t7 r3)).1, (t9 (t8 r3)).1, (t9 (t9 r3)).1, (t9 (t9 r3.2)).1, (t9 (t9 (t2 r3))).1, (t9 (t9 (t3 r3))).1, (t9 (t9 (t4 r3))).1, (t9 (t9 (t5 r3))).1, (t9 (t9 (t6 r3))).1, (t9 (t9 (t7 r3))).1, (t9 (t9 (t8 r3))).1, (t9 (t9 (t9 r3))))
 else
  (spec_l34Done.f k a0 a1 a2 a3 a4 a5 a6 a7 a8 a9 a10 a11 a12 a13 a14 a15 a16 a17 a18 a19 a20 a21 a22 a23 a24 a25 a26 r1.1 r1.2.1 (t2 r1).1 (t3 r1).1 (t4 r1).1 (t5 r1).1 (t6 r1).1 (t7 r1).1 (t8 r1).1 (t9 r1).1 (t9 r1.2).1 r2.1 r2.2.1 (t2 r2).1 (t3 r2).1 (t4 r2).1 (t5 r2).1 (t6 r2).1 (t7 r2).1 (t8 r2).1 (t9 r2).1 (t9 r2.2).1 (t9 (t2 r2)).1 (t9 (t3 r2)).1 (t9 (t4 r2)).1 ((t9 (t9 (t7 r1))).1 ++ [g]) (t9 (t9 (t8 r1))) false).bind fun r4 =>
  some (r4.1, r4.2.1, (t2 r4).1, (t3 r4).1, (t4 r4).1, (t5 r4).1, (t6 r4).1, (t7 r4).1, (t8 r4).1, (t9 r4).1, (t9 r4.2).1, (t9 (t2 r4)).1, (t9 (t3 r4)).1, (t9 (t4 r4)).1, (t9 (t5 r4)).1, (t9 (t6 r4)).1, (t9 (t7 r4)).1, (t9 (t8 r4)).1, (t9 (t9 r4)).1, (t9 (t9 r4.2)).1, (t9 (t9 (t2 r4))).1, (t9 (t9 (t3 r4))).1, (t9 (t9 (t4 r4))).1, (t9 (t9 (t5 r4))).1, (t9 (t9 (t6 r4))).1, (t9 (t9 (t7 r4))).1, (t9 (t9 (t8 r4))).1, (t9 (t9 (t9 r4))))

def spec_StepPlay.f (k : Nat) (a0 a1 : Int) (a2 a3 : Bool) (a4 a5 : LI) (a6 a7 : Int) (a8 : LI) (a9 : Bool) (a10 : LI) (a11 a12 : Int) (a13 a14 : Bool) (a15 a16 : LI) (a17 a18 : Int) (a19 : LL) (a20 a21 : LI) (a22 a23 a24 : Int) (a25 : LI) (a26 : LL) (g : Int) : Option (Int × Int × Bool × Bool × LI × LI × Int × Int × LI × Bool × LI × Int × Int × Bool × Bool × LI × LI × Int × Int × LL × LI × LI × Int × Int × Int × LI × LL × Bool) :=
 (spec_IsCard.f k g).bind fun r1 =>
 bif (!r1) then
  (spec_l33Copy.f k a0 a1 a2 a3 a4 a5 a6 a7 a8 a9 a10 a11 a12 a13 a14 a15 a16 a17 a18 a19 a20 a21 a22 a23 a24 a25 a26).bind fun r2 =>
  some (r2.1, r2.2.1, (t2 r2).1, (t3 r2).1, (t4 r2).1, (t5 r2).1, (t6 r2).1, (t7 r2).1, (t8 r2).1, (t9 r2).1, (t9 r2.2).1, (t9 (t2 r2)).1, (t9 (t3 r2)).1, (t9 (t4 r2)).1, (t9 (t5 r2)).1, (t9 (t6 r2)).1, (t9 (t7 r2)).1, (t9 (t8 r2)).1, (t9 (t9 r2)).1, (t9 (t9 r2.2)).1, (t9 (t9 (t2 r2))).1, (t9 (t9 (t3 r2))).1, (t9 (t9 (t4 r2))).1, (t9 (t9 (t5 r2))).1, (t9 (t9 (t6 r2))).1, (t9 (t9 (t7 r2))).1, (t9 (t9 (t8 r2))), false)
 else
  (spec_l34Move.f k a0 a1 a2 a3 a4 a5 a6 a7 a8 a9 a10 a11 a12 a13 a14 a15 a16 a17 a18 a19 a20 a21 a22 a23 a24 a25 a26 g).bind fun r3 =>
  some (r3.1, r3.2.1, (t2 r3).1, (t3 r3).1, (t4 r3).1, (t5 r3).1, (t6 r3).1, (t7 r3).1, (t8 r3).1, (t9 r3).1, (t9 r3.2).1, (t9 (t2 r3)).1, (t9 (t3 r3)).1, (t9 (t4 r3)).1, (t9 (t5 r3)).1, (t9 (t6 r3)).1, (t9 (t7 r3)).1, (t9 (t8 r3)).1, (t9 (t9 r3)).1, (t9 (t9 r3.2)).1, (t9 (t9 (t2 r3))).1, (t9 (t9 (t3 r3))).1, (t9 (t9 (t4 r3))).1, (t9 (t9 (t5 r3))).1, (t9 (t9 (t6 r3))).1, (t9 (t9 (t7 r3))).1, (t9 (t9 (t8 r3))).1, (t9 (t9 (t9 r3))))

def spec_StepTake.f (k : Nat) (a0 a1 : Int) (a2 a3 : Bool) (a4 a5 : LI) (a6 a7 : Int) (a8 : LI) (a9 : Bool) (a10 : LI) (a11 a12 : Int) (a13 a14 : Bool) (a15 a16 : LI) (a17 a18 : Int) (a19 : LL) (a20 a21 : LI) (a22 a23 a24 : Int) (a25 : LI) (a26 : LL) : Option (Int × Int × Bool × Bool × LI × LI × Int × Int × LI × Bool × LI × Int × Int × Bool × Bool × LI × LI × Int × Int × LL × LI × LI × Int × Int × Int × LI × LL × Bool) :=
 (spec_l34Move.f k a0 a1 a2 a3 a4 a5 a6 a7 a8 a9 a10 a11 a12 a13 a14 a15 a16 a17 a18 a19 a20 a21 a22 a23 a24 a25 a26 (-1)).bind fun r1 =>
 some (r1.1, r1.2.1, (t2 r1).1, (t3 r1).1, (t4 r1).1, (t5 r1).1, (t6 r1).1, (t7 r1).1, (t8 r1).1, (t9 r1).1, (t9 r1.2).1, (t9 (t2 r1)).1, (t9 (t3 r1)).1, (t9 (t4 r1)).1, (t9 (t5 r1)).1, (t9 (t6 r1)).1, (t9 (t7 r1)).1, (t9 (t8 r1)).1, (t9 (t9 r1)).1, (t9 (t9 r1.2)).1, (t9 (t9 (t2 r1))).1, (t9 (t9 (t3 r1))).1, (t9 (t9 (t4 r1))).1, (t9 (t9 (t5 r1))).1, (t9 (t9 (t6 r1))).1, (t9 (t9 (t7 r1))).1, (t9 (t9 (t8 r1))).1, (t9 (t9 (t9 r1))))

def spec_IsEnded.f (k : Nat) (a0 a1 : Int) (a2 a3 : Bool) (a4 a5 : LI) (a6 a7 : Int) (a8 : LL) (a9 a10 : LI) (a11 a12 a13 : Int) : Option (Bool) :=
 (spec_IsGame.f k a0 a1 a2 a3 a4 a5 a6 a7 a8 a9 a10 a11 a12 a13).bind fun r1 =>
 bif r1 then
  (spec_l24Over.f k a0 a1 a2 a3 a4 a5 a6 a7 a8 a9 a10 a11 a12 a13).bind fun r2 =>
  some r2
 else
  some false

def spec_ValueOf.f (k : Nat) (a : Int) : Option (Int) :=
 (spec_RankOf.f k a).bind fun r1 =>
 bif decide (r1 < 0) then
  some 0
 else
  bif decide (r1 ≤ 8) then
   some (IntKind.wrap .i64 (r1 + 2))
  else
   bif (r1 == 12) then
    some 1
   else
    some 10

def spec_l10Sum.s3 {R : Type} (k : Nat) (v0 : LI) (e0 : Int → Option R) (rec : Int → Int → Option R) (v1 v2 : Int) : Option R :=
 bif decide (v2 < (v0.length : Int)) then
  chk ((decide (0 ≤ v2)) && (decide (v2 < (v0.length : Int)))) <|
  (spec_ValueOf.f k (v0.getD v2.toNat 0)).bind fun r1 =>
  rec (IntKind.wrap .i64 (v1 + r1)) (IntKind.wrap .i64 (v2 + 1))
 else
  e0 v1
def spec_l10Sum.l3 {R : Type} (k : Nat) (v0 : LI) (e0 : Int → Option R) (n : Nat) (v1 v2 : Int) : Option R :=
 V.iter (A := Int × Int) (fun rec a => spec_l10Sum.s3 k v0 e0 (fun c0 c1 => rec (c0, c1)) a.1 a.2) n (v1, v2)
theorem spec_l10Sum.l3_succ {R : Type} (k : Nat) (v0 : LI) (e0 : Int → Option R) (n : Nat) (v1 v2 : Int) : spec_l10Sum.l3 (R := R) k v0 e0 (n + 1) v1 v2 = spec_l10Sum.s3 k v0 e0 (spec_l10Sum.l3 k v0 e0 n) v1 v2 := rfl
def spec_l10Sum.f (k : Nat) (a : LI) : Option (Int) :=
 spec_l10Sum.l3 k a (fun x2 =>
  some x2) k 0 0

def spec_LeftPoints.s3 {R : Type} (k : Nat) (v9 : LL) (e0 : LI → Option R) (rec : Int → LI → Option R) (v0 : Int) (v15 : LI) : Option R :=
 bif decide (v0 < (v9.length : Int)) then
  chk ((decide (0 ≤ v0)) && (decide (v0 < (v9.length : Int)))) <|
  (spec_l10Sum.f k (v9.getD v0.toNat [])).bind fun r1 =>
  chk (decide ((v15.length + 1) * 8 ≤ room)) <|
  rec (IntKind.wrap .i64 (v0 + 1)) (v15 ++ [r1])
 else
  e0 v15
def spec_LeftPoints.l3 {R : Type} (k : Nat) (v9 : LL) (e0 : LI → Option R) (n : Nat) (v0 : Int) (v15 : LI) : Option R :=
 V.iter (A := Int × LI) (fun rec a => spec_LeftPoints.s3 k v9 e0 (fun c0 c1 => rec (c0, c1)) a.1 a.2) n (v0, v15)
theorem spec_LeftPoints.l3_succ {R : Type} (k : Nat) (v9 : LL) (e0 : LI → Option R) (n : Nat) (v0 : Int) (v15 : LI) : spec_LeftPoints.l3 (R := R) k v9 e0 (n + 1) v0 v15 = spec_LeftPoints.s3 k v9 e0 (spec_LeftPoints.l3 k v9 e0 n) v0 v15 := rfl
def spec_LeftPoints.f (k : Nat) (a0 a1 : Int) (a2 a3 : Bool) (a4 a5 : LI) (a6 a7 : Int) (a8 : LL) (a9 a10 : LI) (a11 a12 a13 : Int) : Option (LI) :=
 spec_LeftPoints.l3 k a8 (fun x2 =>
  some x2) k 0 []

def spec_Winner.f (k : Nat) (a0 a1 : Int) (a2 a3 : Bool) (a4 a5 : LI) (a6 a7 : Int) (a8 : LL) (a9 a10 : LI) (a11 a12 a13 : Int) : Option (Int) :=
 (spec_IsGame.f k a0 a1 a2 a3 a4 a5 a6 a7 a8 a9 a10 a11 a12 a13).bind fun r1 =>
 bif (!r1) then
  some (-1)
 else
  (spec_l24First.f k a0 a1 a2 a3 a4 a5 a6 a7 a8 a9 a10 a11 a12 a13).bind fun r2 =>
  some r2

def spec_Settled.s13 {R : Type} (k : Nat) (v19 : LI) (e0 : Int → Option R) (rec : Int → Int → Option R) (v2 v3 : Int) : Option R :=
 bif decide (v3 < (v19.length : Int)) then
  chk ((decide (0 ≤ v3)) && (decide (v3 < (v19.length : Int)))) <|
  rec (IntKind.wrap .i64 (v2 + (v19.getD v3.toNat 0))) (IntKind.wrap .i64 (v3 + 1))
 else
  e0 v2
def spec_Settled.l13 {R : Type} (k : Nat) (v19 : LI) (e0 : Int → Option R) (n : Nat) (v2 v3 : Int) : Option R :=
 V.iter (A := Int × Int) (fun rec a => spec_Settled.s13 k v19 e0 (fun c0 c1 => rec (c0, c1)) a.1 a.2) n (v2, v3)
theorem spec_Settled.l13_succ {R : Type} (k : Nat) (v19 : LI) (e0 : Int → Option R) (n : Nat) (v2 v3 : Int) : spec_Settled.l13 (R := R) k v19 e0 (n + 1) v2 v3 = spec_Settled.s13 k v19 e0 (spec_Settled.l13 k v19 e0 n) v2 v3 := rfl
def spec_Settled.s5 {R : Type} (k : Nat) (v0 v2 v3 : Int) (v4 v5 : Bool) (v6 v7 : LI) (v8 v9 : Int) (v10 : LL) (v11 v12 : LI) (v13 v14 v15 : Int) (v17 : LI) (e0 : LI → Option R) (rec : Int → LI → Option R) (v1 : Int) (v16 : LI) : Option R :=
 bif decide (v1 < (v17.length : Int)) then
  (spec_IsGame.f k v2 v3 v4 v5 v6 v7 v8 v9 v10 v11 v12 v13 v14 v15).bind fun r3 =>
  bif r3 then
   bif decide (v0 < 0) then
    chk (decide ((v16.length + 1) * 8 ≤ room)) <|
    rec (IntKind.wrap .i64 (v1 + 1)) (v16 ++ [0])
   else
    bif (v1 == v0) then
     spec_Settled.l13 k v17 (fun x4 =>
      chk (decide ((v16.length + 1) * 8 ≤ room)) <|
      rec (IntKind.wrap .i64 (v1 + 1)) (v16 ++ [x4])) k 0 0
    else
     chk ((decide (0 ≤ v1)) && (decide (v1 < (v17.length : Int)))) <|
     chk (decide ((v16.length + 1) * 8 ≤ room)) <|
     rec (IntKind.wrap .i64 (v1 + 1)) (v16 ++ [IntKind.wrap .i64 (0 - (v17.getD v1.toNat 0))])
  else
   e0 v16
 else
  e0 v16
def spec_Settled.l5 {R : Type} (k : Nat) (v0 v2 v3 : Int) (v4 v5 : Bool) (v6 v7 : LI) (v8 v9 : Int) (v10 : LL) (v11 v12 : LI) (v13 v14 v15 : Int) (v17 : LI) (e0 : LI → Option R) (n : Nat) (v1 : Int) (v16 : LI) : Option R :=
 V.iter (A := Int × LI) (fun rec a => spec_Settled.s5 k v0 v2 v3 v4 v5 v6 v7 v8 v9 v10 v11 v12 v13 v14 v15 v17 e0 (fun c0 c1 => rec (c0, c1)) a.1 a.2) n (v1, v16)
theorem spec_Settled.l5_succ {R : Type} (k : Nat) (v0 v2 v3 : Int) (v4 v5 : Bool) (v6 v7 : LI) (v8 v9 : Int) (v10 : LL) (v11 v12 : LI) (v13 v14 v15 : Int) (v17 : LI) (e0 : LI → Option R) (n : Nat) (v1 : Int) (v16 : LI) : spec_Settled.l5 (R := R) k v0 v2 v3 v4 v5 v6 v7 v8 v9 v10 v11 v12 v13 v14 v15 v17 e0 (n + 1) v1 v16 = spec_Settled.s5 k v0 v2 v3 v4 v5 v6 v7 v8 v9 v10 v11 v12 v13 v14 v15 v17 e0 (spec_Settled.l5 k v0 v2 v3 v4 v5 v6 v7 v8 v9 v10 v11 v12 v13 v14 v15 v17 e0 n) v1 v16 := rfl
def spec_Settled.f (k : Nat) (a0 a1 : Int) (a2 a3 : Bool) (a4 a5 : LI) (a6 a7 : Int) (a8 : LL) (a9 a10 : LI) (a11 a12 a13 : Int) : Option (LI) :=
 (spec_LeftPoints.f k a0 a1 a2 a3 a4 a5 a6 a7 a8 a9 a10 a11 a12 a13).bind fun r1 =>
 (spec_Winner.f k a0 a1 a2 a3 a4 a5 a6 a7 a8 a9 a10 a11 a12 a13).bind fun r2 =>
 spec_Settled.l5 k r2 a0 a1 a2 a3 a4 a5 a6 a7 a8 a9 a10 a11 a12 a13 r1 (fun x5 =>
  some x5) k 0 []

def spec_StepSettle.f (k : Nat) (a0 a1 : Int) (a2 a3 : Bool) (a4 a5 : LI) (a6 a7 : Int) (a8 : LI) (a9 : Bool) (a10 : LI) (a11 a12 : Int) (a13 a14 : Bool) (a15 a16 : LI) (a17 a18 : Int) (a19 : LL) (a20 a21 : LI) (a22 a23 a24 : Int) (a25 : LI) (a26 : LL) : Option (Int × Int × Bool × Bool × LI × LI × Int × Int × LI × Bool × LI × Int × Int × Bool × Bool × LI × LI × Int × Int × LL × LI × LI × Int × Int × Int × LI × LL × Bool) :=
 (spec_l33Copy.f k a0 a1 a2 a3 a4 a5 a6 a7 a8 a9 a10 a11 a12 a13 a14 a15 a16 a17 a18 a19 a20 a21 a22 a23 a24 a25 a26).bind fun r1 =>
 bif (!a9) then
  some (r1.1, r1.2.1, (t2 r1).1, (t3 r1).1, (t4 r1).1, (t5 r1).1, (t6 r1).1, (t7 r1).1, (t8 r1).1, (t9 r1).1, (t9 r1.2).1, (t9 (t2 r1)).1, (t9 (t3 r1)).1, (t9 (t4 r1)).1, (t9 (t5 r1)).1, (t9 (t6 r1)).1, (t9 (t7 r1)).1, (t9 (t8 r1)).1, (t9 (t9 r1)).1, (t9 (t9 r1.2)).1, (t9 (t9 (t2 r1))).1, (t9 (t9 (t3 r1))).1, (t9 (t9 (t4 r1))).1, (t9 (t9 (t5 r1))).1, (t9 (t9 (t6 r1))).1, (t9 (t9 (t7 r1))).1, (t9 (t9 (t8 r1))), false)
 else
  (spec_IsEnded.f k a11 a12 a13 a14 a15 a16 a17 a18 a19 a20 a21 a22 a23 a24).bind fun r2 =>
  bif (!r2) then
   some (r1.1, r1.2.1, (t2 r1).1, (t3 r1).1, (t4 r1).1, (t5 r1).1, (t6 r1).1, (t7 r1).1, (t8 r1).1, (t9 r1).1, (t9 r1.2).1, (t9 (t2 r1)).1, (t9 (t3 r1)).1, (t9 (t4 r1)).1, (t9 (t5 r1)).1, (t9 (t6 r1)).1, (t9 (t7 r1)).1, (t9 (t8 r1)).1, (t9 (t9 r1)).1, (t9 (t9 r1.2)).1, (t9 (t9 (t2 r1))).1, (t9 (t9 (t3 r1))).1, (t9 (t9 (t4 r1))).1, (t9 (t9 (t5 r1))).1, (t9 (t9 (t6 r1))).1, (t9 (t9 (t7 r1))).1, (t9 (t9 (t8 r1))), false)
  else
   (spec_Settled.f k a11 a12 a13 a14 a15 a16 a17 a18 a19 a20 a21 a22 a23 a24).bind fun r3 =>
   chk (decide (((t9 (t9 (t8 r1))).length + 1) * 24 ≤ room)) <|
   (spec_l34Done.f k a0 a1 a2 a3 a4 a5 a6 a7 a8 a9 a10 a11 a12 a13 a14 a15 a16 a17 a18 a19 a20 a21 a22 a23 a24 a25 a26 r1.1 r1.2.1 (t2 r1).1 (t3 r1).1 (t4 r1).1 (t5 r1).1 (t6 r1).1 (t7 r1).1 [] false [] 0 0 false false [] [] 0 0 [] [] [] 0 0 0 [] ((t9 (t9 (t8 r1))) ++ [r3]) true).bind fun r4 =>
   some (r4.1, r4.2.1, (t2 r4).1, (t3 r4).1, (t4 r4).1, (t5 r4).1, (t6 r4).1, (t7 r4).1, (t8 r4).1, (t9 r4).1, (t9 r4.2).1, (t9 (t2 r4)).1, (t9 (t3 r4)).1, (t9 (t4 r4)).1, (t9 (t5 r4)).1, (t9 (t6 r4)).1, (t9 (t7 r4)).1, (t9 (t8 r4)).1, (t9 (t9 r4)).1, (t9 (t9 r4.2)).1, (t9 (t9 (t2 r4))).1, (t9 (t9 (t3 r4))).1, (t9 (t9 (t4 r4))).1, (t9 (t9 (t5 r4))).1, (t9 (t9 (t6 r4))).1, (t9 (t9 (t7 r4))).1, (t9 (t9 (t8 r4))).1, (t9 (t9 (t9 r4))))

def spec_ApplyEvent.f (k : Nat) (a0 a1 : Int) (a2 a3 : Bool) (a4 a5 : LI) (a6 a7 : Int) (a8 : LI) (a9 : Bool) (a10 : LI) (a11 a12 : Int) (a13 a14 : Bool) (a15 a16 : LI) (a17 a18 : Int) (a19 : LL) (a20 a21 : LI) (a22 a23 a24 : Int) (a25 : LI) (a26 : LL) (g0 g1 : Int) (g2 g3 : LI) : Option (Int × Int × Bool × Bool × LI × LI × Int × Int × LI × Bool × LI × Int × Int × Bool × Bool × LI × LI × Int × Int × LL × LI × LI × Int × Int × Int × LI × LL × Bool) :=
 bif (g0 == 1) then
  (spec_StepSeal.f k a0 a1 a2 a3 a4 a5 a6 a7 a8 a9 a10 a11 a12 a13 a14 a15 a16 a17 a18 a19 a20 a21 a22 a23 a24 a25 a26 g1).bind fun r1 =>
  some (r1.1, r1.2.1, (t2 r1).1, (t3 r1).1, (t4 r1).1, (t5 r1).1, (t6 r1).1, (t7 r1).1, (t8 r1).1, (t9 r1).1, (t9 r1.2).1, (t9 (t2 r1)).1, (t9 (t3 r1)).1, (t9 (t4 r1)).1, (t9 (t5 r1)).1, (t9 (t6 r1)).1, (t9 (t7 r1)).1, (t9 (t8 r1)).1, (t9 (t9 r1)).1, (t9 (t9 r1.2)).1, (t9 (t9 (t2 r1))).1, (t9 (t9 (t3 r1))).1, (t9 (t9 (t4 r1))).1, (t9 (t9 (t5 r1))).1, (t9 (t9 (t6 r1))).1, (t9 (t9 (t7 r1))).1, (t9 (t9 (t8 r1))).1, (t9 (t9 (t9 r1))))
 else
  bif (g0 == 2) then
   (spec_StepDeal.f k a0 a1 a2 a3 a4 a5 a6 a7 a8 a9 a10 a11 a12 a13 a14 a15 a16 a17 a18 a19 a20 a21 a22 a23 a24 a25 a26 g2 g3).bind fun r2 =>
   some (r2.1, r2.2.1, (t2 r2).1, (t3 r2).1, (t4 r2).1, (t5 r2).1, (t6 r2).1, (t7 r2).1, (t8 r2).1, (t9 r2).1, (t9 r2.2).1, (t9 (t2 r2)).1, (t9 (t3 r2)).1, (t9 (t4 r2)).1, (t9 (t5 r2)).1, (t9 (t6 r2)).1, (t9 (t7 r2)).1, (t9 (t8 r2)).1, (t9 (t9 r2)).1, (t9 (t9 r2.2)).1, (t9 (t9 (t2 r2))).1, (t9 (t9 (t3 r2))).1, (t9 (t9 (t4 r2))).1, (t9 (t9 (t5 r2))).1, (t9 (t9 (t6 r2))).1, (t9 (t9 (t7 r2))).1, (t9 (t9 (t8 r2))).1, (t9 (t9 (t9 r2))))
  else
   bif (g0 == 3) then
    (spec_StepPlay.f k a0 a1 a2 a3 a4 a5 a6 a7 a8 a9 a10 a11 a12 a13 a14 a15 a16 a17 a18 a19 a20 a21 a22 a23 a24 a25 a26 g1).bind fun r3 =>
    some (r3.1, r3.2.1, (t2 r3).1, (t3 r3).1, (t4 r3).1, (t5 r3).1, (t6 r3).1, (t7 r3).1, (t8 r3).1, (t9 r3).1, (t9 r3.2).1, (t9 (t2 r3)).1, (t9 (t3 r3)).1, (t9 (t4 r3)).1, (t9 (t5 r3)).1, (t9 (t6 r3)).1, (t9 (t7 r3)).1, (t9 (t8 r3)).1, (t9 (t9 r3)).1, (t9 (t9 r3.2)).1, (t9 (t9 (t2 r3))).1, (t9 (t9 (t3 r3))).1, (t9 (t9 (t4 r3))).1, (t9 (t9 (t5 r3))).1, (t9 (t9 (t6 r3))).1, (t9 (t9 (t7 r3))).1, (t9 (t9 (t8 r3))).1, (t9 (t9 (t9 r3))))
   else
    bif (g0 == 4) then
     (spec_StepTake.f k a0 a1 a2 a3 a4 a5 a6 a7 a8 a9 a10 a11 a12 a13 a14 a15 a16 a17 a18 a19 a20 a21 a22 a23 a24 a25 a26).bind fun r4 =>
     some (r4.1, r4.2.1, (t2 r4).1, (t3 r4).1, (t4 r4).1, (t5 r4).1, (t6 r4).1, (t7 r4).1, (t8 r4).1, (t9 r4).1, (t9 r4.2).1, (t9 (t2 r4)).1, (t9 (t3 r4)).1, (t9 (t4 r4)).1, (t9 (t5 r4)).1, (t9 (t6 r4)).1, (t9 (t7 r4)).1, (t9 (t8 r4)).1, (t9 (t9 r4)).1, (t9 (t9 r4.2)).1, (t9 (t9 (t2 r4))).1, (t9 (t9 (t3 r4))).1, (t9 (t9 (t4 r4))).1, (t9 (t9 (t5 r4))).1, (t9 (t9 (t6 r4))).1, (t9 (t9 (t7 r4))).1, (t9 (t9 (t8 r4))).1, (t9 (t9 (t9 r4))))
    else
     bif (g0 == 5) then
      (spec_StepSettle.f k a0 a1 a2 a3 a4 a5 a6 a7 a8 a9 a10 a11 a12 a13 a14 a15 a16 a17 a18 a19 a20 a21 a22 a23 a24 a25 a26).bind fun r5 =>
      some (r5.1, r5.2.1, (t2 r5).1, (t3 r5).1, (t4 r5).1, (t5 r5).1, (t6 r5).1, (t7 r5).1, (t8 r5).1, (t9 r5).1, (t9 r5.2).1, (t9 (t2 r5)).1, (t9 (t3 r5)).1, (t9 (t4 r5)).1, (t9 (t5 r5)).1, (t9 (t6 r5)).1, (t9 (t7 r5)).1, (t9 (t8 r5)).1, (t9 (t9 r5)).1, (t9 (t9 r5.2)).1, (t9 (t9 (t2 r5))).1, (t9 (t9 (t3 r5))).1, (t9 (t9 (t4 r5))).1, (t9 (t9 (t5 r5))).1, (t9 (t9 (t6 r5))).1, (t9 (t9 (t7 r5))).1, (t9 (t9 (t8 r5))).1, (t9 (t9 (t9 r5))))
     else
      (spec_l33Copy.f k a0 a1 a2 a3 a4 a5 a6 a7 a8 a9 a10 a11 a12 a13 a14 a15 a16 a17 a18 a19 a20 a21 a22 a23 a24 a25 a26).bind fun r6 =>
      some (r6.1, r6.2.1, (t2 r6).1, (t3 r6).1, (t4 r6).1, (t5 r6).1, (t6 r6).1, (t7 r6).1, (t8 r6).1, (t9 r6).1, (t9 r6.2).1, (t9 (t2 r6)).1, (t9 (t3 r6)).1, (t9 (t4 r6)).1, (t9 (t5 r6)).1, (t9 (t6 r6)).1, (t9 (t7 r6)).1, (t9 (t8 r6)).1, (t9 (t9 r6)).1, (t9 (t9 r6.2)).1, (t9 (t9 (t2 r6))).1, (t9 (t9 (t3 r6))).1, (t9 (t9 (t4 r6))).1, (t9 (t9 (t5 r6))).1, (t9 (t9 (t6 r6))).1, (t9 (t9 (t7 r6))).1, (t9 (t9 (t8 r6))), false)

def spec_NewTable.f (k : Nat) (a0 a1 : Int) (a2 a3 : Bool) (a4 a5 : LI) (a6 a7 : Int) : Option (Int × Int × Bool × Bool × LI × LI × Int × Int × LI × Bool × LI × Int × Int × Bool × Bool × LI × LI × Int × Int × LL × LI × LI × Int × Int × Int × LI × LL × Bool) :=
 (spec_IsRules.f k a0 a1 a2 a3 a4 a5 a6 a7).bind fun r1 =>
 bif (!r1) then
  some (0, 0, false, false, [], [], 0, 0, [], false, [], 0, 0, false, false, [], [], 0, 0, [], [], [], 0, 0, 0, [], [], false)
 else
  (spec_l22Copy.f k a0 a1 a2 a3 a4 a5 a6 a7).bind fun r2 =>
  some (r2.1, r2.2.1, (t2 r2).1, (t3 r2).1, (t4 r2).1, (t5 r2).1, (t6 r2).1, (t7 r2), [], false, [], 0, 0, false, false, [], [], 0, 0, [], [], [], 0, 0, 0, [], [], true)

def spec_DealEvents.s6 {R : Type} (k : Nat) (v0 : LI) (v1 : Int) (e0 : List (List Leaf) → LI → Option R) (rec : Int → List (List Leaf) → LI → Option R) (v2 : Int) (v3 : List (List Leaf)) (v4 : LI) : Option R :=
 bif decide (v2 < (v0.length : Int)) then
  chk ((decide (0 ≤ v2)) && (decide (v2 < (v0.length : Int)))) <|
  (spec_SeedSeal.f k v2 (v0.getD v2.toNat 0) v1).bind fun r2 =>
  chk (decide ((v3.length + 1) * 64 ≤ room)) <|
  chk (decide ((v4.length + 1) * 8 ≤ room)) <|
  rec (IntKind.wrap .i64 (v2 + 1)) (v3 ++ ([[.int 1, .int r2, .ints [], .ints []]])) (v4 ++ [v1])
 else
  e0 v3 v4
def spec_DealEvents.l6 {R : Type} (k : Nat) (v0 : LI) (v1 : Int) (e0 : List (List Leaf) → LI → Option R) (n : Nat) (v2 : Int) (v3 : List (List Leaf)) (v4 : LI) : Option R :=
 V.iter (A := Int × List (List Leaf) × LI) (fun rec a => spec_DealEvents.s6 k v0 v1 e0 (fun c0 c1 c2 => rec (c0, c1, c2)) a.1 a.2.1 (t2 a)) n (v2, v3, v4)
theorem spec_DealEvents.l6_succ {R : Type} (k : Nat) (v0 : LI) (v1 : Int) (e0 : List (List Leaf) → LI → Option R) (n : Nat) (v2 : Int) (v3 : List (List Leaf)) (v4 : LI) : spec_DealEvents.l6 (R := R) k v0 v1 e0 (n + 1) v2 v3 v4 = spec_DealEvents.s6 k v0 v1 e0 (spec_DealEvents.l6 k v0 v1 e0 n) v2 v3 v4 := rfl
def spec_DealEvents.f (k : Nat) (a0 a1 : Int) (a2 a3 : Bool) (a4 a5 : LI) (a6 a7 : Int) (g : LI) (i : Int) : Option (List (List Leaf)) :=
 (spec_IsRules.f k a0 a1 a2 a3 a4 a5 a6 a7).bind fun r1 =>
 bif (!r1) then
  some ([])
 else
  bif ((g.length : Int) != a0) then
   some ([])
  else
   spec_DealEvents.l6 k g i (fun x3 x4 =>
    chk (decide ((0 + g.length) * 8 ≤ room)) <|
    chk (decide ((x3.length + 1) * 64 ≤ room)) <|
    some (x3 ++ ([[.int 2, .int 0, .ints ([] ++ g), .ints x4]]))) k 0 [] []

def spec_RunEvents.s3 {R : Type} (k : Nat) (v0 : List (List Leaf)) (e0 : Int → Int → Bool → Bool → Int → Int → Bool → Int → Int → Bool → Bool → Int → Int → Int → Int → Int → LI → LI → LI → LI → LI → LI → LL → LI → LI → LI → LL → Option R) (rec : Int → Int → Int → Bool → Bool → Int → Int → Bool → Int → Int → Bool → Bool → Int → Int → Int → Int → Int → LI → LI → LI → LI → LI → LI → LL → LI → LI → LI → LL → Option R) (v1 v18 v19 : Int) (v20 v21 : Bool) (v22 v23 : Int) (v24 : Bool) (v25 v26 : Int) (v27 v28 : Bool) (v29 v30 v31 v32 v33 : Int) (v34 v35 v36 v37 v38 v39 : LI) (v40 : LL) (v41 v42 v43 : LI) (v44 : LL) : Option R :=
 bif decide (v1 < (v0.length : Int)) then
  chk ((decide (0 ≤ v1)) && (decide (v1 < (v0.length : Int)))) <|
  (spec_ApplyEvent.f k v18 v19 v20 v21 v34 v35 v22 v23 v36 v24 v37 v25 v26 v27 v28 v38 v39 v29 v30 v40 v41 v42 v31 v32 v33 v43 v44 (gi (v0.getD v1.toNat []) 0) (gi (v0.getD v1.toNat []) 1) (gl (v0.getD v1.toNat []) 2) (gl (v0.getD v1.toNat []) 3)).bind fun r2 =>
  rec (IntKind.wrap .i64 (v1 + 1)) r2.1 r2.2.1 (t2 r2).1 (t3 r2).1 (t6 r2).1 (t7 r2).1 (t9 r2).1 (t9 (t2 r2)).1 (t9 (t3 r2)).1 (t9 (t4 r2)).1 (t9 (t5 r2)).1 (t9 (t8 r2)).1 (t9 (t9 r2)).1 (t9 (t9 (t4 r2))).1 (t9 (t9 (t5 r2))).1 (t9 (t9 (t6 r2))).1 (t4 r2).1 (t5 r2).1 (t8 r2).1 (t9 r2.2).1 (t9 (t6 r2)).1 (t9 (t7 r2)).1 (t9 (t9 r2.2)).1 (t9 (t9 (t2 r2))).1 (t9 (t9 (t3 r2))).1 (t9 (t9 (t7 r2))).1 (t9 (t9 (t8 r2))).1
 else
  e0 v18 v19 v20 v21 v22 v23 v24 v25 v26 v27 v28 v29 v30 v31 v32 v33 v34 v35 v36 v37 v38 v39 v40 v41 v42 v43 v44
def spec_RunEvents.l3 {R : Type} (k : Nat) (v0 : List (List Leaf)) (e0 : Int → Int → Bool → Bool → Int → Int → Bool → Int → Int → Bool → Bool → Int → Int → Int → Int → Int → LI → LI → LI → LI → LI → LI → LL → LI → LI → LI → LL → Option R) (n : Nat) (v1 v18 v19 : Int) (v20 v21 : Bool) (v22 v23 : Int) (v24 : Bool) (v25 v26 : Int) (v27 v28 : Bool) (v29 v30 v31 v32 v33 : Int) (v34 v35 v36 v37 v38 v39 : LI) (v40 : LL) (v41 v42 v43 : LI) (v44 : LL) : Option R :=
 V.iter (A := Int × Int × Int × Bool × Bool × Int × Int × Bool × Int × Int × Bool × Bool × Int × Int × Int × Int × Int × LI × LI × LI × LI × LI × LI × LL × LI × LI × LI × LL) (fun rec a => spec_RunEvents.s3 k v0 e0 (fun c0 c1 c2 c3 c4 c5 c6 c7 c8 c9 c10 c11 c12 c13 c14 c15 c16 c17 c18 c19 c20 c21 c22 c23 c24 c25 c26 c27 => rec (c0, c1, c2, c3, c4, c5, c6, c7, c8, c9, c10, c11, c12, c13, c14, c15, c16, c17, c18, c19, c20, c21, c22, c23, c24, c25, c26, c27)) a.1 a.2.1 (t2 a).1 (t3 a).1 (t4 a).1 (t5 a).1 (t6 a).1 (t7 a).1 (t8 a).1 (t9 a).1 (t9 a.2).1 (t9 (t2 a)).1 (t9 (t3 a)).1 (t9 (t4 a)).1 (t9 (t5 a)).1 (t9 (t6 a)).1 (t9 (t7 a)).1 (t9 (t8 a)).1 (t9 (t9 a)).1 (t9 (t9 a.2)).1 (t9 (t9 (t2 a))).1 (t9 (t9 (t3 a))).1 (t9 (t9 (t4 a))).1 (t9 (t9 (t5 a))).1 (t9 (t9 (t6 a))).1 (t9 (t9 (t7 a))).1 (t9 (t9 (t8 a))).1 (t9 (t9 (t9 a)))) n (v1, v18, v19, v20, v21, v22, v23, v24, v25, v26, v27, v28, v29, v30, v31, v32, v33, v34, v35, v36, v37, v38, v39, v40, v41, v42, v43, v44)
theorem spec_RunEvents.l3_succ {R : Type} (k : Nat) (v0 : List (List Leaf)) (e0 : Int → Int → Bool → Bool → Int → Int → Bool → Int → Int → Bool → Bool → Int → Int → Int → Int → Int → LI → LI → LI → LI → LI → LI → LL → LI → LI → LI → LL → Option R) (n : Nat) (v1 v18 v19 : Int) (v20 v21 : Bool) (v22 v23 : Int) (v24 : Bool) (v25 v26 : Int) (v27 v28 : Bool) (v29 v30 v31 v32 v33 : Int) (v34 v35 v36 v37 v38 v39 : LI) (v40 : LL) (v41 v42 v43 : LI) (v44 : LL) : spec_RunEvents.l3 (R := R) k v0 e0 (n + 1) v1 v18 v19 v20 v21 v22 v23 v24 v25 v26 v27 v28 v29 v30 v31 v32 v33 v34 v35 v36 v37 v38 v39 v40 v41 v42 v43 v44 = spec_RunEvents.s3 k v0 e0 (spec_RunEvents.l3 k v0 e0 n) v1 v18 v19 v20 v21 v22 v23 v24 v25 v26 v27 v28 v29 v30 v31 v32 v33 v34 v35 v36 v37 v38 v39 v40 v41 v42 v43 v44 := rfl
def spec_RunEvents.f (k : Nat) (a0 a1 : Int) (a2 a3 : Bool) (a4 a5 : LI) (a6 a7 : Int) (a8 : LI) (a9 : Bool) (a10 : LI) (a11 a12 : Int) (a13 a14 : Bool) (a15 a16 : LI) (a17 a18 : Int) (a19 : LL) (a20 a21 : LI) (a22 a23 a24 : Int) (a25 : LI) (a26 : LL) (g : List (List Leaf)) : Option (Int × Int × Bool × Bool × LI × LI × Int × Int × LI × Bool × LI × Int × Int × Bool × Bool × LI × LI × Int × Int × LL × LI × LI × Int × Int × Int × LI × LL) :=
 (spec_l33Copy.f k a0 a1 a2 a3 a4 a5 a6 a7 a8 a9 a10 a11 a12 a13 a14 a15 a16 a17 a18 a19 a20 a21 a22 a23 a24 a25 a26).bind fun r1 =>
 spec_RunEvents.l3 k g (fun x3 x4 x5 x6 x7 x8 x9 x10 x11 x12 x13 x14 x15 x16 x17 x18 x19 x20 x21 x22 x23 x24 x25 x26 x27 x28 x29 =>
  some (x3, x4, x5, x6, x19, x20, x7, x8, x21, x9, x22, x10, x11, x12, x13, x23, x24, x14, x15, x25, x26, x27, x16, x17, x18, x28, x29)) k 0 r1.1 r1.2.1 (t2 r1).1 (t3 r1).1 (t6 r1).1 (t7 r1).1 (t9 r1).1 (t9 (t2 r1)).1 (t9 (t3 r1)).1 (t9 (t4 r1)).1 (t9 (t5 r1)).1 (t9 (t8 r1)).1 (t9 (t9 r1)).1 (t9 (t9 (t4 r1))).1 (t9 (t9 (t5 r1))).1 (t9 (t9 (t6 r1))).1 (t4 r1).1 (t5 r1).1 (t8 r1).1 (t9 r1.2).1 (t9 (t6 r1)).1 (t9 (t7 r1)).1 (t9 (t9 r1.2)).1 (t9 (t9 (t2 r1))).1 (t9 (t9 (t3 r1))).1 (t9 (t9 (t7 r1))).1 (t9 (t9 (t8 r1)))

def spec_DrawRunEvents.s7 {R : Type} (k : Nat) (v20 : Int) (e0 : LI → Int → Int → LI → Option R) (rec : Int → LI → Int → Int → LI → Option R) (v0 : Int) (v17 : LI) (v18 v19 : Int) (v55 : LI) : Option R :=
 bif decide (v0 < v20) then
  (spec_l1Below.f k v17 v18 v19 999).bind fun r5 =>
  chk (decide ((v55.length + 1) * 8 ≤ room)) <|
  rec (IntKind.wrap .i64 (v0 + 1)) r5.2.1 (t2 r5).1 (t3 r5) (v55 ++ [r5.1])
 else
  e0 v17 v18 v19 v55
def spec_DrawRunEvents.l7 {R : Type} (k : Nat) (v20 : Int) (e0 : LI → Int → Int → LI → Option R) (n : Nat) (v0 : Int) (v17 : LI) (v18 v19 : Int) (v55 : LI) : Option R :=
 V.iter (A := Int × LI × Int × Int × LI) (fun rec a => spec_DrawRunEvents.s7 k v20 e0 (fun c0 c1 c2 c3 c4 => rec (c0, c1, c2, c3, c4)) a.1 a.2.1 (t2 a).1 (t3 a).1 (t4 a)) n (v0, v17, v18, v19, v55)
theorem spec_DrawRunEvents.l7_succ {R : Type} (k : Nat) (v20 : Int) (e0 : LI → Int → Int → LI → Option R) (n : Nat) (v0 : Int) (v17 : LI) (v18 v19 : Int) (v55 : LI) : spec_DrawRunEvents.l7 (R := R) k v20 e0 (n + 1) v0 v17 v18 v19 v55 = spec_DrawRunEvents.s7 k v20 e0 (spec_DrawRunEvents.l7 k v20 e0 n) v0 v17 v18 v19 v55 := rfl
def spec_DrawRunEvents.s13 {R : Type} (k : Nat) (e0 : List (List Leaf) → Option R) (rec : Int → LI → Int → Int → List (List Leaf) → Int → Int → Bool → Bool → Int → Int → Bool → Int → Int → Bool → Bool → Int → Int → Int → Int → Int → LI → LI → LI → LI → LI → LI → LL → LI → LI → LI → LL → Option R) (v0 : Int) (v17 : LI) (v18 v19 : Int) (v47 : List (List Leaf)) (v48 v49 : Int) (v50 v51 : Bool) (v52 v53 : Int) (v54 : Bool) (v55 v56 : Int) (v57 v58 : Bool) (v59 v60 v61 v62 v63 : Int) (v64 v65 v66 v67 v68 v69 : LI) (v70 : LL) (v71 v72 v73 : LI) (v74 : LL) : Option R :=
 bif decide (v0 > 0) then
  (spec_l1Int.f k v17 v18 v19 [3, 3, 3, 3, 4, 4, 5, 1]).bind fun r13 =>
  (spec_l4Card.f k r13.2.1 (t2 r13).1 (t3 r13)).bind fun r14 =>
  (spec_Playable.f k v55 v56 v57 v58 v68 v69 v59 v60 v70 v71 v72 v61 v62 v63).bind fun r15 =>
  bif (r13.1 == 3) then
   bif decide ((r15.length : Int) > 0) then
    (spec_l1Once.f k r14.2.1 (t2 r14).1 (t3 r14) 6).bind fun r16 =>
    bif (!r16.1) then
     (spec_l1Below.f k r16.2.1 (t2 r16).1 (t3 r16) (r15.length : Int)).bind fun r17 =>
     chk ((decide (0 ≤ r17.1)) && (decide (r17.1 < (r15.length : Int)))) <|
     chk (decide ((v47.length + 1) * 64 ≤ room)) <|
     (spec_ApplyEvent.f k v48 v49 v50 v51 v64 v65 v52 v53 v66 v54 v67 v55 v56 v57 v58 v68 v69 v59 v60 v70 v71 v72 v61 v62 v63 v73 v74 r13.1 (r15.getD r17.1.toNat 0) [] []).bind fun r18 =>
     rec (IntKind.wrap .i64 (v0 - 1)) r17.2.1 (t2 r17).1 (t3 r17) (v47 ++ ([[.int r13.1, .int (r15.getD r17.1.toNat 0), .ints [], .ints []]])) r18.1 r18.2.1 (t2 r18).1 (t3 r18).1 (t6 r18).1 (t7 r18).1 (t9 r18).1 (t9 (t2 r18)).1 (t9 (t3 r18)).1 (t9 (t4 r18)).1 (t9 (t5 r18)).1 (t9 (t8 r18)).1 (t9 (t9 r18)).1 (t9 (t9 (t4 r18))).1 (t9 (t9 (t5 r18))).1 (t9 (t9 (t6 r18))).1 (t4 r18).1 (t5 r18).1 (t8 r18).1 (t9 r18.2).1 (t9 (t6 r18)).1 (t9 (t7 r18)).1 (t9 (t9 r18.2)).1 (t9 (t9 (t2 r18))).1 (t9 (t9 (t3 r18))).1 (t9 (t9 (t7 r18))).1 (t9 (t9 (t8 r18))).1
    else
     chk (decide ((v47.length + 1) * 64 ≤ room)) <|
     (spec_ApplyEvent.f k v48 v49 v50 v51 v64 v65 v52 v53 v66 v54 v67 v55 v56 v57 v58 v68 v69 v59 v60 v70 v71 v72 v61 v62 v63 v73 v74 r13.1 r14.1 [] []).bind fun r19 =>
     rec (IntKind.wrap .i64 (v0 - 1)) r16.2.1 (t2 r16).1 (t3 r16) (v47 ++ ([[.int r13.1, .int r14.1, .ints [], .ints []]])) r19.1 r19.2.1 (t2 r19).1 (t3 r19).1 (t6 r19).1 (t7 r19).1 (t9 r19).1 (t9 (t2 r19)).1 (t9 (t3 r19)).1 (t9 (t4 r19)).1 (t9 (t5 r19)).1 (t9 (t8 r19)).1 (t9 (t9 r19)).1 (t9 (t9 (t4 r19))).1 (t9 (t9 (t5 r19))).1 (t9 (t9 (t6 r19))).1 (t4 r19).1 (t5 r19).1 (t8 r19).1 (t9 r19.2).1 (t9 (t6 r19)).1 (t9 (t7 r19)).1 (t9 (t9 r19.2)).1 (t9 (t9 (t2 r19))).1 (t9 (t9 (t3 r19))).1 (t9 (t9 (t7 r19))).1 (t9 (t9 (t8 r19))).1
   else
    chk (decide ((v47.length + 1) * 64 ≤ room)) <|
    (spec_ApplyEvent.f k v48 v49 v50 v51 v64 v65 v52 v53 v66 v54 v67 v55 v56 v57 v58 v68 v69 v59 v60 v70 v71 v72 v61 v62 v63 v73 v74 r13.1 r14.1 [] []).bind fun r20 =>
    rec (IntKind.wrap .i64 (v0 - 1)) r14.2.1 (t2 r14).1 (t3 r14) (v47 ++ ([[.int r13.1, .int r14.1, .ints [], .ints []]])) r20.1 r20.2.1 (t2 r20).1 (t3 r20).1 (t6 r20).1 (t7 r20).1 (t9 r20).1 (t9 (t2 r20)).1 (t9 (t3 r20)).1 (t9 (t4 r20)).1 (t9 (t5 r20)).1 (t9 (t8 r20)).1 (t9 (t9 r20)).1 (t9 (t9 (t4 r20))).1 (t9 (t9 (t5 r20))).1 (t9 (t9 (t6 r20))).1 (t4 r20).1 (t5 r20).1 (t8 r20).1 (t9 r20.2).1 (t9 (t6 r20)).1 (t9 (t7 r20)).1 (t9 (t9 r20.2)).1 (t9 (t9 (t2 r20))).1 (t9 (t9 (t3 r20))).1 (t9 (t9 (t7 r20))).1 (t9 (t9 (t8 r20))).1
  else
   chk (decide ((v47.length + 1) * 64 ≤ room)) <|
   (spec_ApplyEvent.f k v48 v49 v50 v51 v64 v65 v52 v53 v66 v54 v67 v55 v56 v57 v58 v68 v69 v59 v60 v70 v71 v72 v61 v62 v63 v73 v74 r13.1 r14.1 [] []).bind fun r21 =>
   rec (IntKind.wrap .i64 (v0 - 1)) r14.2.1 (t2 r14).1 (t3 r14) (v47 ++ ([[.int r13.1, .int r14.1, .ints [], .ints []]])) r21.1 r21.2.1 (t2 r21).1 (t3 r21).1 (t6 r21).1 (t7 r21).1 (t9 r21).1 (t9 (t2 r21)).1 (t9 (t3 r21)).1 (t9 (t4 r21)).1 (t9 (t5 r21)).1 (t9 (t8 r21)).1 (t9 (t9 r21)).1 (t9 (t9 (t4 r21))).1 (t9 (t9 (t5 r21))).1 (t9 (t9 (t6 r21))).1 (t4 r21).1 (t5 r21).1 (t8 r21).1 (t9 r21.2).1 (t9 (t6 r21)).1 (t9 (t7 r21)).1 (t9 (t9 r21.2)).1 (t9 (t9 (t2 r21))).1 (t9 (t9 (t3 r21))).1 (t9 (t9 (t7 r21))).1 (t9 (t9 (t8 r21))).1
 else
  e0 v47
def spec_DrawRunEvents.l13 {R : Type} (k : Nat) (e0 : List (List Leaf) → Option R) (n : Nat) (v0 : Int) (v17 : LI) (v18 v19 : Int) (v47 : List (List Leaf)) (v48 v49 : Int) (v50 v51 : Bool) (v52 v53 : Int) (v54 : Bool) (v55 v56 : Int) (v57 v58 : Bool) (v59 v60 v61 v62 v63 : Int) (v64 v65 v66 v67 v68 v69 : LI) (v70 : LL) (v71 v72 v73 : LI) (v74 : LL) : Option R :=
 V.iter (A := Int × LI × Int × Int × List (List Leaf) × Int × Int × Bool × Bool × Int × Int × Bool × Int × Int × Bool × Bool × Int × Int × Int × Int × Int × LI × LI × LI × LI × LI × LI × LL × LI × LI × LI × LL) (fun rec a => spec_DrawRunEvents.s13 k e0 (fun c0 c1 c2 c3 c4 c5 c6 c7 c8 c9 c10 c11 c12 c13 c14 c15 c16 c17 c18 c19 c20 c21 c22 c23 c24 c25 c26 c27 c28 c29 c30 c31 => rec (c0, c1, c2, c3, c4, c5, c6, c7, c8, c9, c10, c11, c12, c13, c14, c15, c16, c17, c18, c19, c20, c21, c22, c23, c24, c25, c26, c27, c28, c29, c30, c31)) a.1 a.2.1 (t2 a).1 (t3 a).1 (t4 a).1 (t5 a).1 (t6 a).1 (t7 a).1 (t8 a).1 (t9 a).1 (t9 a.2).1 (t9 (t2 a)).1 (t9 (t3 a)).1 (t9 (t4 a)).1 (t9 (t5 a)).1 (t9 (t6 a)).1 (t9 (t7 a)).1 (t9 (t8 a)).1 (t9 (t9 a)).1 (t9 (t9 a.2)).1 (t9 (t9 (t2 a))).1 (t9 (t9 (t3 a))).1 (t9 (t9 (t4 a))).1 (t9 (t9 (t5 a))).1 (t9 (t9 (t6 a))).1 (t9 (t9 (t7 a))).1 (t9 (t9 (t8 a))).1 (t9 (t9 (t9 a))).1 (t9 (t9 (t9 a.2))).1 (t9 (t9 (t9 (t2 a)))).1 (t9 (t9 (t9 (t3 a)))).1 (t9 (t9 (t9 (t4 a))))) n (v0, v17, v18, v19, v47, v48, v49, v50, v51, v52, v53, v54, v55, v56, v57, v58, v59, v60, v61, v62, v63, v64, v65, v66, v67, v68, v69, v70, v71, v72, v73, v74)
theorem spec_DrawRunEvents.l13_succ {R : Type} (k : Nat) (e0 : List (List Leaf) → Option R) (n : Nat) (v0 : Int) (v17 : LI) (v18 v19 : Int) (v47 : List (List Leaf)) (v48 v49 : Int) (v50 v51 : Bool) (v52 v53 : Int) (v54 : Bool) (v55 v56 : Int) (v57 v58 : Bool) (v59 v60 v61 v62 v63 : Int) (v64 v65 v66 v67 v68 v69 : LI) (v70 : LL) (v71 v72 v73 : LI) (v74 : LL) : spec_DrawRunEvents.l13 (R := R) k e0 (n + 1) v0 v17 v18 v19 v47 v48 v49 v50 v51 v52 v53 v54 v55 v56 v57 v58 v59 v60 v61 v62 v63 v64 v65 v66 v67 v68 v69 v70 v71 v72 v73 v74 = spec_DrawRunEvents.s13 k e0 (spec_DrawRunEvents.l13 k e0 n) v0 v17 v18 v19 v47 v48 v49 v50 v51 v52 v53 v54 v55 v56 v57 v58 v59 v60 v61 v62 v63 v64 v65 v66 v67 v68 v69 v70 v71 v72 v73 v74 := rfl
def spec_DrawRunEvents.f (k : Nat) (a : LI) : Option (Int × Int × Bool × Bool × LI × LI × Int × Int × LI × Bool × LI × Int × Int × Bool × Bool × LI × LI × Int × Int × LL × LI × LI × Int × Int × Int × LI × LL × List (List Leaf)) :=
 (spec_l1New.f k a).bind fun r1 =>
 (spec_l22Draw.f k r1.1 r1.2.1 (t2 r1)).bind fun r2 =>
 (spec_l1Below.f k (t8 r2).1 (t9 r2).1 (t9 r2.2) 12).bind fun r3 =>
 (spec_NewTable.f k r2.1 r2.2.1 (t2 r2).1 (t3 r2).1 (t4 r2).1 (t5 r2).1 (t6 r2).1 (IntKind.wrap .i64 (1 + r3.1))).bind fun r4 =>
 spec_DrawRunEvents.l7 k r2.1 (fun x6 x7 x8 x9 =>
  (spec_DealEvents.f k r2.1 r2.2.1 (t2 r2).1 (t3 r2).1 (t4 r2).1 (t5 r2).1 (t6 r2).1 (IntKind.wrap .i64 (1 + r3.1)) x9 5).bind fun r10 =>
  (spec_RunEvents.f k r4.1 r4.2.1 (t2 r4).1 (t3 r4).1 (t4 r4).1 (t5 r4).1 (t6 r4).1 (t7 r4).1 (t8 r4).1 (t9 r4).1 (t9 r4.2).1 (t9 (t2 r4)).1 (t9 (t3 r4)).1 (t9 (t4 r4)).1 (t9 (t5 r4)).1 (t9 (t6 r4)).1 (t9 (t7 r4)).1 (t9 (t8 r4)).1 (t9 (t9 r4)).1 (t9 (t9 r4.2)).1 (t9 (t9 (t2 r4))).1 (t9 (t9 (t3 r4))).1 (t9 (t9 (t4 r4))).1 (t9 (t9 (t5 r4))).1 (t9 (t9 (t6 r4))).1 (t9 (t9 (t7 r4))).1 (t9 (t9 (t8 r4))).1 r10).bind fun r11 =>
  (spec_l1Below.f k x6 x7 x8 16).bind fun r12 =>
  spec_DrawRunEvents.l13 k (fun x22 =>
   some (r4.1, r4.2.1, (t2 r4).1, (t3 r4).1, (t4 r4).1, (t5 r4).1, (t6 r4).1, (t7 r4).1, (t8 r4).1, (t9 r4).1, (t9 r4.2).1, (t9 (t2 r4)).1, (t9 (t3 r4)).1, (t9 (t4 r4)).1, (t9 (t5 r4)).1, (t9 (t6 r4)).1, (t9 (t7 r4)).1, (t9 (t8 r4)).1, (t9 (t9 r4)).1, (t9 (t9 r4.2)).1, (t9 (t9 (t2 r4))).1, (t9 (t9 (t3 r4))).1, (t9 (t9 (t4 r4))).1, (t9 (t9 (t5 r4))).1, (t9 (t9 (t6 r4))).1, (t9 (t9 (t7 r4))).1, (t9 (t9 (t8 r4))).1, x22)) k r12.1 r12.2.1 (t2 r12).1 (t3 r12) r10 r11.1 r11.2.1 (t2 r11).1 (t3 r11).1 (t6 r11).1 (t7 r11).1 (t9 r11).1 (t9 (t2 r11)).1 (t9 (t3 r11)).1 (t9 (t4 r11)).1 (t9 (t5 r11)).1 (t9 (t8 r11)).1 (t9 (t9 r11)).1 (t9 (t9 (t4 r11))).1 (t9 (t9 (t5 r11))).1 (t9 (t9 (t6 r11))).1 (t4 r11).1 (t5 r11).1 (t8 r11).1 (t9 r11.2).1 (t9 (t6 r11)).1 (t9 (t7 r11)).1 (t9 (t9 r11.2)).1 (t9 (t9 (t2 r11))).1 (t9 (t9 (t3 r11))).1 (t9 (t9 (t7 r11))).1 (t9 (t9 (t8 r11)))) k 0 r3.2.1 (t2 r3).1 (t3 r3) []

def spec_l36Draw.f (k : Nat) (a : LI) : Option (Int × Int × Bool × Bool × LI × LI × Int × Int × LI × Bool × LI × Int × Int × Bool × Bool × LI × LI × Int × Int × LL × LI × LI × Int × Int × Int × LI × LL) :=
 (spec_DrawRunEvents.f k a).bind fun r1 =>
 (spec_RunEvents.f k r1.1 r1.2.1 (t2 r1).1 (t3 r1).1 (t4 r1).1 (t5 r1).1 (t6 r1).1 (t7 r1).1 (t8 r1).1 (t9 r1).1 (t9 r1.2).1 (t9 (t2 r1)).1 (t9 (t3 r1)).1 (t9 (t4 r1)).1 (t9 (t5 r1)).1 (t9 (t6 r1)).1 (t9 (t7 r1)).1 (t9 (t8 r1)).1 (t9 (t9 r1)).1 (t9 (t9 r1.2)).1 (t9 (t9 (t2 r1))).1 (t9 (t9 (t3 r1))).1 (t9 (t9 (t4 r1))).1 (t9 (t9 (t5 r1))).1 (t9 (t9 (t6 r1))).1 (t9 (t9 (t7 r1))).1 (t9 (t9 (t8 r1))).1 (t9 (t9 (t9 r1)))).bind fun r2 =>
 (spec_l1New.f k a).bind fun r3 =>
 (spec_l1Below.f k r3.1 r3.2.1 (t2 r3) 9).bind fun r4 =>
 bif (r4.1 == 0) then
  (spec_l4Card.f k r4.2.1 (t2 r4).1 (t3 r4)).bind fun r5 =>
  chk (decide (((t9 (t9 (t2 r2))).1.length + 1) * 8 ≤ room)) <|
  some (r2.1, r2.2.1, (t2 r2).1, (t3 r2).1, (t4 r2).1, (t5 r2).1, (t6 r2).1, (t7 r2).1, (t8 r2).1, (t9 r2).1, (t9 r2.2).1, (t9 (t2 r2)).1, (t9 (t3 r2)).1, (t9 (t4 r2)).1, (t9 (t5 r2)).1, (t9 (t6 r2)).1, (t9 (t7 r2)).1, (t9 (t8 r2)).1, (t9 (t9 r2)).1, (t9 (t9 r2.2)).1, (t9 (t9 (t2 r2))).1 ++ [r5.1], (t9 (t9 (t3 r2))).1, (t9 (t9 (t4 r2))).1, (t9 (t9 (t5 r2))).1, (t9 (t9 (t6 r2))).1, (t9 (t9 (t7 r2))).1, (t9 (t9 (t8 r2))))
 else
  bif (r4.1 == 1) then
   chk (decide (((t9 (t9 (t7 r2))).1.length + 1) * 8 ≤ room)) <|
   some (r2.1, r2.2.1, (t2 r2).1, (t3 r2).1, (t4 r2).1, (t5 r2).1, (t6 r2).1, (t7 r2).1, (t8 r2).1, (t9 r2).1, (t9 r2.2).1, (t9 (t2 r2)).1, (t9 (t3 r2)).1, (t9 (t4 r2)).1, (t9 (t5 r2)).1, (t9 (t6 r2)).1, (t9 (t7 r2)).1, (t9 (t8 r2)).1, (t9 (t9 r2)).1, (t9 (t9 r2.2)).1, (t9 (t9 (t2 r2))).1, (t9 (t9 (t3 r2))).1, (t9 (t9 (t4 r2))).1, (t9 (t9 (t5 r2))).1, (t9 (t9 (t6 r2))).1, (t9 (t9 (t7 r2))).1 ++ [(-1)], (t9 (t9 (t8 r2))))
  else
   bif (r4.1 == 2) then
    chk (decide (((t9 (t9 (t8 r2))).length + 1) * 24 ≤ room)) <|
    some (r2.1, r2.2.1, (t2 r2).1, (t3 r2).1, (t4 r2).1, (t5 r2).1, (t6 r2).1, (t7 r2).1, (t8 r2).1, (t9 r2).1, (t9 r2.2).1, (t9 (t2 r2)).1, (t9 (t3 r2)).1, (t9 (t4 r2)).1, (t9 (t5 r2)).1, (t9 (t6 r2)).1, (t9 (t7 r2)).1, (t9 (t8 r2)).1, (t9 (t9 r2)).1, (t9 (t9 r2.2)).1, (t9 (t9 (t2 r2))).1, (t9 (t9 (t3 r2))).1, (t9 (t9 (t4 r2))).1, (t9 (t9 (t5 r2))).1, (t9 (t9 (t6 r2))).1, (t9 (t9 (t7 r2))).1, (t9 (t9 (t8 r2))) ++ ([[1, 2]]))
   else
    bif (r4.1 == 3) then
     chk (decide (((t8 r2).1.length + 1) * 8 ≤ room)) <|
     some (r2.1, r2.2.1, (t2 r2).1, (t3 r2).1, (t4 r2).1, (t5 r2).1, (t6 r2).1, (t7 r2).1, (t8 r2).1 ++ [5], (t9 r2).1, (t9 r2.2).1, (t9 (t2 r2)).1, (t9 (t3 r2)).1, (t9 (t4 r2)).1, (t9 (t5 r2)).1, (t9 (t6 r2)).1, (t9 (t7 r2)).1, (t9 (t8 r2)).1, (t9 (t9 r2)).1, (t9 (t9 r2.2)).1, (t9 (t9 (t2 r2))).1, (t9 (t9 (t3 r2))).1, (t9 (t9 (t4 r2))).1, (t9 (t9 (t5 r2))).1, (t9 (t9 (t6 r2))).1, (t9 (t9 (t7 r2))).1, (t9 (t9 (t8 r2))))
    else
     some (r2.1, r2.2.1, (t2 r2).1, (t3 r2).1, (t4 r2).1, (t5 r2).1, (t6 r2).1, (t7 r2).1, (t8 r2).1, (t9 r2).1, (t9 r2.2).1, (t9 (t2 r2)).1, (t9 (t3 r2)).1, (t9 (t4 r2)).1, (t9 (t5 r2)).1, (t9 (t6 r2)).1, (t9 (t7 r2)).1, (t9 (t8 r2)).1, (t9 (t9 r2)).1, (t9 (t9 r2.2)).1, (t9 (t9 (t2 r2))).1, (t9 (t9 (t3 r2))).1, (t9 (t9 (t4 r2))).1, (t9 (t9 (t5 r2))).1, (t9 (t9 (t6 r2))).1, (t9 (t9 (t7 r2))).1, (t9 (t9 (t8 r2))))

def spec_DrawFaultOf.f (k : Nat) (a : LI) : Option (Int × Int × Bool × Bool × LI × LI × Int × Int × LI × Bool × LI × Int × Int × Bool × Bool × LI × LI × Int × Int × LL × LI × LI × Int × Int × Int × LI × LL) :=
 (spec_l36Draw.f k a).bind fun r1 =>
 some (r1.1, r1.2.1, (t2 r1).1, (t3 r1).1, (t4 r1).1, (t5 r1).1, (t6 r1).1, (t7 r1).1, (t8 r1).1, (t9 r1).1, (t9 r1.2).1, (t9 (t2 r1)).1, (t9 (t3 r1)).1, (t9 (t4 r1)).1, (t9 (t5 r1)).1, (t9 (t6 r1)).1, (t9 (t7 r1)).1, (t9 (t8 r1)).1, (t9 (t9 r1)).1, (t9 (t9 r1.2)).1, (t9 (t9 (t2 r1))).1, (t9 (t9 (t3 r1))).1, (t9 (t9 (t4 r1))).1, (t9 (t9 (t5 r1))).1, (t9 (t9 (t6 r1))).1, (t9 (t9 (t7 r1))).1, (t9 (t9 (t8 r1))))

def impl_NothingLost.f (k : Nat) (a0 a1 : Int) (a2 a3 : Bool) (a4 a5 : LI) (a6 a7 : Int) (a8 : LI) (a9 : Bool) (a10 : LI) (a11 a12 : Int) (a13 a14 : Bool) (a15 a16 : LI) (a17 a18 : Int) (a19 : LL) (a20 a21 : LI) (a22 a23 a24 : Int) (a25 : LI) (a26 : LL) : Option (Bool) :=
 bif (!a9) then
  some true
 else
  (impl_copyRows.f k a19).bind fun r1 =>
  chk (decide ((r1.length + 2) * 24 ≤ room)) <|
  (impl_isWhole.f k (r1 ++ [a20, a21])).bind fun r2 =>
  some r2

def impl_IsRecorded.f (k : Nat) (a0 a1 : Int) (a2 a3 : Bool) (a4 a5 : LI) (a6 a7 : Int) (a8 : LI) (a9 : Bool) (a10 : LI) (a11 a12 : Int) (a13 a14 : Bool) (a15 a16 : LI) (a17 a18 : Int) (a19 : LL) (a20 a21 : LI) (a22 a23 a24 : Int) (a25 : LI) (a26 : LL) : Option (Bool) :=
 some ((a25.length : Int) == a23)

def impl_allIn.s2 {R : Type} (k : Nat) (v0 v1 : Int) (v2 : LI) (v3 : Int) (e0 e1 : Option R) (rec : Int → Option R) (v4 : Int) : Option R :=
 bif decide (v4 < v3) then
  chk ((decide (0 ≤ v4)) && (decide (v4 < (v2.length : Int)))) <|
  (impl_InRange.f k (v2.getD v4.toNat 0) v0 v1).bind fun r1 =>
  bif (!r1) then
   e0
  else
   rec (IntKind.wrap .i64 (v4 + 1))
 else
  e1
def impl_allIn.l2 {R : Type} (k : Nat) (v0 v1 : Int) (v2 : LI) (v3 : Int) (e0 e1 : Option R) (n : Nat) (v4 : Int) : Option R :=
 V.iter (A := Int) (fun rec a => impl_allIn.s2 k v0 v1 v2 v3 e0 e1 (fun c0 => rec c0) a) n v4
theorem impl_allIn.l2_succ {R : Type} (k : Nat) (v0 v1 : Int) (v2 : LI) (v3 : Int) (e0 e1 : Option R) (n : Nat) (v4 : Int) : impl_allIn.l2 (R := R) k v0 v1 v2 v3 e0 e1 (n + 1) v4 = impl_allIn.s2 k v0 v1 v2 v3 e0 e1 (impl_allIn.l2 k v0 v1 v2 v3 e0 e1 n) v4 := rfl
def impl_allIn.f (k : Nat) (a : LI) (g i : Int) : Option (Bool) :=
 impl_allIn.l2 k g i a (a.length : Int) (some false) (some true) k 0

def impl_sum.s3 {R : Type} (k : Nat) (v1 : LI) (v2 : Int) (e0 : Int → Option R) (rec : Int → Int → Option R) (v0 v3 : Int) : Option R :=
 bif decide (v3 < v2) then
  chk ((decide (0 ≤ v3)) && (decide (v3 < (v1.length : Int)))) <|
  rec (IntKind.wrap .i64 (v0 + (v1.getD v3.toNat 0))) (IntKind.wrap .i64 (v3 + 1))
 else
  e0 v0
def impl_sum.l3 {R : Type} (k : Nat) (v1 : LI) (v2 : Int) (e0 : Int → Option R) (n : Nat) (v0 v3 : Int) : Option R :=
 V.iter (A := Int × Int) (fun rec a => impl_sum.s3 k v1 v2 e0 (fun c0 c1 => rec (c0, c1)) a.1 a.2) n (v0, v3)
theorem impl_sum.l3_succ {R : Type} (k : Nat) (v1 : LI) (v2 : Int) (e0 : Int → Option R) (n : Nat) (v0 v3 : Int) : impl_sum.l3 (R := R) k v1 v2 e0 (n + 1) v0 v3 = impl_sum.s3 k v1 v2 e0 (impl_sum.l3 k v1 v2 e0 n) v0 v3 := rfl
def impl_sum.f (k : Nat) (a : LI) : Option (Int) :=
 impl_sum.l3 k a (a.length : Int) (fun x1 =>
  some x1) k 0 0

def impl_IsRound.f (k : Nat) (a : Int) (g : LI) : Option (Bool) :=
 (impl_InRange.f k a 2 6).bind fun r1 =>
 bif r1 then
  bif ((g.length : Int) == a) then
   (impl_allIn.f k g (-1000) 1000).bind fun r2 =>
   bif r2 then
    (impl_sum.f k g).bind fun r3 =>
    some (r3 == 0)
   else
    some false
  else
   some false
 else
  some false

def impl_IsSheet.s2 {R : Type} (k : Nat) (v0 : Int) (v2 : LL) (v3 : Int) (e0 e1 : Option R) (rec : Int → Option R) (v4 : Int) : Option R :=
 bif decide (v4 < v3) then
  chk ((decide (0 ≤ v4)) && (decide (v4 < (v2.length : Int)))) <|
  (impl_IsRound.f k v0 (v2.getD v4.toNat [])).bind fun r1 =>
  bif (!r1) then
   e0
  else
   rec (IntKind.wrap .i64 (v4 + 1))
 else
  e1
def impl_IsSheet.l2 {R : Type} (k : Nat) (v0 : Int) (v2 : LL) (v3 : Int) (e0 e1 : Option R) (n : Nat) (v4 : Int) : Option R :=
 V.iter (A := Int) (fun rec a => impl_IsSheet.s2 k v0 v2 v3 e0 e1 (fun c0 => rec c0) a) n v4
theorem impl_IsSheet.l2_succ {R : Type} (k : Nat) (v0 : Int) (v2 : LL) (v3 : Int) (e0 e1 : Option R) (n : Nat) (v4 : Int) : impl_IsSheet.l2 (R := R) k v0 v2 v3 e0 e1 (n + 1) v4 = impl_IsSheet.s2 k v0 v2 v3 e0 e1 (impl_IsSheet.l2 k v0 v2 v3 e0 e1 n) v4 := rfl
def impl_IsSheet.f (k : Nat) (a : Int) (g : LL) : Option (Bool) :=
 impl_IsSheet.l2 k a g (g.length : Int) (some false) ((impl_InRange.f k a 2 6).bind fun r2 =>
  bif r2 then
   some (decide ((g.length : Int) ≤ 50))
  else
   some false) k 0

def impl_IsZeroSum.f (k : Nat) (a0 a1 : Int) (a2 a3 : Bool) (a4 a5 : LI) (a6 a7 : Int) (a8 : LI) (a9 : Bool) (a10 : LI) (a11 a12 : Int) (a13 a14 : Bool) (a15 a16 : LI) (a17 a18 : Int) (a19 : LL) (a20 a21 : LI) (a22 a23 a24 : Int) (a25 : LI) (a26 : LL) : Option (Bool) :=
 (impl_IsSheet.f k a0 a26).bind fun r1 =>
 some r1

def impl_Replayed.s3 {R : Type} (k : Nat) (v1 : LI) (v2 : Int) (e0 : Int → Int → Int → Bool → Bool → Int → Int → Int → Int → Int → LI → LI → LL → LI → LI → Option R) (e1 : Int → Int → Bool → Bool → Int → Int → Int → Int → Int → LI → LI → LL → LI → LI → Option R) (rec : Int → Int → Int → Bool → Bool → Int → Int → Int → Int → Int → LI → LI → LL → LI → LI → Option R) (v3 v13 v14 : Int) (v15 v16 : Bool) (v17 v18 v19 v20 v21 : Int) (v22 v23 : LI) (v24 : LL) (v25 v26 : LI) : Option R :=
 bif decide (v3 < v2) then
  chk ((decide (0 ≤ v3)) && (decide (v3 < (v1.length : Int)))) <|
  (impl_ReplayMove.f k v13 v14 v15 v16 v22 v23 v17 v18 v24 v25 v26 v19 v20 v21 (v1.getD v3.toNat 0)).bind fun r2 =>
  bif (!(t9 (t5 r2))) then
   e0 v3 v13 v14 v15 v16 v17 v18 v19 v20 v21 v22 v23 v24 v25 v26
  else
   rec (IntKind.wrap .i64 (v3 + 1)) r2.1 r2.2.1 (t2 r2).1 (t3 r2).1 (t6 r2).1 (t7 r2).1 (t9 (t2 r2)).1 (t9 (t3 r2)).1 (t9 (t4 r2)).1 (t4 r2).1 (t5 r2).1 (t8 r2).1 (t9 r2).1 (t9 r2.2).1
 else
  e1 v13 v14 v15 v16 v17 v18 v19 v20 v21 v22 v23 v24 v25 v26
def impl_Replayed.l3 {R : Type} (k : Nat) (v1 : LI) (v2 : Int) (e0 : Int → Int → Int → Bool → Bool → Int → Int → Int → Int → Int → LI → LI → LL → LI → LI → Option R) (e1 : Int → Int → Bool → Bool → Int → Int → Int → Int → Int → LI → LI → LL → LI → LI → Option R) (n : Nat) (v3 v13 v14 : Int) (v15 v16 : Bool) (v17 v18 v19 v20 v21 : Int) (v22 v23 : LI) (v24 : LL) (v25 v26 : LI) : Option R :=
 V.iter (A := Int × Int × Int × Bool × Bool × Int × Int × Int × Int × Int × LI × LI × LL × LI × LI) (fun rec a => impl_Replayed.s3 k v1 v2 e0 e1 (fun c0 c1 c2 c3 c4 c5 c6 c7 c8 c9 c10 c11 c12 c13 c14 => rec (c0, c1, c2, c3, c4, c5, c6, c7, c8, c9, c10, c11, c12, c13, c14)) a.1 a.2.1 (t2 a).1 (t3 a).1 (t4 a).1 (t5 a).1 (t6 a).1 (t7 a).1 (t8 a).1 (t9 a).1 (t9 a.2).1 (t9 (t2 a)).1 (t9 (t3 a)).1 (t9 (t4 a)).1 (t9 (t5 a))) n (v3, v13, v14, v15, v16, v17, v18, v19, v20, v21, v22, v23, v24, v25, v26)
theorem impl_Replayed.l3_succ {R : Type} (k : Nat) (v1 : LI) (v2 : Int) (e0 : Int → Int → Int → Bool → Bool → Int → Int → Int → Int → Int → LI → LI → LL → LI → LI → Option R) (e1 : Int → Int → Bool → Bool → Int → Int → Int → Int → Int → LI → LI → LL → LI → LI → Option R) (n : Nat) (v3 v13 v14 : Int) (v15 v16 : Bool) (v17 v18 v19 v20 v21 : Int) (v22 v23 : LI) (v24 : LL) (v25 v26 : LI) : impl_Replayed.l3 (R := R) k v1 v2 e0 e1 (n + 1) v3 v13 v14 v15 v16 v17 v18 v19 v20 v21 v22 v23 v24 v25 v26 = impl_Replayed.s3 k v1 v2 e0 e1 (impl_Replayed.l3 k v1 v2 e0 e1 n) v3 v13 v14 v15 v16 v17 v18 v19 v20 v21 v22 v23 v24 v25 v26 := rfl
def impl_Replayed.f (k : Nat) (a0 a1 : Int) (a2 a3 : Bool) (a4 a5 : LI) (a6 a7 : Int) (a8 : LL) (a9 a10 : LI) (a11 a12 a13 : Int) (g : LI) : Option (Int × Int × Bool × Bool × LI × LI × Int × Int × LL × LI × LI × Int × Int × Int × Int) :=
 (impl_Game_copied.f k a0 a1 a2 a3 a4 a5 a6 a7 a8 a9 a10 a11 a12 a13).bind fun r1 =>
 impl_Replayed.l3 k g (g.length : Int) (fun x3 x4 x5 x6 x7 x8 x9 x10 x11 x12 x13 x14 x15 x16 x17 =>
  some (x4, x5, x6, x7, x13, x14, x8, x9, x15, x16, x17, x10, x11, x12, x3)) (fun x18 x19 x20 x21 x22 x23 x24 x25 x26 x27 x28 x29 x30 x31 =>
  some (x18, x19, x20, x21, x27, x28, x22, x23, x29, x30, x31, x24, x25, x26, (g.length : Int))) k 0 r1.1 r1.2.1 (t2 r1).1 (t3 r1).1 (t6 r1).1 (t7 r1).1 (t9 (t2 r1)).1 (t9 (t3 r1)).1 (t9 (t4 r1)) (t4 r1).1 (t5 r1).1 (t8 r1).1 (t9 r1).1 (t9 r1.2).1

def impl_IsTable.f (k : Nat) (a0 a1 : Int) (a2 a3 : Bool) (a4 a5 : LI) (a6 a7 : Int) (a8 : LI) (a9 : Bool) (a10 : LI) (a11 a12 : Int) (a13 a14 : Bool) (a15 a16 : LI) (a17 a18 : Int) (a19 : LL) (a20 a21 : LI) (a22 a23 a24 : Int) (a25 : LI) (a26 : LL) : Option (Bool) :=
 (impl_IsRules.f k a0 a1 a2 a3 a4 a5 a6 a7).bind fun r1 =>
 bif (!r1) then
  some false
 else
  bif decide ((a8.length : Int) > a0) then
   some false
  else
   (impl_IsSheet.f k a0 a26).bind fun r2 =>
   bif (!r2) then
    some false
   else
    bif (!a9) then
     bif ((a10.length : Int) == 0) then
      bif ((a25.length : Int) == 0) then
       (impl_EqualGames.f k a11 a12 a13 a14 a15 a16 a17 a18 a19 a20 a21 a22 a23 a24 0 0 false false [] [] 0 0 [] [] [] 0 0 0).bind fun r3 =>
       some r3
      else
       some false
     else
      some false
    else
     (impl_NewGame.f k a0 a1 a2 a3 a4 a5 a6 a7 a10).bind fun r4 =>
     bif (!(t9 (t5 r4))) then
      some false
     else
      bif ((a8.length : Int) != a0) then
       some false
      else
       (impl_Replayed.f k r4.1 r4.2.1 (t2 r4).1 (t3 r4).1 (t4 r4).1 (t5 r4).1 (t6 r4).1 (t7 r4).1 (t8 r4).1 (t9 r4).1 (t9 r4.2).1 (t9 (t2 r4)).1 (t9 (t3 r4)).1 (t9 (t4 r4)).1 a25).bind fun r5 =>
       bif ((t9 (t5 r5)) == (a25.length : Int)) then
        (impl_EqualGames.f k r5.1 r5.2.1 (t2 r5).1 (t3 r5).1 (t4 r5).1 (t5 r5).1 (t6 r5).1 (t7 r5).1 (t8 r5).1 (t9 r5).1 (t9 r5.2).1 (t9 (t2 r5)).1 (t9 (t3 r5)).1 (t9 (t4 r5)).1 a11 a12 a13 a14 a15 a16 a17 a18 a19 a20 a21 a22 a23 a24).bind fun r6 =>
        some r6
       else
        some false

def impl_FaultOf.f (k : Nat) (a0 a1 : Int) (a2 a3 : Bool) (a4 a5 : LI) (a6 a7 : Int) (a8 : LI) (a9 : Bool) (a10 : LI) (a11 a12 : Int) (a13 a14 : Bool) (a15 a16 : LI) (a17 a18 : Int) (a19 : LL) (a20 a21 : LI) (a22 a23 a24 : Int) (a25 : LI) (a26 : LL) : Option (ByteArray) :=
 (impl_NothingLost.f k a0 a1 a2 a3 a4 a5 a6 a7 a8 a9 a10 a11 a12 a13 a14 a15 a16 a17 a18 a19 a20 a21 a22 a23 a24 a25 a26).bind fun r1 =>
 bif (!r1) then
  some (⟨#[99, 97, 114, 100, 115]⟩ : ByteArray)
 else
  (impl_IsRecorded.f k a0 a1 a2 a3 a4 a5 a6 a7 a8 a9 a10 a11 a12 a13 a14 a15 a16 a17 a18 a19 a20 a21 a22 a23 a24 a25 a26).bind fun r2 =>
  bif (!r2) then
   some (⟨#[114, 101, 99, 111, 114, 100]⟩ : ByteArray)
  else
   (impl_IsZeroSum.f k a0 a1 a2 a3 a4 a5 a6 a7 a8 a9 a10 a11 a12 a13 a14 a15 a16 a17 a18 a19 a20 a21 a22 a23 a24 a25 a26).bind fun r3 =>
   bif (!r3) then
    some (⟨#[115, 104, 101, 101, 116]⟩ : ByteArray)
   else
    (impl_IsTable.f k a0 a1 a2 a3 a4 a5 a6 a7 a8 a9 a10 a11 a12 a13 a14 a15 a16 a17 a18 a19 a20 a21 a22 a23 a24 a25 a26).bind fun r4 =>
    bif (!r4) then
     some (⟨#[116, 97, 98, 108, 101]⟩ : ByteArray)
    else
     some ByteArray.empty

def spec_DrawStepDeal.s6 {R : Type} (k : Nat) (e0 : Int → Int → Bool → Bool → Int → Int → Bool → Int → Int → Bool → Bool → Int → Int → Int → Int → Int → LI → LI → LI → LI → LI → LI → LL → LI → LI → LI → LL → LI → LI → Option R) (rec : Int → Int → Int → Bool → Bool → Int → Int → Bool → Int → Int → Bool → Bool → Int → Int → Int → Int → Int → LI → LI → LI → LI → LI → LI → LL → LI → LI → LI → LL → LI → LI → Option R) (v0 v20 v21 : Int) (v22 v23 : Bool) (v24 v25 : Int) (v26 : Bool) (v27 v28 : Int) (v29 v30 : Bool) (v31 v32 v33 v34 v35 : Int) (v36 v37 v38 v39 v40 v41 : LI) (v42 : LL) (v43 v44 v45 : LI) (v46 : LL) (v47 v48 : LI) : Option R :=
 bif decide (v0 < v20) then
  (spec_SeedSeal.f k v0 (IntKind.wrap .i64 (7 * v0)) 5).bind fun r4 =>
  (spec_StepSeal.f k v20 v21 v22 v23 v36 v37 v24 v25 v38 v26 v39 v27 v28 v29 v30 v40 v41 v31 v32 v42 v43 v44 v33 v34 v35 v45 v46 r4).bind fun r5 =>
  chk (decide ((v47.length + 1) * 8 ≤ room)) <|
  chk (decide ((v48.length + 1) * 8 ≤ room)) <|
  rec (IntKind.wrap .i64 (v0 + 1)) r5.1 r5.2.1 (t2 r5).1 (t3 r5).1 (t6 r5).1 (t7 r5).1 (t9 r5).1 (t9 (t2 r5)).1 (t9 (t3 r5)).1 (t9 (t4 r5)).1 (t9 (t5 r5)).1 (t9 (t8 r5)).1 (t9 (t9 r5)).1 (t9 (t9 (t4 r5))).1 (t9 (t9 (t5 r5))).1 (t9 (t9 (t6 r5))).1 (t4 r5).1 (t5 r5).1 (t8 r5).1 (t9 r5.2).1 (t9 (t6 r5)).1 (t9 (t7 r5)).1 (t9 (t9 r5.2)).1 (t9 (t9 (t2 r5))).1 (t9 (t9 (t3 r5))).1 (t9 (t9 (t7 r5))).1 (t9 (t9 (t8 r5))).1 (v47 ++ [IntKind.wrap .i64 (7 * v0)]) (v48 ++ [5])
 else
  e0 v20 v21 v22 v23 v24 v25 v26 v27 v28 v29 v30 v31 v32 v33 v34 v35 v36 v37 v38 v39 v40 v41 v42 v43 v44 v45 v46 v47 v48
def spec_DrawStepDeal.l6 {R : Type} (k : Nat) (e0 : Int → Int → Bool → Bool → Int → Int → Bool → Int → Int → Bool → Bool → Int → Int → Int → Int → Int → LI → LI → LI → LI → LI → LI → LL → LI → LI → LI → LL → LI → LI → Option R) (n : Nat) (v0 v20 v21 : Int) (v22 v23 : Bool) (v24 v25 : Int) (v26 : Bool) (v27 v28 : Int) (v29 v30 : Bool) (v31 v32 v33 v34 v35 : Int) (v36 v37 v38 v39 v40 v41 : LI) (v42 : LL) (v43 v44 v45 : LI) (v46 : LL) (v47 v48 : LI) : Option R :=
 V.iter (A := Int × Int × Int × Bool × Bool × Int × Int × Bool × Int × Int × Bool × Bool × Int × Int × Int × Int × Int × LI × LI × LI × LI × LI × LI × LL × LI × LI × LI × LL × LI × LI) (fun rec a => spec_DrawStepDeal.s6 k e0 (fun c0 c1 c2 c3 c4 c5 c6 c7 c8 c9 c10 c11 c12 c13 c14 c15 c16 c17 c18 c19 c20 c21 c22 c23 c24 c25 c26 c27 c28 c29 => rec (c0, c1, c2, c3, c4, c5, c6, c7, c8, c9, c10, c11, c12, c13, c14, c15, c16, c17, c18, c19, c20, c21, c22, c23, c24, c25, c26, c27, c28, c29)) a.1 a.2.1 (t2 a).1 (t3 a).1 (t4 a).1 (t5 a).1 (t6 a).1 (t7 a).1 (t8 a).1 (t9 a).1 (t9 a.2).1 (t9 (t2 a)).1 (t9 (t3 a)).1 (t9 (t4 a)).1 (t9 (t5 a)).1 (t9 (t6 a)).1 (t9 (t7 a)).1 (t9 (t8 a)).1 (t9 (t9 a)).1 (t9 (t9 a.2)).1 (t9 (t9 (t2 a))).1 (t9 (t9 (t3 a))).1 (t9 (t9 (t4 a))).1 (t9 (t9 (t5 a))).1 (t9 (t9 (t6 a))).1 (t9 (t9 (t7 a))).1 (t9 (t9 (t8 a))).1 (t9 (t9 (t9 a))).1 (t9 (t9 (t9 a.2))).1 (t9 (t9 (t9 (t2 a))))) n (v0, v20, v21, v22, v23, v24, v25, v26, v27, v28, v29, v30, v31, v32, v33, v34, v35, v36, v37, v38, v39, v40, v41, v42, v43, v44, v45, v46, v47, v48)
theorem spec_DrawStepDeal.l6_succ {R : Type} (k : Nat) (e0 : Int → Int → Bool → Bool → Int → Int → Bool → Int → Int → Bool → Bool → Int → Int → Int → Int → Int → LI → LI → LI → LI → LI → LI → LL → LI → LI → LI → LL → LI → LI → Option R) (n : Nat) (v0 v20 v21 : Int) (v22 v23 : Bool) (v24 v25 : Int) (v26 : Bool) (v27 v28 : Int) (v29 v30 : Bool) (v31 v32 v33 v34 v35 : Int) (v36 v37 v38 v39 v40 v41 : LI) (v42 : LL) (v43 v44 v45 : LI) (v46 : LL) (v47 v48 : LI) : spec_DrawStepDeal.l6 (R := R) k e0 (n + 1) v0 v20 v21 v22 v23 v24 v25 v26 v27 v28 v29 v30 v31 v32 v33 v34 v35 v36 v37 v38 v39 v40 v41 v42 v43 v44 v45 v46 v47 v48 = spec_DrawStepDeal.s6 k e0 (spec_DrawStepDeal.l6 k e0 n) v0 v20 v21 v22 v23 v24 v25 v26 v27 v28 v29 v30 v31 v32 v33 v34 v35 v36 v37 v38 v39 v40 v41 v42 v43 v44 v45 v46 v47 v48 := rfl
def spec_DrawStepDeal.f (k : Nat) (a : LI) : Option (Int × Int × Bool × Bool × LI × LI × Int × Int × LI × Bool × LI × Int × Int × Bool × Bool × LI × LI × Int × Int × LL × LI × LI × Int × Int × Int × LI × LL × LI × LI) :=
 (spec_l1New.f k a).bind fun r1 =>
 (spec_l22Draw.f k r1.1 r1.2.1 (t2 r1)).bind fun r2 =>
 (spec_NewTable.f k r2.1 r2.2.1 (t2 r2).1 (t3 r2).1 (t4 r2).1 (t5 r2).1 (t6 r2).1 (t7 r2).1).bind fun r3 =>
 spec_DrawStepDeal.l6 k (fun x6 x7 x8 x9 x10 x11 x12 x13 x14 x15 x16 x17 x18 x19 x20 x21 x22 x23 x24 x25 x26 x27 x28 x29 x30 x31 x32 x33 x34 =>
  (spec_l1Once.f k (t8 r2).1 (t9 r2).1 (t9 r2.2) 3).bind fun r35 =>
  bif r35.1 then
   (spec_l1Int.f k r35.2.1 (t2 r35).1 (t3 r35) [1, (-1), 1000001]).bind fun r36 =>
   chk (decide (0 < (x33.length : Int))) <|
   some (x6, x7, x8, x9, x22, x23, x10, x11, x24, x12, x25, x13, x14, x15, x16, x26, x27, x17, x18, x28, x29, x30, x19, x20, x21, x31, x32, x33.set 0 r36.1, x34)
  else
   some (x6, x7, x8, x9, x22, x23, x10, x11, x24, x12, x25, x13, x14, x15, x16, x26, x27, x17, x18, x28, x29, x30, x19, x20, x21, x31, x32, x33, x34)) k 0 r3.1 r3.2.1 (t2 r3).1 (t3 r3).1 (t6 r3).1 (t7 r3).1 (t9 r3).1 (t9 (t2 r3)).1 (t9 (t3 r3)).1 (t9 (t4 r3)).1 (t9 (t5 r3)).1 (t9 (t8 r3)).1 (t9 (t9 r3)).1 (t9 (t9 (t4 r3))).1 (t9 (t9 (t5 r3))).1 (t9 (t9 (t6 r3))).1 (t4 r3).1 (t5 r3).1 (t8 r3).1 (t9 r3.2).1 (t9 (t6 r3)).1 (t9 (t7 r3)).1 (t9 (t9 r3.2)).1 (t9 (t9 (t2 r3))).1 (t9 (t9 (t3 r3))).1 (t9 (t9 (t7 r3))).1 (t9 (t9 (t8 r3))).1 [] []

def spec_DrawIsFairDeck.f (k : Nat) (a : LI) : Option (Int × Int × Bool × Bool × LI × LI × Int × Int × LI × Bool × LI × Int × Int × Bool × Bool × LI × LI × Int × Int × LL × LI × LI × Int × Int × Int × LI × LL × LI × LI) :=
 (spec_DrawStepDeal.f k a).bind fun r1 =>
 (spec_StepDeal.f k r1.1 r1.2.1 (t2 r1).1 (t3 r1).1 (t4 r1).1 (t5 r1).1 (t6 r1).1 (t7 r1).1 (t8 r1).1 (t9 r1).1 (t9 r1.2).1 (t9 (t2 r1)).1 (t9 (t3 r1)).1 (t9 (t4 r1)).1 (t9 (t5 r1)).1 (t9 (t6 r1)).1 (t9 (t7 r1)).1 (t9 (t8 r1)).1 (t9 (t9 r1)).1 (t9 (t9 r1.2)).1 (t9 (t9 (t2 r1))).1 (t9 (t9 (t3 r1))).1 (t9 (t9 (t4 r1))).1 (t9 (t9 (t5 r1))).1 (t9 (t9 (t6 r1))).1 (t9 (t9 (t7 r1))).1 (t9 (t9 (t8 r1))).1 (t9 (t9 (t9 r1))).1 (t9 (t9 (t9 r1.2)))).bind fun r2 =>
 some (r2.1, r2.2.1, (t2 r2).1, (t3 r2).1, (t4 r2).1, (t5 r2).1, (t6 r2).1, (t7 r2).1, (t8 r2).1, (t9 r2).1, (t9 r2.2).1, (t9 (t2 r2)).1, (t9 (t3 r2)).1, (t9 (t4 r2)).1, (t9 (t5 r2)).1, (t9 (t6 r2)).1, (t9 (t7 r2)).1, (t9 (t8 r2)).1, (t9 (t9 r2)).1, (t9 (t9 r2.2)).1, (t9 (t9 (t2 r2))).1, (t9 (t9 (t3 r2))).1, (t9 (t9 (t4 r2))).1, (t9 (t9 (t5 r2))).1, (t9 (t9 (t6 r2))).1, (t9 (t9 (t7 r2))).1, (t9 (t9 (t8 r2))).1, (t9 (t9 (t9 r1))).1, (t9 (t9 (t9 r1.2))))

def impl_SeedSeal.f (k : Nat) (a g i : Int) : Option (Int) :=
 (impl_Hash.f k [a, g, i]).bind fun r1 =>
 some r1

def impl_IsOpened.f (k : Nat) (a g i j : Int) : Option (Bool) :=
 (impl_InRange.f k g 0 1000000).bind fun r1 =>
 bif r1 then
  (impl_InRange.f k i 0 1000000).bind fun r2 =>
  bif r2 then
   (impl_SeedSeal.f k a g i).bind fun r3 =>
   some (r3 == j)
  else
   some false
 else
  some false

def impl_AreOpened.s5 {R : Type} (k : Nat) (v0 v1 v2 : LI) (v3 : Int) (e0 e1 : Option R) (rec : Int → Option R) (v4 : Int) : Option R :=
 bif decide (v4 < v3) then
  chk ((decide (0 ≤ v4)) && (decide (v4 < (v1.length : Int)))) <|
  chk ((decide (0 ≤ v4)) && (decide (v4 < (v2.length : Int)))) <|
  chk ((decide (0 ≤ v4)) && (decide (v4 < (v0.length : Int)))) <|
  (impl_IsOpened.f k v4 (v1.getD v4.toNat 0) (v2.getD v4.toNat 0) (v0.getD v4.toNat 0)).bind fun r2 =>
  bif (!r2) then
   e0
  else
   rec (IntKind.wrap .i64 (v4 + 1))
 else
  e1
def impl_AreOpened.l5 {R : Type} (k : Nat) (v0 v1 v2 : LI) (v3 : Int) (e0 e1 : Option R) (n : Nat) (v4 : Int) : Option R :=
 V.iter (A := Int) (fun rec a => impl_AreOpened.s5 k v0 v1 v2 v3 e0 e1 (fun c0 => rec c0) a) n v4
theorem impl_AreOpened.l5_succ {R : Type} (k : Nat) (v0 v1 v2 : LI) (v3 : Int) (e0 e1 : Option R) (n : Nat) (v4 : Int) : impl_AreOpened.l5 (R := R) k v0 v1 v2 v3 e0 e1 (n + 1) v4 = impl_AreOpened.s5 k v0 v1 v2 v3 e0 e1 (impl_AreOpened.l5 k v0 v1 v2 v3 e0 e1 n) v4 := rfl
def impl_AreOpened.f (k : Nat) (a g i : LI) : Option (Bool) :=
 (impl_InRange.f k (a.length : Int) 1 6).bind fun r1 =>
 bif (!r1) then
  some false
 else
  bif ((g.length : Int) != (a.length : Int)) then
   some false
  else
   bif ((i.length : Int) != (a.length : Int)) then
    some false
   else
    impl_AreOpened.l5 k a g i (a.length : Int) (some false) (some true) k 0

def impl_JointSeed.s3 {R : Type} (k : Nat) (v1 : LI) (v2 : Int) (e0 : Int → Option R) (rec : Int → Int → Option R) (v0 v3 : Int) : Option R :=
 bif decide (v3 < v2) then
  chk ((decide (0 ≤ v3)) && (decide (v3 < (v1.length : Int)))) <|
  (impl_Mod.f k (v1.getD v3.toNat 0) 1000001).bind fun r1 =>
  rec ((IntKind.wrap .i64 (v0 + r1)).tmod 1000001) (IntKind.wrap .i64 (v3 + 1))
 else
  e0 v0
def impl_JointSeed.l3 {R : Type} (k : Nat) (v1 : LI) (v2 : Int) (e0 : Int → Option R) (n : Nat) (v0 v3 : Int) : Option R :=
 V.iter (A := Int × Int) (fun rec a => impl_JointSeed.s3 k v1 v2 e0 (fun c0 c1 => rec (c0, c1)) a.1 a.2) n (v0, v3)
theorem impl_JointSeed.l3_succ {R : Type} (k : Nat) (v1 : LI) (v2 : Int) (e0 : Int → Option R) (n : Nat) (v0 v3 : Int) : impl_JointSeed.l3 (R := R) k v1 v2 e0 (n + 1) v0 v3 = impl_JointSeed.s3 k v1 v2 e0 (impl_JointSeed.l3 k v1 v2 e0 n) v0 v3 := rfl
def impl_JointSeed.f (k : Nat) (a : LI) : Option (Int) :=
 impl_JointSeed.l3 k a (a.length : Int) (fun x2 =>
  some x2) k 0 0

def impl_JointDeck.f (k : Nat) (a g i : LI) : Option (LI × Bool) :=
 (impl_AreOpened.f k a g i).bind fun r1 =>
 bif (!r1) then
  some ([], false)
 else
  (impl_FullDeck.f k).bind fun r2 =>
  (impl_JointSeed.f k g).bind fun r3 =>
  (impl_Shuffled.f k r2 r3).bind fun r4 =>
  some (r4, true)

def impl_IsFairDeck.f (k : Nat) (a0 a1 : Int) (a2 a3 : Bool) (a4 a5 : LI) (a6 a7 : Int) (a8 : LI) (a9 : Bool) (a10 : LI) (a11 a12 : Int) (a13 a14 : Bool) (a15 a16 : LI) (a17 a18 : Int) (a19 : LL) (a20 a21 : LI) (a22 a23 a24 : Int) (a25 : LI) (a26 : LL) (g i : LI) : Option (Bool) :=
 (impl_JointDeck.f k a8 g i).bind fun r1 =>
 bif a9 then
  bif r1.2 then
   (impl_EqualInts.f k r1.1 a10).bind fun r2 =>
   some r2
  else
   some false
 else
  some false

def laws_FnAudited.f (k : Nat) (a : LI) : Option (Bool) :=
 (laws_big.f k a).bind fun r1 =>
 bif r1 then
  some true
 else
  (spec_DrawFaultOf.f k a).bind fun r2 =>
  (impl_FaultOf.f k r2.1 r2.2.1 (t2 r2).1 (t3 r2).1 (t4 r2).1 (t5 r2).1 (t6 r2).1 (t7 r2).1 (t8 r2).1 (t9 r2).1 (t9 r2.2).1 (t9 (t2 r2)).1 (t9 (t3 r2)).1 (t9 (t4 r2)).1 (t9 (t5 r2)).1 (t9 (t6 r2)).1 (t9 (t7 r2)).1 (t9 (t8 r2)).1 (t9 (t9 r2)).1 (t9 (t9 r2.2)).1 (t9 (t9 (t2 r2))).1 (t9 (t9 (t3 r2))).1 (t9 (t9 (t4 r2))).1 (t9 (t9 (t5 r2))).1 (t9 (t9 (t6 r2))).1 (t9 (t9 (t7 r2))).1 (t9 (t9 (t8 r2)))).bind fun r3 =>
  (impl_NothingLost.f k r2.1 r2.2.1 (t2 r2).1 (t3 r2).1 (t4 r2).1 (t5 r2).1 (t6 r2).1 (t7 r2).1 (t8 r2).1 (t9 r2).1 (t9 r2.2).1 (t9 (t2 r2)).1 (t9 (t3 r2)).1 (t9 (t4 r2)).1 (t9 (t5 r2)).1 (t9 (t6 r2)).1 (t9 (t7 r2)).1 (t9 (t8 r2)).1 (t9 (t9 r2)).1 (t9 (t9 r2.2)).1 (t9 (t9 (t2 r2))).1 (t9 (t9 (t3 r2))).1 (t9 (t9 (t4 r2))).1 (t9 (t9 (t5 r2))).1 (t9 (t9 (t6 r2))).1 (t9 (t9 (t7 r2))).1 (t9 (t9 (t8 r2)))).bind fun r4 =>
  bif r4 then
   (impl_IsRecorded.f k r2.1 r2.2.1 (t2 r2).1 (t3 r2).1 (t4 r2).1 (t5 r2).1 (t6 r2).1 (t7 r2).1 (t8 r2).1 (t9 r2).1 (t9 r2.2).1 (t9 (t2 r2)).1 (t9 (t3 r2)).1 (t9 (t4 r2)).1 (t9 (t5 r2)).1 (t9 (t6 r2)).1 (t9 (t7 r2)).1 (t9 (t8 r2)).1 (t9 (t9 r2)).1 (t9 (t9 r2.2)).1 (t9 (t9 (t2 r2))).1 (t9 (t9 (t3 r2))).1 (t9 (t9 (t4 r2))).1 (t9 (t9 (t5 r2))).1 (t9 (t9 (t6 r2))).1 (t9 (t9 (t7 r2))).1 (t9 (t9 (t8 r2)))).bind fun r5 =>
   bif r5 then
    (impl_IsZeroSum.f k r2.1 r2.2.1 (t2 r2).1 (t3 r2).1 (t4 r2).1 (t5 r2).1 (t6 r2).1 (t7 r2).1 (t8 r2).1 (t9 r2).1 (t9 r2.2).1 (t9 (t2 r2)).1 (t9 (t3 r2)).1 (t9 (t4 r2)).1 (t9 (t5 r2)).1 (t9 (t6 r2)).1 (t9 (t7 r2)).1 (t9 (t8 r2)).1 (t9 (t9 r2)).1 (t9 (t9 r2.2)).1 (t9 (t9 (t2 r2))).1 (t9 (t9 (t3 r2))).1 (t9 (t9 (t4 r2))).1 (t9 (t9 (t5 r2))).1 (t9 (t9 (t6 r2))).1 (t9 (t9 (t7 r2))).1 (t9 (t9 (t8 r2)))).bind fun r6 =>
    bif r6 then
     (impl_IsTable.f k r2.1 r2.2.1 (t2 r2).1 (t3 r2).1 (t4 r2).1 (t5 r2).1 (t6 r2).1 (t7 r2).1 (t8 r2).1 (t9 r2).1 (t9 r2.2).1 (t9 (t2 r2)).1 (t9 (t3 r2)).1 (t9 (t4 r2)).1 (t9 (t5 r2)).1 (t9 (t6 r2)).1 (t9 (t7 r2)).1 (t9 (t8 r2)).1 (t9 (t9 r2)).1 (t9 (t9 r2.2)).1 (t9 (t9 (t2 r2))).1 (t9 (t9 (t3 r2))).1 (t9 (t9 (t4 r2))).1 (t9 (t9 (t5 r2))).1 (t9 (t9 (t6 r2))).1 (t9 (t9 (t7 r2))).1 (t9 (t9 (t8 r2)))).bind fun r7 =>
     bif (!((r3.toList == ByteArray.empty.toList) == r7)) then
      some false
     else
      (impl_NothingLost.f k r2.1 r2.2.1 (t2 r2).1 (t3 r2).1 (t4 r2).1 (t5 r2).1 (t6 r2).1 (t7 r2).1 (t8 r2).1 (t9 r2).1 (t9 r2.2).1 (t9 (t2 r2)).1 (t9 (t3 r2)).1 (t9 (t4 r2)).1 (t9 (t5 r2)).1 (t9 (t6 r2)).1 (t9 (t7 r2)).1 (t9 (t8 r2)).1 (t9 (t9 r2)).1 (t9 (t9 r2.2)).1 (t9 (t9 (t2 r2))).1 (t9 (t9 (t3 r2))).1 (t9 (t9 (t4 r2))).1 (t9 (t9 (t5 r2))).1 (t9 (t9 (t6 r2))).1 (t9 (t9 (t7 r2))).1 (t9 (t9 (t8 r2)))).bind fun r8 =>
      bif (!((r3.toList == (⟨#[99, 97, 114, 100, 115]⟩ : ByteArray).toList) == (!r8))) then
       some false
      else
       (impl_IsTable.f k r2.1 r2.2.1 (t2 r2).1 (t3 r2).1 (t4 r2).1 (t5 r2).1 (t6 r2).1 (t7 r2).1 (t8 r2).1 (t9 r2).1 (t9 r2.2).1 (t9 (t2 r2)).1 (t9 (t3 r2)).1 (t9 (t4 r2)).1 (t9 (t5 r2)).1 (t9 (t6 r2)).1 (t9 (t7 r2)).1 (t9 (t8 r2)).1 (t9 (t9 r2)).1 (t9 (t9 r2.2)).1 (t9 (t9 (t2 r2))).1 (t9 (t9 (t3 r2))).1 (t9 (t9 (t4 r2))).1 (t9 (t9 (t5 r2))).1 (t9 (t9 (t6 r2))).1 (t9 (t9 (t7 r2))).1 (t9 (t9 (t8 r2)))).bind fun r9 =>
       bif r9 then
        bif (!(r3.toList == ByteArray.empty.toList)) then
         some false
        else
         (spec_DrawIsFairDeck.f k a).bind fun r10 =>
         bif (!(t9 r10).1) then
          some true
         else
          (impl_IsFairDeck.f k r10.1 r10.2.1 (t2 r10).1 (t3 r10).1 (t4 r10).1 (t5 r10).1 (t6 r10).1 (t7 r10).1 (t8 r10).1 (t9 r10).1 (t9 r10.2).1 (t9 (t2 r10)).1 (t9 (t3 r10)).1 (t9 (t4 r10)).1 (t9 (t5 r10)).1 (t9 (t6 r10)).1 (t9 (t7 r10)).1 (t9 (t8 r10)).1 (t9 (t9 r10)).1 (t9 (t9 r10.2)).1 (t9 (t9 (t2 r10))).1 (t9 (t9 (t3 r10))).1 (t9 (t9 (t4 r10))).1 (t9 (t9 (t5 r10))).1 (t9 (t9 (t6 r10))).1 (t9 (t9 (t7 r10))).1 (t9 (t9 (t8 r10))).1 (t9 (t9 (t9 r10))).1 (t9 (t9 (t9 r10.2)))).bind fun r11 =>
          some r11
       else
        (spec_DrawIsFairDeck.f k a).bind fun r12 =>
        bif (!(t9 r12).1) then
         some true
        else
         (impl_IsFairDeck.f k r12.1 r12.2.1 (t2 r12).1 (t3 r12).1 (t4 r12).1 (t5 r12).1 (t6 r12).1 (t7 r12).1 (t8 r12).1 (t9 r12).1 (t9 r12.2).1 (t9 (t2 r12)).1 (t9 (t3 r12)).1 (t9 (t4 r12)).1 (t9 (t5 r12)).1 (t9 (t6 r12)).1 (t9 (t7 r12)).1 (t9 (t8 r12)).1 (t9 (t9 r12)).1 (t9 (t9 r12.2)).1 (t9 (t9 (t2 r12))).1 (t9 (t9 (t3 r12))).1 (t9 (t9 (t4 r12))).1 (t9 (t9 (t5 r12))).1 (t9 (t9 (t6 r12))).1 (t9 (t9 (t7 r12))).1 (t9 (t9 (t8 r12))).1 (t9 (t9 (t9 r12))).1 (t9 (t9 (t9 r12.2)))).bind fun r13 =>
         some r13
    else
     bif (!((r3.toList == ByteArray.empty.toList) == false)) then
      some false
     else
      (impl_NothingLost.f k r2.1 r2.2.1 (t2 r2).1 (t3 r2).1 (t4 r2).1 (t5 r2).1 (t6 r2).1 (t7 r2).1 (t8 r2).1 (t9 r2).1 (t9 r2.2).1 (t9 (t2 r2)).1 (t9 (t3 r2)).1 (t9 (t4 r2)).1 (t9 (t5 r2)).1 (t9 (t6 r2)).1 (t9 (t7 r2)).1 (t9 (t8 r2)).1 (t9 (t9 r2)).1 (t9 (t9 r2.2)).1 (t9 (t9 (t2 r2))).1 (t9 (t9 (t3 r2))).1 (t9 (t9 (t4 r2))).1 (t9 (t9 (t5 r2))).1 (t9 (t9 (t6 r2))).1 (t9 (t9 (t7 r2))).1 (t9 (t9 (t8 r2)))).bind fun r14 =>
      bif (!((r3.toList == (⟨#[99, 97, 114, 100, 115]⟩ : ByteArray).toList) == (!r14))) then
       some false
      else
       (impl_IsTable.f k r2.1 r2.2.1 (t2 r2).1 (t3 r2).1 (t4 r2).1 (t5 r2).1 (t6 r2).1 (t7 r2).1 (t8 r2).1 (t9 r2).1 (t9 r2.2).1 (t9 (t2 r2)).1 (t9 (t3 r2)).1 (t9 (t4 r2)).1 (t9 (t5 r2)).1 (t9 (t6 r2)).1 (t9 (t7 r2)).1 (t9 (t8 r2)).1 (t9 (t9 r2)).1 (t9 (t9 r2.2)).1 (t9 (t9 (t2 r2))).1 (t9 (t9 (t3 r2))).1 (t9 (t9 (t4 r2))).1 (t9 (t9 (t5 r2))).1 (t9 (t9 (t6 r2))).1 (t9 (t9 (t7 r2))).1 (t9 (t9 (t8 r2)))).bind fun r15 =>
       bif r15 then
        bif (!(r3.toList == ByteArray.empty.toList)) then
         some false
        else
         (spec_DrawIsFairDeck.f k a).bind fun r16 =>
         bif (!(t9 r16).1) then
          some true
         else
          (impl_IsFairDeck.f k r16.1 r16.2.1 (t2 r16).1 (t3 r16).1 (t4 r16).1 (t5 r16).1 (t6 r16).1 (t7 r16).1 (t8 r16).1 (t9 r16).1 (t9 r16.2).1 (t9 (t2 r16)).1 (t9 (t3 r16)).1 (t9 (t4 r16)).1 (t9 (t5 r16)).1 (t9 (t6 r16)).1 (t9 (t7 r16)).1 (t9 (t8 r16)).1 (t9 (t9 r16)).1 (t9 (t9 r16.2)).1 (t9 (t9 (t2 r16))).1 (t9 (t9 (t3 r16))).1 (t9 (t9 (t4 r16))).1 (t9 (t9 (t5 r16))).1 (t9 (t9 (t6 r16))).1 (t9 (t9 (t7 r16))).1 (t9 (t9 (t8 r16))).1 (t9 (t9 (t9 r16))).1 (t9 (t9 (t9 r16.2)))).bind fun r17 =>
          some r17
       else
        (spec_DrawIsFairDeck.f k a).bind fun r18 =>
        bif (!(t9 r18).1) then
         some true
        else
         (impl_IsFairDeck.f k r18.1 r18.2.1 (t2 r18).1 (t3 r18).1 (t4 r18).1 (t5 r18).1 (t6 r18).1 (t7 r18).1 (t8 r18).1 (t9 r18).1 (t9 r18.2).1 (t9 (t2 r18)).1 (t9 (t3 r18)).1 (t9 (t4 r18)).1 (t9 (t5 r18)).1 (t9 (t6 r18)).1 (t9 (t7 r18)).1 (t9 (t8 r18)).1 (t9 (t9 r18)).1 (t9 (t9 r18.2)).1 (t9 (t9 (t2 r18))).1 (t9 (t9 (t3 r18))).1 (t9 (t9 (t4 r18))).1 (t9 (t9 (t5 r18))).1 (t9 (t9 (t6 r18))).1 (t9 (t9 (t7 r18))).1 (t9 (t9 (t8 r18))).1 (t9 (t9 (t9 r18))).1 (t9 (t9 (t9 r18.2)))).bind fun r19 =>
         some r19
   else
    bif (!((r3.toList == ByteArray.empty.toList) == false)) then
     some false
    else
     (impl_NothingLost.f k r2.1 r2.2.1 (t2 r2).1 (t3 r2).1 (t4 r2).1 (t5 r2).1 (t6 r2).1 (t7 r2).1 (t8 r2).1 (t9 r2).1 (t9 r2.2).1 (t9 (t2 r2)).1 (t9 (t3 r2)).1 (t9 (t4 r2)).1 (t9 (t5 r2)).1 (t9 (t6 r2)).1 (t9 (t7 r2)).1 (t9 (t8 r2)).1 (t9 (t9 r2)).1 (t9 (t9 r2.2)).1 (t9 (t9 (t2 r2))).1 (t9 (t9 (t3 r2))).1 (t9 (t9 (t4 r2))).1 (t9 (t9 (t5 r2))).1 (t9 (t9 (t6 r2))).1 (t9 (t9 (t7 r2))).1 (t9 (t9 (t8 r2)))).bind fun r20 =>
     bif (!((r3.toList == (⟨#[99, 97, 114, 100, 115]⟩ : ByteArray).toList) == (!r20))) then
      some false
     else
      (impl_IsTable.f k r2.1 r2.2.1 (t2 r2).1 (t3 r2).1 (t4 r2).1 (t5 r2).1 (t6 r2).1 (t7 r2).1 (t8 r2).1 (t9 r2).1 (t9 r2.2).1 (t9 (t2 r2)).1 (t9 (t3 r2)).1 (t9 (t4 r2)).1 (t9 (t5 r2)).1 (t9 (t6 r2)).1 (t9 (t7 r2)).1 (t9 (t8 r2)).1 (t9 (t9 r2)).1 (t9 (t9 r2.2)).1 (t9 (t9 (t2 r2))).1 (t9 (t9 (t3 r2))).1 (t9 (t9 (t4 r2))).1 (t9 (t9 (t5 r2))).1 (t9 (t9 (t6 r2))).1 (t9 (t9 (t7 r2))).1 (t9 (t9 (t8 r2)))).bind fun r21 =>
      bif r21 then
       bif (!(r3.toList == ByteArray.empty.toList)) then
        some false
       else
        (spec_DrawIsFairDeck.f k a).bind fun r22 =>
        bif (!(t9 r22).1) then
         some true
        else
         (impl_IsFairDeck.f k r22.1 r22.2.1 (t2 r22).1 (t3 r22).1 (t4 r22).1 (t5 r22).1 (t6 r22).1 (t7 r22).1 (t8 r22).1 (t9 r22).1 (t9 r22.2).1 (t9 (t2 r22)).1 (t9 (t3 r22)).1 (t9 (t4 r22)).1 (t9 (t5 r22)).1 (t9 (t6 r22)).1 (t9 (t7 r22)).1 (t9 (t8 r22)).1 (t9 (t9 r22)).1 (t9 (t9 r22.2)).1 (t9 (t9 (t2 r22))).1 (t9 (t9 (t3 r22))).1 (t9 (t9 (t4 r22))).1 (t9 (t9 (t5 r22))).1 (t9 (t9 (t6 r22))).1 (t9 (t9 (t7 r22))).1 (t9 (t9 (t8 r22))).1 (t9 (t9 (t9 r22))).1 (t9 (t9 (t9 r22.2)))).bind fun r23 =>
         some r23
      else
       (spec_DrawIsFairDeck.f k a).bind fun r24 =>
       bif (!(t9 r24).1) then
        some true
       else
        (impl_IsFairDeck.f k r24.1 r24.2.1 (t2 r24).1 (t3 r24).1 (t4 r24).1 (t5 r24).1 (t6 r24).1 (t7 r24).1 (t8 r24).1 (t9 r24).1 (t9 r24.2).1 (t9 (t2 r24)).1 (t9 (t3 r24)).1 (t9 (t4 r24)).1 (t9 (t5 r24)).1 (t9 (t6 r24)).1 (t9 (t7 r24)).1 (t9 (t8 r24)).1 (t9 (t9 r24)).1 (t9 (t9 r24.2)).1 (t9 (t9 (t2 r24))).1 (t9 (t9 (t3 r24))).1 (t9 (t9 (t4 r24))).1 (t9 (t9 (t5 r24))).1 (t9 (t9 (t6 r24))).1 (t9 (t9 (t7 r24))).1 (t9 (t9 (t8 r24))).1 (t9 (t9 (t9 r24))).1 (t9 (t9 (t9 r24.2)))).bind fun r25 =>
        some r25
  else
   bif (!((r3.toList == ByteArray.empty.toList) == false)) then
    some false
   else
    (impl_NothingLost.f k r2.1 r2.2.1 (t2 r2).1 (t3 r2).1 (t4 r2).1 (t5 r2).1 (t6 r2).1 (t7 r2).1 (t8 r2).1 (t9 r2).1 (t9 r2.2).1 (t9 (t2 r2)).1 (t9 (t3 r2)).1 (t9 (t4 r2)).1 (t9 (t5 r2)).1 (t9 (t6 r2)).1 (t9 (t7 r2)).1 (t9 (t8 r2)).1 (t9 (t9 r2)).1 (t9 (t9 r2.2)).1 (t9 (t9 (t2 r2))).1 (t9 (t9 (t3 r2))).1 (t9 (t9 (t4 r2))).1 (t9 (t9 (t5 r2))).1 (t9 (t9 (t6 r2))).1 (t9 (t9 (t7 r2))).1 (t9 (t9 (t8 r2)))).bind fun r26 =>
    bif (!((r3.toList == (⟨#[99, 97, 114, 100, 115]⟩ : ByteArray).toList) == (!r26))) then
     some false
    else
     (impl_IsTable.f k r2.1 r2.2.1 (t2 r2).1 (t3 r2).1 (t4 r2).1 (t5 r2).1 (t6 r2).1 (t7 r2).1 (t8 r2).1 (t9 r2).1 (t9 r2.2).1 (t9 (t2 r2)).1 (t9 (t3 r2)).1 (t9 (t4 r2)).1 (t9 (t5 r2)).1 (t9 (t6 r2)).1 (t9 (t7 r2)).1 (t9 (t8 r2)).1 (t9 (t9 r2)).1 (t9 (t9 r2.2)).1 (t9 (t9 (t2 r2))).1 (t9 (t9 (t3 r2))).1 (t9 (t9 (t4 r2))).1 (t9 (t9 (t5 r2))).1 (t9 (t9 (t6 r2))).1 (t9 (t9 (t7 r2))).1 (t9 (t9 (t8 r2)))).bind fun r27 =>
     bif r27 then
      bif (!(r3.toList == ByteArray.empty.toList)) then
       some false
      else
       (spec_DrawIsFairDeck.f k a).bind fun r28 =>
       bif (!(t9 r28).1) then
        some true
       else
        (impl_IsFairDeck.f k r28.1 r28.2.1 (t2 r28).1 (t3 r28).1 (t4 r28).1 (t5 r28).1 (t6 r28).1 (t7 r28).1 (t8 r28).1 (t9 r28).1 (t9 r28.2).1 (t9 (t2 r28)).1 (t9 (t3 r28)).1 (t9 (t4 r28)).1 (t9 (t5 r28)).1 (t9 (t6 r28)).1 (t9 (t7 r28)).1 (t9 (t8 r28)).1 (t9 (t9 r28)).1 (t9 (t9 r28.2)).1 (t9 (t9 (t2 r28))).1 (t9 (t9 (t3 r28))).1 (t9 (t9 (t4 r28))).1 (t9 (t9 (t5 r28))).1 (t9 (t9 (t6 r28))).1 (t9 (t9 (t7 r28))).1 (t9 (t9 (t8 r28))).1 (t9 (t9 (t9 r28))).1 (t9 (t9 (t9 r28.2)))).bind fun r29 =>
        some r29
     else
      (spec_DrawIsFairDeck.f k a).bind fun r30 =>
      bif (!(t9 r30).1) then
       some true
      else
       (impl_IsFairDeck.f k r30.1 r30.2.1 (t2 r30).1 (t3 r30).1 (t4 r30).1 (t5 r30).1 (t6 r30).1 (t7 r30).1 (t8 r30).1 (t9 r30).1 (t9 r30.2).1 (t9 (t2 r30)).1 (t9 (t3 r30)).1 (t9 (t4 r30)).1 (t9 (t5 r30)).1 (t9 (t6 r30)).1 (t9 (t7 r30)).1 (t9 (t8 r30)).1 (t9 (t9 r30)).1 (t9 (t9 r30.2)).1 (t9 (t9 (t2 r30))).1 (t9 (t9 (t3 r30))).1 (t9 (t9 (t4 r30))).1 (t9 (t9 (t5 r30))).1 (t9 (t9 (t6 r30))).1 (t9 (t9 (t7 r30))).1 (t9 (t9 (t8 r30))).1 (t9 (t9 (t9 r30))).1 (t9 (t9 (t9 r30.2)))).bind fun r31 =>
       some r31
end Go.Proofs.YtpdkglbbhfhlfaaGreat
