/- Plain Lean functions, printed by a program out of the Go functions' translation: what each computes, without program and memory. -/
import Derived.Test.YtmdfedjdnjaaiaaGreatFFnExactMatchRound
set_option linter.unusedVariables false
namespace Go.Proofs.YtmdfedjdnjaaiaaGreat
open Go Go.Proofs.YtmdfedjdnjaaiaaGreat.V

def spec_MatchSheet.s3 {R : Type} (k : Nat) (v0 v1 : Int) (v2 : LI) (v4 v5 : Int) (v6 v7 : Bool) (v8 v9 : LI) (v10 v11 : Int) (e0 : LL → LL → Option R) (e1 : LL → Option R) (rec : Int → LL → Option R) (v3 : Int) (v12 : LL) : Option R :=
 bif decide (v3 < v1) then
  bif decide (v1 ≤ 20) then
   (spec_MatchRound.f k v4 v5 v6 v7 v8 v9 v10 v11 v0 v3 v2).bind fun r1 =>
   bif ((r1.length : Int) == 0) then
    e0 [] v12
   else
    chk (decide ((v12.length + 1) * 24 ≤ room)) <|
    rec (IntKind.wrap .i64 (v3 + 1)) (v12 ++ [r1])
  else
   e1 v12
 else
  e1 v12
def spec_MatchSheet.l3 {R : Type} (k : Nat) (v0 v1 : Int) (v2 : LI) (v4 v5 : Int) (v6 v7 : Bool) (v8 v9 : LI) (v10 v11 : Int) (e0 : LL → LL → Option R) (e1 : LL → Option R) (n : Nat) (v3 : Int) (v12 : LL) : Option R :=
 V.iter (A := Int × LL) (fun rec a => spec_MatchSheet.s3 k v0 v1 v2 v4 v5 v6 v7 v8 v9 v10 v11 e0 e1 (fun c0 c1 => rec (c0, c1)) a.1 a.2) n (v3, v12)
theorem spec_MatchSheet.l3_succ {R : Type} (k : Nat) (v0 v1 : Int) (v2 : LI) (v4 v5 : Int) (v6 v7 : Bool) (v8 v9 : LI) (v10 v11 : Int) (e0 : LL → LL → Option R) (e1 : LL → Option R) (n : Nat) (v3 : Int) (v12 : LL) : spec_MatchSheet.l3 (R := R) k v0 v1 v2 v4 v5 v6 v7 v8 v9 v10 v11 e0 e1 (n + 1) v3 v12 = spec_MatchSheet.s3 k v0 v1 v2 v4 v5 v6 v7 v8 v9 v10 v11 e0 e1 (spec_MatchSheet.l3 k v0 v1 v2 v4 v5 v6 v7 v8 v9 v10 v11 e0 e1 n) v3 v12 := rfl
def spec_MatchSheet.f (k : Nat) (a0 a1 : Int) (a2 a3 : Bool) (a4 a5 : LI) (a6 a7 g i : Int) (j : LI) : Option (LL) :=
 spec_MatchSheet.l3 k g i j a0 a1 a2 a3 a4 a5 a6 a7 (fun x2 x3 =>
  some x2) (fun x4 =>
  some x4) k 0 []

def impl_MatchSheet.s5 {R : Type} (k : Nat) (v0 : Int) (v1 : LI) (v2 v4 v5 : Int) (v6 v7 : Bool) (v8 v9 : LI) (v10 v11 : Int) (e0 e1 : LL → Option R) (rec : Int → LL → Option R) (v3 : Int) (v12 : LL) : Option R :=
 bif decide (v3 < v2) then
  (impl_MatchRound.f k v4 v5 v6 v7 v8 v9 v10 v11 v0 v3 v1).bind fun r2 =>
  bif ((r2.length : Int) == 0) then
   e0 v12
  else
   chk (decide ((v12.length + 1) * 24 ≤ room)) <|
   rec (IntKind.wrap .i64 (v3 + 1)) (v12 ++ [r2])
 else
  e1 v12
def impl_MatchSheet.l5 {R : Type} (k : Nat) (v0 : Int) (v1 : LI) (v2 v4 v5 : Int) (v6 v7 : Bool) (v8 v9 : LI) (v10 v11 : Int) (e0 e1 : LL → Option R) (n : Nat) (v3 : Int) (v12 : LL) : Option R :=
 V.iter (A := Int × LL) (fun rec a => impl_MatchSheet.s5 k v0 v1 v2 v4 v5 v6 v7 v8 v9 v10 v11 e0 e1 (fun c0 c1 => rec (c0, c1)) a.1 a.2) n (v3, v12)
theorem impl_MatchSheet.l5_succ {R : Type} (k : Nat) (v0 : Int) (v1 : LI) (v2 v4 v5 : Int) (v6 v7 : Bool) (v8 v9 : LI) (v10 v11 : Int) (e0 e1 : LL → Option R) (n : Nat) (v3 : Int) (v12 : LL) : impl_MatchSheet.l5 (R := R) k v0 v1 v2 v4 v5 v6 v7 v8 v9 v10 v11 e0 e1 (n + 1) v3 v12 = impl_MatchSheet.s5 k v0 v1 v2 v4 v5 v6 v7 v8 v9 v10 v11 e0 e1 (impl_MatchSheet.l5 k v0 v1 v2 v4 v5 v6 v7 v8 v9 v10 v11 e0 e1 n) v3 v12 := rfl
def impl_MatchSheet.f (k : Nat) (a0 a1 : Int) (a2 a3 : Bool) (a4 a5 : LI) (a6 a7 g i : Int) (j : LI) : Option (LL) :=
 (impl_InRange.f k i 0 20).bind fun r1 =>
 bif (!r1) then
  some ([])
 else
  impl_MatchSheet.l5 k g j i a0 a1 a2 a3 a4 a5 a6 a7 (fun x3 =>
   some ([])) (fun x4 =>
   some x4) k 0 []

def laws_eqIntSS.s4 {R : Type} (k : Nat) (v0 v1 : LL) (e0 e1 : Option R) (rec : Int → Option R) (v2 : Int) : Option R :=
 bif decide (v2 < (v0.length : Int)) then
  chk ((decide (0 ≤ v2)) && (decide (v2 < (v0.length : Int)))) <|
  chk ((decide (0 ≤ v2)) && (decide (v2 < (v1.length : Int)))) <|
  (laws_eqIntS.f k (v0.getD v2.toNat []) (v1.getD v2.toNat [])).bind fun r1 =>
  bif (!r1) then
   e0
  else
   rec (IntKind.wrap .i64 (v2 + 1))
 else
  e1
def laws_eqIntSS.l4 {R : Type} (k : Nat) (v0 v1 : LL) (e0 e1 : Option R) (n : Nat) (v2 : Int) : Option R :=
 V.iter (A := Int) (fun rec a => laws_eqIntSS.s4 k v0 v1 e0 e1 (fun c0 => rec c0) a) n v2
theorem laws_eqIntSS.l4_succ {R : Type} (k : Nat) (v0 v1 : LL) (e0 e1 : Option R) (n : Nat) (v2 : Int) : laws_eqIntSS.l4 (R := R) k v0 v1 e0 e1 (n + 1) v2 = laws_eqIntSS.s4 k v0 v1 e0 e1 (laws_eqIntSS.l4 k v0 v1 e0 e1 n) v2 := rfl
def laws_eqIntSS.f (k : Nat) (a g : LL) : Option (Bool) :=
 bif ((a.length : Int) != (g.length : Int)) then
  some false
 else
  laws_eqIntSS.l4 k a g (some false) (some true) k 0

def laws_markIntSS.s2 {R : Type} (k : Nat) (e0 : Int → LL → Option R) (rec : Int → Int → LL → Option R) (v0 v1 : Int) (v2 : LL) : Option R :=
 bif decide (v1 < (v2.length : Int)) then
  chk ((decide (0 ≤ v1)) && (decide (v1 < (v2.length : Int)))) <|
  chk (Nat.blt v1.toNat v2.length) <|
  (laws_markIntS.f k (v2.getD v1.toNat []) v0).bind fun r1 =>
  rec r1.1 (IntKind.wrap .i64 (v1 + 1)) (v2.set v1.toNat r1.2)
 else
  e0 v0 v2
def laws_markIntSS.l2 {R : Type} (k : Nat) (e0 : Int → LL → Option R) (n : Nat) (v0 v1 : Int) (v2 : LL) : Option R :=
 V.iter (A := Int × Int × LL) (fun rec a => laws_markIntSS.s2 k e0 (fun c0 c1 c2 => rec (c0, c1, c2)) a.1 a.2.1 (t2 a)) n (v0, v1, v2)
theorem laws_markIntSS.l2_succ {R : Type} (k : Nat) (e0 : Int → LL → Option R) (n : Nat) (v0 v1 : Int) (v2 : LL) : laws_markIntSS.l2 (R := R) k e0 (n + 1) v0 v1 v2 = laws_markIntSS.s2 k e0 (laws_markIntSS.l2 k e0 n) v0 v1 v2 := rfl
def laws_markIntSS.f (k : Nat) (a : LL) (g : Int) : Option (Int × LL) :=
 laws_markIntSS.l2 k (fun x2 x3 =>
  some (x2, x3)) k g 0 a

def laws_heldIntSS.s2 {R : Type} (k : Nat) (v0 : LL) (e0 e1 : Int → Option R) (rec : Int → Int → Option R) (v1 v2 : Int) : Option R :=
 bif decide (v2 < (v0.length : Int)) then
  chk ((decide (0 ≤ v2)) && (decide (v2 < (v0.length : Int)))) <|
  (laws_heldIntS.f k (v0.getD v2.toNat []) v1).bind fun r1 =>
  bif decide (r1 < 0) then
   e0 r1
  else
   rec r1 (IntKind.wrap .i64 (v2 + 1))
 else
  e1 v1
def laws_heldIntSS.l2 {R : Type} (k : Nat) (v0 : LL) (e0 e1 : Int → Option R) (n : Nat) (v1 v2 : Int) : Option R :=
 V.iter (A := Int × Int) (fun rec a => laws_heldIntSS.s2 k v0 e0 e1 (fun c0 c1 => rec (c0, c1)) a.1 a.2) n (v1, v2)
theorem laws_heldIntSS.l2_succ {R : Type} (k : Nat) (v0 : LL) (e0 e1 : Int → Option R) (n : Nat) (v1 v2 : Int) : laws_heldIntSS.l2 (R := R) k v0 e0 e1 (n + 1) v1 v2 = laws_heldIntSS.s2 k v0 e0 e1 (laws_heldIntSS.l2 k v0 e0 e1 n) v1 v2 := rfl
def laws_heldIntSS.f (k : Nat) (a : LL) (g : Int) : Option (Int) :=
 laws_heldIntSS.l2 k a (fun x2 =>
  some (-1)) (fun x3 =>
  some x3) k g 0

def laws_FnExactMatchSheet.f (k : Nat) (a0 a1 : Int) (a2 a3 : Bool) (a4 a5 : LI) (a6 a7 g i : Int) (j : LI) : Option (Bool) :=
 bif decide ((j.length : Int) > 1048576) then
  some true
 else
  (laws_szRules.f k a0 a1 a2 a3 a4 a5 a6 a7 1048576).bind fun r1 =>
  bif decide (r1 < 0) then
   some true
  else
   (laws_toRules.f k a0 a1 a2 a3 a4 a5 a6 a7).bind fun r2 =>
   (laws_toIntS.f k j).bind fun r3 =>
   (spec_MatchSheet.f k r2.1 r2.2.1 (t2 r2).1 (t3 r2).1 (t4 r2).1 (t5 r2).1 (t6 r2).1 (t7 r2) g i r3).bind fun r4 =>
   (laws_toRules.f k a0 a1 a2 a3 a4 a5 a6 a7).bind fun r5 =>
   (laws_toIntS.f k j).bind fun r6 =>
   (impl_MatchSheet.f k r5.1 r5.2.1 (t2 r5).1 (t3 r5).1 (t4 r5).1 (t5 r5).1 (t6 r5).1 (t7 r5) g i r6).bind fun r7 =>
   (laws_eqIntSS.f k r7 r4).bind fun r8 =>
   bif (!r8) then
    some false
   else
    (laws_toRules.f k a0 a1 a2 a3 a4 a5 a6 a7).bind fun r9 =>
    (laws_eqRules.f k r5.1 r5.2.1 (t2 r5).1 (t3 r5).1 (t4 r5).1 (t5 r5).1 (t6 r5).1 (t7 r5) r9.1 r9.2.1 (t2 r9).1 (t3 r9).1 (t4 r9).1 (t5 r9).1 (t6 r9).1 (t7 r9)).bind fun r10 =>
    bif (!r10) then
     some false
    else
     (laws_toIntS.f k j).bind fun r11 =>
     (laws_eqIntS.f k r6 r11).bind fun r12 =>
     bif (!r12) then
      some false
     else
      (laws_markRules.f k r5.1 r5.2.1 (t2 r5).1 (t3 r5).1 (t4 r5).1 (t5 r5).1 (t6 r5).1 (t7 r5) 1).bind fun r13 =>
      (laws_markIntS.f k r6 r13.1).bind fun r14 =>
      bif decide (r14.1 < 0) then
       some false
      else
       (laws_eqIntSS.f k r7 r4).bind fun r15 =>
       bif (!r15) then
        some false
       else
        (laws_markIntSS.f k r7 1).bind fun r16 =>
        (laws_heldIntSS.f k r16.2 1).bind fun r17 =>
        bif decide (r17 < 0) then
         some false
        else
         bif (r17 != r16.1) then
          some false
         else
          (laws_toRules.f k a0 a1 a2 a3 a4 a5 a6 a7).bind fun r18 =>
          (laws_toIntS.f k j).bind fun r19 =>
          (impl_MatchSheet.f k r18.1 r18.2.1 (t2 r18).1 (t3 r18).1 (t4 r18).1 (t5 r18).1 (t6 r18).1 (t7 r18) g i r19).bind fun r20 =>
          (laws_eqIntSS.f k r20 r4).bind fun r21 =>
          bif (!r21) then
           some false
          else
           (laws_heldIntSS.f k r16.2 1).bind fun r22 =>
           bif decide (r22 < 0) then
            some false
           else
            bif (r22 != r16.1) then
             some false
            else
             some true
end Go.Proofs.YtmdfedjdnjaaiaaGreat
