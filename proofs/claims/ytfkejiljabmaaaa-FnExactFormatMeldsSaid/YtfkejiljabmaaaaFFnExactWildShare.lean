/- Plain Lean functions, printed by a program out of the Go functions' translation: what each computes, without program and memory. -/
import Derived.Test.YtfkejiljabmaaaaFFnExactWinsOf
import Derived.Test.YtfkejiljabmaaaaFFnExactFormatMelds
import Derived.Test.YtfkejiljabmaaaaFFnExactIsRecorded
set_option linter.unusedVariables false
namespace Go.Proofs.Ytfkejiljabmaaaa
open Go Go.Proofs.Ytfkejiljabmaaaa.V

def spec_l8Leaf.f (k : Nat) (a0 : Int) : Option (Bool) :=
  (spec_l1In.f k a0 (100 : Int) (103 : Int)).bind fun r1 =>
  bif r1 then
    some true
  else
    (spec_l1In.f k a0 (200 : Int) (212 : Int)).bind fun r2 =>
    bif r2 then
      some true
    else
      (spec_l1In.f k a0 (300 : Int) (312 : Int)).bind fun r3 =>
      bif r3 then
        some true
      else
        some (a0 == (400 : Int))

def spec_IsPattern.s3 {R : Type} (k : Nat) (v3_0 : List Int) (e0 : Int → Option R) (e1 : Int → Option R) (rec : Int → Int → Option R) (v3_1 : Int) (v3_2 : Int) : Option R :=
  bif decide (v3_2 < (v3_0.length : Int)) then
    chk ((decide ((0 : Int) ≤ v3_2)) && (decide (v3_2 < (v3_0.length : Int)))) <|
    (spec_l8Leaf.f k (v3_0.getD v3_2.toNat 0)).bind fun r1 =>
    bif r1 then
      rec (IntKind.wrap .i64 (v3_1 + (1 : Int))) (IntKind.wrap .i64 (v3_2 + (1 : Int)))
    else
      chk ((decide ((0 : Int) ≤ v3_2)) && (decide (v3_2 < (v3_0.length : Int)))) <|
      bif ((v3_0.getD v3_2.toNat 0) == (-1 : Int)) then
        bif decide (v3_1 ≥ (1 : Int)) then
          rec v3_1 (IntKind.wrap .i64 (v3_2 + (1 : Int)))
        else
          chk ((decide ((0 : Int) ≤ v3_2)) && (decide (v3_2 < (v3_0.length : Int)))) <|
          bif ((v3_0.getD v3_2.toNat 0) == (-2 : Int)) then
            bif decide (v3_1 ≥ (2 : Int)) then
              rec (IntKind.wrap .i64 (v3_1 - (1 : Int))) (IntKind.wrap .i64 (v3_2 + (1 : Int)))
            else
              e0 v3_1
          else
            chk ((decide ((0 : Int) ≤ v3_2)) && (decide (v3_2 < (v3_0.length : Int)))) <|
            bif ((v3_0.getD v3_2.toNat 0) == (-3 : Int)) then
              bif decide (v3_1 ≥ (2 : Int)) then
                rec (IntKind.wrap .i64 (v3_1 - (1 : Int))) (IntKind.wrap .i64 (v3_2 + (1 : Int)))
              else
                e0 v3_1
            else
              e0 v3_1
      else
        chk ((decide ((0 : Int) ≤ v3_2)) && (decide (v3_2 < (v3_0.length : Int)))) <|
        bif ((v3_0.getD v3_2.toNat 0) == (-2 : Int)) then
          bif decide (v3_1 ≥ (2 : Int)) then
            rec (IntKind.wrap .i64 (v3_1 - (1 : Int))) (IntKind.wrap .i64 (v3_2 + (1 : Int)))
          else
            e0 v3_1
        else
          chk ((decide ((0 : Int) ≤ v3_2)) && (decide (v3_2 < (v3_0.length : Int)))) <|
          bif ((v3_0.getD v3_2.toNat 0) == (-3 : Int)) then
            bif decide (v3_1 ≥ (2 : Int)) then
              rec (IntKind.wrap .i64 (v3_1 - (1 : Int))) (IntKind.wrap .i64 (v3_2 + (1 : Int)))
            else
              e0 v3_1
          else
            e0 v3_1
  else
    e1 v3_1
def spec_IsPattern.l3 {R : Type} (k : Nat) (v3_0 : List Int) (e0 : Int → Option R) (e1 : Int → Option R) (n : Nat) (v3_1 : Int) (v3_2 : Int) : Option R :=
  V.iter (A := Int × Int) (fun rec a => spec_IsPattern.s3 k v3_0 e0 e1 (fun c0 c1 => rec (c0, c1)) a.1 a.2) n (v3_1, v3_2)
theorem spec_IsPattern.l3_zero {R : Type} (k : Nat) (v3_0 : List Int) (e0 : Int → Option R) (e1 : Int → Option R) (v3_1 : Int) (v3_2 : Int) : spec_IsPattern.l3 (R := R) k v3_0 e0 e1 0 v3_1 v3_2 = none := rfl
theorem spec_IsPattern.l3_succ {R : Type} (k : Nat) (v3_0 : List Int) (e0 : Int → Option R) (e1 : Int → Option R) (n : Nat) (v3_1 : Int) (v3_2 : Int) : spec_IsPattern.l3 (R := R) k v3_0 e0 e1 (n + 1) v3_1 v3_2 = spec_IsPattern.s3 k v3_0 e0 e1 (spec_IsPattern.l3 k v3_0 e0 e1 n) v3_1 v3_2 := rfl
def spec_IsPattern.f (k : Nat) (a0 : List Int) : Option (Bool) :=
  spec_IsPattern.l3 k a0 (fun x2 =>
    some false) (fun x3 =>
    bif (x3 == (1 : Int)) then
      some (decide ((a0.length : Int) ≤ (20 : Int)))
    else
      some false) k (0 : Int) (0 : Int)

def spec_l22Pattern.f (k : Nat) (a0 : List Int) : Option (Bool) :=
  bif ((a0.length : Int) == (0 : Int)) then
    some true
  else
    (spec_IsPattern.f k a0).bind fun r1 =>
    some r1

def spec_IsRules.f (k : Nat) (a0_0 : Int) (a0_1 : Int) (a0_2 : Bool) (a0_3 : Bool) (a0_4 : List Int) (a0_5 : List Int) (a0_6 : Int) (a0_7 : Int) : Option (Bool) :=
  (spec_l1In.f k a0_0 (2 : Int) (6 : Int)).bind fun r1 =>
  bif r1 then
    (spec_l1In.f k a0_1 (1 : Int) (8 : Int)).bind fun r2 =>
    bif r2 then
      bif a0_2 then
        (spec_l22Pattern.f k a0_4).bind fun r3 =>
        bif r3 then
          (spec_l22Pattern.f k a0_5).bind fun r4 =>
          bif r4 then
            (spec_l1In.f k a0_6 (1 : Int) (4 : Int)).bind fun r5 =>
            bif r5 then
              (spec_l1In.f k a0_7 (1 : Int) (400 : Int)).bind fun r6 =>
              some r6
            else
              some false
          else
            some false
        else
          some false
      else
        bif a0_3 then
          (spec_l22Pattern.f k a0_4).bind fun r7 =>
          bif r7 then
            (spec_l22Pattern.f k a0_5).bind fun r8 =>
            bif r8 then
              (spec_l1In.f k a0_6 (1 : Int) (4 : Int)).bind fun r9 =>
              bif r9 then
                (spec_l1In.f k a0_7 (1 : Int) (400 : Int)).bind fun r10 =>
                some r10
              else
                some false
            else
              some false
          else
            some false
        else
          some false
    else
      some false
  else
    some false

def spec_IsRed.f (k : Nat) (a0 : Int) : Option (Bool) :=
  (spec_SuitOf.f k a0).bind fun r1 =>
  (spec_l1In.f k r1 (1 : Int) (2 : Int)).bind fun r2 =>
  some r2

def spec_l8Value.f (k : Nat) (a0 : Int) (a1 : Int) : Option (Bool) :=
  bif (a0 == (400 : Int)) then
    (spec_IsRed.f k a1).bind fun r1 =>
    some r1
  else
    bif decide (a0 ≥ (300 : Int)) then
      (spec_RankOf.f k a1).bind fun r2 =>
      some (decide (r2 ≥ (IntKind.wrap .i64 (a0 - (300 : Int)))))
    else
      bif decide (a0 ≥ (200 : Int)) then
        (spec_RankOf.f k a1).bind fun r3 =>
        some (r3 == (IntKind.wrap .i64 (a0 - (200 : Int))))
      else
        (spec_SuitOf.f k a1).bind fun r4 =>
        some (r4 == (IntKind.wrap .i64 (a0 - (100 : Int))))

def spec_Matches.s5 {R : Type} (k : Nat) (v5_0 : List Int) (v5_1 : Int) (e0 : List Bool → Option R) (rec : Int → List Bool → Option R) (v5_2 : Int) (v5_3 : List Bool) : Option R :=
  bif decide (v5_2 < (v5_0.length : Int)) then
    chk ((decide ((0 : Int) ≤ v5_2)) && (decide (v5_2 < (v5_0.length : Int)))) <|
    bif ((v5_0.getD v5_2.toNat 0) == (-1 : Int)) then
      chk ((decide ((0 : Int) ≤ (IntKind.wrap .i64 ((v5_3.length : Int) - (1 : Int))))) && (decide ((IntKind.wrap .i64 ((v5_3.length : Int) - (1 : Int))) < (v5_3.length : Int)))) <|
      chk ((decide ((0 : Int) ≤ (IntKind.wrap .i64 ((v5_3.length : Int) - (1 : Int))))) && (decide ((IntKind.wrap .i64 ((v5_3.length : Int) - (1 : Int))) < (v5_3.length : Int)))) <|
      rec (IntKind.wrap .i64 (v5_2 + (1 : Int))) (v5_3.set ((IntKind.wrap .i64 ((v5_3.length : Int) - (1 : Int))).toNat) (!(v5_3.getD ((IntKind.wrap .i64 ((v5_3.length : Int) - (1 : Int))).toNat) false)))
    else
      bif ((v5_0.getD v5_2.toNat 0) == (-2 : Int)) then
        chk ((decide ((0 : Int) ≤ (IntKind.wrap .i64 ((v5_3.length : Int) - (2 : Int))))) && (decide ((IntKind.wrap .i64 ((v5_3.length : Int) - (2 : Int))) ≤ (v5_3.length : Int)))) <|
        chk (decide ((0 : Int) ≤ (IntKind.wrap .i64 ((v5_3.length : Int) - (2 : Int))))) <|
        chk ((decide ((0 : Int) ≤ (IntKind.wrap .i64 ((v5_3.length : Int) - (2 : Int))))) && (decide ((IntKind.wrap .i64 ((v5_3.length : Int) - (2 : Int))) < (v5_3.length : Int)))) <|
        bif (v5_3.getD ((IntKind.wrap .i64 ((v5_3.length : Int) - (2 : Int))).toNat) false) then
          chk ((decide ((0 : Int) ≤ (IntKind.wrap .i64 ((v5_3.length : Int) - (1 : Int))))) && (decide ((IntKind.wrap .i64 ((v5_3.length : Int) - (1 : Int))) < (v5_3.length : Int)))) <|
          chk (decide ((((v5_3.take ((IntKind.wrap .i64 ((v5_3.length : Int) - (2 : Int))).toNat)).length) + 1) * 1 ≤ room)) <|
          rec (IntKind.wrap .i64 (v5_2 + (1 : Int))) ((v5_3.take ((IntKind.wrap .i64 ((v5_3.length : Int) - (2 : Int))).toNat)) ++ [v5_3.getD ((IntKind.wrap .i64 ((v5_3.length : Int) - (1 : Int))).toNat) false])
        else
          chk (decide ((((v5_3.take ((IntKind.wrap .i64 ((v5_3.length : Int) - (2 : Int))).toNat)).length) + 1) * 1 ≤ room)) <|
          rec (IntKind.wrap .i64 (v5_2 + (1 : Int))) ((v5_3.take ((IntKind.wrap .i64 ((v5_3.length : Int) - (2 : Int))).toNat)) ++ [false])
      else
        bif ((v5_0.getD v5_2.toNat 0) == (-3 : Int)) then
          chk ((decide ((0 : Int) ≤ (IntKind.wrap .i64 ((v5_3.length : Int) - (2 : Int))))) && (decide ((IntKind.wrap .i64 ((v5_3.length : Int) - (2 : Int))) ≤ (v5_3.length : Int)))) <|
          chk (decide ((0 : Int) ≤ (IntKind.wrap .i64 ((v5_3.length : Int) - (2 : Int))))) <|
          chk ((decide ((0 : Int) ≤ (IntKind.wrap .i64 ((v5_3.length : Int) - (2 : Int))))) && (decide ((IntKind.wrap .i64 ((v5_3.length : Int) - (2 : Int))) < (v5_3.length : Int)))) <|
          bif (v5_3.getD ((IntKind.wrap .i64 ((v5_3.length : Int) - (2 : Int))).toNat) false) then
            chk (decide ((((v5_3.take ((IntKind.wrap .i64 ((v5_3.length : Int) - (2 : Int))).toNat)).length) + 1) * 1 ≤ room)) <|
            rec (IntKind.wrap .i64 (v5_2 + (1 : Int))) ((v5_3.take ((IntKind.wrap .i64 ((v5_3.length : Int) - (2 : Int))).toNat)) ++ [true])
          else
            chk ((decide ((0 : Int) ≤ (IntKind.wrap .i64 ((v5_3.length : Int) - (1 : Int))))) && (decide ((IntKind.wrap .i64 ((v5_3.length : Int) - (1 : Int))) < (v5_3.length : Int)))) <|
            chk (decide ((((v5_3.take ((IntKind.wrap .i64 ((v5_3.length : Int) - (2 : Int))).toNat)).length) + 1) * 1 ≤ room)) <|
            rec (IntKind.wrap .i64 (v5_2 + (1 : Int))) ((v5_3.take ((IntKind.wrap .i64 ((v5_3.length : Int) - (2 : Int))).toNat)) ++ [v5_3.getD ((IntKind.wrap .i64 ((v5_3.length : Int) - (1 : Int))).toNat) false])
        else
          chk ((decide ((0 : Int) ≤ v5_2)) && (decide (v5_2 < (v5_0.length : Int)))) <|
          (spec_l8Value.f k (v5_0.getD v5_2.toNat 0) v5_1).bind fun r3 =>
          chk (decide ((v5_3.length + 1) * 1 ≤ room)) <|
          rec (IntKind.wrap .i64 (v5_2 + (1 : Int))) (v5_3 ++ [r3])
  else
    e0 v5_3
def spec_Matches.l5 {R : Type} (k : Nat) (v5_0 : List Int) (v5_1 : Int) (e0 : List Bool → Option R) (n : Nat) (v5_2 : Int) (v5_3 : List Bool) : Option R :=
  V.iter (A := Int × List Bool) (fun rec a => spec_Matches.s5 k v5_0 v5_1 e0 (fun c0 c1 => rec (c0, c1)) a.1 a.2) n (v5_2, v5_3)
theorem spec_Matches.l5_zero {R : Type} (k : Nat) (v5_0 : List Int) (v5_1 : Int) (e0 : List Bool → Option R) (v5_2 : Int) (v5_3 : List Bool) : spec_Matches.l5 (R := R) k v5_0 v5_1 e0 0 v5_2 v5_3 = none := rfl
theorem spec_Matches.l5_succ {R : Type} (k : Nat) (v5_0 : List Int) (v5_1 : Int) (e0 : List Bool → Option R) (n : Nat) (v5_2 : Int) (v5_3 : List Bool) : spec_Matches.l5 (R := R) k v5_0 v5_1 e0 (n + 1) v5_2 v5_3 = spec_Matches.s5 k v5_0 v5_1 e0 (spec_Matches.l5 k v5_0 v5_1 e0 n) v5_2 v5_3 := rfl
def spec_Matches.f (k : Nat) (a0 : List Int) (a1 : Int) : Option (Bool) :=
  (spec_IsPattern.f k a0).bind fun r1 =>
  bif (!r1) then
    some false
  else
    (spec_IsCard.f k a1).bind fun r2 =>
    bif (!r2) then
      some false
    else
      spec_Matches.l5 k a0 a1 (fun x4 =>
        chk (decide ((0 : Int) < (x4.length : Int))) <|
        some (x4.getD 0 false)) k (0 : Int) []

def spec_MatchSet.s3 {R : Type} (k : Nat) (v3_0 : List Int) (e0 : List Int → Option R) (rec : Int → List Int → Option R) (v3_1 : Int) (v3_2 : List Int) : Option R :=
  bif decide (v3_1 < (52 : Int)) then
    (spec_Matches.f k v3_0 v3_1).bind fun r1 =>
    bif r1 then
      chk (decide ((v3_2.length + 1) * 8 ≤ room)) <|
      rec (IntKind.wrap .i64 (v3_1 + (1 : Int))) (v3_2 ++ [v3_1])
    else
      rec (IntKind.wrap .i64 (v3_1 + (1 : Int))) v3_2
  else
    e0 v3_2
def spec_MatchSet.l3 {R : Type} (k : Nat) (v3_0 : List Int) (e0 : List Int → Option R) (n : Nat) (v3_1 : Int) (v3_2 : List Int) : Option R :=
  V.iter (A := Int × List Int) (fun rec a => spec_MatchSet.s3 k v3_0 e0 (fun c0 c1 => rec (c0, c1)) a.1 a.2) n (v3_1, v3_2)
theorem spec_MatchSet.l3_zero {R : Type} (k : Nat) (v3_0 : List Int) (e0 : List Int → Option R) (v3_1 : Int) (v3_2 : List Int) : spec_MatchSet.l3 (R := R) k v3_0 e0 0 v3_1 v3_2 = none := rfl
theorem spec_MatchSet.l3_succ {R : Type} (k : Nat) (v3_0 : List Int) (e0 : List Int → Option R) (n : Nat) (v3_1 : Int) (v3_2 : List Int) : spec_MatchSet.l3 (R := R) k v3_0 e0 (n + 1) v3_1 v3_2 = spec_MatchSet.s3 k v3_0 e0 (spec_MatchSet.l3 k v3_0 e0 n) v3_1 v3_2 := rfl
def spec_MatchSet.f (k : Nat) (a0 : List Int) : Option (List Int) :=
  spec_MatchSet.l3 k a0 (fun x2 =>
    some x2) k (0 : Int) []

def spec_WildShare.f (k : Nat) (a0_0 : Int) (a0_1 : Int) (a0_2 : Bool) (a0_3 : Bool) (a0_4 : List Int) (a0_5 : List Int) (a0_6 : Int) (a0_7 : Int) : Option (Int) :=
  (spec_IsRules.f k a0_0 a0_1 a0_2 a0_3 a0_4 a0_5 a0_6 a0_7).bind fun r1 =>
  bif (!r1) then
    some (0 : Int)
  else
    (spec_MatchSet.f k a0_4).bind fun r2 =>
    some (IntKind.wrap .i64 ((IntKind.wrap .i64 ((100 : Int) * (r2.length : Int))).tdiv (52 : Int)))

def impl_isTest.f (k : Nat) (a0 : Int) : Option (Bool) :=
  (impl_InRange.f k a0 (100 : Int) (103 : Int)).bind fun r1 =>
  bif r1 then
    some true
  else
    (impl_InRange.f k a0 (200 : Int) (212 : Int)).bind fun r2 =>
    bif r2 then
      some true
    else
      (impl_InRange.f k a0 (300 : Int) (312 : Int)).bind fun r3 =>
      bif r3 then
        some true
      else
        some (a0 == (400 : Int))

def impl_IsPattern.s3 {R : Type} (k : Nat) (v3_2 : List Int) (v3_3 : Int) (e0 : Int → Option R) (e1 : Int → Option R) (rec : Int → Int → Option R) (v3_1 : Int) (v3_4 : Int) : Option R :=
  bif decide (v3_4 < v3_3) then
    chk ((decide ((0 : Int) ≤ v3_4)) && (decide (v3_4 < (v3_2.length : Int)))) <|
    (impl_isTest.f k (v3_2.getD v3_4.toNat 0)).bind fun r1 =>
    bif r1 then
      rec (IntKind.wrap .i64 (v3_1 + (1 : Int))) (IntKind.wrap .i64 (v3_4 + (1 : Int)))
    else
      bif ((v3_2.getD v3_4.toNat 0) == (-1 : Int)) then
        bif decide (v3_1 ≥ (1 : Int)) then
          rec v3_1 (IntKind.wrap .i64 (v3_4 + (1 : Int)))
        else
          bif ((v3_2.getD v3_4.toNat 0) == (-2 : Int)) then
            bif decide (v3_1 ≥ (2 : Int)) then
              rec (IntKind.wrap .i64 (v3_1 - (1 : Int))) (IntKind.wrap .i64 (v3_4 + (1 : Int)))
            else
              e0 v3_1
          else
            bif ((v3_2.getD v3_4.toNat 0) == (-3 : Int)) then
              bif decide (v3_1 ≥ (2 : Int)) then
                rec (IntKind.wrap .i64 (v3_1 - (1 : Int))) (IntKind.wrap .i64 (v3_4 + (1 : Int)))
              else
                e0 v3_1
            else
              e0 v3_1
      else
        bif ((v3_2.getD v3_4.toNat 0) == (-2 : Int)) then
          bif decide (v3_1 ≥ (2 : Int)) then
            rec (IntKind.wrap .i64 (v3_1 - (1 : Int))) (IntKind.wrap .i64 (v3_4 + (1 : Int)))
          else
            e0 v3_1
        else
          bif ((v3_2.getD v3_4.toNat 0) == (-3 : Int)) then
            bif decide (v3_1 ≥ (2 : Int)) then
              rec (IntKind.wrap .i64 (v3_1 - (1 : Int))) (IntKind.wrap .i64 (v3_4 + (1 : Int)))
            else
              e0 v3_1
          else
            e0 v3_1
  else
    e1 v3_1
def impl_IsPattern.l3 {R : Type} (k : Nat) (v3_2 : List Int) (v3_3 : Int) (e0 : Int → Option R) (e1 : Int → Option R) (n : Nat) (v3_1 : Int) (v3_4 : Int) : Option R :=
  V.iter (A := Int × Int) (fun rec a => impl_IsPattern.s3 k v3_2 v3_3 e0 e1 (fun c0 c1 => rec (c0, c1)) a.1 a.2) n (v3_1, v3_4)
theorem impl_IsPattern.l3_zero {R : Type} (k : Nat) (v3_2 : List Int) (v3_3 : Int) (e0 : Int → Option R) (e1 : Int → Option R) (v3_1 : Int) (v3_4 : Int) : impl_IsPattern.l3 (R := R) k v3_2 v3_3 e0 e1 0 v3_1 v3_4 = none := rfl
theorem impl_IsPattern.l3_succ {R : Type} (k : Nat) (v3_2 : List Int) (v3_3 : Int) (e0 : Int → Option R) (e1 : Int → Option R) (n : Nat) (v3_1 : Int) (v3_4 : Int) : impl_IsPattern.l3 (R := R) k v3_2 v3_3 e0 e1 (n + 1) v3_1 v3_4 = impl_IsPattern.s3 k v3_2 v3_3 e0 e1 (impl_IsPattern.l3 k v3_2 v3_3 e0 e1 n) v3_1 v3_4 := rfl
def impl_IsPattern.f (k : Nat) (a0 : List Int) : Option (Bool) :=
  impl_IsPattern.l3 k a0 (a0.length : Int) (fun x2 =>
    some false) (fun x3 =>
    (impl_InRange.f k (a0.length : Int) (1 : Int) (20 : Int)).bind fun r4 =>
    bif r4 then
      some (x3 == (1 : Int))
    else
      some false) k (0 : Int) (0 : Int)

def impl_isMaybe.f (k : Nat) (a0 : List Int) : Option (Bool) :=
  bif ((a0.length : Int) == (0 : Int)) then
    some true
  else
    (impl_IsPattern.f k a0).bind fun r1 =>
    some r1

def impl_IsRules.f (k : Nat) (a0_0 : Int) (a0_1 : Int) (a0_2 : Bool) (a0_3 : Bool) (a0_4 : List Int) (a0_5 : List Int) (a0_6 : Int) (a0_7 : Int) : Option (Bool) :=
  (impl_InRange.f k a0_0 (2 : Int) (6 : Int)).bind fun r1 =>
  bif r1 then
    (impl_InRange.f k a0_1 (1 : Int) (8 : Int)).bind fun r2 =>
    bif r2 then
      bif a0_2 then
        (impl_isMaybe.f k a0_4).bind fun r3 =>
        bif r3 then
          (impl_isMaybe.f k a0_5).bind fun r4 =>
          bif r4 then
            (impl_InRange.f k a0_6 (1 : Int) (4 : Int)).bind fun r5 =>
            bif r5 then
              (impl_InRange.f k a0_7 (1 : Int) (400 : Int)).bind fun r6 =>
              some r6
            else
              some false
          else
            some false
        else
          some false
      else
        bif a0_3 then
          (impl_isMaybe.f k a0_4).bind fun r7 =>
          bif r7 then
            (impl_isMaybe.f k a0_5).bind fun r8 =>
            bif r8 then
              (impl_InRange.f k a0_6 (1 : Int) (4 : Int)).bind fun r9 =>
              bif r9 then
                (impl_InRange.f k a0_7 (1 : Int) (400 : Int)).bind fun r10 =>
                some r10
              else
                some false
            else
              some false
          else
            some false
        else
          some false
    else
      some false
  else
    some false

def impl_RankOf.f (k : Nat) (a0 : Int) : Option (Int) :=
  (impl_IsCard.f k a0).bind fun r1 =>
  bif (!r1) then
    some (-1 : Int)
  else
    some (a0.tmod (13 : Int))

def impl_SuitOf.f (k : Nat) (a0 : Int) : Option (Int) :=
  (impl_IsCard.f k a0).bind fun r1 =>
  bif (!r1) then
    some (-1 : Int)
  else
    some (IntKind.wrap .i64 (a0.tdiv (13 : Int)))

def impl_IsRed.f (k : Nat) (a0 : Int) : Option (Bool) :=
  (impl_SuitOf.f k a0).bind fun r1 =>
  bif (r1 == (1 : Int)) then
    some true
  else
    (impl_SuitOf.f k a0).bind fun r2 =>
    some (r2 == (2 : Int))

def impl_asks.f (k : Nat) (a0 : Int) (a1 : Int) : Option (Bool) :=
  bif (a0 == (400 : Int)) then
    (impl_IsRed.f k a1).bind fun r1 =>
    some r1
  else
    bif decide (a0 ≥ (300 : Int)) then
      (impl_RankOf.f k a1).bind fun r2 =>
      some (decide (r2 ≥ (IntKind.wrap .i64 (a0 - (300 : Int)))))
    else
      bif decide (a0 ≥ (200 : Int)) then
        (impl_RankOf.f k a1).bind fun r3 =>
        some (r3 == (IntKind.wrap .i64 (a0 - (200 : Int))))
      else
        (impl_SuitOf.f k a1).bind fun r4 =>
        some (r4 == (IntKind.wrap .i64 (a0 - (100 : Int))))

def impl_Matches.s5 {R : Type} (k : Nat) (v5_0 : Int) (v5_1 : List Int) (v5_2 : Int) (e0 : List Bool → Option R) (rec : Int → List Bool → Option R) (v5_3 : Int) (v5_4 : List Bool) : Option R :=
  bif decide (v5_3 < v5_2) then
    chk ((decide ((0 : Int) ≤ v5_3)) && (decide (v5_3 < (v5_1.length : Int)))) <|
    bif ((v5_1.getD v5_3.toNat 0) == (-1 : Int)) then
      chk ((decide ((0 : Int) ≤ (IntKind.wrap .i64 ((v5_4.length : Int) - (1 : Int))))) && (decide ((IntKind.wrap .i64 ((v5_4.length : Int) - (1 : Int))) < (v5_4.length : Int)))) <|
      chk ((decide ((0 : Int) ≤ (IntKind.wrap .i64 ((v5_4.length : Int) - (1 : Int))))) && (decide ((IntKind.wrap .i64 ((v5_4.length : Int) - (1 : Int))) < (v5_4.length : Int)))) <|
      rec (IntKind.wrap .i64 (v5_3 + (1 : Int))) (v5_4.set ((IntKind.wrap .i64 ((v5_4.length : Int) - (1 : Int))).toNat) (!(v5_4.getD ((IntKind.wrap .i64 ((v5_4.length : Int) - (1 : Int))).toNat) false)))
    else
      bif ((v5_1.getD v5_3.toNat 0) == (-2 : Int)) then
        chk ((decide ((0 : Int) ≤ (IntKind.wrap .i64 ((v5_4.length : Int) - (2 : Int))))) && (decide ((IntKind.wrap .i64 ((v5_4.length : Int) - (2 : Int))) ≤ (v5_4.length : Int)))) <|
        chk (decide ((0 : Int) ≤ (IntKind.wrap .i64 ((v5_4.length : Int) - (2 : Int))))) <|
        chk ((decide ((0 : Int) ≤ (IntKind.wrap .i64 ((v5_4.length : Int) - (2 : Int))))) && (decide ((IntKind.wrap .i64 ((v5_4.length : Int) - (2 : Int))) < (v5_4.length : Int)))) <|
        bif (v5_4.getD ((IntKind.wrap .i64 ((v5_4.length : Int) - (2 : Int))).toNat) false) then
          chk ((decide ((0 : Int) ≤ (IntKind.wrap .i64 ((v5_4.length : Int) - (1 : Int))))) && (decide ((IntKind.wrap .i64 ((v5_4.length : Int) - (1 : Int))) < (v5_4.length : Int)))) <|
          chk (decide ((((v5_4.take ((IntKind.wrap .i64 ((v5_4.length : Int) - (2 : Int))).toNat)).length) + 1) * 1 ≤ room)) <|
          rec (IntKind.wrap .i64 (v5_3 + (1 : Int))) ((v5_4.take ((IntKind.wrap .i64 ((v5_4.length : Int) - (2 : Int))).toNat)) ++ [v5_4.getD ((IntKind.wrap .i64 ((v5_4.length : Int) - (1 : Int))).toNat) false])
        else
          chk (decide ((((v5_4.take ((IntKind.wrap .i64 ((v5_4.length : Int) - (2 : Int))).toNat)).length) + 1) * 1 ≤ room)) <|
          rec (IntKind.wrap .i64 (v5_3 + (1 : Int))) ((v5_4.take ((IntKind.wrap .i64 ((v5_4.length : Int) - (2 : Int))).toNat)) ++ [false])
      else
        bif ((v5_1.getD v5_3.toNat 0) == (-3 : Int)) then
          chk ((decide ((0 : Int) ≤ (IntKind.wrap .i64 ((v5_4.length : Int) - (2 : Int))))) && (decide ((IntKind.wrap .i64 ((v5_4.length : Int) - (2 : Int))) ≤ (v5_4.length : Int)))) <|
          chk (decide ((0 : Int) ≤ (IntKind.wrap .i64 ((v5_4.length : Int) - (2 : Int))))) <|
          chk ((decide ((0 : Int) ≤ (IntKind.wrap .i64 ((v5_4.length : Int) - (2 : Int))))) && (decide ((IntKind.wrap .i64 ((v5_4.length : Int) - (2 : Int))) < (v5_4.length : Int)))) <|
          bif (v5_4.getD ((IntKind.wrap .i64 ((v5_4.length : Int) - (2 : Int))).toNat) false) then
            chk (decide ((((v5_4.take ((IntKind.wrap .i64 ((v5_4.length : Int) - (2 : Int))).toNat)).length) + 1) * 1 ≤ room)) <|
            rec (IntKind.wrap .i64 (v5_3 + (1 : Int))) ((v5_4.take ((IntKind.wrap .i64 ((v5_4.length : Int) - (2 : Int))).toNat)) ++ [true])
          else
            chk ((decide ((0 : Int) ≤ (IntKind.wrap .i64 ((v5_4.length : Int) - (1 : Int))))) && (decide ((IntKind.wrap .i64 ((v5_4.length : Int) - (1 : Int))) < (v5_4.length : Int)))) <|
            chk (decide ((((v5_4.take ((IntKind.wrap .i64 ((v5_4.length : Int) - (2 : Int))).toNat)).length) + 1) * 1 ≤ room)) <|
            rec (IntKind.wrap .i64 (v5_3 + (1 : Int))) ((v5_4.take ((IntKind.wrap .i64 ((v5_4.length : Int) - (2 : Int))).toNat)) ++ [v5_4.getD ((IntKind.wrap .i64 ((v5_4.length : Int) - (1 : Int))).toNat) false])
        else
          (impl_asks.f k (v5_1.getD v5_3.toNat 0) v5_0).bind fun r3 =>
          chk (decide ((v5_4.length + 1) * 1 ≤ room)) <|
          rec (IntKind.wrap .i64 (v5_3 + (1 : Int))) (v5_4 ++ [r3])
  else
    e0 v5_4
def impl_Matches.l5 {R : Type} (k : Nat) (v5_0 : Int) (v5_1 : List Int) (v5_2 : Int) (e0 : List Bool → Option R) (n : Nat) (v5_3 : Int) (v5_4 : List Bool) : Option R :=
  V.iter (A := Int × List Bool) (fun rec a => impl_Matches.s5 k v5_0 v5_1 v5_2 e0 (fun c0 c1 => rec (c0, c1)) a.1 a.2) n (v5_3, v5_4)
theorem impl_Matches.l5_zero {R : Type} (k : Nat) (v5_0 : Int) (v5_1 : List Int) (v5_2 : Int) (e0 : List Bool → Option R) (v5_3 : Int) (v5_4 : List Bool) : impl_Matches.l5 (R := R) k v5_0 v5_1 v5_2 e0 0 v5_3 v5_4 = none := rfl
theorem impl_Matches.l5_succ {R : Type} (k : Nat) (v5_0 : Int) (v5_1 : List Int) (v5_2 : Int) (e0 : List Bool → Option R) (n : Nat) (v5_3 : Int) (v5_4 : List Bool) : impl_Matches.l5 (R := R) k v5_0 v5_1 v5_2 e0 (n + 1) v5_3 v5_4 = impl_Matches.s5 k v5_0 v5_1 v5_2 e0 (impl_Matches.l5 k v5_0 v5_1 v5_2 e0 n) v5_3 v5_4 := rfl
def impl_Matches.f (k : Nat) (a0 : List Int) (a1 : Int) : Option (Bool) :=
  (impl_IsPattern.f k a0).bind fun r1 =>
  bif (!r1) then
    some false
  else
    (impl_IsCard.f k a1).bind fun r2 =>
    bif (!r2) then
      some false
    else
      impl_Matches.l5 k a1 a0 (a0.length : Int) (fun x4 =>
        chk (decide ((0 : Int) < (x4.length : Int))) <|
        some (x4.getD 0 false)) k (0 : Int) []

def impl_MatchSet.s3 {R : Type} (k : Nat) (v3_0 : List Int) (e0 : List Int → Option R) (rec : Int → List Int → Option R) (v3_1 : Int) (v3_2 : List Int) : Option R :=
  bif decide (v3_1 < (52 : Int)) then
    (impl_Matches.f k v3_0 v3_1).bind fun r1 =>
    bif r1 then
      chk (decide ((v3_2.length + 1) * 8 ≤ room)) <|
      rec (IntKind.wrap .i64 (v3_1 + (1 : Int))) (v3_2 ++ [v3_1])
    else
      rec (IntKind.wrap .i64 (v3_1 + (1 : Int))) v3_2
  else
    e0 v3_2
def impl_MatchSet.l3 {R : Type} (k : Nat) (v3_0 : List Int) (e0 : List Int → Option R) (n : Nat) (v3_1 : Int) (v3_2 : List Int) : Option R :=
  V.iter (A := Int × List Int) (fun rec a => impl_MatchSet.s3 k v3_0 e0 (fun c0 c1 => rec (c0, c1)) a.1 a.2) n (v3_1, v3_2)
theorem impl_MatchSet.l3_zero {R : Type} (k : Nat) (v3_0 : List Int) (e0 : List Int → Option R) (v3_1 : Int) (v3_2 : List Int) : impl_MatchSet.l3 (R := R) k v3_0 e0 0 v3_1 v3_2 = none := rfl
theorem impl_MatchSet.l3_succ {R : Type} (k : Nat) (v3_0 : List Int) (e0 : List Int → Option R) (n : Nat) (v3_1 : Int) (v3_2 : List Int) : impl_MatchSet.l3 (R := R) k v3_0 e0 (n + 1) v3_1 v3_2 = impl_MatchSet.s3 k v3_0 e0 (impl_MatchSet.l3 k v3_0 e0 n) v3_1 v3_2 := rfl
def impl_MatchSet.f (k : Nat) (a0 : List Int) : Option (List Int) :=
  impl_MatchSet.l3 k a0 (fun x2 =>
    some x2) k (0 : Int) []

def impl_WildShare.f (k : Nat) (a0_0 : Int) (a0_1 : Int) (a0_2 : Bool) (a0_3 : Bool) (a0_4 : List Int) (a0_5 : List Int) (a0_6 : Int) (a0_7 : Int) : Option (Int) :=
  (impl_IsRules.f k a0_0 a0_1 a0_2 a0_3 a0_4 a0_5 a0_6 a0_7).bind fun r1 =>
  bif (!r1) then
    some (0 : Int)
  else
    (impl_MatchSet.f k a0_4).bind fun r2 =>
    some (IntKind.wrap .i64 ((IntKind.wrap .i64 ((100 : Int) * (r2.length : Int))).tdiv (52 : Int)))

def laws_FnExactWildShare.f (k : Nat) (a0_0 : Int) (a0_1 : Int) (a0_2 : Bool) (a0_3 : Bool) (a0_4 : List Int) (a0_5 : List Int) (a0_6 : Int) (a0_7 : Int) : Option (Bool) :=
  (laws_szRules.f k a0_0 a0_1 a0_2 a0_3 a0_4 a0_5 a0_6 a0_7 (1048576 : Int)).bind fun r1 =>
  bif decide (r1 < (0 : Int)) then
    some true
  else
    (laws_toRules.f k a0_0 a0_1 a0_2 a0_3 a0_4 a0_5 a0_6 a0_7).bind fun r2 =>
    (spec_WildShare.f k r2.1 r2.2.1 r2.2.2.1 r2.2.2.2.1 r2.2.2.2.2.1 r2.2.2.2.2.2.1 r2.2.2.2.2.2.2.1 r2.2.2.2.2.2.2.2).bind fun r3 =>
    (laws_toRules.f k a0_0 a0_1 a0_2 a0_3 a0_4 a0_5 a0_6 a0_7).bind fun r4 =>
    (impl_WildShare.f k r4.1 r4.2.1 r4.2.2.1 r4.2.2.2.1 r4.2.2.2.2.1 r4.2.2.2.2.2.1 r4.2.2.2.2.2.2.1 r4.2.2.2.2.2.2.2).bind fun r5 =>
    bif (r5 != r3) then
      some false
    else
      (laws_toRules.f k a0_0 a0_1 a0_2 a0_3 a0_4 a0_5 a0_6 a0_7).bind fun r6 =>
      (laws_eqRules.f k r4.1 r4.2.1 r4.2.2.1 r4.2.2.2.1 r4.2.2.2.2.1 r4.2.2.2.2.2.1 r4.2.2.2.2.2.2.1 r4.2.2.2.2.2.2.2 r6.1 r6.2.1 r6.2.2.1 r6.2.2.2.1 r6.2.2.2.2.1 r6.2.2.2.2.2.1 r6.2.2.2.2.2.2.1 r6.2.2.2.2.2.2.2).bind fun r7 =>
      bif (!r7) then
        some false
      else
        some true
end Go.Proofs.Ytfkejiljabmaaaa
