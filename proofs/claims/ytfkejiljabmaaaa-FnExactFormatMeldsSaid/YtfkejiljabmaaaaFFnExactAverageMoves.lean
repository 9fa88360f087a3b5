/- Plain Lean functions, printed by a program out of the Go functions' translation: what each computes, without program and memory. -/
import Derived.Test.YtfkejiljabmaaaaVEval
set_option linter.unusedVariables false
namespace Go.Proofs.Ytfkejiljabmaaaa
open Go Go.Proofs.Ytfkejiljabmaaaa.V

def laws_szIntS.f (k : Nat) (a0 : List Int) (a1 : Int) : Option (Int) :=
  bif decide ((IntKind.wrap .i64 (a1 - (a0.length : Int))) < (0 : Int)) then
    some (-1 : Int)
  else
    some (IntKind.wrap .i64 (a1 - (a0.length : Int)))

def laws_szIntSS.s5 {R : Type} (k : Nat) (v5_0 : List (List Int)) (e0 : Int → Option R) (e1 : Int → Option R) (rec : Int → Int → Option R) (v5_1 : Int) (v5_2 : Int) : Option R :=
  bif decide (v5_2 < (v5_0.length : Int)) then
    chk ((decide ((0 : Int) ≤ v5_2)) && (decide (v5_2 < (v5_0.length : Int)))) <|
    (laws_szIntS.f k (v5_0.getD v5_2.toNat []) v5_1).bind fun r1 =>
    bif decide (r1 < (0 : Int)) then
      e0 r1
    else
      rec r1 (IntKind.wrap .i64 (v5_2 + (1 : Int)))
  else
    e1 v5_1
def laws_szIntSS.l5 {R : Type} (k : Nat) (v5_0 : List (List Int)) (e0 : Int → Option R) (e1 : Int → Option R) (n : Nat) (v5_1 : Int) (v5_2 : Int) : Option R :=
  V.iter (A := Int × Int) (fun rec a => laws_szIntSS.s5 k v5_0 e0 e1 (fun c0 c1 => rec (c0, c1)) a.1 a.2) n (v5_1, v5_2)
theorem laws_szIntSS.l5_zero {R : Type} (k : Nat) (v5_0 : List (List Int)) (e0 : Int → Option R) (e1 : Int → Option R) (v5_1 : Int) (v5_2 : Int) : laws_szIntSS.l5 (R := R) k v5_0 e0 e1 0 v5_1 v5_2 = none := rfl
theorem laws_szIntSS.l5_succ {R : Type} (k : Nat) (v5_0 : List (List Int)) (e0 : Int → Option R) (e1 : Int → Option R) (n : Nat) (v5_1 : Int) (v5_2 : Int) : laws_szIntSS.l5 (R := R) k v5_0 e0 e1 (n + 1) v5_1 v5_2 = laws_szIntSS.s5 k v5_0 e0 e1 (laws_szIntSS.l5 k v5_0 e0 e1 n) v5_1 v5_2 := rfl
def laws_szIntSS.f (k : Nat) (a0 : List (List Int)) (a1 : Int) : Option (Int) :=
  bif decide ((IntKind.wrap .i64 (a1 - (a0.length : Int))) < (0 : Int)) then
    some (-1 : Int)
  else
    laws_szIntSS.l5 k a0 (fun x2 =>
      some (-1 : Int)) (fun x3 =>
      some x3) k (IntKind.wrap .i64 (a1 - (a0.length : Int))) (0 : Int)

def spec_AverageMoves.s3 {R : Type} (k : Nat) (v3_0 : List (List Int)) (e0 : Int → Option R) (rec : Int → Int → Option R) (v3_1 : Int) (v3_2 : Int) : Option R :=
  bif decide (v3_2 < (v3_0.length : Int)) then
    chk ((decide ((0 : Int) ≤ v3_2)) && (decide (v3_2 < (v3_0.length : Int)))) <|
    rec (IntKind.wrap .i64 (v3_1 + ((v3_0.getD v3_2.toNat []).length : Int))) (IntKind.wrap .i64 (v3_2 + (1 : Int)))
  else
    e0 v3_1
def spec_AverageMoves.l3 {R : Type} (k : Nat) (v3_0 : List (List Int)) (e0 : Int → Option R) (n : Nat) (v3_1 : Int) (v3_2 : Int) : Option R :=
  V.iter (A := Int × Int) (fun rec a => spec_AverageMoves.s3 k v3_0 e0 (fun c0 c1 => rec (c0, c1)) a.1 a.2) n (v3_1, v3_2)
theorem spec_AverageMoves.l3_zero {R : Type} (k : Nat) (v3_0 : List (List Int)) (e0 : Int → Option R) (v3_1 : Int) (v3_2 : Int) : spec_AverageMoves.l3 (R := R) k v3_0 e0 0 v3_1 v3_2 = none := rfl
theorem spec_AverageMoves.l3_succ {R : Type} (k : Nat) (v3_0 : List (List Int)) (e0 : Int → Option R) (n : Nat) (v3_1 : Int) (v3_2 : Int) : spec_AverageMoves.l3 (R := R) k v3_0 e0 (n + 1) v3_1 v3_2 = spec_AverageMoves.s3 k v3_0 e0 (spec_AverageMoves.l3 k v3_0 e0 n) v3_1 v3_2 := rfl
def spec_AverageMoves.f (k : Nat) (a0 : List (List Int)) : Option (Int) :=
  spec_AverageMoves.l3 k a0 (fun x1 =>
    bif ((a0.length : Int) == (0 : Int)) then
      some (0 : Int)
    else
      chk (!(decide ((a0.length : Int) = (0 : Int)))) <|
      some (IntKind.wrap .i64 (x1.tdiv (a0.length : Int)))) k (0 : Int) (0 : Int)

def laws_toIntS.s3 {R : Type} (k : Nat) (v3_0 : List Int) (e0 : List Int → Option R) (rec : Int → List Int → Option R) (v3_1 : Int) (v3_2 : List Int) : Option R :=
  bif decide (v3_1 < (v3_0.length : Int)) then
    chk ((decide ((0 : Int) ≤ v3_1)) && (decide (v3_1 < (v3_0.length : Int)))) <|
    chk ((decide ((0 : Int) ≤ v3_1)) && (decide (v3_1 < (v3_2.length : Int)))) <|
    rec (IntKind.wrap .i64 (v3_1 + (1 : Int))) (v3_2.set v3_1.toNat (v3_0.getD v3_1.toNat 0))
  else
    e0 v3_2
def laws_toIntS.l3 {R : Type} (k : Nat) (v3_0 : List Int) (e0 : List Int → Option R) (n : Nat) (v3_1 : Int) (v3_2 : List Int) : Option R :=
  V.iter (A := Int × List Int) (fun rec a => laws_toIntS.s3 k v3_0 e0 (fun c0 c1 => rec (c0, c1)) a.1 a.2) n (v3_1, v3_2)
theorem laws_toIntS.l3_zero {R : Type} (k : Nat) (v3_0 : List Int) (e0 : List Int → Option R) (v3_1 : Int) (v3_2 : List Int) : laws_toIntS.l3 (R := R) k v3_0 e0 0 v3_1 v3_2 = none := rfl
theorem laws_toIntS.l3_succ {R : Type} (k : Nat) (v3_0 : List Int) (e0 : List Int → Option R) (n : Nat) (v3_1 : Int) (v3_2 : List Int) : laws_toIntS.l3 (R := R) k v3_0 e0 (n + 1) v3_1 v3_2 = laws_toIntS.s3 k v3_0 e0 (laws_toIntS.l3 k v3_0 e0 n) v3_1 v3_2 := rfl
def laws_toIntS.f (k : Nat) (a0 : List Int) : Option (List Int) :=
  chk ((decide ((0 : Int) ≤ (a0.length : Int))) && (decide (((a0.length : Int).toNat) * 8 ≤ room))) <|
  laws_toIntS.l3 k a0 (fun x1 =>
    some x1) k (0 : Int) (List.replicate ((a0.length : Int).toNat) (0 : Int))

def laws_toIntSS.s3 {R : Type} (k : Nat) (v3_0 : List (List Int)) (e0 : List (List Int) → Option R) (rec : Int → List (List Int) → Option R) (v3_1 : Int) (v3_2 : List (List Int)) : Option R :=
  bif decide (v3_1 < (v3_0.length : Int)) then
    chk ((decide ((0 : Int) ≤ v3_1)) && (decide (v3_1 < (v3_0.length : Int)))) <|
    (laws_toIntS.f k (v3_0.getD v3_1.toNat [])).bind fun r1 =>
    chk ((decide ((0 : Int) ≤ v3_1)) && (decide (v3_1 < (v3_2.length : Int)))) <|
    rec (IntKind.wrap .i64 (v3_1 + (1 : Int))) (v3_2.set v3_1.toNat r1)
  else
    e0 v3_2
def laws_toIntSS.l3 {R : Type} (k : Nat) (v3_0 : List (List Int)) (e0 : List (List Int) → Option R) (n : Nat) (v3_1 : Int) (v3_2 : List (List Int)) : Option R :=
  V.iter (A := Int × List (List Int)) (fun rec a => laws_toIntSS.s3 k v3_0 e0 (fun c0 c1 => rec (c0, c1)) a.1 a.2) n (v3_1, v3_2)
theorem laws_toIntSS.l3_zero {R : Type} (k : Nat) (v3_0 : List (List Int)) (e0 : List (List Int) → Option R) (v3_1 : Int) (v3_2 : List (List Int)) : laws_toIntSS.l3 (R := R) k v3_0 e0 0 v3_1 v3_2 = none := rfl
theorem laws_toIntSS.l3_succ {R : Type} (k : Nat) (v3_0 : List (List Int)) (e0 : List (List Int) → Option R) (n : Nat) (v3_1 : Int) (v3_2 : List (List Int)) : laws_toIntSS.l3 (R := R) k v3_0 e0 (n + 1) v3_1 v3_2 = laws_toIntSS.s3 k v3_0 e0 (laws_toIntSS.l3 k v3_0 e0 n) v3_1 v3_2 := rfl
def laws_toIntSS.f (k : Nat) (a0 : List (List Int)) : Option (List (List Int)) :=
  chk ((decide ((0 : Int) ≤ (a0.length : Int))) && (decide (((a0.length : Int).toNat) * 24 ≤ room))) <|
  laws_toIntSS.l3 k a0 (fun x2 =>
    some x2) k (0 : Int) (List.replicate ((a0.length : Int).toNat) [])

def impl_TotalCards.s3 {R : Type} (k : Nat) (v3_1 : List (List Int)) (v3_2 : Int) (e0 : Int → Option R) (rec : Int → Int → Option R) (v3_0 : Int) (v3_3 : Int) : Option R :=
  bif decide (v3_3 < v3_2) then
    chk ((decide ((0 : Int) ≤ v3_3)) && (decide (v3_3 < (v3_1.length : Int)))) <|
    rec (IntKind.wrap .i64 (v3_0 + ((v3_1.getD v3_3.toNat []).length : Int))) (IntKind.wrap .i64 (v3_3 + (1 : Int)))
  else
    e0 v3_0
def impl_TotalCards.l3 {R : Type} (k : Nat) (v3_1 : List (List Int)) (v3_2 : Int) (e0 : Int → Option R) (n : Nat) (v3_0 : Int) (v3_3 : Int) : Option R :=
  V.iter (A := Int × Int) (fun rec a => impl_TotalCards.s3 k v3_1 v3_2 e0 (fun c0 c1 => rec (c0, c1)) a.1 a.2) n (v3_0, v3_3)
theorem impl_TotalCards.l3_zero {R : Type} (k : Nat) (v3_1 : List (List Int)) (v3_2 : Int) (e0 : Int → Option R) (v3_0 : Int) (v3_3 : Int) : impl_TotalCards.l3 (R := R) k v3_1 v3_2 e0 0 v3_0 v3_3 = none := rfl
theorem impl_TotalCards.l3_succ {R : Type} (k : Nat) (v3_1 : List (List Int)) (v3_2 : Int) (e0 : Int → Option R) (n : Nat) (v3_0 : Int) (v3_3 : Int) : impl_TotalCards.l3 (R := R) k v3_1 v3_2 e0 (n + 1) v3_0 v3_3 = impl_TotalCards.s3 k v3_1 v3_2 e0 (impl_TotalCards.l3 k v3_1 v3_2 e0 n) v3_0 v3_3 := rfl
def impl_TotalCards.f (k : Nat) (a0 : List (List Int)) : Option (Int) :=
  impl_TotalCards.l3 k a0 (a0.length : Int) (fun x1 =>
    some x1) k (0 : Int) (0 : Int)

def impl_AverageMoves.f (k : Nat) (a0 : List (List Int)) : Option (Int) :=
  bif ((a0.length : Int) == (0 : Int)) then
    some (0 : Int)
  else
    (impl_TotalCards.f k a0).bind fun r1 =>
    chk (!(decide ((a0.length : Int) = (0 : Int)))) <|
    some (IntKind.wrap .i64 (r1.tdiv (a0.length : Int)))

def laws_eqIntS.s4 {R : Type} (k : Nat) (v4_0 : List Int) (v4_1 : List Int) (e0 : Option R) (e1 : Option R) (rec : Int → Option R) (v4_2 : Int) : Option R :=
  bif decide (v4_2 < (v4_0.length : Int)) then
    chk ((decide ((0 : Int) ≤ v4_2)) && (decide (v4_2 < (v4_0.length : Int)))) <|
    chk ((decide ((0 : Int) ≤ v4_2)) && (decide (v4_2 < (v4_1.length : Int)))) <|
    bif ((v4_0.getD v4_2.toNat 0) != (v4_1.getD v4_2.toNat 0)) then
      e0
    else
      rec (IntKind.wrap .i64 (v4_2 + (1 : Int)))
  else
    e1
def laws_eqIntS.l4 {R : Type} (k : Nat) (v4_0 : List Int) (v4_1 : List Int) (e0 : Option R) (e1 : Option R) (n : Nat) (v4_2 : Int) : Option R :=
  V.iter (A := Int) (fun rec a => laws_eqIntS.s4 k v4_0 v4_1 e0 e1 (fun c0 => rec c0) a) n v4_2
theorem laws_eqIntS.l4_zero {R : Type} (k : Nat) (v4_0 : List Int) (v4_1 : List Int) (e0 : Option R) (e1 : Option R) (v4_2 : Int) : laws_eqIntS.l4 (R := R) k v4_0 v4_1 e0 e1 0 v4_2 = none := rfl
theorem laws_eqIntS.l4_succ {R : Type} (k : Nat) (v4_0 : List Int) (v4_1 : List Int) (e0 : Option R) (e1 : Option R) (n : Nat) (v4_2 : Int) : laws_eqIntS.l4 (R := R) k v4_0 v4_1 e0 e1 (n + 1) v4_2 = laws_eqIntS.s4 k v4_0 v4_1 e0 e1 (laws_eqIntS.l4 k v4_0 v4_1 e0 e1 n) v4_2 := rfl
def laws_eqIntS.f (k : Nat) (a0 : List Int) (a1 : List Int) : Option (Bool) :=
  bif ((a0.length : Int) != (a1.length : Int)) then
    some false
  else
    laws_eqIntS.l4 k a0 a1 (some false) (some true) k (0 : Int)

def laws_eqIntSS.s4 {R : Type} (k : Nat) (v4_0 : List (List Int)) (v4_1 : List (List Int)) (e0 : Option R) (e1 : Option R) (rec : Int → Option R) (v4_2 : Int) : Option R :=
  bif decide (v4_2 < (v4_0.length : Int)) then
    chk ((decide ((0 : Int) ≤ v4_2)) && (decide (v4_2 < (v4_0.length : Int)))) <|
    chk ((decide ((0 : Int) ≤ v4_2)) && (decide (v4_2 < (v4_1.length : Int)))) <|
    (laws_eqIntS.f k (v4_0.getD v4_2.toNat []) (v4_1.getD v4_2.toNat [])).bind fun r1 =>
    bif (!r1) then
      e0
    else
      rec (IntKind.wrap .i64 (v4_2 + (1 : Int)))
  else
    e1
def laws_eqIntSS.l4 {R : Type} (k : Nat) (v4_0 : List (List Int)) (v4_1 : List (List Int)) (e0 : Option R) (e1 : Option R) (n : Nat) (v4_2 : Int) : Option R :=
  V.iter (A := Int) (fun rec a => laws_eqIntSS.s4 k v4_0 v4_1 e0 e1 (fun c0 => rec c0) a) n v4_2
theorem laws_eqIntSS.l4_zero {R : Type} (k : Nat) (v4_0 : List (List Int)) (v4_1 : List (List Int)) (e0 : Option R) (e1 : Option R) (v4_2 : Int) : laws_eqIntSS.l4 (R := R) k v4_0 v4_1 e0 e1 0 v4_2 = none := rfl
theorem laws_eqIntSS.l4_succ {R : Type} (k : Nat) (v4_0 : List (List Int)) (v4_1 : List (List Int)) (e0 : Option R) (e1 : Option R) (n : Nat) (v4_2 : Int) : laws_eqIntSS.l4 (R := R) k v4_0 v4_1 e0 e1 (n + 1) v4_2 = laws_eqIntSS.s4 k v4_0 v4_1 e0 e1 (laws_eqIntSS.l4 k v4_0 v4_1 e0 e1 n) v4_2 := rfl
def laws_eqIntSS.f (k : Nat) (a0 : List (List Int)) (a1 : List (List Int)) : Option (Bool) :=
  bif ((a0.length : Int) != (a1.length : Int)) then
    some false
  else
    laws_eqIntSS.l4 k a0 a1 (some false) (some true) k (0 : Int)

def laws_FnExactAverageMoves.f (k : Nat) (a0 : List (List Int)) : Option (Bool) :=
  (laws_szIntSS.f k a0 (1048576 : Int)).bind fun r1 =>
  bif decide (r1 < (0 : Int)) then
    some true
  else
    (laws_toIntSS.f k a0).bind fun r2 =>
    (spec_AverageMoves.f k r2).bind fun r3 =>
    (laws_toIntSS.f k a0).bind fun r4 =>
    (impl_AverageMoves.f k r4).bind fun r5 =>
    bif (r5 != r3) then
      some false
    else
      (laws_toIntSS.f k a0).bind fun r6 =>
      (laws_eqIntSS.f k r4 r6).bind fun r7 =>
      bif (!r7) then
        some false
      else
        some true
end Go.Proofs.Ytfkejiljabmaaaa
