/- Plain Lean functions, printed by a program out of the Go functions' translation: what each computes, without program and memory. -/
import Derived.Test.YtfkejiljabmaaaaFFnExactAverageMoves
set_option linter.unusedVariables false
namespace Go.Proofs.Ytfkejiljabmaaaa
open Go Go.Proofs.Ytfkejiljabmaaaa.V

def spec_l1In.f (k : Nat) (a0 : Int) (a1 : Int) (a2 : Int) : Option (Bool) :=
  bif decide (a0 ≥ a1) then
    some (decide (a0 ≤ a2))
  else
    some false

def spec_IsRound.s3 {R : Type} (k : Nat) (v3_1 : List Int) (e0 : Int → Option R) (e1 : Int → Option R) (rec : Int → Int → Option R) (v3_2 : Int) (v3_3 : Int) : Option R :=
  bif decide (v3_3 < (v3_1.length : Int)) then
    chk ((decide ((0 : Int) ≤ v3_3)) && (decide (v3_3 < (v3_1.length : Int)))) <|
    (spec_l1In.f k (v3_1.getD v3_3.toNat 0) (-1000 : Int) (1000 : Int)).bind fun r1 =>
    bif (!r1) then
      e0 v3_2
    else
      chk ((decide ((0 : Int) ≤ v3_3)) && (decide (v3_3 < (v3_1.length : Int)))) <|
      rec (IntKind.wrap .i64 (v3_2 + (v3_1.getD v3_3.toNat 0))) (IntKind.wrap .i64 (v3_3 + (1 : Int)))
  else
    e1 v3_2
def spec_IsRound.l3 {R : Type} (k : Nat) (v3_1 : List Int) (e0 : Int → Option R) (e1 : Int → Option R) (n : Nat) (v3_2 : Int) (v3_3 : Int) : Option R :=
  V.iter (A := Int × Int) (fun rec a => spec_IsRound.s3 k v3_1 e0 e1 (fun c0 c1 => rec (c0, c1)) a.1 a.2) n (v3_2, v3_3)
theorem spec_IsRound.l3_zero {R : Type} (k : Nat) (v3_1 : List Int) (e0 : Int → Option R) (e1 : Int → Option R) (v3_2 : Int) (v3_3 : Int) : spec_IsRound.l3 (R := R) k v3_1 e0 e1 0 v3_2 v3_3 = none := rfl
theorem spec_IsRound.l3_succ {R : Type} (k : Nat) (v3_1 : List Int) (e0 : Int → Option R) (e1 : Int → Option R) (n : Nat) (v3_2 : Int) (v3_3 : Int) : spec_IsRound.l3 (R := R) k v3_1 e0 e1 (n + 1) v3_2 v3_3 = spec_IsRound.s3 k v3_1 e0 e1 (spec_IsRound.l3 k v3_1 e0 e1 n) v3_2 v3_3 := rfl
def spec_IsRound.f (k : Nat) (a0 : Int) (a1 : List Int) : Option (Bool) :=
  spec_IsRound.l3 k a1 (fun x2 =>
    some false) (fun x3 =>
    (spec_l1In.f k a0 (2 : Int) (6 : Int)).bind fun r4 =>
    bif r4 then
      bif ((a1.length : Int) == a0) then
        some (x3 == (0 : Int))
      else
        some false
    else
      some false) k (0 : Int) (0 : Int)

def spec_IsSheet.s2 {R : Type} (k : Nat) (v2_0 : Int) (v2_1 : List (List Int)) (e0 : Option R) (e1 : Option R) (rec : Int → Option R) (v2_2 : Int) : Option R :=
  bif decide (v2_2 < (v2_1.length : Int)) then
    chk ((decide ((0 : Int) ≤ v2_2)) && (decide (v2_2 < (v2_1.length : Int)))) <|
    (spec_IsRound.f k v2_0 (v2_1.getD v2_2.toNat [])).bind fun r1 =>
    bif (!r1) then
      e0
    else
      rec (IntKind.wrap .i64 (v2_2 + (1 : Int)))
  else
    e1
def spec_IsSheet.l2 {R : Type} (k : Nat) (v2_0 : Int) (v2_1 : List (List Int)) (e0 : Option R) (e1 : Option R) (n : Nat) (v2_2 : Int) : Option R :=
  V.iter (A := Int) (fun rec a => spec_IsSheet.s2 k v2_0 v2_1 e0 e1 (fun c0 => rec c0) a) n v2_2
theorem spec_IsSheet.l2_zero {R : Type} (k : Nat) (v2_0 : Int) (v2_1 : List (List Int)) (e0 : Option R) (e1 : Option R) (v2_2 : Int) : spec_IsSheet.l2 (R := R) k v2_0 v2_1 e0 e1 0 v2_2 = none := rfl
theorem spec_IsSheet.l2_succ {R : Type} (k : Nat) (v2_0 : Int) (v2_1 : List (List Int)) (e0 : Option R) (e1 : Option R) (n : Nat) (v2_2 : Int) : spec_IsSheet.l2 (R := R) k v2_0 v2_1 e0 e1 (n + 1) v2_2 = spec_IsSheet.s2 k v2_0 v2_1 e0 e1 (spec_IsSheet.l2 k v2_0 v2_1 e0 e1 n) v2_2 := rfl
def spec_IsSheet.f (k : Nat) (a0 : Int) (a1 : List (List Int)) : Option (Bool) :=
  spec_IsSheet.l2 k a0 a1 (some false) ((spec_l1In.f k a0 (2 : Int) (6 : Int)).bind fun r2 =>
    bif r2 then
      some (decide ((a1.length : Int) ≤ (50 : Int)))
    else
      some false) k (0 : Int)

def spec_WinsOf.s3 {R : Type} (k : Nat) (v3_0 : Int) (v3_1 : List (List Int)) (v3_2 : Int) (e0 : Int → Option R) (rec : Int → Int → Option R) (v3_3 : Int) (v3_4 : Int) : Option R :=
  bif decide (v3_4 < (v3_1.length : Int)) then
    (spec_IsSheet.f k v3_0 v3_1).bind fun r1 =>
    bif r1 then
      (spec_l1In.f k v3_2 (0 : Int) (IntKind.wrap .i64 (v3_0 - (1 : Int)))).bind fun r2 =>
      bif r2 then
        chk ((decide ((0 : Int) ≤ v3_4)) && (decide (v3_4 < (v3_1.length : Int)))) <|
        chk ((decide ((0 : Int) ≤ v3_2)) && (decide (v3_2 < ((v3_1.getD v3_4.toNat []).length : Int)))) <|
        bif decide (((v3_1.getD v3_4.toNat []).getD v3_2.toNat 0) > (0 : Int)) then
          rec (IntKind.wrap .i64 (v3_3 + (1 : Int))) (IntKind.wrap .i64 (v3_4 + (1 : Int)))
        else
          rec v3_3 (IntKind.wrap .i64 (v3_4 + (1 : Int)))
      else
        e0 v3_3
    else
      e0 v3_3
  else
    e0 v3_3
def spec_WinsOf.l3 {R : Type} (k : Nat) (v3_0 : Int) (v3_1 : List (List Int)) (v3_2 : Int) (e0 : Int → Option R) (n : Nat) (v3_3 : Int) (v3_4 : Int) : Option R :=
  V.iter (A := Int × Int) (fun rec a => spec_WinsOf.s3 k v3_0 v3_1 v3_2 e0 (fun c0 c1 => rec (c0, c1)) a.1 a.2) n (v3_3, v3_4)
theorem spec_WinsOf.l3_zero {R : Type} (k : Nat) (v3_0 : Int) (v3_1 : List (List Int)) (v3_2 : Int) (e0 : Int → Option R) (v3_3 : Int) (v3_4 : Int) : spec_WinsOf.l3 (R := R) k v3_0 v3_1 v3_2 e0 0 v3_3 v3_4 = none := rfl
theorem spec_WinsOf.l3_succ {R : Type} (k : Nat) (v3_0 : Int) (v3_1 : List (List Int)) (v3_2 : Int) (e0 : Int → Option R) (n : Nat) (v3_3 : Int) (v3_4 : Int) : spec_WinsOf.l3 (R := R) k v3_0 v3_1 v3_2 e0 (n + 1) v3_3 v3_4 = spec_WinsOf.s3 k v3_0 v3_1 v3_2 e0 (spec_WinsOf.l3 k v3_0 v3_1 v3_2 e0 n) v3_3 v3_4 := rfl
def spec_WinsOf.f (k : Nat) (a0 : Int) (a1 : List (List Int)) (a2 : Int) : Option (Int) :=
  spec_WinsOf.l3 k a0 a1 a2 (fun x3 =>
    some x3) k (0 : Int) (0 : Int)

def impl_InRange.f (k : Nat) (a0 : Int) (a1 : Int) (a2 : Int) : Option (Bool) :=
  bif decide (a1 ≤ a0) then
    some (decide (a0 ≤ a2))
  else
    some false

def impl_allIn.s2 {R : Type} (k : Nat) (v2_0 : Int) (v2_1 : Int) (v2_2 : List Int) (v2_3 : Int) (e0 : Option R) (e1 : Option R) (rec : Int → Option R) (v2_4 : Int) : Option R :=
  bif decide (v2_4 < v2_3) then
    chk ((decide ((0 : Int) ≤ v2_4)) && (decide (v2_4 < (v2_2.length : Int)))) <|
    (impl_InRange.f k (v2_2.getD v2_4.toNat 0) v2_0 v2_1).bind fun r1 =>
    bif (!r1) then
      e0
    else
      rec (IntKind.wrap .i64 (v2_4 + (1 : Int)))
  else
    e1
def impl_allIn.l2 {R : Type} (k : Nat) (v2_0 : Int) (v2_1 : Int) (v2_2 : List Int) (v2_3 : Int) (e0 : Option R) (e1 : Option R) (n : Nat) (v2_4 : Int) : Option R :=
  V.iter (A := Int) (fun rec a => impl_allIn.s2 k v2_0 v2_1 v2_2 v2_3 e0 e1 (fun c0 => rec c0) a) n v2_4
theorem impl_allIn.l2_zero {R : Type} (k : Nat) (v2_0 : Int) (v2_1 : Int) (v2_2 : List Int) (v2_3 : Int) (e0 : Option R) (e1 : Option R) (v2_4 : Int) : impl_allIn.l2 (R := R) k v2_0 v2_1 v2_2 v2_3 e0 e1 0 v2_4 = none := rfl
theorem impl_allIn.l2_succ {R : Type} (k : Nat) (v2_0 : Int) (v2_1 : Int) (v2_2 : List Int) (v2_3 : Int) (e0 : Option R) (e1 : Option R) (n : Nat) (v2_4 : Int) : impl_allIn.l2 (R := R) k v2_0 v2_1 v2_2 v2_3 e0 e1 (n + 1) v2_4 = impl_allIn.s2 k v2_0 v2_1 v2_2 v2_3 e0 e1 (impl_allIn.l2 k v2_0 v2_1 v2_2 v2_3 e0 e1 n) v2_4 := rfl
def impl_allIn.f (k : Nat) (a0 : List Int) (a1 : Int) (a2 : Int) : Option (Bool) :=
  impl_allIn.l2 k a1 a2 a0 (a0.length : Int) (some false) (some true) k (0 : Int)

def impl_sum.s3 {R : Type} (k : Nat) (v3_1 : List Int) (v3_2 : Int) (e0 : Int → Option R) (rec : Int → Int → Option R) (v3_0 : Int) (v3_3 : Int) : Option R :=
  bif decide (v3_3 < v3_2) then
    chk ((decide ((0 : Int) ≤ v3_3)) && (decide (v3_3 < (v3_1.length : Int)))) <|
    rec (IntKind.wrap .i64 (v3_0 + (v3_1.getD v3_3.toNat 0))) (IntKind.wrap .i64 (v3_3 + (1 : Int)))
  else
    e0 v3_0
def impl_sum.l3 {R : Type} (k : Nat) (v3_1 : List Int) (v3_2 : Int) (e0 : Int → Option R) (n : Nat) (v3_0 : Int) (v3_3 : Int) : Option R :=
  V.iter (A := Int × Int) (fun rec a => impl_sum.s3 k v3_1 v3_2 e0 (fun c0 c1 => rec (c0, c1)) a.1 a.2) n (v3_0, v3_3)
theorem impl_sum.l3_zero {R : Type} (k : Nat) (v3_1 : List Int) (v3_2 : Int) (e0 : Int → Option R) (v3_0 : Int) (v3_3 : Int) : impl_sum.l3 (R := R) k v3_1 v3_2 e0 0 v3_0 v3_3 = none := rfl
theorem impl_sum.l3_succ {R : Type} (k : Nat) (v3_1 : List Int) (v3_2 : Int) (e0 : Int → Option R) (n : Nat) (v3_0 : Int) (v3_3 : Int) : impl_sum.l3 (R := R) k v3_1 v3_2 e0 (n + 1) v3_0 v3_3 = impl_sum.s3 k v3_1 v3_2 e0 (impl_sum.l3 k v3_1 v3_2 e0 n) v3_0 v3_3 := rfl
def impl_sum.f (k : Nat) (a0 : List Int) : Option (Int) :=
  impl_sum.l3 k a0 (a0.length : Int) (fun x1 =>
    some x1) k (0 : Int) (0 : Int)

def impl_IsRound.f (k : Nat) (a0 : Int) (a1 : List Int) : Option (Bool) :=
  (impl_InRange.f k a0 (2 : Int) (6 : Int)).bind fun r1 =>
  bif r1 then
    bif ((a1.length : Int) == a0) then
      (impl_allIn.f k a1 (-1000 : Int) (1000 : Int)).bind fun r2 =>
      bif r2 then
        (impl_sum.f k a1).bind fun r3 =>
        some (r3 == (0 : Int))
      else
        some false
    else
      some false
  else
    some false

def impl_IsSheet.s2 {R : Type} (k : Nat) (v2_0 : Int) (v2_2 : List (List Int)) (v2_3 : Int) (e0 : Option R) (e1 : Option R) (rec : Int → Option R) (v2_4 : Int) : Option R :=
  bif decide (v2_4 < v2_3) then
    chk ((decide ((0 : Int) ≤ v2_4)) && (decide (v2_4 < (v2_2.length : Int)))) <|
    (impl_IsRound.f k v2_0 (v2_2.getD v2_4.toNat [])).bind fun r1 =>
    bif (!r1) then
      e0
    else
      rec (IntKind.wrap .i64 (v2_4 + (1 : Int)))
  else
    e1
def impl_IsSheet.l2 {R : Type} (k : Nat) (v2_0 : Int) (v2_2 : List (List Int)) (v2_3 : Int) (e0 : Option R) (e1 : Option R) (n : Nat) (v2_4 : Int) : Option R :=
  V.iter (A := Int) (fun rec a => impl_IsSheet.s2 k v2_0 v2_2 v2_3 e0 e1 (fun c0 => rec c0) a) n v2_4
theorem impl_IsSheet.l2_zero {R : Type} (k : Nat) (v2_0 : Int) (v2_2 : List (List Int)) (v2_3 : Int) (e0 : Option R) (e1 : Option R) (v2_4 : Int) : impl_IsSheet.l2 (R := R) k v2_0 v2_2 v2_3 e0 e1 0 v2_4 = none := rfl
theorem impl_IsSheet.l2_succ {R : Type} (k : Nat) (v2_0 : Int) (v2_2 : List (List Int)) (v2_3 : Int) (e0 : Option R) (e1 : Option R) (n : Nat) (v2_4 : Int) : impl_IsSheet.l2 (R := R) k v2_0 v2_2 v2_3 e0 e1 (n + 1) v2_4 = impl_IsSheet.s2 k v2_0 v2_2 v2_3 e0 e1 (impl_IsSheet.l2 k v2_0 v2_2 v2_3 e0 e1 n) v2_4 := rfl
def impl_IsSheet.f (k : Nat) (a0 : Int) (a1 : List (List Int)) : Option (Bool) :=
  impl_IsSheet.l2 k a0 a1 (a1.length : Int) (some false) ((impl_InRange.f k a0 (2 : Int) (6 : Int)).bind fun r2 =>
    bif r2 then
      some (decide ((a1.length : Int) ≤ (50 : Int)))
    else
      some false) k (0 : Int)

def impl_WinsOf.s5 {R : Type} (k : Nat) (v5_0 : Int) (v5_2 : List (List Int)) (v5_3 : Int) (e0 : Int → Option R) (rec : Int → Int → Option R) (v5_1 : Int) (v5_4 : Int) : Option R :=
  bif decide (v5_4 < v5_3) then
    chk ((decide ((0 : Int) ≤ v5_4)) && (decide (v5_4 < (v5_2.length : Int)))) <|
    chk ((decide ((0 : Int) ≤ v5_0)) && (decide (v5_0 < ((v5_2.getD v5_4.toNat []).length : Int)))) <|
    bif decide (((v5_2.getD v5_4.toNat []).getD v5_0.toNat 0) > (0 : Int)) then
      rec (IntKind.wrap .i64 (v5_1 + (1 : Int))) (IntKind.wrap .i64 (v5_4 + (1 : Int)))
    else
      rec v5_1 (IntKind.wrap .i64 (v5_4 + (1 : Int)))
  else
    e0 v5_1
def impl_WinsOf.l5 {R : Type} (k : Nat) (v5_0 : Int) (v5_2 : List (List Int)) (v5_3 : Int) (e0 : Int → Option R) (n : Nat) (v5_1 : Int) (v5_4 : Int) : Option R :=
  V.iter (A := Int × Int) (fun rec a => impl_WinsOf.s5 k v5_0 v5_2 v5_3 e0 (fun c0 c1 => rec (c0, c1)) a.1 a.2) n (v5_1, v5_4)
theorem impl_WinsOf.l5_zero {R : Type} (k : Nat) (v5_0 : Int) (v5_2 : List (List Int)) (v5_3 : Int) (e0 : Int → Option R) (v5_1 : Int) (v5_4 : Int) : impl_WinsOf.l5 (R := R) k v5_0 v5_2 v5_3 e0 0 v5_1 v5_4 = none := rfl
theorem impl_WinsOf.l5_succ {R : Type} (k : Nat) (v5_0 : Int) (v5_2 : List (List Int)) (v5_3 : Int) (e0 : Int → Option R) (n : Nat) (v5_1 : Int) (v5_4 : Int) : impl_WinsOf.l5 (R := R) k v5_0 v5_2 v5_3 e0 (n + 1) v5_1 v5_4 = impl_WinsOf.s5 k v5_0 v5_2 v5_3 e0 (impl_WinsOf.l5 k v5_0 v5_2 v5_3 e0 n) v5_1 v5_4 := rfl
def impl_WinsOf.f (k : Nat) (a0 : Int) (a1 : List (List Int)) (a2 : Int) : Option (Int) :=
  (impl_IsSheet.f k a0 a1).bind fun r1 =>
  bif (!r1) then
    some (0 : Int)
  else
    (impl_InRange.f k a2 (0 : Int) (IntKind.wrap .i64 (a0 - (1 : Int)))).bind fun r2 =>
    bif (!r2) then
      some (0 : Int)
    else
      impl_WinsOf.l5 k a2 a1 (a1.length : Int) (fun x3 =>
        some x3) k (0 : Int) (0 : Int)

def laws_FnExactWinsOf.f (k : Nat) (a0 : Int) (a1 : List (List Int)) (a2 : Int) : Option (Bool) :=
  (laws_szIntSS.f k a1 (1048576 : Int)).bind fun r1 =>
  bif decide (r1 < (0 : Int)) then
    some true
  else
    (laws_toIntSS.f k a1).bind fun r2 =>
    (spec_WinsOf.f k a0 r2 a2).bind fun r3 =>
    (laws_toIntSS.f k a1).bind fun r4 =>
    (impl_WinsOf.f k a0 r4 a2).bind fun r5 =>
    bif (r5 != r3) then
      some false
    else
      (laws_toIntSS.f k a1).bind fun r6 =>
      (laws_eqIntSS.f k r4 r6).bind fun r7 =>
      bif (!r7) then
        some false
      else
        some true
end Go.Proofs.Ytfkejiljabmaaaa
