/- Plain Lean functions, printed by a program out of the Go functions' translation: what each computes, without program and memory. -/
import Derived.Test.YtfkejiljabmaaaaFFnExactWinsOf
import Derived.Test.YtfkejiljabmaaaaFFnExactAverageMoves
import Derived.Test.YtfkejiljabmaaaaVExt
set_option linter.unusedVariables false
namespace Go.Proofs.Ytfkejiljabmaaaa
open Go Go.Proofs.Ytfkejiljabmaaaa.V

def spec_IsCard.f (k : Nat) (a0 : Int) : Option (Bool) :=
  (spec_l1In.f k a0 (0 : Int) (51 : Int)).bind fun r1 =>
  some r1

def spec_SuitOf.f (k : Nat) (a0 : Int) : Option (Int) :=
  (spec_IsCard.f k a0).bind fun r1 =>
  bif (!r1) then
    some (-1 : Int)
  else
    some (IntKind.wrap .i64 (a0.tdiv (13 : Int)))

def spec_RankOf.f (k : Nat) (a0 : Int) : Option (Int) :=
  (spec_IsCard.f k a0).bind fun r1 =>
  bif (!r1) then
    some (-1 : Int)
  else
    some (a0.tmod (13 : Int))

def spec_CardText.f (k : Nat) (a0 : Int) : Option (ByteArray) :=
  (spec_IsCard.f k a0).bind fun r1 =>
  bif (!r1) then
    some ByteArray.empty
  else
    (spec_RankOf.f k a0).bind fun r2 =>
    (spec_SuitOf.f k a0).bind fun r3 =>
    chk ((decide ((0 : Int) ≤ (IntKind.wrap .i64 (r2 + (1 : Int))))) && (decide ((IntKind.wrap .i64 (r2 + (1 : Int))) ≤ (13 : Int)))) <|
    chk ((decide ((0 : Int) ≤ r2)) && (decide (r2 ≤ (IntKind.wrap .i64 (r2 + (1 : Int)))))) <|
    chk ((decide ((0 : Int) ≤ (IntKind.wrap .i64 (r3 + (1 : Int))))) && (decide ((IntKind.wrap .i64 (r3 + (1 : Int))) ≤ (4 : Int)))) <|
    chk ((decide ((0 : Int) ≤ r3)) && (decide (r3 ≤ (IntKind.wrap .i64 (r3 + (1 : Int)))))) <|
    chk (decide (((⟨#[50, 51, 52, 53, 54, 55, 56, 57, 84, 74, 81, 75, 65]⟩ : ByteArray).extract r2.toNat ((IntKind.wrap .i64 (r2 + (1 : Int))).toNat)).size + ((⟨#[99, 100, 104, 115]⟩ : ByteArray).extract r3.toNat ((IntKind.wrap .i64 (r3 + (1 : Int))).toNat)).size ≤ maxI)) <|
    some (((⟨#[50, 51, 52, 53, 54, 55, 56, 57, 84, 74, 81, 75, 65]⟩ : ByteArray).extract r2.toNat ((IntKind.wrap .i64 (r2 + (1 : Int))).toNat)) ++ ((⟨#[99, 100, 104, 115]⟩ : ByteArray).extract r3.toNat ((IntKind.wrap .i64 (r3 + (1 : Int))).toNat)))

def spec_HandText.s3 {R : Type} (k : Nat) (v3_0 : List Int) (e0 : ByteArray → Option R) (rec : ByteArray → Int → Option R) (v3_1 : ByteArray) (v3_2 : Int) : Option R :=
  bif decide (v3_2 < (v3_0.length : Int)) then
    chk ((decide ((0 : Int) ≤ v3_2)) && (decide (v3_2 < (v3_0.length : Int)))) <|
    (spec_IsCard.f k (v3_0.getD v3_2.toNat 0)).bind fun r1 =>
    bif (!r1) then
      chk (decide (v3_1.size + (⟨#[63]⟩ : ByteArray).size ≤ maxI)) <|
      rec (v3_1 ++ (⟨#[63]⟩ : ByteArray)) (IntKind.wrap .i64 (v3_2 + (1 : Int)))
    else
      chk ((decide ((0 : Int) ≤ v3_2)) && (decide (v3_2 < (v3_0.length : Int)))) <|
      (spec_CardText.f k (v3_0.getD v3_2.toNat 0)).bind fun r2 =>
      chk (decide (v3_1.size + r2.size ≤ maxI)) <|
      rec (v3_1 ++ r2) (IntKind.wrap .i64 (v3_2 + (1 : Int)))
  else
    e0 v3_1
def spec_HandText.l3 {R : Type} (k : Nat) (v3_0 : List Int) (e0 : ByteArray → Option R) (n : Nat) (v3_1 : ByteArray) (v3_2 : Int) : Option R :=
  V.iter (A := ByteArray × Int) (fun rec a => spec_HandText.s3 k v3_0 e0 (fun c0 c1 => rec (c0, c1)) a.1 a.2) n (v3_1, v3_2)
theorem spec_HandText.l3_zero {R : Type} (k : Nat) (v3_0 : List Int) (e0 : ByteArray → Option R) (v3_1 : ByteArray) (v3_2 : Int) : spec_HandText.l3 (R := R) k v3_0 e0 0 v3_1 v3_2 = none := rfl
theorem spec_HandText.l3_succ {R : Type} (k : Nat) (v3_0 : List Int) (e0 : ByteArray → Option R) (n : Nat) (v3_1 : ByteArray) (v3_2 : Int) : spec_HandText.l3 (R := R) k v3_0 e0 (n + 1) v3_1 v3_2 = spec_HandText.s3 k v3_0 e0 (spec_HandText.l3 k v3_0 e0 n) v3_1 v3_2 := rfl
def spec_HandText.f (k : Nat) (a0 : List Int) : Option (ByteArray) :=
  spec_HandText.l3 k a0 (fun x3 =>
    bif ((a0.length : Int) == (0 : Int)) then
      some (⟨#[45]⟩ : ByteArray)
    else
      some x3) k ByteArray.empty (0 : Int)

def spec_l39Join.s3 {R : Type} (k : Nat) (v3_0 : List ByteArray) (v3_1 : ByteArray) (e0 : ByteArray → Option R) (rec : ByteArray → Int → Option R) (v3_2 : ByteArray) (v3_3 : Int) : Option R :=
  bif decide (v3_3 < (v3_0.length : Int)) then
    bif decide (v3_3 > (0 : Int)) then
      chk (decide (v3_2.size + v3_1.size ≤ maxI)) <|
      chk ((decide ((0 : Int) ≤ v3_3)) && (decide (v3_3 < (v3_0.length : Int)))) <|
      chk (decide ((v3_2 ++ v3_1).size + (v3_0.getD v3_3.toNat ByteArray.empty).size ≤ maxI)) <|
      rec ((v3_2 ++ v3_1) ++ (v3_0.getD v3_3.toNat ByteArray.empty)) (IntKind.wrap .i64 (v3_3 + (1 : Int)))
    else
      chk ((decide ((0 : Int) ≤ v3_3)) && (decide (v3_3 < (v3_0.length : Int)))) <|
      chk (decide (v3_2.size + (v3_0.getD v3_3.toNat ByteArray.empty).size ≤ maxI)) <|
      rec (v3_2 ++ (v3_0.getD v3_3.toNat ByteArray.empty)) (IntKind.wrap .i64 (v3_3 + (1 : Int)))
  else
    e0 v3_2
def spec_l39Join.l3 {R : Type} (k : Nat) (v3_0 : List ByteArray) (v3_1 : ByteArray) (e0 : ByteArray → Option R) (n : Nat) (v3_2 : ByteArray) (v3_3 : Int) : Option R :=
  V.iter (A := ByteArray × Int) (fun rec a => spec_l39Join.s3 k v3_0 v3_1 e0 (fun c0 c1 => rec (c0, c1)) a.1 a.2) n (v3_2, v3_3)
theorem spec_l39Join.l3_zero {R : Type} (k : Nat) (v3_0 : List ByteArray) (v3_1 : ByteArray) (e0 : ByteArray → Option R) (v3_2 : ByteArray) (v3_3 : Int) : spec_l39Join.l3 (R := R) k v3_0 v3_1 e0 0 v3_2 v3_3 = none := rfl
theorem spec_l39Join.l3_succ {R : Type} (k : Nat) (v3_0 : List ByteArray) (v3_1 : ByteArray) (e0 : ByteArray → Option R) (n : Nat) (v3_2 : ByteArray) (v3_3 : Int) : spec_l39Join.l3 (R := R) k v3_0 v3_1 e0 (n + 1) v3_2 v3_3 = spec_l39Join.s3 k v3_0 v3_1 e0 (spec_l39Join.l3 k v3_0 v3_1 e0 n) v3_2 v3_3 := rfl
def spec_l39Join.f (k : Nat) (a0 : List ByteArray) (a1 : ByteArray) : Option (ByteArray) :=
  spec_l39Join.l3 k a0 a1 (fun x1 =>
    bif ((a0.length : Int) == (0 : Int)) then
      some (⟨#[45]⟩ : ByteArray)
    else
      some x1) k ByteArray.empty (0 : Int)

def spec_FormatMelds.s3 {R : Type} (k : Nat) (v3_0 : List (List Int)) (e0 : List ByteArray → Option R) (rec : Int → List ByteArray → Option R) (v3_1 : Int) (v3_2 : List ByteArray) : Option R :=
  bif decide (v3_1 < (v3_0.length : Int)) then
    chk ((decide ((0 : Int) ≤ v3_1)) && (decide (v3_1 < (v3_0.length : Int)))) <|
    (spec_HandText.f k (v3_0.getD v3_1.toNat [])).bind fun r1 =>
    chk (decide ((v3_2.length + 1) * 16 ≤ room)) <|
    rec (IntKind.wrap .i64 (v3_1 + (1 : Int))) (v3_2 ++ [r1])
  else
    e0 v3_2
def spec_FormatMelds.l3 {R : Type} (k : Nat) (v3_0 : List (List Int)) (e0 : List ByteArray → Option R) (n : Nat) (v3_1 : Int) (v3_2 : List ByteArray) : Option R :=
  V.iter (A := Int × List ByteArray) (fun rec a => spec_FormatMelds.s3 k v3_0 e0 (fun c0 c1 => rec (c0, c1)) a.1 a.2) n (v3_1, v3_2)
theorem spec_FormatMelds.l3_zero {R : Type} (k : Nat) (v3_0 : List (List Int)) (e0 : List ByteArray → Option R) (v3_1 : Int) (v3_2 : List ByteArray) : spec_FormatMelds.l3 (R := R) k v3_0 e0 0 v3_1 v3_2 = none := rfl
theorem spec_FormatMelds.l3_succ {R : Type} (k : Nat) (v3_0 : List (List Int)) (e0 : List ByteArray → Option R) (n : Nat) (v3_1 : Int) (v3_2 : List ByteArray) : spec_FormatMelds.l3 (R := R) k v3_0 e0 (n + 1) v3_1 v3_2 = spec_FormatMelds.s3 k v3_0 e0 (spec_FormatMelds.l3 k v3_0 e0 n) v3_1 v3_2 := rfl
def spec_FormatMelds.f (k : Nat) (a0 : List (List Int)) : Option (ByteArray) :=
  spec_FormatMelds.l3 k a0 (fun x2 =>
    (spec_l39Join.f k x2 (⟨#[32]⟩ : ByteArray)).bind fun r3 =>
    some r3) k (0 : Int) []

def impl_IsCard.f (k : Nat) (a0 : Int) : Option (Bool) :=
  (impl_InRange.f k a0 (0 : Int) (51 : Int)).bind fun r1 =>
  some r1

def impl_CardText.f (k : Nat) (a0 : Int) : Option (ByteArray) :=
  (impl_IsCard.f k a0).bind fun r1 =>
  bif (!r1) then
    some ByteArray.empty
  else
    chk ((decide ((0 : Int) ≤ (IntKind.wrap .i64 ((a0.tmod (13 : Int)) + (1 : Int))))) && (decide ((IntKind.wrap .i64 ((a0.tmod (13 : Int)) + (1 : Int))) ≤ (13 : Int)))) <|
    chk ((decide ((0 : Int) ≤ (a0.tmod (13 : Int)))) && (decide ((a0.tmod (13 : Int)) ≤ (IntKind.wrap .i64 ((a0.tmod (13 : Int)) + (1 : Int)))))) <|
    chk ((decide ((0 : Int) ≤ (IntKind.wrap .i64 ((IntKind.wrap .i64 (a0.tdiv (13 : Int))) + (1 : Int))))) && (decide ((IntKind.wrap .i64 ((IntKind.wrap .i64 (a0.tdiv (13 : Int))) + (1 : Int))) ≤ (4 : Int)))) <|
    chk ((decide ((0 : Int) ≤ (IntKind.wrap .i64 (a0.tdiv (13 : Int))))) && (decide ((IntKind.wrap .i64 (a0.tdiv (13 : Int))) ≤ (IntKind.wrap .i64 ((IntKind.wrap .i64 (a0.tdiv (13 : Int))) + (1 : Int)))))) <|
    chk (decide (((⟨#[50, 51, 52, 53, 54, 55, 56, 57, 84, 74, 81, 75, 65]⟩ : ByteArray).extract ((a0.tmod (13 : Int)).toNat) ((IntKind.wrap .i64 ((a0.tmod (13 : Int)) + (1 : Int))).toNat)).size + ((⟨#[99, 100, 104, 115]⟩ : ByteArray).extract ((IntKind.wrap .i64 (a0.tdiv (13 : Int))).toNat) ((IntKind.wrap .i64 ((IntKind.wrap .i64 (a0.tdiv (13 : Int))) + (1 : Int))).toNat)).size ≤ maxI)) <|
    some (((⟨#[50, 51, 52, 53, 54, 55, 56, 57, 84, 74, 81, 75, 65]⟩ : ByteArray).extract ((a0.tmod (13 : Int)).toNat) ((IntKind.wrap .i64 ((a0.tmod (13 : Int)) + (1 : Int))).toNat)) ++ ((⟨#[99, 100, 104, 115]⟩ : ByteArray).extract ((IntKind.wrap .i64 (a0.tdiv (13 : Int))).toNat) ((IntKind.wrap .i64 ((IntKind.wrap .i64 (a0.tdiv (13 : Int))) + (1 : Int))).toNat)))

def impl_listText.s5 {R : Type} (k : Nat) (v5_0 : Int) (v5_1 : ByteArray) (v5_3 : List Int) (v5_4 : Int) (e0 : ByteArray → Option R) (rec : ByteArray → Int → Option R) (v5_2 : ByteArray) (v5_5 : Int) : Option R :=
  bif decide (v5_5 < v5_4) then
    chk ((decide ((0 : Int) ≤ v5_5)) && (decide (v5_5 < (v5_3.length : Int)))) <|
    (impl_IsCard.f k (v5_3.getD v5_5.toNat 0)).bind fun r1 =>
    bif r1 then
      (impl_CardText.f k (v5_3.getD v5_5.toNat 0)).bind fun r2 =>
      chk (decide (v5_2.size + r2.size ≤ maxI)) <|
      rec (v5_2 ++ r2) (IntKind.wrap .i64 (v5_5 + (1 : Int)))
    else
      bif ((v5_3.getD v5_5.toNat 0) == v5_0) then
        chk (decide (v5_2.size + v5_1.size ≤ maxI)) <|
        rec (v5_2 ++ v5_1) (IntKind.wrap .i64 (v5_5 + (1 : Int)))
      else
        chk (decide (v5_2.size + (⟨#[63]⟩ : ByteArray).size ≤ maxI)) <|
        rec (v5_2 ++ (⟨#[63]⟩ : ByteArray)) (IntKind.wrap .i64 (v5_5 + (1 : Int)))
  else
    e0 v5_2
def impl_listText.l5 {R : Type} (k : Nat) (v5_0 : Int) (v5_1 : ByteArray) (v5_3 : List Int) (v5_4 : Int) (e0 : ByteArray → Option R) (n : Nat) (v5_2 : ByteArray) (v5_5 : Int) : Option R :=
  V.iter (A := ByteArray × Int) (fun rec a => impl_listText.s5 k v5_0 v5_1 v5_3 v5_4 e0 (fun c0 c1 => rec (c0, c1)) a.1 a.2) n (v5_2, v5_5)
theorem impl_listText.l5_zero {R : Type} (k : Nat) (v5_0 : Int) (v5_1 : ByteArray) (v5_3 : List Int) (v5_4 : Int) (e0 : ByteArray → Option R) (v5_2 : ByteArray) (v5_5 : Int) : impl_listText.l5 (R := R) k v5_0 v5_1 v5_3 v5_4 e0 0 v5_2 v5_5 = none := rfl
theorem impl_listText.l5_succ {R : Type} (k : Nat) (v5_0 : Int) (v5_1 : ByteArray) (v5_3 : List Int) (v5_4 : Int) (e0 : ByteArray → Option R) (n : Nat) (v5_2 : ByteArray) (v5_5 : Int) : impl_listText.l5 (R := R) k v5_0 v5_1 v5_3 v5_4 e0 (n + 1) v5_2 v5_5 = impl_listText.s5 k v5_0 v5_1 v5_3 v5_4 e0 (impl_listText.l5 k v5_0 v5_1 v5_3 v5_4 e0 n) v5_2 v5_5 := rfl
def impl_listText.f (k : Nat) (a0 : List Int) (a1 : Int) (a2 : ByteArray) : Option (ByteArray) :=
  bif ((a0.length : Int) == (0 : Int)) then
    some (⟨#[45]⟩ : ByteArray)
  else
    impl_listText.l5 k a1 a2 a0 (a0.length : Int) (fun x3 =>
      some x3) k ByteArray.empty (0 : Int)

def impl_HandText.f (k : Nat) (a0 : List Int) : Option (ByteArray) :=
  (impl_listText.f k a0 (-1 : Int) (⟨#[63]⟩ : ByteArray)).bind fun r1 =>
  some r1

def strings_Join.f (k : Nat) (a0 : List ByteArray) (a1 : ByteArray) : Option (ByteArray) :=
  chk (Nat.ble a0.length 140737488355328 && Nat.ble (joinB a0 a1).size 140737488355328) <| some (joinB a0 a1)

def impl_FormatMelds.s5 {R : Type} (k : Nat) (v5_0 : List (List Int)) (v5_1 : Int) (e0 : List ByteArray → Option R) (rec : Int → List ByteArray → Option R) (v5_2 : Int) (v5_3 : List ByteArray) : Option R :=
  bif decide (v5_2 < v5_1) then
    chk ((decide ((0 : Int) ≤ v5_2)) && (decide (v5_2 < (v5_0.length : Int)))) <|
    (impl_HandText.f k (v5_0.getD v5_2.toNat [])).bind fun r1 =>
    chk (decide ((v5_3.length + 1) * 16 ≤ room)) <|
    rec (IntKind.wrap .i64 (v5_2 + (1 : Int))) (v5_3 ++ [r1])
  else
    e0 v5_3
def impl_FormatMelds.l5 {R : Type} (k : Nat) (v5_0 : List (List Int)) (v5_1 : Int) (e0 : List ByteArray → Option R) (n : Nat) (v5_2 : Int) (v5_3 : List ByteArray) : Option R :=
  V.iter (A := Int × List ByteArray) (fun rec a => impl_FormatMelds.s5 k v5_0 v5_1 e0 (fun c0 c1 => rec (c0, c1)) a.1 a.2) n (v5_2, v5_3)
theorem impl_FormatMelds.l5_zero {R : Type} (k : Nat) (v5_0 : List (List Int)) (v5_1 : Int) (e0 : List ByteArray → Option R) (v5_2 : Int) (v5_3 : List ByteArray) : impl_FormatMelds.l5 (R := R) k v5_0 v5_1 e0 0 v5_2 v5_3 = none := rfl
theorem impl_FormatMelds.l5_succ {R : Type} (k : Nat) (v5_0 : List (List Int)) (v5_1 : Int) (e0 : List ByteArray → Option R) (n : Nat) (v5_2 : Int) (v5_3 : List ByteArray) : impl_FormatMelds.l5 (R := R) k v5_0 v5_1 e0 (n + 1) v5_2 v5_3 = impl_FormatMelds.s5 k v5_0 v5_1 e0 (impl_FormatMelds.l5 k v5_0 v5_1 e0 n) v5_2 v5_3 := rfl
def impl_FormatMelds.f (k : Nat) (a0 : List (List Int)) : Option (ByteArray) :=
  bif ((a0.length : Int) == (0 : Int)) then
    some (⟨#[45]⟩ : ByteArray)
  else
    impl_FormatMelds.l5 k a0 (a0.length : Int) (fun x2 =>
      (strings_Join.f k x2 (⟨#[32]⟩ : ByteArray)).bind fun r3 =>
      some r3) k (0 : Int) []

def laws_FnExactFormatMelds.f (k : Nat) (a0 : List (List Int)) : Option (Bool) :=
  (laws_szIntSS.f k a0 (1048576 : Int)).bind fun r1 =>
  bif decide (r1 < (0 : Int)) then
    some true
  else
    (laws_toIntSS.f k a0).bind fun r2 =>
    (spec_FormatMelds.f k r2).bind fun r3 =>
    (laws_toIntSS.f k a0).bind fun r4 =>
    (impl_FormatMelds.f k r4).bind fun r5 =>
    bif (!(r5.toList == r3.toList)) then
      some false
    else
      (laws_toIntSS.f k a0).bind fun r6 =>
      (laws_eqIntSS.f k r4 r6).bind fun r7 =>
      bif (!r7) then
        some false
      else
        some true
end Go.Proofs.Ytfkejiljabmaaaa
