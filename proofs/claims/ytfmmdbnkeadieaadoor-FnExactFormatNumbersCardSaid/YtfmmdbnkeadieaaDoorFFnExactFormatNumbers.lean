/- Plain Lean functions, printed by a program out of the Go functions' translation: what each computes, without program and memory. -/
import Derived.Test.YtfmmdbnkeadieaaDoorVEval
import Derived.Test.YtfmmdbnkeadieaaDoorVExt
set_option linter.unusedVariables false
namespace Go.Proofs.YtfmmdbnkeadieaaDoor
open Go Go.Proofs.YtfmmdbnkeadieaaDoor.V

def spec_l39Join.s3 {R : Type} (k : Nat) (v0 : List ByteArray) (v1 : ByteArray) (e0 : ByteArray → Option R) (rec : ByteArray → Int → Option R) (v2 : ByteArray) (v3 : Int) : Option R :=
 bif decide (v3 < (v0.length : Int)) then
  bif decide (v3 > 0) then
   chk (decide (v2.size + v1.size ≤ maxI)) <|
   chk ((decide (0 ≤ v3)) && (decide (v3 < (v0.length : Int)))) <|
   chk (decide ((v2 ++ v1).size + (v0.getD v3.toNat ByteArray.empty).size ≤ maxI)) <|
   rec ((v2 ++ v1) ++ (v0.getD v3.toNat ByteArray.empty)) (IntKind.wrap .i64 (v3 + 1))
  else
   chk ((decide (0 ≤ v3)) && (decide (v3 < (v0.length : Int)))) <|
   chk (decide (v2.size + (v0.getD v3.toNat ByteArray.empty).size ≤ maxI)) <|
   rec (v2 ++ (v0.getD v3.toNat ByteArray.empty)) (IntKind.wrap .i64 (v3 + 1))
 else
  e0 v2
def spec_l39Join.l3 {R : Type} (k : Nat) (v0 : List ByteArray) (v1 : ByteArray) (e0 : ByteArray → Option R) (n : Nat) (v2 : ByteArray) (v3 : Int) : Option R :=
 V.iter (A := ByteArray × Int) (fun rec a => spec_l39Join.s3 k v0 v1 e0 (fun c0 c1 => rec (c0, c1)) a.1 a.2) n (v2, v3)
theorem spec_l39Join.l3_succ {R : Type} (k : Nat) (v0 : List ByteArray) (v1 : ByteArray) (e0 : ByteArray → Option R) (n : Nat) (v2 : ByteArray) (v3 : Int) : spec_l39Join.l3 (R := R) k v0 v1 e0 (n + 1) v2 v3 = spec_l39Join.s3 k v0 v1 e0 (spec_l39Join.l3 k v0 v1 e0 n) v2 v3 := rfl
def spec_l39Join.f (k : Nat) (a : List ByteArray) (g : ByteArray) : Option (ByteArray) :=
 spec_l39Join.l3 k a g (fun x1 =>
  bif ((a.length : Int) == 0) then
   some (⟨#[45]⟩ : ByteArray)
  else
   some x1) k ByteArray.empty 0

def spec_FormatInt.s5 {R : Type} (k : Nat) (e0 : ByteArray → Option R) (rec : ByteArray → Int → Option R) (v1 : ByteArray) (v2 : Int) : Option R :=
 bif (v2 != 0) then
  bif decide ((v2.tmod 10) < 0) then
   chk (decide ((strOf [IntKind.wrap .u8 (IntKind.wrap .i64 (48 + (IntKind.wrap .i64 (0 - (v2.tmod 10)))))]).size + v1.size ≤ maxI)) <|
   rec ((strOf [IntKind.wrap .u8 (IntKind.wrap .i64 (48 + (IntKind.wrap .i64 (0 - (v2.tmod 10)))))]) ++ v1) (IntKind.wrap .i64 (v2.tdiv 10))
  else
   chk (decide ((strOf [IntKind.wrap .u8 (IntKind.wrap .i64 (48 + (v2.tmod 10)))]).size + v1.size ≤ maxI)) <|
   rec ((strOf [IntKind.wrap .u8 (IntKind.wrap .i64 (48 + (v2.tmod 10)))]) ++ v1) (IntKind.wrap .i64 (v2.tdiv 10))
 else
  e0 v1
def spec_FormatInt.l5 {R : Type} (k : Nat) (e0 : ByteArray → Option R) (n : Nat) (v1 : ByteArray) (v2 : Int) : Option R :=
 V.iter (A := ByteArray × Int) (fun rec a => spec_FormatInt.s5 k e0 (fun c0 c1 => rec (c0, c1)) a.1 a.2) n (v1, v2)
theorem spec_FormatInt.l5_succ {R : Type} (k : Nat) (e0 : ByteArray → Option R) (n : Nat) (v1 : ByteArray) (v2 : Int) : spec_FormatInt.l5 (R := R) k e0 (n + 1) v1 v2 = spec_FormatInt.s5 k e0 (spec_FormatInt.l5 k e0 n) v1 v2 := rfl
def spec_FormatInt.f (k : Nat) (a : Int) : Option (ByteArray) :=
 bif (a == 0) then
  some (⟨#[48]⟩ : ByteArray)
 else
  spec_FormatInt.l5 k (fun x1 =>
   bif decide (a < 0) then
    chk (decide ((⟨#[45]⟩ : ByteArray).size + x1.size ≤ maxI)) <|
    some ((⟨#[45]⟩ : ByteArray) ++ x1)
   else
    some x1) k ByteArray.empty a

def spec_l39Numbers.s3 {R : Type} (k : Nat) (v0 : LI) (e0 : List ByteArray → Option R) (rec : Int → List ByteArray → Option R) (v1 : Int) (v2 : List ByteArray) : Option R :=
 bif decide (v1 < (v0.length : Int)) then
  chk ((decide (0 ≤ v1)) && (decide (v1 < (v0.length : Int)))) <|
  (spec_FormatInt.f k (v0.getD v1.toNat 0)).bind fun r1 =>
  chk (decide ((v2.length + 1) * 16 ≤ room)) <|
  rec (IntKind.wrap .i64 (v1 + 1)) (v2 ++ [r1])
 else
  e0 v2
def spec_l39Numbers.l3 {R : Type} (k : Nat) (v0 : LI) (e0 : List ByteArray → Option R) (n : Nat) (v1 : Int) (v2 : List ByteArray) : Option R :=
 V.iter (A := Int × List ByteArray) (fun rec a => spec_l39Numbers.s3 k v0 e0 (fun c0 c1 => rec (c0, c1)) a.1 a.2) n (v1, v2)
theorem spec_l39Numbers.l3_succ {R : Type} (k : Nat) (v0 : LI) (e0 : List ByteArray → Option R) (n : Nat) (v1 : Int) (v2 : List ByteArray) : spec_l39Numbers.l3 (R := R) k v0 e0 (n + 1) v1 v2 = spec_l39Numbers.s3 k v0 e0 (spec_l39Numbers.l3 k v0 e0 n) v1 v2 := rfl
def spec_l39Numbers.f (k : Nat) (a : LI) : Option (List ByteArray) :=
 spec_l39Numbers.l3 k a (fun x2 =>
  some x2) k 0 []

def spec_FormatNumbers.f (k : Nat) (a : LI) : Option (ByteArray) :=
 (spec_l39Numbers.f k a).bind fun r1 =>
 (spec_l39Join.f k r1 (⟨#[32]⟩ : ByteArray)).bind fun r2 =>
 some r2

def laws_toIntS.s3 {R : Type} (k : Nat) (v0 : LI) (e0 : LI → Option R) (rec : Int → LI → Option R) (v1 : Int) (v2 : LI) : Option R :=
 bif decide (v1 < (v0.length : Int)) then
  chk ((decide (0 ≤ v1)) && (decide (v1 < (v0.length : Int)))) <|
  chk ((decide (0 ≤ v1)) && (decide (v1 < (v2.length : Int)))) <|
  rec (IntKind.wrap .i64 (v1 + 1)) (v2.set v1.toNat (v0.getD v1.toNat 0))
 else
  e0 v2
def laws_toIntS.l3 {R : Type} (k : Nat) (v0 : LI) (e0 : LI → Option R) (n : Nat) (v1 : Int) (v2 : LI) : Option R :=
 V.iter (A := Int × LI) (fun rec a => laws_toIntS.s3 k v0 e0 (fun c0 c1 => rec (c0, c1)) a.1 a.2) n (v1, v2)
theorem laws_toIntS.l3_succ {R : Type} (k : Nat) (v0 : LI) (e0 : LI → Option R) (n : Nat) (v1 : Int) (v2 : LI) : laws_toIntS.l3 (R := R) k v0 e0 (n + 1) v1 v2 = laws_toIntS.s3 k v0 e0 (laws_toIntS.l3 k v0 e0 n) v1 v2 := rfl
def laws_toIntS.f (k : Nat) (a : LI) : Option (LI) :=
 chk ((decide (0 ≤ (a.length : Int))) && (decide (((a.length : Int).toNat) * 8 ≤ room))) <|
 laws_toIntS.l3 k a (fun x1 =>
  some x1) k 0 (List.replicate ((a.length : Int).toNat) 0)

def strings_Join.f (k : Nat) (a0 : List ByteArray) (a1 : ByteArray) : Option (ByteArray) :=
  chk (Nat.ble a0.length 140737488355328 && Nat.ble (joinB a0 a1).size 140737488355328) <| some (joinB a0 a1)

def strconv_Itoa.f (k : Nat) (a0 : Int) : Option (ByteArray) :=
  chk (decide ((-9223372036854775808 : Int) ≤ a0) && decide (a0 ≤ 9223372036854775807)) <| some (itoaB a0)

def impl_FormatInt.f (k : Nat) (a : Int) : Option (ByteArray) :=
 (strconv_Itoa.f k a).bind fun r1 =>
 some r1

def impl_numbersText.s3 {R : Type} (k : Nat) (v1 : LI) (v2 : Int) (e0 : List ByteArray → Option R) (rec : Int → List ByteArray → Option R) (v3 : Int) (v4 : List ByteArray) : Option R :=
 bif decide (v3 < v2) then
  chk ((decide (0 ≤ v3)) && (decide (v3 < (v1.length : Int)))) <|
  (impl_FormatInt.f k (v1.getD v3.toNat 0)).bind fun r1 =>
  chk (decide ((v4.length + 1) * 16 ≤ room)) <|
  rec (IntKind.wrap .i64 (v3 + 1)) (v4 ++ [r1])
 else
  e0 v4
def impl_numbersText.l3 {R : Type} (k : Nat) (v1 : LI) (v2 : Int) (e0 : List ByteArray → Option R) (n : Nat) (v3 : Int) (v4 : List ByteArray) : Option R :=
 V.iter (A := Int × List ByteArray) (fun rec a => impl_numbersText.s3 k v1 v2 e0 (fun c0 c1 => rec (c0, c1)) a.1 a.2) n (v3, v4)
theorem impl_numbersText.l3_succ {R : Type} (k : Nat) (v1 : LI) (v2 : Int) (e0 : List ByteArray → Option R) (n : Nat) (v3 : Int) (v4 : List ByteArray) : impl_numbersText.l3 (R := R) k v1 v2 e0 (n + 1) v3 v4 = impl_numbersText.s3 k v1 v2 e0 (impl_numbersText.l3 k v1 v2 e0 n) v3 v4 := rfl
def impl_numbersText.f (k : Nat) (a : LI) (g : ByteArray) : Option (ByteArray) :=
 impl_numbersText.l3 k a (a.length : Int) (fun x2 =>
  (strings_Join.f k x2 g).bind fun r3 =>
  some r3) k 0 []

def impl_FormatNumbers.f (k : Nat) (a : LI) : Option (ByteArray) :=
 bif ((a.length : Int) == 0) then
  some (⟨#[45]⟩ : ByteArray)
 else
  (impl_numbersText.f k a (⟨#[32]⟩ : ByteArray)).bind fun r1 =>
  some r1

def laws_eqIntS.s4 {R : Type} (k : Nat) (v0 v1 : LI) (e0 e1 : Option R) (rec : Int → Option R) (v2 : Int) : Option R :=
 bif decide (v2 < (v0.length : Int)) then
  chk ((decide (0 ≤ v2)) && (decide (v2 < (v0.length : Int)))) <|
  chk ((decide (0 ≤ v2)) && (decide (v2 < (v1.length : Int)))) <|
  bif ((v0.getD v2.toNat 0) != (v1.getD v2.toNat 0)) then
   e0
  else
   rec (IntKind.wrap .i64 (v2 + 1))
 else
  e1
def laws_eqIntS.l4 {R : Type} (k : Nat) (v0 v1 : LI) (e0 e1 : Option R) (n : Nat) (v2 : Int) : Option R :=
 V.iter (A := Int) (fun rec a => laws_eqIntS.s4 k v0 v1 e0 e1 (fun c0 => rec c0) a) n v2
theorem laws_eqIntS.l4_succ {R : Type} (k : Nat) (v0 v1 : LI) (e0 e1 : Option R) (n : Nat) (v2 : Int) : laws_eqIntS.l4 (R := R) k v0 v1 e0 e1 (n + 1) v2 = laws_eqIntS.s4 k v0 v1 e0 e1 (laws_eqIntS.l4 k v0 v1 e0 e1 n) v2 := rfl
def laws_eqIntS.f (k : Nat) (a g : LI) : Option (Bool) :=
 bif ((a.length : Int) != (g.length : Int)) then
  some false
 else
  laws_eqIntS.l4 k a g (some false) (some true) k 0

def laws_FnExactFormatNumbers.f (k : Nat) (a : LI) : Option (Bool) :=
 bif decide ((a.length : Int) > 1048576) then
  some true
 else
  (laws_toIntS.f k a).bind fun r1 =>
  (spec_FormatNumbers.f k r1).bind fun r2 =>
  (laws_toIntS.f k a).bind fun r3 =>
  (impl_FormatNumbers.f k r3).bind fun r4 =>
  bif (!(r4.toList == r2.toList)) then
   some false
  else
   (laws_toIntS.f k a).bind fun r5 =>
   (laws_eqIntS.f k r3 r5).bind fun r6 =>
   bif (!r6) then
    some false
   else
    some true
end Go.Proofs.YtfmmdbnkeadieaaDoor
