/- Plain Lean functions, printed by a program out of the Go functions' translation: what each computes, without program and memory. -/
import Derived.Test.YtfmmdbnkeadieaaDoorFFnExactFormatNumbers
set_option linter.unusedVariables false
namespace Go.Proofs.YtfmmdbnkeadieaaDoor
open Go Go.Proofs.YtfmmdbnkeadieaaDoor.V

def laws_szIntS.f (k : Nat) (a : LI) (g : Int) : Option (Int) :=
 bif decide ((IntKind.wrap .i64 (g - (a.length : Int))) < 0) then
  some (-1)
 else
  some (IntKind.wrap .i64 (g - (a.length : Int)))

def laws_szIntSS.s5 {R : Type} (k : Nat) (v0 : LL) (e0 e1 : Int → Option R) (rec : Int → Int → Option R) (v1 v2 : Int) : Option R :=
 bif decide (v2 < (v0.length : Int)) then
  chk ((decide (0 ≤ v2)) && (decide (v2 < (v0.length : Int)))) <|
  (laws_szIntS.f k (v0.getD v2.toNat []) v1).bind fun r1 =>
  bif decide (r1 < 0) then
   e0 r1
  else
   rec r1 (IntKind.wrap .i64 (v2 + 1))
 else
  e1 v1
def laws_szIntSS.l5 {R : Type} (k : Nat) (v0 : LL) (e0 e1 : Int → Option R) (n : Nat) (v1 v2 : Int) : Option R :=
 V.iter (A := Int × Int) (fun rec a => laws_szIntSS.s5 k v0 e0 e1 (fun c0 c1 => rec (c0, c1)) a.1 a.2) n (v1, v2)
theorem laws_szIntSS.l5_succ {R : Type} (k : Nat) (v0 : LL) (e0 e1 : Int → Option R) (n : Nat) (v1 v2 : Int) : laws_szIntSS.l5 (R := R) k v0 e0 e1 (n + 1) v1 v2 = laws_szIntSS.s5 k v0 e0 e1 (laws_szIntSS.l5 k v0 e0 e1 n) v1 v2 := rfl
def laws_szIntSS.f (k : Nat) (a : LL) (g : Int) : Option (Int) :=
 bif decide ((IntKind.wrap .i64 (g - (a.length : Int))) < 0) then
  some (-1)
 else
  laws_szIntSS.l5 k a (fun x2 =>
   some (-1)) (fun x3 =>
   some x3) k (IntKind.wrap .i64 (g - (a.length : Int))) 0

def spec_FormatSheet.s3 {R : Type} (k : Nat) (v0 : LL) (e0 : List ByteArray → Option R) (rec : Int → List ByteArray → Option R) (v1 : Int) (v2 : List ByteArray) : Option R :=
 bif decide (v1 < (v0.length : Int)) then
  chk ((decide (0 ≤ v1)) && (decide (v1 < (v0.length : Int)))) <|
  bif decide (((v0.getD v1.toNat []).length : Int) > 0) then
   chk ((decide (0 ≤ v1)) && (decide (v1 < (v0.length : Int)))) <|
   (spec_l39Numbers.f k (v0.getD v1.toNat [])).bind fun r1 =>
   (spec_l39Join.f k r1 (⟨#[44]⟩ : ByteArray)).bind fun r2 =>
   chk (decide ((v2.length + 1) * 16 ≤ room)) <|
   rec (IntKind.wrap .i64 (v1 + 1)) (v2 ++ [r2])
  else
   chk (decide ((v2.length + 1) * 16 ≤ room)) <|
   rec (IntKind.wrap .i64 (v1 + 1)) (v2 ++ [ByteArray.empty])
 else
  e0 v2
def spec_FormatSheet.l3 {R : Type} (k : Nat) (v0 : LL) (e0 : List ByteArray → Option R) (n : Nat) (v1 : Int) (v2 : List ByteArray) : Option R :=
 V.iter (A := Int × List ByteArray) (fun rec a => spec_FormatSheet.s3 k v0 e0 (fun c0 c1 => rec (c0, c1)) a.1 a.2) n (v1, v2)
theorem spec_FormatSheet.l3_succ {R : Type} (k : Nat) (v0 : LL) (e0 : List ByteArray → Option R) (n : Nat) (v1 : Int) (v2 : List ByteArray) : spec_FormatSheet.l3 (R := R) k v0 e0 (n + 1) v1 v2 = spec_FormatSheet.s3 k v0 e0 (spec_FormatSheet.l3 k v0 e0 n) v1 v2 := rfl
def spec_FormatSheet.f (k : Nat) (a : LL) : Option (ByteArray) :=
 spec_FormatSheet.l3 k a (fun x3 =>
  (spec_l39Join.f k x3 (⟨#[32]⟩ : ByteArray)).bind fun r4 =>
  some r4) k 0 []

def laws_toIntSS.s3 {R : Type} (k : Nat) (v0 : LL) (e0 : LL → Option R) (rec : Int → LL → Option R) (v1 : Int) (v2 : LL) : Option R :=
 bif decide (v1 < (v0.length : Int)) then
  chk ((decide (0 ≤ v1)) && (decide (v1 < (v0.length : Int)))) <|
  (laws_toIntS.f k (v0.getD v1.toNat [])).bind fun r1 =>
  chk ((decide (0 ≤ v1)) && (decide (v1 < (v2.length : Int)))) <|
  rec (IntKind.wrap .i64 (v1 + 1)) (v2.set v1.toNat r1)
 else
  e0 v2
def laws_toIntSS.l3 {R : Type} (k : Nat) (v0 : LL) (e0 : LL → Option R) (n : Nat) (v1 : Int) (v2 : LL) : Option R :=
 V.iter (A := Int × LL) (fun rec a => laws_toIntSS.s3 k v0 e0 (fun c0 c1 => rec (c0, c1)) a.1 a.2) n (v1, v2)
theorem laws_toIntSS.l3_succ {R : Type} (k : Nat) (v0 : LL) (e0 : LL → Option R) (n : Nat) (v1 : Int) (v2 : LL) : laws_toIntSS.l3 (R := R) k v0 e0 (n + 1) v1 v2 = laws_toIntSS.s3 k v0 e0 (laws_toIntSS.l3 k v0 e0 n) v1 v2 := rfl
def laws_toIntSS.f (k : Nat) (a : LL) : Option (LL) :=
 chk ((decide (0 ≤ (a.length : Int))) && (decide (((a.length : Int).toNat) * 24 ≤ room))) <|
 laws_toIntSS.l3 k a (fun x2 =>
  some x2) k 0 (List.replicate ((a.length : Int).toNat) [])

def impl_FormatSheet.s5 {R : Type} (k : Nat) (v0 : LL) (v1 : Int) (e0 : List ByteArray → Option R) (rec : Int → List ByteArray → Option R) (v2 : Int) (v3 : List ByteArray) : Option R :=
 bif decide (v2 < v1) then
  chk ((decide (0 ≤ v2)) && (decide (v2 < (v0.length : Int)))) <|
  (impl_numbersText.f k (v0.getD v2.toNat []) (⟨#[44]⟩ : ByteArray)).bind fun r1 =>
  chk (decide ((v3.length + 1) * 16 ≤ room)) <|
  rec (IntKind.wrap .i64 (v2 + 1)) (v3 ++ [r1])
 else
  e0 v3
def impl_FormatSheet.l5 {R : Type} (k : Nat) (v0 : LL) (v1 : Int) (e0 : List ByteArray → Option R) (n : Nat) (v2 : Int) (v3 : List ByteArray) : Option R :=
 V.iter (A := Int × List ByteArray) (fun rec a => impl_FormatSheet.s5 k v0 v1 e0 (fun c0 c1 => rec (c0, c1)) a.1 a.2) n (v2, v3)
theorem impl_FormatSheet.l5_succ {R : Type} (k : Nat) (v0 : LL) (v1 : Int) (e0 : List ByteArray → Option R) (n : Nat) (v2 : Int) (v3 : List ByteArray) : impl_FormatSheet.l5 (R := R) k v0 v1 e0 (n + 1) v2 v3 = impl_FormatSheet.s5 k v0 v1 e0 (impl_FormatSheet.l5 k v0 v1 e0 n) v2 v3 := rfl
def impl_FormatSheet.f (k : Nat) (a : LL) : Option (ByteArray) :=
 bif ((a.length : Int) == 0) then
  some (⟨#[45]⟩ : ByteArray)
 else
  impl_FormatSheet.l5 k a (a.length : Int) (fun x2 =>
   (strings_Join.f k x2 (⟨#[32]⟩ : ByteArray)).bind fun r3 =>
   some r3) k 0 []

def laws_eqIntSS.s4 {R : Type} (k : Nat) (v0 v1 : LL) (e0 e1 : Option R) (rec : Int → Option R) (v2 : Int) : Option R :=
 bif decide (v2 < (v0.length : Int)) then
  chk ((decide (0 ≤ v2)) && (decide (v2 < (v0.length : Int)))) <|
  chk ((decide (0 ≤ v2)) && (decide (v2 < (v1.length : Int)))) <|
  (laws_eqIntS.f k (v0.getD v2.toNat []) (v1.getD v2.toNat [])).bind fun r1 =>
  bif (!r1) then
   e0
  else
   rec (IntKind.wrap .i64 (v2 + 1))
 else
  e1
def laws_eqIntSS.l4 {R : Type} (k : Nat) (v0 v1 : LL) (e0 e1 : Option R) (n : Nat) (v2 : Int) : Option R :=
 V.iter (A := Int) (fun rec a => laws_eqIntSS.s4 k v0 v1 e0 e1 (fun c0 => rec c0) a) n v2
theorem laws_eqIntSS.l4_succ {R : Type} (k : Nat) (v0 v1 : LL) (e0 e1 : Option R) (n : Nat) (v2 : Int) : laws_eqIntSS.l4 (R := R) k v0 v1 e0 e1 (n + 1) v2 = laws_eqIntSS.s4 k v0 v1 e0 e1 (laws_eqIntSS.l4 k v0 v1 e0 e1 n) v2 := rfl
def laws_eqIntSS.f (k : Nat) (a g : LL) : Option (Bool) :=
 bif ((a.length : Int) != (g.length : Int)) then
  some false
 else
  laws_eqIntSS.l4 k a g (some false) (some true) k 0

def laws_FnExactFormatSheet.f (k : Nat) (a : LL) : Option (Bool) :=
 (laws_szIntSS.f k a 1048576).bind fun r1 =>
 bif decide (r1 < 0) then
  some true
 else
  (laws_toIntSS.f k a).bind fun r2 =>
  (spec_FormatSheet.f k r2).bind fun r3 =>
  (laws_toIntSS.f k a).bind fun r4 =>
  (impl_FormatSheet.f k r4).bind fun r5 =>
  bif (!(r5.toList == r3.toList)) then
   some false
  else
   (laws_toIntSS.f k a).bind fun r6 =>
   (laws_eqIntSS.f k r4 r6).bind fun r7 =>
   bif (!r7) then
    some false
   else
    some true
end Go.Proofs.YtfmmdbnkeadieaaDoor
