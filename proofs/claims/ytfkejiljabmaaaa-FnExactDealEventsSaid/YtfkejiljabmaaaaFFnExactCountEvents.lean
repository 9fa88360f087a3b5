/- Plain Lean functions, printed by a program out of the Go functions' translation: what each computes, without program and memory. -/
import Derived.Test.YtfkejiljabmaaaaFFnExactAverageMoves
set_option linter.unusedVariables false
namespace Go.Proofs.Ytfkejiljabmaaaa
open Go Go.Proofs.Ytfkejiljabmaaaa.V

def laws_szEvent.f (k : Nat) (a0_0 : Int) (a0_1 : Int) (a0_2 : List Int) (a0_3 : List Int) (a1 : Int) : Option (Int) :=
  (laws_szIntS.f k a0_2 a1).bind fun r1 =>
  bif decide (r1 < (0 : Int)) then
    some (-1 : Int)
  else
    (laws_szIntS.f k a0_3 r1).bind fun r2 =>
    bif decide (r2 < (0 : Int)) then
      some (-1 : Int)
    else
      some r2

def laws_szEventS.s5 {R : Type} (k : Nat) (v5_0 : List (List Leaf)) (e0 : Int → Option R) (e1 : Int → Option R) (rec : Int → Int → Option R) (v5_1 : Int) (v5_2 : Int) : Option R :=
  bif decide (v5_2 < (v5_0.length : Int)) then
    chk ((decide ((0 : Int) ≤ v5_2)) && (decide (v5_2 < (v5_0.length : Int)))) <|
    (laws_szEvent.f k (gi (v5_0.getD v5_2.toNat []) 0) (gi (v5_0.getD v5_2.toNat []) 1) (gl (v5_0.getD v5_2.toNat []) 2) (gl (v5_0.getD v5_2.toNat []) 3) v5_1).bind fun r1 =>
    bif decide (r1 < (0 : Int)) then
      e0 r1
    else
      rec r1 (IntKind.wrap .i64 (v5_2 + (1 : Int)))
  else
    e1 v5_1
def laws_szEventS.l5 {R : Type} (k : Nat) (v5_0 : List (List Leaf)) (e0 : Int → Option R) (e1 : Int → Option R) (n : Nat) (v5_1 : Int) (v5_2 : Int) : Option R :=
  V.iter (A := Int × Int) (fun rec a => laws_szEventS.s5 k v5_0 e0 e1 (fun c0 c1 => rec (c0, c1)) a.1 a.2) n (v5_1, v5_2)
theorem laws_szEventS.l5_zero {R : Type} (k : Nat) (v5_0 : List (List Leaf)) (e0 : Int → Option R) (e1 : Int → Option R) (v5_1 : Int) (v5_2 : Int) : laws_szEventS.l5 (R := R) k v5_0 e0 e1 0 v5_1 v5_2 = none := rfl
theorem laws_szEventS.l5_succ {R : Type} (k : Nat) (v5_0 : List (List Leaf)) (e0 : Int → Option R) (e1 : Int → Option R) (n : Nat) (v5_1 : Int) (v5_2 : Int) : laws_szEventS.l5 (R := R) k v5_0 e0 e1 (n + 1) v5_1 v5_2 = laws_szEventS.s5 k v5_0 e0 e1 (laws_szEventS.l5 k v5_0 e0 e1 n) v5_1 v5_2 := rfl
def laws_szEventS.f (k : Nat) (a0 : List (List Leaf)) (a1 : Int) : Option (Int) :=
  bif decide ((IntKind.wrap .i64 (a1 - (a0.length : Int))) < (0 : Int)) then
    some (-1 : Int)
  else
    laws_szEventS.l5 k a0 (fun x2 =>
      some (-1 : Int)) (fun x3 =>
      some x3) k (IntKind.wrap .i64 (a1 - (a0.length : Int))) (0 : Int)

def spec_CountEvents.s3 {R : Type} (k : Nat) (v3_0 : List (List Leaf)) (v3_1 : Int) (e0 : Int → Option R) (rec : Int → Int → Option R) (v3_2 : Int) (v3_3 : Int) : Option R :=
  bif decide (v3_3 < (v3_0.length : Int)) then
    chk ((decide ((0 : Int) ≤ v3_3)) && (decide (v3_3 < (v3_0.length : Int)))) <|
    bif ((gi (v3_0.getD v3_3.toNat []) 0) == v3_1) then
      rec (IntKind.wrap .i64 (v3_2 + (1 : Int))) (IntKind.wrap .i64 (v3_3 + (1 : Int)))
    else
      rec v3_2 (IntKind.wrap .i64 (v3_3 + (1 : Int)))
  else
    e0 v3_2
def spec_CountEvents.l3 {R : Type} (k : Nat) (v3_0 : List (List Leaf)) (v3_1 : Int) (e0 : Int → Option R) (n : Nat) (v3_2 : Int) (v3_3 : Int) : Option R :=
  V.iter (A := Int × Int) (fun rec a => spec_CountEvents.s3 k v3_0 v3_1 e0 (fun c0 c1 => rec (c0, c1)) a.1 a.2) n (v3_2, v3_3)
theorem spec_CountEvents.l3_zero {R : Type} (k : Nat) (v3_0 : List (List Leaf)) (v3_1 : Int) (e0 : Int → Option R) (v3_2 : Int) (v3_3 : Int) : spec_CountEvents.l3 (R := R) k v3_0 v3_1 e0 0 v3_2 v3_3 = none := rfl
theorem spec_CountEvents.l3_succ {R : Type} (k : Nat) (v3_0 : List (List Leaf)) (v3_1 : Int) (e0 : Int → Option R) (n : Nat) (v3_2 : Int) (v3_3 : Int) : spec_CountEvents.l3 (R := R) k v3_0 v3_1 e0 (n + 1) v3_2 v3_3 = spec_CountEvents.s3 k v3_0 v3_1 e0 (spec_CountEvents.l3 k v3_0 v3_1 e0 n) v3_2 v3_3 := rfl
def spec_CountEvents.f (k : Nat) (a0 : List (List Leaf)) (a1 : Int) : Option (Int) :=
  spec_CountEvents.l3 k a0 a1 (fun x1 =>
    some x1) k (0 : Int) (0 : Int)

def laws_toEvent.f (k : Nat) (a0_0 : Int) (a0_1 : Int) (a0_2 : List Int) (a0_3 : List Int) : Option (Int × Int × List Int × List Int) :=
  (laws_toIntS.f k a0_2).bind fun r1 =>
  (laws_toIntS.f k a0_3).bind fun r2 =>
  some (a0_0, a0_1, r1, r2)

def laws_toEventS.s3 {R : Type} (k : Nat) (v3_0 : List (List Leaf)) (e0 : List (List Leaf) → Option R) (rec : Int → List (List Leaf) → Option R) (v3_1 : Int) (v3_2 : List (List Leaf)) : Option R :=
  bif decide (v3_1 < (v3_0.length : Int)) then
    chk ((decide ((0 : Int) ≤ v3_1)) && (decide (v3_1 < (v3_0.length : Int)))) <|
    (laws_toEvent.f k (gi (v3_0.getD v3_1.toNat []) 0) (gi (v3_0.getD v3_1.toNat []) 1) (gl (v3_0.getD v3_1.toNat []) 2) (gl (v3_0.getD v3_1.toNat []) 3)).bind fun r1 =>
    chk ((decide ((0 : Int) ≤ v3_1)) && (decide (v3_1 < (v3_2.length : Int)))) <|
    (some (v3_2.set v3_1.toNat [.int r1.1, .int r1.2.1, .ints r1.2.2.1, .ints r1.2.2.2])).bind fun y2 =>
    rec (IntKind.wrap .i64 (v3_1 + (1 : Int))) y2
  else
    e0 v3_2
def laws_toEventS.l3 {R : Type} (k : Nat) (v3_0 : List (List Leaf)) (e0 : List (List Leaf) → Option R) (n : Nat) (v3_1 : Int) (v3_2 : List (List Leaf)) : Option R :=
  V.iter (A := Int × List (List Leaf)) (fun rec a => laws_toEventS.s3 k v3_0 e0 (fun c0 c1 => rec (c0, c1)) a.1 a.2) n (v3_1, v3_2)
theorem laws_toEventS.l3_zero {R : Type} (k : Nat) (v3_0 : List (List Leaf)) (e0 : List (List Leaf) → Option R) (v3_1 : Int) (v3_2 : List (List Leaf)) : laws_toEventS.l3 (R := R) k v3_0 e0 0 v3_1 v3_2 = none := rfl
theorem laws_toEventS.l3_succ {R : Type} (k : Nat) (v3_0 : List (List Leaf)) (e0 : List (List Leaf) → Option R) (n : Nat) (v3_1 : Int) (v3_2 : List (List Leaf)) : laws_toEventS.l3 (R := R) k v3_0 e0 (n + 1) v3_1 v3_2 = laws_toEventS.s3 k v3_0 e0 (laws_toEventS.l3 k v3_0 e0 n) v3_1 v3_2 := rfl
def laws_toEventS.f (k : Nat) (a0 : List (List Leaf)) : Option (List (List Leaf)) :=
  chk ((decide ((0 : Int) ≤ (a0.length : Int))) && (decide (((a0.length : Int).toNat) * 64 ≤ room))) <|
  laws_toEventS.l3 k a0 (fun x3 =>
    some x3) k (0 : Int) (List.replicate ((a0.length : Int).toNat) ([false, false, true, true].map zeroLeaf))

def impl_CountEvents.s3 {R : Type} (k : Nat) (v3_0 : Int) (v3_2 : List (List Leaf)) (v3_3 : Int) (e0 : Int → Option R) (rec : Int → Int → Option R) (v3_1 : Int) (v3_4 : Int) : Option R :=
  bif decide (v3_4 < v3_3) then
    chk ((decide ((0 : Int) ≤ v3_4)) && (decide (v3_4 < (v3_2.length : Int)))) <|
    bif ((gi (v3_2.getD v3_4.toNat []) 0) == v3_0) then
      rec (IntKind.wrap .i64 (v3_1 + (1 : Int))) (IntKind.wrap .i64 (v3_4 + (1 : Int)))
    else
      rec v3_1 (IntKind.wrap .i64 (v3_4 + (1 : Int)))
  else
    e0 v3_1
def impl_CountEvents.l3 {R : Type} (k : Nat) (v3_0 : Int) (v3_2 : List (List Leaf)) (v3_3 : Int) (e0 : Int → Option R) (n : Nat) (v3_1 : Int) (v3_4 : Int) : Option R :=
  V.iter (A := Int × Int) (fun rec a => impl_CountEvents.s3 k v3_0 v3_2 v3_3 e0 (fun c0 c1 => rec (c0, c1)) a.1 a.2) n (v3_1, v3_4)
theorem impl_CountEvents.l3_zero {R : Type} (k : Nat) (v3_0 : Int) (v3_2 : List (List Leaf)) (v3_3 : Int) (e0 : Int → Option R) (v3_1 : Int) (v3_4 : Int) : impl_CountEvents.l3 (R := R) k v3_0 v3_2 v3_3 e0 0 v3_1 v3_4 = none := rfl
theorem impl_CountEvents.l3_succ {R : Type} (k : Nat) (v3_0 : Int) (v3_2 : List (List Leaf)) (v3_3 : Int) (e0 : Int → Option R) (n : Nat) (v3_1 : Int) (v3_4 : Int) : impl_CountEvents.l3 (R := R) k v3_0 v3_2 v3_3 e0 (n + 1) v3_1 v3_4 = impl_CountEvents.s3 k v3_0 v3_2 v3_3 e0 (impl_CountEvents.l3 k v3_0 v3_2 v3_3 e0 n) v3_1 v3_4 := rfl
def impl_CountEvents.f (k : Nat) (a0 : List (List Leaf)) (a1 : Int) : Option (Int) :=
  impl_CountEvents.l3 k a1 a0 (a0.length : Int) (fun x1 =>
    some x1) k (0 : Int) (0 : Int)

def laws_eqEvent.f (k : Nat) (a0_0 : Int) (a0_1 : Int) (a0_2 : List Int) (a0_3 : List Int) (a1_0 : Int) (a1_1 : Int) (a1_2 : List Int) (a1_3 : List Int) : Option (Bool) :=
  bif (a0_0 != a1_0) then
    some false
  else
    bif (a0_1 != a1_1) then
      some false
    else
      (laws_eqIntS.f k a0_2 a1_2).bind fun r1 =>
      bif (!r1) then
        some false
      else
        (laws_eqIntS.f k a0_3 a1_3).bind fun r2 =>
        bif (!r2) then
          some false
        else
          some true

def laws_eqEventS.s4 {R : Type} (k : Nat) (v4_0 : List (List Leaf)) (v4_1 : List (List Leaf)) (e0 : Option R) (e1 : Option R) (rec : Int → Option R) (v4_2 : Int) : Option R :=
  bif decide (v4_2 < (v4_0.length : Int)) then
    chk ((decide ((0 : Int) ≤ v4_2)) && (decide (v4_2 < (v4_0.length : Int)))) <|
    chk ((decide ((0 : Int) ≤ v4_2)) && (decide (v4_2 < (v4_1.length : Int)))) <|
    (laws_eqEvent.f k (gi (v4_0.getD v4_2.toNat []) 0) (gi (v4_0.getD v4_2.toNat []) 1) (gl (v4_0.getD v4_2.toNat []) 2) (gl (v4_0.getD v4_2.toNat []) 3) (gi (v4_1.getD v4_2.toNat []) 0) (gi (v4_1.getD v4_2.toNat []) 1) (gl (v4_1.getD v4_2.toNat []) 2) (gl (v4_1.getD v4_2.toNat []) 3)).bind fun r1 =>
    bif (!r1) then
      e0
    else
      rec (IntKind.wrap .i64 (v4_2 + (1 : Int)))
  else
    e1
def laws_eqEventS.l4 {R : Type} (k : Nat) (v4_0 : List (List Leaf)) (v4_1 : List (List Leaf)) (e0 : Option R) (e1 : Option R) (n : Nat) (v4_2 : Int) : Option R :=
  V.iter (A := Int) (fun rec a => laws_eqEventS.s4 k v4_0 v4_1 e0 e1 (fun c0 => rec c0) a) n v4_2
theorem laws_eqEventS.l4_zero {R : Type} (k : Nat) (v4_0 : List (List Leaf)) (v4_1 : List (List Leaf)) (e0 : Option R) (e1 : Option R) (v4_2 : Int) : laws_eqEventS.l4 (R := R) k v4_0 v4_1 e0 e1 0 v4_2 = none := rfl
theorem laws_eqEventS.l4_succ {R : Type} (k : Nat) (v4_0 : List (List Leaf)) (v4_1 : List (List Leaf)) (e0 : Option R) (e1 : Option R) (n : Nat) (v4_2 : Int) : laws_eqEventS.l4 (R := R) k v4_0 v4_1 e0 e1 (n + 1) v4_2 = laws_eqEventS.s4 k v4_0 v4_1 e0 e1 (laws_eqEventS.l4 k v4_0 v4_1 e0 e1 n) v4_2 := rfl
def laws_eqEventS.f (k : Nat) (a0 : List (List Leaf)) (a1 : List (List Leaf)) : Option (Bool) :=
  bif ((a0.length : Int) != (a1.length : Int)) then
    some false
  else
    laws_eqEventS.l4 k a0 a1 (some false) (some true) k (0 : Int)

def laws_FnExactCountEvents.f (k : Nat) (a0 : List (List Leaf)) (a1 : Int) : Option (Bool) :=
  (laws_szEventS.f k a0 (1048576 : Int)).bind fun r1 =>
  bif decide (r1 < (0 : Int)) then
    some true
  else
    (laws_toEventS.f k a0).bind fun r2 =>
    (spec_CountEvents.f k r2 a1).bind fun r3 =>
    (laws_toEventS.f k a0).bind fun r4 =>
    (impl_CountEvents.f k r4 a1).bind fun r5 =>
    bif (r5 != r3) then
      some false
    else
      (laws_toEventS.f k a0).bind fun r6 =>
      (laws_eqEventS.f k r4 r6).bind fun r7 =>
      bif (!r7) then
        some false
      else
        some true
end Go.Proofs.Ytfkejiljabmaaaa
