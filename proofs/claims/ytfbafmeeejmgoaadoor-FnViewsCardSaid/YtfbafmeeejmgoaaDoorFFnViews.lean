/- Plain Lean functions, printed by a program out of the Go functions' translation: what each computes, without program and memory. -/
import Derived.Test.YtfbafmeeejmgoaaDoorVEval
import Derived.Test.YtfbafmeeejmgoaaDoorVExt
set_option linter.unusedVariables false
namespace Go.Proofs.YtfbafmeeejmgoaaDoor
open Go Go.Proofs.YtfbafmeeejmgoaaDoor.V

def impl_InRange.f (k : Nat) (a g i : Int) : Option (Bool) :=
 bif decide (g ≤ a) then
  some (decide (a ≤ i))
 else
  some false

def impl_IsCard.f (k : Nat) (a : Int) : Option (Bool) :=
 (impl_InRange.f k a 0 51).bind fun r1 =>
 some r1

def impl_RankOf.f (k : Nat) (a : Int) : Option (Int) :=
 (impl_IsCard.f k a).bind fun r1 =>
 bif (!r1) then
  some (-1)
 else
  some (a.tmod 13)

def impl_ranked.s3 {R : Type} (k : Nat) (v0 : LI) (v1 : Int) (e0 : LI → Option R) (rec : Int → LI → Option R) (v2 : Int) (v3 : LI) : Option R :=
 bif decide (v2 < v1) then
  chk ((decide (0 ≤ v2)) && (decide (v2 < (v0.length : Int)))) <|
  (impl_RankOf.f k (v0.getD v2.toNat 0)).bind fun r1 =>
  chk ((decide (0 ≤ r1)) && (decide (r1 < 13))) <|
  chk ((decide (0 ≤ r1)) && (decide (r1 < 13))) <|
  rec (IntKind.wrap .i64 (v2 + 1)) (v3.set r1.toNat (IntKind.wrap .i64 ((v3.getD r1.toNat 0) + 1)))
 else
  e0 v3
def impl_ranked.l3 {R : Type} (k : Nat) (v0 : LI) (v1 : Int) (e0 : LI → Option R) (n : Nat) (v2 : Int) (v3 : LI) : Option R :=
 V.iter (A := Int × LI) (fun rec a => impl_ranked.s3 k v0 v1 e0 (fun c0 c1 => rec (c0, c1)) a.1 a.2) n (v2, v3)
theorem impl_ranked.l3_succ {R : Type} (k : Nat) (v0 : LI) (v1 : Int) (e0 : LI → Option R) (n : Nat) (v2 : Int) (v3 : LI) : impl_ranked.l3 (R := R) k v0 v1 e0 (n + 1) v2 v3 = impl_ranked.s3 k v0 v1 e0 (impl_ranked.l3 k v0 v1 e0 n) v2 v3 := rfl
def impl_ranked.s12 {R : Type} (k : Nat) (v0 : Int) (v2 : LI) (e0 : LI → LI → Option R) (rec : Int → LI → LI → Option R) (v1 : Int) (v3 v4 : LI) : Option R :=
 bif decide (v1 ≥ 0) then
  chk ((decide (0 ≤ v1)) && (decide (v1 < 13))) <|
  bif ((v2.getD v1.toNat 0) == v0) then
   chk (decide ((v3.length + 1) * 8 ≤ room)) <|
   chk (decide ((v4.length + 1) * 8 ≤ room)) <|
   rec (IntKind.wrap .i64 (v1 - 1)) (v3 ++ [v1]) (v4 ++ [v0])
  else
   rec (IntKind.wrap .i64 (v1 - 1)) v3 v4
 else
  e0 v3 v4
def impl_ranked.l12 {R : Type} (k : Nat) (v0 : Int) (v2 : LI) (e0 : LI → LI → Option R) (n : Nat) (v1 : Int) (v3 v4 : LI) : Option R :=
 V.iter (A := Int × LI × LI) (fun rec a => impl_ranked.s12 k v0 v2 e0 (fun c0 c1 c2 => rec (c0, c1, c2)) a.1 a.2.1 (t2 a)) n (v1, v3, v4)
theorem impl_ranked.l12_succ {R : Type} (k : Nat) (v0 : Int) (v2 : LI) (e0 : LI → LI → Option R) (n : Nat) (v1 : Int) (v3 v4 : LI) : impl_ranked.l12 (R := R) k v0 v2 e0 (n + 1) v1 v3 v4 = impl_ranked.s12 k v0 v2 e0 (impl_ranked.l12 k v0 v2 e0 n) v1 v3 v4 := rfl
def impl_ranked.s9 {R : Type} (k : Nat) (v1 : LI) (e0 : LI → LI → Option R) (rec : Int → LI → LI → Option R) (v0 : Int) (v2 v3 : LI) : Option R :=
 bif decide (v0 ≥ 1) then
  impl_ranked.l12 k v0 v1 (fun x3 x4 =>
   rec (IntKind.wrap .i64 (v0 - 1)) x3 x4) k 12 v2 v3
 else
  e0 v2 v3
def impl_ranked.l9 {R : Type} (k : Nat) (v1 : LI) (e0 : LI → LI → Option R) (n : Nat) (v0 : Int) (v2 v3 : LI) : Option R :=
 V.iter (A := Int × LI × LI) (fun rec a => impl_ranked.s9 k v1 e0 (fun c0 c1 c2 => rec (c0, c1, c2)) a.1 a.2.1 (t2 a)) n (v0, v2, v3)
theorem impl_ranked.l9_succ {R : Type} (k : Nat) (v1 : LI) (e0 : LI → LI → Option R) (n : Nat) (v0 : Int) (v2 v3 : LI) : impl_ranked.l9 (R := R) k v1 e0 (n + 1) v0 v2 v3 = impl_ranked.s9 k v1 e0 (impl_ranked.l9 k v1 e0 n) v0 v2 v3 := rfl
def impl_ranked.f (k : Nat) (a : LI) : Option (LI × LI) :=
 impl_ranked.l3 k a (a.length : Int) (fun x2 =>
  impl_ranked.l9 k x2 (fun x5 x6 =>
   some (x5, x6)) k 4 [] []) k 0 [0, 0, 0, 0, 0, 0, 0, 0, 0, 0, 0, 0, 0]

def impl_EqualInts.s4 {R : Type} (k : Nat) (v0 v1 : LI) (v2 : Int) (e0 e1 : Option R) (rec : Int → Option R) (v3 : Int) : Option R :=
 bif decide (v3 < v2) then
  chk ((decide (0 ≤ v3)) && (decide (v3 < (v0.length : Int)))) <|
  chk ((decide (0 ≤ v3)) && (decide (v3 < (v1.length : Int)))) <|
  bif ((v0.getD v3.toNat 0) != (v1.getD v3.toNat 0)) then
   e0
  else
   rec (IntKind.wrap .i64 (v3 + 1))
 else
  e1
def impl_EqualInts.l4 {R : Type} (k : Nat) (v0 v1 : LI) (v2 : Int) (e0 e1 : Option R) (n : Nat) (v3 : Int) : Option R :=
 V.iter (A := Int) (fun rec a => impl_EqualInts.s4 k v0 v1 v2 e0 e1 (fun c0 => rec c0) a) n v3
theorem impl_EqualInts.l4_succ {R : Type} (k : Nat) (v0 v1 : LI) (v2 : Int) (e0 e1 : Option R) (n : Nat) (v3 : Int) : impl_EqualInts.l4 (R := R) k v0 v1 v2 e0 e1 (n + 1) v3 = impl_EqualInts.s4 k v0 v1 v2 e0 e1 (impl_EqualInts.l4 k v0 v1 v2 e0 e1 n) v3 := rfl
def impl_EqualInts.f (k : Nat) (a g : LI) : Option (Bool) :=
 bif ((a.length : Int) != (g.length : Int)) then
  some false
 else
  impl_EqualInts.l4 k a g (a.length : Int) (some false) (some true) k 0

def impl_straight.f (k : Nat) (a : LI) : Option (Int) :=
 bif ((a.length : Int) != 5) then
  some (-1)
 else
  chk (decide (0 < (a.length : Int))) <|
  chk (decide (4 < (a.length : Int))) <|
  bif ((IntKind.wrap .i64 ((a.getD 0 0) - (a.getD 4 0))) == 4) then
   chk (decide (0 < (a.length : Int))) <|
   some (a.getD 0 0)
  else
   (impl_EqualInts.f k a [12, 3, 2, 1, 0]).bind fun r1 =>
   bif r1 then
    some 3
   else
    some (-1)

def impl_IsHand.s3 {R : Type} (k : Nat) (v0 : LI) (v1 : Int) (e0 e1 : Option R) (rec : Int → List Bool → Option R) (v2 : Int) (v3 : List Bool) : Option R :=
 bif decide (v2 < v1) then
  chk ((decide (0 ≤ v2)) && (decide (v2 < (v0.length : Int)))) <|
  (impl_IsCard.f k (v0.getD v2.toNat 0)).bind fun r1 =>
  bif (!r1) then
   e0
  else
   chk ((decide (0 ≤ (v0.getD v2.toNat 0))) && (decide ((v0.getD v2.toNat 0) < 52))) <|
   bif (v3.getD ((v0.getD v2.toNat 0).toNat) false) then
    e0
   else
    chk ((decide (0 ≤ (v0.getD v2.toNat 0))) && (decide ((v0.getD v2.toNat 0) < 52))) <|
    rec (IntKind.wrap .i64 (v2 + 1)) (v3.set ((v0.getD v2.toNat 0).toNat) true)
 else
  e1
def impl_IsHand.l3 {R : Type} (k : Nat) (v0 : LI) (v1 : Int) (e0 e1 : Option R) (n : Nat) (v2 : Int) (v3 : List Bool) : Option R :=
 V.iter (A := Int × List Bool) (fun rec a => impl_IsHand.s3 k v0 v1 e0 e1 (fun c0 c1 => rec (c0, c1)) a.1 a.2) n (v2, v3)
theorem impl_IsHand.l3_succ {R : Type} (k : Nat) (v0 : LI) (v1 : Int) (e0 e1 : Option R) (n : Nat) (v2 : Int) (v3 : List Bool) : impl_IsHand.l3 (R := R) k v0 v1 e0 e1 (n + 1) v2 v3 = impl_IsHand.s3 k v0 v1 e0 e1 (impl_IsHand.l3 k v0 v1 e0 e1 n) v2 v3 := rfl
def impl_IsHand.f (k : Nat) (a : LI) : Option (Bool) :=
 impl_IsHand.l3 k a (a.length : Int) (some false) (some true) k 0 [false, false, false, false, false, false, false, false, false, false, false, false, false, false, false, false, false, false, false, false, false, false, false, false, false, false, false, false, false, false, false, false, false, false, false, false, false, false, false, false, false, false, false, false, false, false, false, false, false, false, false, false]

def impl_SuitOf.f (k : Nat) (a : Int) : Option (Int) :=
 (impl_IsCard.f k a).bind fun r1 =>
 bif (!r1) then
  some (-1)
 else
  some (IntKind.wrap .i64 (a.tdiv 13))

def impl_KindOf.s6 {R : Type} (k : Nat) (v0 v2 : LI) (v3 : Int) (e0 : Bool → Option R) (rec : Bool → Int → Option R) (v1 : Bool) (v4 : Int) : Option R :=
 bif decide (v4 < v3) then
  chk ((decide (0 ≤ v4)) && (decide (v4 < (v2.length : Int)))) <|
  bif v1 then
   (impl_SuitOf.f k (v2.getD v4.toNat 0)).bind fun r5 =>
   chk (decide (0 < (v0.length : Int))) <|
   (impl_SuitOf.f k (v0.getD 0 0)).bind fun r6 =>
   rec (r5 == r6) (IntKind.wrap .i64 (v4 + 1))
  else
   rec false (IntKind.wrap .i64 (v4 + 1))
 else
  e0 v1
def impl_KindOf.l6 {R : Type} (k : Nat) (v0 v2 : LI) (v3 : Int) (e0 : Bool → Option R) (n : Nat) (v1 : Bool) (v4 : Int) : Option R :=
 V.iter (A := Bool × Int) (fun rec a => impl_KindOf.s6 k v0 v2 v3 e0 (fun c0 c1 => rec (c0, c1)) a.1 a.2) n (v1, v4)
theorem impl_KindOf.l6_succ {R : Type} (k : Nat) (v0 v2 : LI) (v3 : Int) (e0 : Bool → Option R) (n : Nat) (v1 : Bool) (v4 : Int) : impl_KindOf.l6 (R := R) k v0 v2 v3 e0 (n + 1) v1 v4 = impl_KindOf.s6 k v0 v2 v3 e0 (impl_KindOf.l6 k v0 v2 v3 e0 n) v1 v4 := rfl
def impl_KindOf.f (k : Nat) (a : LI) : Option (Int) :=
 (impl_IsHand.f k a).bind fun r1 =>
 bif (!r1) then
  some (-1)
 else
  bif ((a.length : Int) != 5) then
   some (-1)
  else
   (impl_ranked.f k a).bind fun r2 =>
   impl_KindOf.l6 k a a (a.length : Int) (fun x7 =>
    (impl_straight.f k r2.1).bind fun r8 =>
    bif decide (r8 ≥ 0) then
     bif x7 then
      some 8
     else
      chk (decide (0 < (r2.2.length : Int))) <|
      bif ((r2.2.getD 0 0) == 4) then
       some 7
      else
       chk (decide (0 < (r2.2.length : Int))) <|
       bif ((r2.2.getD 0 0) == 3) then
        chk (decide (1 < (r2.2.length : Int))) <|
        bif ((r2.2.getD 1 0) == 2) then
         some 6
        else
         bif x7 then
          some 5
         else
          bif decide (r8 ≥ 0) then
           some 4
          else
           chk (decide (0 < (r2.2.length : Int))) <|
           bif ((r2.2.getD 0 0) == 3) then
            some 3
           else
            chk (decide (0 < (r2.2.length : Int))) <|
            bif ((r2.2.getD 0 0) == 2) then
             chk (decide (1 < (r2.2.length : Int))) <|
             bif ((r2.2.getD 1 0) == 2) then
              some 2
             else
              chk (decide (0 < (r2.2.length : Int))) <|
              bif ((r2.2.getD 0 0) == 2) then
               some 1
              else
               some 0
            else
             chk (decide (0 < (r2.2.length : Int))) <|
             bif ((r2.2.getD 0 0) == 2) then
              some 1
             else
              some 0
       else
        bif x7 then
         some 5
        else
         bif decide (r8 ≥ 0) then
          some 4
         else
          chk (decide (0 < (r2.2.length : Int))) <|
          bif ((r2.2.getD 0 0) == 3) then
           some 3
          else
           chk (decide (0 < (r2.2.length : Int))) <|
           bif ((r2.2.getD 0 0) == 2) then
            chk (decide (1 < (r2.2.length : Int))) <|
            bif ((r2.2.getD 1 0) == 2) then
             some 2
            else
             chk (decide (0 < (r2.2.length : Int))) <|
             bif ((r2.2.getD 0 0) == 2) then
              some 1
             else
              some 0
           else
            chk (decide (0 < (r2.2.length : Int))) <|
            bif ((r2.2.getD 0 0) == 2) then
             some 1
            else
             some 0
    else
     chk (decide (0 < (r2.2.length : Int))) <|
     bif ((r2.2.getD 0 0) == 4) then
      some 7
     else
      chk (decide (0 < (r2.2.length : Int))) <|
      bif ((r2.2.getD 0 0) == 3) then
       chk (decide (1 < (r2.2.length : Int))) <|
       bif ((r2.2.getD 1 0) == 2) then
        some 6
       else
        bif x7 then
         some 5
        else
         bif decide (r8 ≥ 0) then
          some 4
         else
          chk (decide (0 < (r2.2.length : Int))) <|
          bif ((r2.2.getD 0 0) == 3) then
           some 3
          else
           chk (decide (0 < (r2.2.length : Int))) <|
           bif ((r2.2.getD 0 0) == 2) then
            chk (decide (1 < (r2.2.length : Int))) <|
            bif ((r2.2.getD 1 0) == 2) then
             some 2
            else
             chk (decide (0 < (r2.2.length : Int))) <|
             bif ((r2.2.getD 0 0) == 2) then
              some 1
             else
              some 0
           else
            chk (decide (0 < (r2.2.length : Int))) <|
            bif ((r2.2.getD 0 0) == 2) then
             some 1
            else
             some 0
      else
       bif x7 then
        some 5
       else
        bif decide (r8 ≥ 0) then
         some 4
        else
         chk (decide (0 < (r2.2.length : Int))) <|
         bif ((r2.2.getD 0 0) == 3) then
          some 3
         else
          chk (decide (0 < (r2.2.length : Int))) <|
          bif ((r2.2.getD 0 0) == 2) then
           chk (decide (1 < (r2.2.length : Int))) <|
           bif ((r2.2.getD 1 0) == 2) then
            some 2
           else
            chk (decide (0 < (r2.2.length : Int))) <|
            bif ((r2.2.getD 0 0) == 2) then
             some 1
            else
             some 0
          else
           chk (decide (0 < (r2.2.length : Int))) <|
           bif ((r2.2.getD 0 0) == 2) then
            some 1
           else
            some 0) k true 0

def impl_KeyOf.f (k : Nat) (a : LI) : Option (LI) :=
 (impl_KindOf.f k a).bind fun r1 =>
 bif decide (r1 < 0) then
  some ([])
 else
  (impl_ranked.f k a).bind fun r2 =>
  (impl_straight.f k r2.1).bind fun r3 =>
  bif decide (r3 ≥ 0) then
   some ([r1, r3])
  else
   chk (decide ((1 + r2.1.length) * 8 ≤ room)) <|
   some ([r1] ++ r2.1)

def impl_KindName.f (k : Nat) (a : Int) : Option (ByteArray) :=
 (impl_InRange.f k a 0 8).bind fun r1 =>
 bif (!r1) then
  some ByteArray.empty
 else
  chk ((decide (0 ≤ a)) && (decide (a < 9))) <|
  some (([(⟨#[104, 105, 103, 104]⟩ : ByteArray), (⟨#[112, 97, 105, 114]⟩ : ByteArray), (⟨#[116, 119, 111]⟩ : ByteArray), (⟨#[116, 104, 114, 101, 101]⟩ : ByteArray), (⟨#[115, 116, 114, 97, 105, 103, 104, 116]⟩ : ByteArray), (⟨#[102, 108, 117, 115, 104]⟩ : ByteArray), (⟨#[102, 117, 108, 108]⟩ : ByteArray), (⟨#[102, 111, 117, 114]⟩ : ByteArray), (⟨#[115, 116, 114, 97, 105, 103, 104, 116, 102, 108, 117, 115, 104]⟩ : ByteArray)]).getD a.toNat ByteArray.empty)

def strings_Join.f (k : Nat) (a0 : List ByteArray) (a1 : ByteArray) : Option (ByteArray) :=
  chk (Nat.ble a0.length 140737488355328 && Nat.ble (joinB a0 a1).size 140737488355328) <| some (joinB a0 a1)

def strconv_Itoa.f (k : Nat) (a0 : Int) : Option (ByteArray) :=
  chk (decide ((-9223372036854775808 : Int) ≤ a0) && decide (a0 ≤ 9223372036854775807)) <| some (itoaB a0)

def impl_FormatInt.f (k : Nat) (a : Int) : Option (ByteArray) :=
 (strconv_Itoa.f k a).bind fun r1 =>
 some r1

def impl_numbersText.s3 {R : Type} (k : Nat) (v1 : LI) (v2 : Int) (e0 : List ByteArray → Option R) (rec : Int → List ByteArray → Option R) (v3 : Int) (v4 : List ByteArray) : Option R :=
 bif decide (v3 < v2) then
  chk ((decide (0 ≤ v3)) && (decide (v3 < (v1.length : Int)))) <|
  (impl_FormatInt.f k (v1.getD v3.toNat 0)).bind fun r1 =>
  chk (decide ((v4.length + 1) * 16 ≤ room)) <|
  rec (IntKind.wrap .i64 (v3 + 1)) (v4 ++ [r1])
 else
  e0 v4
def impl_numbersText.l3 {R : Type} (k : Nat) (v1 : LI) (v2 : Int) (e0 : List ByteArray → Option R) (n : Nat) (v3 : Int) (v4 : List ByteArray) : Option R :=
 V.iter (A := Int × List ByteArray) (fun rec a => impl_numbersText.s3 k v1 v2 e0 (fun c0 c1 => rec (c0, c1)) a.1 a.2) n (v3, v4)
theorem impl_numbersText.l3_succ {R : Type} (k : Nat) (v1 : LI) (v2 : Int) (e0 : List ByteArray → Option R) (n : Nat) (v3 : Int) (v4 : List ByteArray) : impl_numbersText.l3 (R := R) k v1 v2 e0 (n + 1) v3 v4 = impl_numbersText.s3 k v1 v2 e0 (impl_numbersText.l3 k v1 v2 e0 n) v3 v4 := rfl
def impl_numbersText.f (k : Nat) (a : LI) (g : ByteArray) : Option (ByteArray) :=
 impl_numbersText.l3 k a (a.length : Int) (fun x2 =>
  (strings_Join.f k x2 g).bind fun r3 =>
  some r3) k 0 []

def impl_FormatKey.f (k : Nat) (a : LI) : Option (ByteArray) :=
 (impl_KeyOf.f k a).bind fun r1 =>
 bif ((r1.length : Int) == 0) then
  some (⟨#[45]⟩ : ByteArray)
 else
  chk (decide (0 < (r1.length : Int))) <|
  (impl_KindName.f k (r1.getD 0 0)).bind fun r2 =>
  chk (decide (r2.size + (⟨#[58]⟩ : ByteArray).size ≤ maxI)) <|
  chk ((decide (0 ≤ (r1.length : Int))) && (decide ((r1.length : Int) ≤ (r1.length : Int)))) <|
  chk (decide (1 ≤ (r1.length : Int))) <|
  (impl_numbersText.f k ((r1.take ((r1.length : Int).toNat)).drop 1) (⟨#[44]⟩ : ByteArray)).bind fun r3 =>
  chk (decide ((r2 ++ (⟨#[58]⟩ : ByteArray)).size + r3.size ≤ maxI)) <|
  some ((r2 ++ (⟨#[58]⟩ : ByteArray)) ++ r3)

def laws_big.f (k : Nat) (a : LI) : Option (Bool) :=
 some (decide ((a.length : Int) > 1048576))

def spec_HasCard.s2 {R : Type} (k : Nat) (v0 : LI) (v1 : Int) (e0 e1 : Option R) (rec : Int → Option R) (v2 : Int) : Option R :=
 bif decide (v2 < (v0.length : Int)) then
  chk ((decide (0 ≤ v2)) && (decide (v2 < (v0.length : Int)))) <|
  bif ((v0.getD v2.toNat 0) == v1) then
   e0
  else
   rec (IntKind.wrap .i64 (v2 + 1))
 else
  e1
def spec_HasCard.l2 {R : Type} (k : Nat) (v0 : LI) (v1 : Int) (e0 e1 : Option R) (n : Nat) (v2 : Int) : Option R :=
 V.iter (A := Int) (fun rec a => spec_HasCard.s2 k v0 v1 e0 e1 (fun c0 => rec c0) a) n v2
theorem spec_HasCard.l2_succ {R : Type} (k : Nat) (v0 : LI) (v1 : Int) (e0 e1 : Option R) (n : Nat) (v2 : Int) : spec_HasCard.l2 (R := R) k v0 v1 e0 e1 (n + 1) v2 = spec_HasCard.s2 k v0 v1 e0 e1 (spec_HasCard.l2 k v0 v1 e0 e1 n) v2 := rfl
def spec_HasCard.f (k : Nat) (a : LI) (g : Int) : Option (Bool) :=
 spec_HasCard.l2 k a g (some true) (some false) k 0

def spec_l1In.f (k : Nat) (a g i : Int) : Option (Bool) :=
 bif decide (a ≥ g) then
  some (decide (a ≤ i))
 else
  some false

def spec_IsCard.f (k : Nat) (a : Int) : Option (Bool) :=
 (spec_l1In.f k a 0 51).bind fun r1 =>
 some r1

def spec_IsHand.s2 {R : Type} (k : Nat) (v0 : LI) (e0 e1 : Option R) (rec : Int → Option R) (v1 : Int) : Option R :=
 bif decide (v1 < (v0.length : Int)) then
  chk ((decide (0 ≤ v1)) && (decide (v1 < (v0.length : Int)))) <|
  (spec_IsCard.f k (v0.getD v1.toNat 0)).bind fun r1 =>
  bif (!r1) then
   e0
  else
   chk ((decide (0 ≤ v1)) && (decide (v1 ≤ (v0.length : Int)))) <|
   chk ((decide (0 ≤ v1)) && (decide (v1 < (v0.length : Int)))) <|
   (spec_HasCard.f k (v0.take v1.toNat) (v0.getD v1.toNat 0)).bind fun r2 =>
   bif r2 then
    e0
   else
    rec (IntKind.wrap .i64 (v1 + 1))
 else
  e1
def spec_IsHand.l2 {R : Type} (k : Nat) (v0 : LI) (e0 e1 : Option R) (n : Nat) (v1 : Int) : Option R :=
 V.iter (A := Int) (fun rec a => spec_IsHand.s2 k v0 e0 e1 (fun c0 => rec c0) a) n v1
theorem spec_IsHand.l2_succ {R : Type} (k : Nat) (v0 : LI) (e0 e1 : Option R) (n : Nat) (v1 : Int) : spec_IsHand.l2 (R := R) k v0 e0 e1 (n + 1) v1 = spec_IsHand.s2 k v0 e0 e1 (spec_IsHand.l2 k v0 e0 e1 n) v1 := rfl
def spec_IsHand.f (k : Nat) (a : LI) : Option (Bool) :=
 spec_IsHand.l2 k a (some false) (some true) k 0

def spec_l10Ok.f (k : Nat) (a : LI) : Option (Bool) :=
 (spec_IsHand.f k a).bind fun r1 =>
 bif r1 then
  some (decide ((a.length : Int) ≤ 12))
 else
  some false

def spec_l10Before.s2 {R : Type} (k : Nat) (v0 v1 : LI) (e0 : Bool → Option R) (e1 : Option R) (rec : Int → Option R) (v2 : Int) : Option R :=
 bif decide (v2 < (v0.length : Int)) then
  bif decide (v2 < (v1.length : Int)) then
   chk ((decide (0 ≤ v2)) && (decide (v2 < (v0.length : Int)))) <|
   chk ((decide (0 ≤ v2)) && (decide (v2 < (v1.length : Int)))) <|
   bif ((v0.getD v2.toNat 0) != (v1.getD v2.toNat 0)) then
    chk ((decide (0 ≤ v2)) && (decide (v2 < (v0.length : Int)))) <|
    chk ((decide (0 ≤ v2)) && (decide (v2 < (v1.length : Int)))) <|
    e0 (decide ((v0.getD v2.toNat 0) < (v1.getD v2.toNat 0)))
   else
    rec (IntKind.wrap .i64 (v2 + 1))
  else
   e1
 else
  e1
def spec_l10Before.l2 {R : Type} (k : Nat) (v0 v1 : LI) (e0 : Bool → Option R) (e1 : Option R) (n : Nat) (v2 : Int) : Option R :=
 V.iter (A := Int) (fun rec a => spec_l10Before.s2 k v0 v1 e0 e1 (fun c0 => rec c0) a) n v2
theorem spec_l10Before.l2_succ {R : Type} (k : Nat) (v0 v1 : LI) (e0 : Bool → Option R) (e1 : Option R) (n : Nat) (v2 : Int) : spec_l10Before.l2 (R := R) k v0 v1 e0 e1 (n + 1) v2 = spec_l10Before.s2 k v0 v1 e0 e1 (spec_l10Before.l2 k v0 v1 e0 e1 n) v2 := rfl
def spec_l10Before.f (k : Nat) (a g : LI) : Option (Bool) :=
 spec_l10Before.l2 k a g (fun x1 =>
  some x1) (some (decide ((a.length : Int) < (g.length : Int)))) k 0

def spec_l10Put.s2 {R : Type} (k : Nat) (v0 : LL) (v1 : LI) (e0 rec : Int → Option R) (v2 : Int) : Option R :=
 bif decide (v2 > 0) then
  chk ((decide (0 ≤ (IntKind.wrap .i64 (v2 - 1)))) && (decide ((IntKind.wrap .i64 (v2 - 1)) < (v0.length : Int)))) <|
  (spec_l10Before.f k v1 (v0.getD ((IntKind.wrap .i64 (v2 - 1)).toNat) [])).bind fun r1 =>
  bif r1 then
   rec (IntKind.wrap .i64 (v2 - 1))
  else
   e0 v2
 else
  e0 v2
def spec_l10Put.l2 {R : Type} (k : Nat) (v0 : LL) (v1 : LI) (e0 : Int → Option R) (n : Nat) (v2 : Int) : Option R :=
 V.iter (A := Int) (fun rec a => spec_l10Put.s2 k v0 v1 e0 (fun c0 => rec c0) a) n v2
theorem spec_l10Put.l2_succ {R : Type} (k : Nat) (v0 : LL) (v1 : LI) (e0 : Int → Option R) (n : Nat) (v2 : Int) : spec_l10Put.l2 (R := R) k v0 v1 e0 (n + 1) v2 = spec_l10Put.s2 k v0 v1 e0 (spec_l10Put.l2 k v0 v1 e0 n) v2 := rfl
def spec_l10Put.f (k : Nat) (a : LL) (g : LI) : Option (LL) :=
 spec_l10Put.l2 k a g (fun x2 =>
  chk ((decide (0 ≤ x2)) && (decide (x2 ≤ (a.length : Int)))) <|
  chk (decide ((0 + ((a.take x2.toNat).length)) * 24 ≤ room)) <|
  chk (decide (((([] ++ (a.take x2.toNat)).length) + 1) * 24 ≤ room)) <|
  chk ((decide (0 ≤ x2)) && (decide (x2 ≤ (a.length : Int)))) <|
  chk (decide ((((([] ++ (a.take x2.toNat)) ++ [g]).length) + ((a.drop x2.toNat).length)) * 24 ≤ room)) <|
  some ((([] ++ (a.take x2.toNat)) ++ [g]) ++ (a.drop x2.toNat))) k (a.length : Int)

def spec_Without.s3 {R : Type} (k : Nat) (v0 : LI) (v1 : Int) (e0 : LI → Option R) (rec : Int → LI → Option R) (v2 : Int) (v3 : LI) : Option R :=
 bif decide (v2 < (v0.length : Int)) then
  chk ((decide (0 ≤ v2)) && (decide (v2 < (v0.length : Int)))) <|
  bif ((v0.getD v2.toNat 0) != v1) then
   chk ((decide (0 ≤ v2)) && (decide (v2 < (v0.length : Int)))) <|
   chk (decide ((v3.length + 1) * 8 ≤ room)) <|
   rec (IntKind.wrap .i64 (v2 + 1)) (v3 ++ [v0.getD v2.toNat 0])
  else
   rec (IntKind.wrap .i64 (v2 + 1)) v3
 else
  e0 v3
def spec_Without.l3 {R : Type} (k : Nat) (v0 : LI) (v1 : Int) (e0 : LI → Option R) (n : Nat) (v2 : Int) (v3 : LI) : Option R :=
 V.iter (A := Int × LI) (fun rec a => spec_Without.s3 k v0 v1 e0 (fun c0 c1 => rec (c0, c1)) a.1 a.2) n (v2, v3)
theorem spec_Without.l3_succ {R : Type} (k : Nat) (v0 : LI) (v1 : Int) (e0 : LI → Option R) (n : Nat) (v2 : Int) (v3 : LI) : spec_Without.l3 (R := R) k v0 v1 e0 (n + 1) v2 v3 = spec_Without.s3 k v0 v1 e0 (spec_Without.l3 k v0 v1 e0 n) v2 v3 := rfl
def spec_Without.f (k : Nat) (a : LI) (g : Int) : Option (LI) :=
 spec_Without.l3 k a g (fun x1 =>
  some x1) k 0 []

def spec_SuitOf.f (k : Nat) (a : Int) : Option (Int) :=
 (spec_IsCard.f k a).bind fun r1 =>
 bif (!r1) then
  some (-1)
 else
  some (IntKind.wrap .i64 (a.tdiv 13))

def spec_MeldsIn.s9 {R : Type} (k : Nat) (v0 : LI) (v2 : Int) (e0 : LI → Option R) (rec : Int → LI → Option R) (v3 : Int) (v4 : LI) : Option R :=
 bif decide (v3 < 4) then
  (spec_HasCard.f k v0 (IntKind.wrap .i64 ((IntKind.wrap .i64 (v3 * 13)) + v2))).bind fun r2 =>
  bif r2 then
   chk (decide ((v4.length + 1) * 8 ≤ room)) <|
   rec (IntKind.wrap .i64 (v3 + 1)) (v4 ++ [IntKind.wrap .i64 ((IntKind.wrap .i64 (v3 * 13)) + v2)])
  else
   rec (IntKind.wrap .i64 (v3 + 1)) v4
 else
  e0 v4
def spec_MeldsIn.l9 {R : Type} (k : Nat) (v0 : LI) (v2 : Int) (e0 : LI → Option R) (n : Nat) (v3 : Int) (v4 : LI) : Option R :=
 V.iter (A := Int × LI) (fun rec a => spec_MeldsIn.s9 k v0 v2 e0 (fun c0 c1 => rec (c0, c1)) a.1 a.2) n (v3, v4)
theorem spec_MeldsIn.l9_succ {R : Type} (k : Nat) (v0 : LI) (v2 : Int) (e0 : LI → Option R) (n : Nat) (v3 : Int) (v4 : LI) : spec_MeldsIn.l9 (R := R) k v0 v2 e0 (n + 1) v3 v4 = spec_MeldsIn.s9 k v0 v2 e0 (spec_MeldsIn.l9 k v0 v2 e0 n) v3 v4 := rfl
def spec_MeldsIn.s16 {R : Type} (k : Nat) (v3 : LI) (e0 : LL → Option R) (rec : LL → Int → Option R) (v1 : LL) (v4 : Int) : Option R :=
 bif decide (v4 < (v3.length : Int)) then
  bif ((v3.length : Int) == 4) then
   chk ((decide (0 ≤ v4)) && (decide (v4 < (v3.length : Int)))) <|
   (spec_Without.f k v3 (v3.getD v4.toNat 0)).bind fun r5 =>
   (spec_l10Put.f k v1 r5).bind fun r6 =>
   rec r6 (IntKind.wrap .i64 (v4 + 1))
  else
   e0 v1
 else
  e0 v1
def spec_MeldsIn.l16 {R : Type} (k : Nat) (v3 : LI) (e0 : LL → Option R) (n : Nat) (v1 : LL) (v4 : Int) : Option R :=
 V.iter (A := LL × Int) (fun rec a => spec_MeldsIn.s16 k v3 e0 (fun c0 c1 => rec (c0, c1)) a.1 a.2) n (v1, v4)
theorem spec_MeldsIn.l16_succ {R : Type} (k : Nat) (v3 : LI) (e0 : LL → Option R) (n : Nat) (v1 : LL) (v4 : Int) : spec_MeldsIn.l16 (R := R) k v3 e0 (n + 1) v1 v4 = spec_MeldsIn.s16 k v3 e0 (spec_MeldsIn.l16 k v3 e0 n) v1 v4 := rfl
def spec_MeldsIn.s5 {R : Type} (k : Nat) (v0 : LI) (e0 : LL → Option R) (rec : LL → Int → Option R) (v1 : LL) (v2 : Int) : Option R :=
 bif decide (v2 < 13) then
  spec_MeldsIn.l9 k v0 v2 (fun x3 =>
   bif decide ((x3.length : Int) ≥ 3) then
    (spec_l10Put.f k v1 x3).bind fun r4 =>
    spec_MeldsIn.l16 k x3 (fun x7 =>
     rec x7 (IntKind.wrap .i64 (v2 + 1))) k r4 0
   else
    spec_MeldsIn.l16 k x3 (fun x8 =>
     rec x8 (IntKind.wrap .i64 (v2 + 1))) k v1 0) k 0 []
 else
  e0 v1
def spec_MeldsIn.l5 {R : Type} (k : Nat) (v0 : LI) (e0 : LL → Option R) (n : Nat) (v1 : LL) (v2 : Int) : Option R :=
 V.iter (A := LL × Int) (fun rec a => spec_MeldsIn.s5 k v0 e0 (fun c0 c1 => rec (c0, c1)) a.1 a.2) n (v1, v2)
theorem spec_MeldsIn.l5_succ {R : Type} (k : Nat) (v0 : LI) (e0 : LL → Option R) (n : Nat) (v1 : LL) (v2 : Int) : spec_MeldsIn.l5 (R := R) k v0 e0 (n + 1) v1 v2 = spec_MeldsIn.s5 k v0 e0 (spec_MeldsIn.l5 k v0 e0 n) v1 v2 := rfl
def spec_MeldsIn.s24 {R : Type} (k : Nat) (v0 : LI) (v2 : Int) (e0 : LL → Option R) (rec : LL → Int → LI → Option R) (v1 : LL) (v3 : Int) (v4 : LI) : Option R :=
 (spec_HasCard.f k v0 v3).bind fun r10 =>
 bif r10 then
  (spec_SuitOf.f k v3).bind fun r11 =>
  (spec_SuitOf.f k v2).bind fun r12 =>
  bif (r11 == r12) then
   chk (decide ((v4.length + 1) * 8 ≤ room)) <|
   bif decide (((v4 ++ [v3]).length : Int) ≥ 3) then
    chk (decide ((0 + ((v4 ++ [v3]).length)) * 8 ≤ room)) <|
    (spec_l10Put.f k v1 ([] ++ (v4 ++ [v3]))).bind fun r13 =>
    rec r13 (IntKind.wrap .i64 (v3 + 1)) (v4 ++ [v3])
   else
    rec v1 (IntKind.wrap .i64 (v3 + 1)) (v4 ++ [v3])
  else
   e0 v1
 else
  e0 v1
def spec_MeldsIn.l24 {R : Type} (k : Nat) (v0 : LI) (v2 : Int) (e0 : LL → Option R) (n : Nat) (v1 : LL) (v3 : Int) (v4 : LI) : Option R :=
 V.iter (A := LL × Int × LI) (fun rec a => spec_MeldsIn.s24 k v0 v2 e0 (fun c0 c1 c2 => rec (c0, c1, c2)) a.1 a.2.1 (t2 a)) n (v1, v3, v4)
theorem spec_MeldsIn.l24_succ {R : Type} (k : Nat) (v0 : LI) (v2 : Int) (e0 : LL → Option R) (n : Nat) (v1 : LL) (v3 : Int) (v4 : LI) : spec_MeldsIn.l24 (R := R) k v0 v2 e0 (n + 1) v1 v3 v4 = spec_MeldsIn.s24 k v0 v2 e0 (spec_MeldsIn.l24 k v0 v2 e0 n) v1 v3 v4 := rfl
def spec_MeldsIn.s20 {R : Type} (k : Nat) (v0 : LI) (e0 : LL → Option R) (rec : LL → Int → Option R) (v1 : LL) (v2 : Int) : Option R :=
 bif decide (v2 < 52) then
  spec_MeldsIn.l24 k v0 v2 (fun x14 =>
   rec x14 (IntKind.wrap .i64 (v2 + 1))) k v1 v2 []
 else
  e0 v1
def spec_MeldsIn.l20 {R : Type} (k : Nat) (v0 : LI) (e0 : LL → Option R) (n : Nat) (v1 : LL) (v2 : Int) : Option R :=
 V.iter (A := LL × Int) (fun rec a => spec_MeldsIn.s20 k v0 e0 (fun c0 c1 => rec (c0, c1)) a.1 a.2) n (v1, v2)
theorem spec_MeldsIn.l20_succ {R : Type} (k : Nat) (v0 : LI) (e0 : LL → Option R) (n : Nat) (v1 : LL) (v2 : Int) : spec_MeldsIn.l20 (R := R) k v0 e0 (n + 1) v1 v2 = spec_MeldsIn.s20 k v0 e0 (spec_MeldsIn.l20 k v0 e0 n) v1 v2 := rfl
def spec_MeldsIn.f (k : Nat) (a : LI) : Option (LL) :=
 (spec_l10Ok.f k a).bind fun r1 =>
 bif (!r1) then
  some ([])
 else
  spec_MeldsIn.l5 k a (fun x9 =>
   spec_MeldsIn.l20 k a (fun x15 =>
    some x15) k x9 0) k [] 0

def spec_l1New.s3 {R : Type} (k : Nat) (v0 : LI) (e0 : Int → Option R) (rec : Int → Int → Option R) (v1 v2 : Int) : Option R :=
 bif decide (v2 < (v0.length : Int)) then
  bif decide (v2 < 4000) then
   chk ((decide (0 ≤ v2)) && (decide (v2 < (v0.length : Int)))) <|
   rec (ibits .and .i64 (IntKind.wrap .i64 ((IntKind.wrap .i64 ((IntKind.wrap .i64 (v1 * 137)) + (IntKind.wrap .i64 (v0.getD v2.toNat 0)))) + 11)) 1073741823) (IntKind.wrap .i64 (v2 + 1))
  else
   e0 v1
 else
  e0 v1
def spec_l1New.l3 {R : Type} (k : Nat) (v0 : LI) (e0 : Int → Option R) (n : Nat) (v1 v2 : Int) : Option R :=
 V.iter (A := Int × Int) (fun rec a => spec_l1New.s3 k v0 e0 (fun c0 c1 => rec (c0, c1)) a.1 a.2) n (v1, v2)
theorem spec_l1New.l3_succ {R : Type} (k : Nat) (v0 : LI) (e0 : Int → Option R) (n : Nat) (v1 v2 : Int) : spec_l1New.l3 (R := R) k v0 e0 (n + 1) v1 v2 = spec_l1New.s3 k v0 e0 (spec_l1New.l3 k v0 e0 n) v1 v2 := rfl
def spec_l1New.f (k : Nat) (a : LI) : Option (LI × Int × Int) :=
 spec_l1New.l3 k a (fun x1 =>
  some (a, 0, x1)) k (IntKind.wrap .i64 (193017 + (a.length : Int))) 0

def spec_l1Byte.f (k : Nat) (a0 : LI) (a1 a2 : Int) : Option (Int × LI × Int × Int) :=
 bif decide (a1 < (a0.length : Int)) then
  chk ((decide (0 ≤ a1)) && (decide (a1 < (a0.length : Int)))) <|
  some (ibits .and .i64 (IntKind.wrap .i64 ((ibits .and .i64 (ibits .xor .i64 ((IntKind.wrap .i64 ((IntKind.wrap .i64 (a2 * 6364136223846793005)) + 1442695040888963407)).fdiv (2 ^ (min 33 (IntKind.bits .i64)))) ((IntKind.wrap .i64 ((IntKind.wrap .i64 (a2 * 6364136223846793005)) + 1442695040888963407)).fdiv (2 ^ (min 47 (IntKind.bits .i64))))) 255) + (IntKind.wrap .i64 (a0.getD a1.toNat 0)))) 255, a0, IntKind.wrap .i64 (a1 + 1), IntKind.wrap .i64 ((IntKind.wrap .i64 (a2 * 6364136223846793005)) + 1442695040888963407))
 else
  some (ibits .and .i64 (ibits .xor .i64 ((IntKind.wrap .i64 ((IntKind.wrap .i64 (a2 * 6364136223846793005)) + 1442695040888963407)).fdiv (2 ^ (min 33 (IntKind.bits .i64)))) ((IntKind.wrap .i64 ((IntKind.wrap .i64 (a2 * 6364136223846793005)) + 1442695040888963407)).fdiv (2 ^ (min 47 (IntKind.bits .i64))))) 255, a0, a1, IntKind.wrap .i64 ((IntKind.wrap .i64 (a2 * 6364136223846793005)) + 1442695040888963407))

def spec_l1Below.f (k : Nat) (a0 : LI) (a1 a2 g : Int) : Option (Int × LI × Int × Int) :=
 bif decide (g ≤ 0) then
  some (0, a0, a1, a2)
 else
  bif decide (g ≤ 256) then
   (spec_l1Byte.f k a0 a1 a2).bind fun r1 =>
   chk (!(decide (g = 0))) <|
   some (r1.1.tmod g, r1.2.1, (t2 r1).1, (t3 r1))
  else
   (spec_l1Byte.f k a0 a1 a2).bind fun r2 =>
   (spec_l1Byte.f k r2.2.1 (t2 r2).1 (t3 r2)).bind fun r3 =>
   (spec_l1Byte.f k r3.2.1 (t2 r3).1 (t3 r3)).bind fun r4 =>
   chk (!(decide (g = 0))) <|
   some ((IntKind.wrap .i64 ((IntKind.wrap .i64 ((IntKind.wrap .i64 (r2.1 * 65536)) + (IntKind.wrap .i64 (r3.1 * 256)))) + r4.1)).tmod g, r4.2.1, (t2 r4).1, (t3 r4))

def spec_l1Once.f (k : Nat) (a0 : LI) (a1 a2 g : Int) : Option (Bool × LI × Int × Int) :=
 (spec_l1Below.f k a0 a1 a2 g).bind fun r1 =>
 some (r1.1 == 0, r1.2.1, (t2 r1).1, (t3 r1))

def spec_l5Some.s6 {R : Type} (k : Nat) (v6 : LI) (e0 rec : Int → Option R) (v2 : Int) : Option R :=
 (spec_HasCard.f k v6 v2).bind fun r2 =>
 bif r2 then
  rec ((IntKind.wrap .i64 (v2 + 7)).tmod 52)
 else
  e0 v2
def spec_l5Some.l6 {R : Type} (k : Nat) (v6 : LI) (e0 : Int → Option R) (n : Nat) (v2 : Int) : Option R :=
 V.iter (A := Int) (fun rec a => spec_l5Some.s6 k v6 e0 (fun c0 => rec c0) a) n v2
theorem spec_l5Some.l6_succ {R : Type} (k : Nat) (v6 : LI) (e0 : Int → Option R) (n : Nat) (v2 : Int) : spec_l5Some.l6 (R := R) k v6 e0 (n + 1) v2 = spec_l5Some.s6 k v6 e0 (spec_l5Some.l6 k v6 e0 n) v2 := rfl
def spec_l5Some.s3 {R : Type} (k : Nat) (v0 : Int) (e0 : LI → LI → Int → Int → Option R) (rec : Int → LI → Int → Int → LI → Option R) (v1 : Int) (v2 : LI) (v3 v4 : Int) (v5 : LI) : Option R :=
 bif decide (v1 < v0) then
  (spec_l1Below.f k v2 v3 v4 52).bind fun r1 =>
  spec_l5Some.l6 k v5 (fun x3 =>
   chk (decide ((v5.length + 1) * 8 ≤ room)) <|
   rec (IntKind.wrap .i64 (v1 + 1)) r1.2.1 (t2 r1).1 (t3 r1) (v5 ++ [x3])) k r1.1
 else
  e0 v5 v2 v3 v4
def spec_l5Some.l3 {R : Type} (k : Nat) (v0 : Int) (e0 : LI → LI → Int → Int → Option R) (n : Nat) (v1 : Int) (v2 : LI) (v3 v4 : Int) (v5 : LI) : Option R :=
 V.iter (A := Int × LI × Int × Int × LI) (fun rec a => spec_l5Some.s3 k v0 e0 (fun c0 c1 c2 c3 c4 => rec (c0, c1, c2, c3, c4)) a.1 a.2.1 (t2 a).1 (t3 a).1 (t4 a)) n (v1, v2, v3, v4, v5)
theorem spec_l5Some.l3_succ {R : Type} (k : Nat) (v0 : Int) (e0 : LI → LI → Int → Int → Option R) (n : Nat) (v1 : Int) (v2 : LI) (v3 v4 : Int) (v5 : LI) : spec_l5Some.l3 (R := R) k v0 e0 (n + 1) v1 v2 v3 v4 v5 = spec_l5Some.s3 k v0 e0 (spec_l5Some.l3 k v0 e0 n) v1 v2 v3 v4 v5 := rfl
def spec_l5Some.f (k : Nat) (a0 : LI) (a1 a2 g : Int) : Option (LI × LI × Int × Int) :=
 spec_l5Some.l3 k g (fun x4 x5 x6 x7 =>
  some (x4, x5, x6, x7)) k 0 a0 a1 a2 []

def spec_l1Int.f (k : Nat) (a0 : LI) (a1 a2 : Int) (g : LI) : Option (Int × LI × Int × Int) :=
 (spec_l1Below.f k a0 a1 a2 (g.length : Int)).bind fun r1 =>
 chk ((decide (0 ≤ r1.1)) && (decide (r1.1 < (g.length : Int)))) <|
 some (g.getD r1.1.toNat 0, r1.2.1, (t2 r1).1, (t3 r1))

def spec_l5Any.f (k : Nat) (a0 : LI) (a1 a2 : Int) : Option (LI × LI × Int × Int) :=
 (spec_l1Below.f k a0 a1 a2 9).bind fun r1 =>
 (spec_l5Some.f k r1.2.1 (t2 r1).1 (t3 r1) r1.1).bind fun r2 =>
 bif decide ((r2.1.length : Int) > 0) then
  (spec_l1Once.f k r2.2.1 (t2 r2).1 (t3 r2) 10).bind fun r3 =>
  bif r3.1 then
   chk ((decide (0 ≤ (IntKind.wrap .i64 ((r2.1.length : Int) - 1)))) && (decide ((IntKind.wrap .i64 ((r2.1.length : Int) - 1)) < (r2.1.length : Int)))) <|
   (spec_l1Int.f k r3.2.1 (t2 r3).1 (t3 r3) [r2.1.getD ((IntKind.wrap .i64 ((r2.1.length : Int) - 1)).toNat) 0, 52, (-1)]).bind fun r4 =>
   chk (decide (0 < (r2.1.length : Int))) <|
   some (r2.1.set 0 r4.1, r4.2.1, (t2 r4).1, (t3 r4))
  else
   some (r2.1, r3.2.1, (t2 r3).1, (t3 r3))
 else
  some (r2.1, r2.2.1, (t2 r2).1, (t3 r2))

def spec_l10Draw.s7 {R : Type} (k : Nat) (e0 : LI → Int → Int → LI → Option R) (rec : Int → Int → LI → Int → Int → LI → Option R) (v1 v2 : Int) (v3 : LI) (v4 v5 : Int) (v6 : LI) : Option R :=
 bif decide (v2 > 0) then
  (spec_HasCard.f k v6 v1).bind fun r4 =>
  bif (!r4) then
   bif decide ((v6.length : Int) < 11) then
    chk (decide ((v6.length + 1) * 8 ≤ room)) <|
    (spec_l1Int.f k v3 v4 v5 [1, 1, 13]).bind fun r5 =>
    rec ((IntKind.wrap .i64 (v1 + r5.1)).tmod 52) (IntKind.wrap .i64 (v2 - 1)) r5.2.1 (t2 r5).1 (t3 r5) (v6 ++ [v1])
   else
    (spec_l1Int.f k v3 v4 v5 [1, 1, 13]).bind fun r6 =>
    rec ((IntKind.wrap .i64 (v1 + r6.1)).tmod 52) (IntKind.wrap .i64 (v2 - 1)) r6.2.1 (t2 r6).1 (t3 r6) v6
  else
   (spec_l1Int.f k v3 v4 v5 [1, 1, 13]).bind fun r7 =>
   rec ((IntKind.wrap .i64 (v1 + r7.1)).tmod 52) (IntKind.wrap .i64 (v2 - 1)) r7.2.1 (t2 r7).1 (t3 r7) v6
 else
  e0 v3 v4 v5 v6
def spec_l10Draw.l7 {R : Type} (k : Nat) (e0 : LI → Int → Int → LI → Option R) (n : Nat) (v1 v2 : Int) (v3 : LI) (v4 v5 : Int) (v6 : LI) : Option R :=
 V.iter (A := Int × Int × LI × Int × Int × LI) (fun rec a => spec_l10Draw.s7 k e0 (fun c0 c1 c2 c3 c4 c5 => rec (c0, c1, c2, c3, c4, c5)) a.1 a.2.1 (t2 a).1 (t3 a).1 (t4 a).1 (t5 a)) n (v1, v2, v3, v4, v5, v6)
theorem spec_l10Draw.l7_succ {R : Type} (k : Nat) (e0 : LI → Int → Int → LI → Option R) (n : Nat) (v1 v2 : Int) (v3 : LI) (v4 v5 : Int) (v6 : LI) : spec_l10Draw.l7 (R := R) k e0 (n + 1) v1 v2 v3 v4 v5 v6 = spec_l10Draw.s7 k e0 (spec_l10Draw.l7 k e0 n) v1 v2 v3 v4 v5 v6 := rfl
def spec_l10Draw.s3 {R : Type} (k : Nat) (e0 : LI → LI → Int → Int → Option R) (rec : Int → LI → Int → Int → LI → Option R) (v0 : Int) (v1 : LI) (v2 v3 : Int) (v4 : LI) : Option R :=
 bif decide (v0 > 0) then
  (spec_l1Below.f k v1 v2 v3 52).bind fun r2 =>
  (spec_l1Below.f k r2.2.1 (t2 r2).1 (t3 r2) 2).bind fun r3 =>
  spec_l10Draw.l7 k (fun x8 x9 x10 x11 =>
   rec (IntKind.wrap .i64 (v0 - 1)) x8 x9 x10 x11) k r2.1 (IntKind.wrap .i64 (3 + r3.1)) r3.2.1 (t2 r3).1 (t3 r3) v4
 else
  e0 v4 v1 v2 v3
def spec_l10Draw.l3 {R : Type} (k : Nat) (e0 : LI → LI → Int → Int → Option R) (n : Nat) (v0 : Int) (v1 : LI) (v2 v3 : Int) (v4 : LI) : Option R :=
 V.iter (A := Int × LI × Int × Int × LI) (fun rec a => spec_l10Draw.s3 k e0 (fun c0 c1 c2 c3 c4 => rec (c0, c1, c2, c3, c4)) a.1 a.2.1 (t2 a).1 (t3 a).1 (t4 a)) n (v0, v1, v2, v3, v4)
theorem spec_l10Draw.l3_succ {R : Type} (k : Nat) (e0 : LI → LI → Int → Int → Option R) (n : Nat) (v0 : Int) (v1 : LI) (v2 v3 : Int) (v4 : LI) : spec_l10Draw.l3 (R := R) k e0 (n + 1) v0 v1 v2 v3 v4 = spec_l10Draw.s3 k e0 (spec_l10Draw.l3 k e0 n) v0 v1 v2 v3 v4 := rfl
def spec_l10Draw.f (k : Nat) (a0 : LI) (a1 a2 : Int) : Option (LI × LI × Int × Int) :=
 (spec_l1Below.f k a0 a1 a2 4).bind fun r1 =>
 spec_l10Draw.l3 k (fun x12 x13 x14 x15 =>
  some (x12, x13, x14, x15)) k r1.1 r1.2.1 (t2 r1).1 (t3 r1) []

def spec_DrawMeldsIn.f (k : Nat) (a : LI) : Option (LI) :=
 (spec_l1New.f k a).bind fun r1 =>
 (spec_l1Once.f k r1.1 r1.2.1 (t2 r1) 9).bind fun r2 =>
 bif r2.1 then
  (spec_l5Any.f k r2.2.1 (t2 r2).1 (t3 r2)).bind fun r3 =>
  some r3.1
 else
  (spec_l10Draw.f k r2.2.1 (t2 r2).1 (t3 r2)).bind fun r4 =>
  some r4.1

def spec_DrawFormatMelds.f (k : Nat) (a : LI) : Option (LL) :=
 (spec_DrawMeldsIn.f k a).bind fun r1 =>
 (spec_MeldsIn.f k r1).bind fun r2 =>
 some r2

def impl_CardText.f (k : Nat) (a : Int) : Option (ByteArray) :=
 (impl_IsCard.f k a).bind fun r1 =>
 bif (!r1) then
  some ByteArray.empty
 else
  chk ((decide (0 ≤ (IntKind.wrap .i64 ((a.tmod 13) + 1)))) && (decide ((IntKind.wrap .i64 ((a.tmod 13) + 1)) ≤ 13))) <|
  chk ((decide (0 ≤ (a.tmod 13))) && (decide ((a.tmod 13) ≤ (IntKind.wrap .i64 ((a.tmod 13) + 1))))) <|
  chk ((decide (0 ≤ (IntKind.wrap .i64 ((IntKind.wrap .i64 (a.tdiv 13)) + 1)))) && (decide ((IntKind.wrap .i64 ((IntKind.wrap .i64 (a.tdiv 13)) + 1)) ≤ 4))) <|
  chk ((decide (0 ≤ (IntKind.wrap .i64 (a.tdiv 13)))) && (decide ((IntKind.wrap .i64 (a.tdiv 13)) ≤ (IntKind.wrap .i64 ((IntKind.wrap .i64 (a.tdiv 13)) + 1))))) <|
  chk (decide (((⟨#[50, 51, 52, 53, 54, 55, 56, 57, 84, 74, 81, 75, 65]⟩ : ByteArray).extract ((a.tmod 13).toNat) ((IntKind.wrap .i64 ((a.tmod 13) + 1)).toNat)).size + ((⟨#[99, 100, 104, 115]⟩ : ByteArray).extract ((IntKind.wrap .i64 (a.tdiv 13)).toNat) ((IntKind.wrap .i64 ((IntKind.wrap .i64 (a.tdiv 13)) + 1)).toNat)).size ≤ maxI)) <|
  some (((⟨#[50, 51, 52, 53, 54, 55, 56, 57, 84, 74, 81, 75, 65]⟩ : ByteArray).extract ((a.tmod 13).toNat) ((IntKind.wrap .i64 ((a.tmod 13) + 1)).toNat)) ++ ((⟨#[99, 100, 104, 115]⟩ : ByteArray).extract ((IntKind.wrap .i64 (a.tdiv 13)).toNat) ((IntKind.wrap .i64 ((IntKind.wrap .i64 (a.tdiv 13)) + 1)).toNat)))

def impl_listText.s5 {R : Type} (k : Nat) (v0 : Int) (v1 : ByteArray) (v3 : LI) (v4 : Int) (e0 : ByteArray → Option R) (rec : ByteArray → Int → Option R) (v2 : ByteArray) (v5 : Int) : Option R :=
 bif decide (v5 < v4) then
  chk ((decide (0 ≤ v5)) && (decide (v5 < (v3.length : Int)))) <|
  (impl_IsCard.f k (v3.getD v5.toNat 0)).bind fun r1 =>
  bif r1 then
   (impl_CardText.f k (v3.getD v5.toNat 0)).bind fun r2 =>
   chk (decide (v2.size + r2.size ≤ maxI)) <|
   rec (v2 ++ r2) (IntKind.wrap .i64 (v5 + 1))
  else
   bif ((v3.getD v5.toNat 0) == v0) then
    chk (decide (v2.size + v1.size ≤ maxI)) <|
    rec (v2 ++ v1) (IntKind.wrap .i64 (v5 + 1))
   else
    chk (decide (v2.size + (⟨#[63]⟩ : ByteArray).size ≤ maxI)) <|
    rec (v2 ++ (⟨#[63]⟩ : ByteArray)) (IntKind.wrap .i64 (v5 + 1))
 else
  e0 v2
def impl_listText.l5 {R : Type} (k : Nat) (v0 : Int) (v1 : ByteArray) (v3 : LI) (v4 : Int) (e0 : ByteArray → Option R) (n : Nat) (v2 : ByteArray) (v5 : Int) : Option R :=
 V.iter (A := ByteArray × Int) (fun rec a => impl_listText.s5 k v0 v1 v3 v4 e0 (fun c0 c1 => rec (c0, c1)) a.1 a.2) n (v2, v5)
theorem impl_listText.l5_succ {R : Type} (k : Nat) (v0 : Int) (v1 : ByteArray) (v3 : LI) (v4 : Int) (e0 : ByteArray → Option R) (n : Nat) (v2 : ByteArray) (v5 : Int) : impl_listText.l5 (R := R) k v0 v1 v3 v4 e0 (n + 1) v2 v5 = impl_listText.s5 k v0 v1 v3 v4 e0 (impl_listText.l5 k v0 v1 v3 v4 e0 n) v2 v5 := rfl
def impl_listText.f (k : Nat) (a : LI) (g : Int) (i : ByteArray) : Option (ByteArray) :=
 bif ((a.length : Int) == 0) then
  some (⟨#[45]⟩ : ByteArray)
 else
  impl_listText.l5 k g i a (a.length : Int) (fun x3 =>
   some x3) k ByteArray.empty 0

def impl_HandText.f (k : Nat) (a : LI) : Option (ByteArray) :=
 (impl_listText.f k a (-1) (⟨#[63]⟩ : ByteArray)).bind fun r1 =>
 some r1

def impl_FormatMelds.s5 {R : Type} (k : Nat) (v0 : LL) (v1 : Int) (e0 : List ByteArray → Option R) (rec : Int → List ByteArray → Option R) (v2 : Int) (v3 : List ByteArray) : Option R :=
 bif decide (v2 < v1) then
  chk ((decide (0 ≤ v2)) && (decide (v2 < (v0.length : Int)))) <|
  (impl_HandText.f k (v0.getD v2.toNat [])).bind fun r1 =>
  chk (decide ((v3.length + 1) * 16 ≤ room)) <|
  rec (IntKind.wrap .i64 (v2 + 1)) (v3 ++ [r1])
 else
  e0 v3
def impl_FormatMelds.l5 {R : Type} (k : Nat) (v0 : LL) (v1 : Int) (e0 : List ByteArray → Option R) (n : Nat) (v2 : Int) (v3 : List ByteArray) : Option R :=
 V.iter (A := Int × List ByteArray) (fun rec a => impl_FormatMelds.s5 k v0 v1 e0 (fun c0 c1 => rec (c0, c1)) a.1 a.2) n (v2, v3)
theorem impl_FormatMelds.l5_succ {R : Type} (k : Nat) (v0 : LL) (v1 : Int) (e0 : List ByteArray → Option R) (n : Nat) (v2 : Int) (v3 : List ByteArray) : impl_FormatMelds.l5 (R := R) k v0 v1 e0 (n + 1) v2 v3 = impl_FormatMelds.s5 k v0 v1 e0 (impl_FormatMelds.l5 k v0 v1 e0 n) v2 v3 := rfl
def impl_FormatMelds.f (k : Nat) (a : LL) : Option (ByteArray) :=
 bif ((a.length : Int) == 0) then
  some (⟨#[45]⟩ : ByteArray)
 else
  impl_FormatMelds.l5 k a (a.length : Int) (fun x2 =>
   (strings_Join.f k x2 (⟨#[32]⟩ : ByteArray)).bind fun r3 =>
   some r3) k 0 []

def spec_l14Five.s6 {R : Type} (k : Nat) (v5 : LI) (e0 rec : Int → Option R) (v0 : Int) : Option R :=
 (spec_HasCard.f k v5 v0).bind fun r3 =>
 bif r3 then
  rec ((IntKind.wrap .i64 (v0 + 5)).tmod 52)
 else
  e0 v0
def spec_l14Five.l6 {R : Type} (k : Nat) (v5 : LI) (e0 : Int → Option R) (n : Nat) (v0 : Int) : Option R :=
 V.iter (A := Int) (fun rec a => spec_l14Five.s6 k v5 e0 (fun c0 => rec c0) a) n v0
theorem spec_l14Five.l6_succ {R : Type} (k : Nat) (v5 : LI) (e0 : Int → Option R) (n : Nat) (v0 : Int) : spec_l14Five.l6 (R := R) k v5 e0 (n + 1) v0 = spec_l14Five.s6 k v5 e0 (spec_l14Five.l6 k v5 e0 n) v0 := rfl
def spec_l14Five.s4 {R : Type} (k : Nat) (v1 : Int) (e0 : LI → Option R) (rec : Int → LI → Option R) (v0 : Int) (v5 : LI) : Option R :=
 bif decide ((v5.length : Int) < 5) then
  spec_l14Five.l6 k v5 (fun x4 =>
   chk (decide ((v5.length + 1) * 8 ≤ room)) <|
   rec x4 (v5 ++ [x4])) k ((IntKind.wrap .i64 (v0 + v1)).tmod 52)
 else
  e0 v5
def spec_l14Five.l4 {R : Type} (k : Nat) (v1 : Int) (e0 : LI → Option R) (n : Nat) (v0 : Int) (v5 : LI) : Option R :=
 V.iter (A := Int × LI) (fun rec a => spec_l14Five.s4 k v1 e0 (fun c0 c1 => rec (c0, c1)) a.1 a.2) n (v0, v5)
theorem spec_l14Five.l4_succ {R : Type} (k : Nat) (v1 : Int) (e0 : LI → Option R) (n : Nat) (v0 : Int) (v5 : LI) : spec_l14Five.l4 (R := R) k v1 e0 (n + 1) v0 v5 = spec_l14Five.s4 k v1 e0 (spec_l14Five.l4 k v1 e0 n) v0 v5 := rfl
def spec_l14Five.f (k : Nat) (a0 : LI) (a1 a2 : Int) : Option (LI × LI × Int × Int) :=
 (spec_l1Below.f k a0 a1 a2 52).bind fun r1 =>
 (spec_l1Int.f k r1.2.1 (t2 r1).1 (t3 r1) [1, 1, 13, 14, 3, 7]).bind fun r2 =>
 spec_l14Five.l4 k r2.1 (fun x5 =>
  (spec_l1Once.f k r2.2.1 (t2 r2).1 (t3 r2) 3).bind fun r6 =>
  bif r6.1 then
   (spec_l5Some.f k r6.2.1 (t2 r6).1 (t3 r6) 5).bind fun r7 =>
   some (r7.1, r7.2.1, (t2 r7).1, (t3 r7))
  else
   some (x5, r6.2.1, (t2 r6).1, (t3 r6))) k r1.1 [r1.1]

def spec_DrawKindOf.f (k : Nat) (a : LI) : Option (LI) :=
 (spec_l1New.f k a).bind fun r1 =>
 (spec_l1Once.f k r1.1 r1.2.1 (t2 r1) 9).bind fun r2 =>
 bif r2.1 then
  (spec_l5Any.f k r2.2.1 (t2 r2).1 (t3 r2)).bind fun r3 =>
  some r3.1
 else
  (spec_l14Five.f k r2.2.1 (t2 r2).1 (t3 r2)).bind fun r4 =>
  some r4.1

def spec_DrawFormatKey.f (k : Nat) (a : LI) : Option (LI) :=
 (spec_DrawKindOf.f k a).bind fun r1 =>
 some r1

def impl_FormatTable.f (k : Nat) (a0 a1 : Int) (a2 a3 : Bool) (a4 a5 : LI) (a6 a7 : Int) (a8 : LI) (a9 : Bool) (a10 : LI) (a11 a12 : Int) (a13 a14 : Bool) (a15 a16 : LI) (a17 a18 : Int) (a19 : LL) (a20 a21 : LI) (a22 a23 a24 : Int) (a25 : LI) (a26 : LL) : Option (ByteArray) :=
 bif a9 then
  (impl_numbersText.f k [(a8.length : Int), (a25.length : Int), (a26.length : Int)] (⟨#[32]⟩ : ByteArray)).bind fun r1 =>
  chk (decide (r1.size + (⟨#[32, 111, 110]⟩ : ByteArray).size ≤ maxI)) <|
  some (r1 ++ (⟨#[32, 111, 110]⟩ : ByteArray))
 else
  (impl_numbersText.f k [(a8.length : Int), (a25.length : Int), (a26.length : Int)] (⟨#[32]⟩ : ByteArray)).bind fun r2 =>
  chk (decide (r2.size + (⟨#[32, 111, 102, 102]⟩ : ByteArray).size ≤ maxI)) <|
  some (r2 ++ (⟨#[32, 111, 102, 102]⟩ : ByteArray))

def spec_l8Leaf.f (k : Nat) (a : Int) : Option (Bool) :=
 (spec_l1In.f k a 100 103).bind fun r1 =>
 bif r1 then
  some true
 else
  (spec_l1In.f k a 200 212).bind fun r2 =>
  bif r2 then
   some true
  else
   (spec_l1In.f k a 300 312).bind fun r3 =>
   bif r3 then
    some true
   else
    some (a == 400)

def spec_IsPattern.s3 {R : Type} (k : Nat) (v0 : LI) (e0 e1 : Int → Option R) (rec : Int → Int → Option R) (v1 v2 : Int) : Option R :=
 bif decide (v2 < (v0.length : Int)) then
  chk ((decide (0 ≤ v2)) && (decide (v2 < (v0.length : Int)))) <|
  (spec_l8Leaf.f k (v0.getD v2.toNat 0)).bind fun r1 =>
  bif r1 then
   rec (IntKind.wrap .i64 (v1 + 1)) (IntKind.wrap .i64 (v2 + 1))
  else
   chk ((decide (0 ≤ v2)) && (decide (v2 < (v0.length : Int)))) <|
   bif ((v0.getD v2.toNat 0) == (-1)) then
    bif decide (v1 ≥ 1) then
     rec v1 (IntKind.wrap .i64 (v2 + 1))
    else
     chk ((decide (0 ≤ v2)) && (decide (v2 < (v0.length : Int)))) <|
     bif ((v0.getD v2.toNat 0) == (-2)) then
      bif decide (v1 ≥ 2) then
       rec (IntKind.wrap .i64 (v1 - 1)) (IntKind.wrap .i64 (v2 + 1))
      else
       e0 v1
     else
      chk ((decide (0 ≤ v2)) && (decide (v2 < (v0.length : Int)))) <|
      bif ((v0.getD v2.toNat 0) == (-3)) then
       bif decide (v1 ≥ 2) then
        rec (IntKind.wrap .i64 (v1 - 1)) (IntKind.wrap .i64 (v2 + 1))
       else
        e0 v1
      else
       e0 v1
   else
    chk ((decide (0 ≤ v2)) && (decide (v2 < (v0.length : Int)))) <|
    bif ((v0.getD v2.toNat 0) == (-2)) then
     bif decide (v1 ≥ 2) then
      rec (IntKind.wrap .i64 (v1 - 1)) (IntKind.wrap .i64 (v2 + 1))
     else
      e0 v1
    else
     chk ((decide (0 ≤ v2)) && (decide (v2 < (v0.length : Int)))) <|
     bif ((v0.getD v2.toNat 0) == (-3)) then
      bif decide (v1 ≥ 2) then
       rec (IntKind.wrap .i64 (v1 - 1)) (IntKind.wrap .i64 (v2 + 1))
      else
       e0 v1
     else
      e0 v1
 else
  e1 v1
def spec_IsPattern.l3 {R : Type} (k : Nat) (v0 : LI) (e0 e1 : Int → Option R) (n : Nat) (v1 v2 : Int) : Option R :=
 V.iter (A := Int × Int) (fun rec a => spec_IsPattern.s3 k v0 e0 e1 (fun c0 c1 => rec (c0, c1)) a.1 a.2) n (v1, v2)
theorem spec_IsPattern.l3_succ {R : Type} (k : Nat) (v0 : LI) (e0 e1 : Int → Option R) (n : Nat) (v1 v2 : Int) : spec_IsPattern.l3 (R := R) k v0 e0 e1 (n + 1) v1 v2 = spec_IsPattern.s3 k v0 e0 e1 (spec_IsPattern.l3 k v0 e0 e1 n) v1 v2 := rfl
def spec_IsPattern.f (k : Nat) (a : LI) : Option (Bool) :=
 spec_IsPattern.l3 k a (fun x2 =>
  some false) (fun x3 =>
  bif (x3 == 1) then
   some (decide ((a.length : Int) ≤ 20))
  else
   some false) k 0 0

def spec_l22Pattern.f (k : Nat) (a : LI) : Option (Bool) :=
 bif ((a.length : Int) == 0) then
  some true
 else
  (spec_IsPattern.f k a).bind fun r1 =>
  some r1

def spec_IsRules.f (k : Nat) (a0 a1 : Int) (a2 a3 : Bool) (a4 a5 : LI) (a6 a7 : Int) : Option (Bool) :=
 (spec_l1In.f k a0 2 6).bind fun r1 =>
 bif r1 then
  (spec_l1In.f k a1 1 8).bind fun r2 =>
  bif r2 then
   bif a2 then
    (spec_l22Pattern.f k a4).bind fun r3 =>
    bif r3 then
     (spec_l22Pattern.f k a5).bind fun r4 =>
     bif r4 then
      (spec_l1In.f k a6 1 4).bind fun r5 =>
      bif r5 then
       (spec_l1In.f k a7 1 400).bind fun r6 =>
       some r6
      else
       some false
     else
      some false
    else
     some false
   else
    bif a3 then
     (spec_l22Pattern.f k a4).bind fun r7 =>
     bif r7 then
      (spec_l22Pattern.f k a5).bind fun r8 =>
      bif r8 then
       (spec_l1In.f k a6 1 4).bind fun r9 =>
       bif r9 then
        (spec_l1In.f k a7 1 400).bind fun r10 =>
        some r10
       else
        some false
      else
       some false
     else
      some false
    else
     some false
  else
   some false
 else
  some false

def spec_l22Copy.f (k : Nat) (a0 a1 : Int) (a2 a3 : Bool) (a4 a5 : LI) (a6 a7 : Int) : Option (Int × Int × Bool × Bool × LI × LI × Int × Int) :=
 chk (decide ((0 + a4.length) * 8 ≤ room)) <|
 chk (decide ((0 + a5.length) * 8 ≤ room)) <|
 some (a0, a1, a2, a3, [] ++ a4, [] ++ a5, a6, a7)

def spec_NewTable.f (k : Nat) (a0 a1 : Int) (a2 a3 : Bool) (a4 a5 : LI) (a6 a7 : Int) : Option (Int × Int × Bool × Bool × LI × LI × Int × Int × LI × Bool × LI × Int × Int × Bool × Bool × LI × LI × Int × Int × LL × LI × LI × Int × Int × Int × LI × LL × Bool) :=
 (spec_IsRules.f k a0 a1 a2 a3 a4 a5 a6 a7).bind fun r1 =>
 bif (!r1) then
  some (0, 0, false, false, [], [], 0, 0, [], false, [], 0, 0, false, false, [], [], 0, 0, [], [], [], 0, 0, 0, [], [], false)
 else
  (spec_l22Copy.f k a0 a1 a2 a3 a4 a5 a6 a7).bind fun r2 =>
  some (r2.1, r2.2.1, (t2 r2).1, (t3 r2).1, (t4 r2).1, (t5 r2).1, (t6 r2).1, (t7 r2), [], false, [], 0, 0, false, false, [], [], 0, 0, [], [], [], 0, 0, 0, [], [], true)

def spec_l8Leaves.f (k : Nat) (a0 : LI) (a1 a2 : Int) : Option (Int × LI × Int × Int) :=
 (spec_l1Below.f k a0 a1 a2 4).bind fun r1 =>
 (spec_l1Below.f k r1.2.1 (t2 r1).1 (t3 r1) 13).bind fun r2 =>
 (spec_l1Below.f k r2.2.1 (t2 r2).1 (t3 r2) 13).bind fun r3 =>
 (spec_l1Int.f k r3.2.1 (t2 r3).1 (t3 r3) [IntKind.wrap .i64 (100 + r1.1), IntKind.wrap .i64 (200 + r2.1), IntKind.wrap .i64 (300 + r3.1), 400]).bind fun r4 =>
 some (r4.1, r4.2.1, (t2 r4).1, (t3 r4))

def spec_l8Draw.b (k : Nat) (self : LI → Int → Int → Int → Option (LI × LI × Int × Int)) (a0 : LI) (a1 a2 g : Int) : Option (LI × LI × Int × Int) :=
 bif (g == 0) then
  (spec_l8Leaves.f k a0 a1 a2).bind fun r1 =>
  some ([r1.1], r1.2.1, (t2 r1).1, (t3 r1))
 else
  (spec_l1Once.f k a0 a1 a2 4).bind fun r2 =>
  bif r2.1 then
   (spec_l8Leaves.f k r2.2.1 (t2 r2).1 (t3 r2)).bind fun r3 =>
   some ([r3.1], r3.2.1, (t2 r3).1, (t3 r3))
  else
   (spec_l1Once.f k r2.2.1 (t2 r2).1 (t3 r2) 4).bind fun r4 =>
   bif r4.1 then
    (self r4.2.1 (t2 r4).1 (t3 r4) (IntKind.wrap .i64 (g - 1))).bind fun r5 =>
    chk (decide ((r5.1.length + 1) * 8 ≤ room)) <|
    some (r5.1 ++ [(-1)], r5.2.1, (t2 r5).1, (t3 r5))
   else
    (self r4.2.1 (t2 r4).1 (t3 r4) (IntKind.wrap .i64 (g - 1))).bind fun r6 =>
    (self r6.2.1 (t2 r6).1 (t3 r6) (IntKind.wrap .i64 (g - 1))).bind fun r7 =>
    chk (decide ((r6.1.length + r7.1.length) * 8 ≤ room)) <|
    (spec_l1Below.f k r7.2.1 (t2 r7).1 (t3 r7) 2).bind fun r8 =>
    chk (decide ((((r6.1 ++ r7.1).length) + 1) * 8 ≤ room)) <|
    some ((r6.1 ++ r7.1) ++ [IntKind.wrap .i64 ((-2) - r8.1)], r8.2.1, (t2 r8).1, (t3 r8))
def spec_l8Draw.g (k : Nat) : Nat → LI → Int → Int → Int → Option (LI × LI × Int × Int)
 | 0 => fun _ _ _ _ => none
 | n + 1 => spec_l8Draw.b k (spec_l8Draw.g k n)
def spec_l8Draw.f (k : Nat) : LI → Int → Int → Int → Option (LI × LI × Int × Int) := spec_l8Draw.g k k

def spec_l22Draw.f (k : Nat) (a0 : LI) (a1 a2 : Int) : Option (Int × Int × Bool × Bool × LI × LI × Int × Int × LI × Int × Int) :=
 (spec_l1Below.f k a0 a1 a2 4).bind fun r1 =>
 (spec_l1Below.f k r1.2.1 (t2 r1).1 (t3 r1) 6).bind fun r2 =>
 (spec_l1Once.f k r2.2.1 (t2 r2).1 (t3 r2) 2).bind fun r3 =>
 (spec_l1Below.f k r3.2.1 (t2 r3).1 (t3 r3) 2).bind fun r4 =>
 (spec_l1Below.f k r4.2.1 (t2 r4).1 (t3 r4) 60).bind fun r5 =>
 (spec_l1Once.f k r5.2.1 (t2 r5).1 (t3 r5) 2).bind fun r6 =>
 bif r6.1 then
  (spec_l8Draw.f k r6.2.1 (t2 r6).1 (t3 r6) 1).bind fun r7 =>
  (spec_l1Once.f k r7.2.1 (t2 r7).1 (t3 r7) 2).bind fun r8 =>
  bif r8.1 then
   (spec_l8Draw.f k r8.2.1 (t2 r8).1 (t3 r8) 1).bind fun r9 =>
   some (IntKind.wrap .i64 (2 + r1.1), IntKind.wrap .i64 (1 + r2.1), r3.1, true, r7.1, r9.1, IntKind.wrap .i64 (1 + r4.1), IntKind.wrap .i64 (20 + r5.1), r9.2.1, (t2 r9).1, (t3 r9))
  else
   some (IntKind.wrap .i64 (2 + r1.1), IntKind.wrap .i64 (1 + r2.1), r3.1, true, r7.1, [], IntKind.wrap .i64 (1 + r4.1), IntKind.wrap .i64 (20 + r5.1), r8.2.1, (t2 r8).1, (t3 r8))
 else
  (spec_l1Once.f k r6.2.1 (t2 r6).1 (t3 r6) 2).bind fun r10 =>
  bif r10.1 then
   (spec_l8Draw.f k r10.2.1 (t2 r10).1 (t3 r10) 1).bind fun r11 =>
   some (IntKind.wrap .i64 (2 + r1.1), IntKind.wrap .i64 (1 + r2.1), r3.1, true, [], r11.1, IntKind.wrap .i64 (1 + r4.1), IntKind.wrap .i64 (20 + r5.1), r11.2.1, (t2 r11).1, (t3 r11))
  else
   some (IntKind.wrap .i64 (2 + r1.1), IntKind.wrap .i64 (1 + r2.1), r3.1, true, [], [], IntKind.wrap .i64 (1 + r4.1), IntKind.wrap .i64 (20 + r5.1), r10.2.1, (t2 r10).1, (t3 r10))

def spec_l8Any.f (k : Nat) (a0 : LI) (a1 a2 : Int) : Option (LI × LI × Int × Int) :=
 (spec_l8Draw.f k a0 a1 a2 2).bind fun r1 =>
 (spec_l1Below.f k r1.2.1 (t2 r1).1 (t3 r1) 10).bind fun r2 =>
 bif (r2.1 == 0) then
  (spec_l1Below.f k r2.2.1 (t2 r2).1 (t3 r2) (r1.1.length : Int)).bind fun r3 =>
  (spec_l1Int.f k r3.2.1 (t2 r3).1 (t3 r3) [104, 99, 213, 313, 401, (-4), (-2), 9223372036854775807]).bind fun r4 =>
  chk ((decide (0 ≤ r3.1)) && (decide (r3.1 < (r1.1.length : Int)))) <|
  some (r1.1.set r3.1.toNat r4.1, r4.2.1, (t2 r4).1, (t3 r4))
 else
  bif (r2.1 == 1) then
   chk ((decide (0 ≤ (r1.1.length : Int))) && (decide ((r1.1.length : Int) ≤ (r1.1.length : Int)))) <|
   chk (decide (1 ≤ (r1.1.length : Int))) <|
   some ((r1.1.take ((r1.1.length : Int).toNat)).drop 1, r2.2.1, (t2 r2).1, (t3 r2))
  else
   some (r1.1, r2.2.1, (t2 r2).1, (t3 r2))

def spec_l22Any.f (k : Nat) (a0 : LI) (a1 a2 : Int) : Option (Int × Int × Bool × Bool × LI × LI × Int × Int × LI × Int × Int) :=
 (spec_l22Draw.f k a0 a1 a2).bind fun r1 =>
 (spec_l1Below.f k (t8 r1).1 (t9 r1).1 (t9 r1.2) 14).bind fun r2 =>
 bif (r2.1 == 0) then
  (spec_l1Int.f k r2.2.1 (t2 r2).1 (t3 r2) [1, 6, 7]).bind fun r3 =>
  some (r3.1, r1.2.1, (t2 r1).1, (t3 r1).1, (t4 r1).1, (t5 r1).1, (t6 r1).1, (t7 r1).1, r3.2.1, (t2 r3).1, (t3 r3))
 else
  bif (r2.1 == 1) then
   (spec_l1Int.f k r2.2.1 (t2 r2).1 (t3 r2) [0, 8, 9]).bind fun r4 =>
   some (r1.1, r4.1, (t2 r1).1, (t3 r1).1, (t4 r1).1, (t5 r1).1, (t6 r1).1, (t7 r1).1, r4.2.1, (t2 r4).1, (t3 r4))
  else
   bif (r2.1 == 2) then
    some (r1.1, r1.2.1, (t2 r1).1, false, (t4 r1).1, (t5 r1).1, (t6 r1).1, (t7 r1).1, r2.2.1, (t2 r2).1, (t3 r2))
   else
    bif (r2.1 == 3) then
     (spec_l8Any.f k r2.2.1 (t2 r2).1 (t3 r2)).bind fun r5 =>
     some (r1.1, r1.2.1, (t2 r1).1, (t3 r1).1, r5.1, (t5 r1).1, (t6 r1).1, (t7 r1).1, r5.2.1, (t2 r5).1, (t3 r5))
    else
     bif (r2.1 == 4) then
      (spec_l1Int.f k r2.2.1 (t2 r2).1 (t3 r2) [0, 4, 5]).bind fun r6 =>
      some (r1.1, r1.2.1, (t2 r1).1, (t3 r1).1, (t4 r1).1, (t5 r1).1, r6.1, (t7 r1).1, r6.2.1, (t2 r6).1, (t3 r6))
     else
      bif (r2.1 == 5) then
       (spec_l1Int.f k r2.2.1 (t2 r2).1 (t3 r2) [0, 400, 401]).bind fun r7 =>
       some (r1.1, r1.2.1, (t2 r1).1, (t3 r1).1, (t4 r1).1, (t5 r1).1, (t6 r1).1, r7.1, r7.2.1, (t2 r7).1, (t3 r7))
      else
       some (r1.1, r1.2.1, (t2 r1).1, (t3 r1).1, (t4 r1).1, (t5 r1).1, (t6 r1).1, (t7 r1).1, r2.2.1, (t2 r2).1, (t3 r2))

def spec_FromTricks.s3 {R : Type} (k : Nat) (v0 : LI) (e0 : Int → LI → Option R) (e1 : Int → Option R) (rec : Int → Int → Option R) (v1 v2 : Int) : Option R :=
 bif decide (v2 < (v0.length : Int)) then
  chk ((decide (0 ≤ v2)) && (decide (v2 < (v0.length : Int)))) <|
  (spec_l1In.f k (v0.getD v2.toNat 0) 0 200).bind fun r1 =>
  bif (!r1) then
   e0 v1 []
  else
   chk ((decide (0 ≤ v2)) && (decide (v2 < (v0.length : Int)))) <|
   rec (IntKind.wrap .i64 (v1 + (v0.getD v2.toNat 0))) (IntKind.wrap .i64 (v2 + 1))
 else
  e1 v1
def spec_FromTricks.l3 {R : Type} (k : Nat) (v0 : LI) (e0 : Int → LI → Option R) (e1 : Int → Option R) (n : Nat) (v1 v2 : Int) : Option R :=
 V.iter (A := Int × Int) (fun rec a => spec_FromTricks.s3 k v0 e0 e1 (fun c0 c1 => rec (c0, c1)) a.1 a.2) n (v1, v2)
theorem spec_FromTricks.l3_succ {R : Type} (k : Nat) (v0 : LI) (e0 : Int → LI → Option R) (e1 : Int → Option R) (n : Nat) (v1 v2 : Int) : spec_FromTricks.l3 (R := R) k v0 e0 e1 (n + 1) v1 v2 = spec_FromTricks.s3 k v0 e0 e1 (spec_FromTricks.l3 k v0 e0 e1 n) v1 v2 := rfl
def spec_FromTricks.s10 {R : Type} (k : Nat) (v0 : LI) (v1 : Int) (e0 : LI → Option R) (rec : Int → LI → Option R) (v2 : Int) (v3 : LI) : Option R :=
 bif decide (v2 < (v0.length : Int)) then
  (spec_l1In.f k (v0.length : Int) 2 6).bind fun r5 =>
  bif r5 then
   chk ((decide (0 ≤ v2)) && (decide (v2 < (v0.length : Int)))) <|
   chk (decide ((v3.length + 1) * 8 ≤ room)) <|
   rec (IntKind.wrap .i64 (v2 + 1)) (v3 ++ [IntKind.wrap .i64 ((IntKind.wrap .i64 ((v0.length : Int) * (v0.getD v2.toNat 0))) - v1)])
  else
   e0 v3
 else
  e0 v3
def spec_FromTricks.l10 {R : Type} (k : Nat) (v0 : LI) (v1 : Int) (e0 : LI → Option R) (n : Nat) (v2 : Int) (v3 : LI) : Option R :=
 V.iter (A := Int × LI) (fun rec a => spec_FromTricks.s10 k v0 v1 e0 (fun c0 c1 => rec (c0, c1)) a.1 a.2) n (v2, v3)
theorem spec_FromTricks.l10_succ {R : Type} (k : Nat) (v0 : LI) (v1 : Int) (e0 : LI → Option R) (n : Nat) (v2 : Int) (v3 : LI) : spec_FromTricks.l10 (R := R) k v0 v1 e0 (n + 1) v2 v3 = spec_FromTricks.s10 k v0 v1 e0 (spec_FromTricks.l10 k v0 v1 e0 n) v2 v3 := rfl
def spec_FromTricks.f (k : Nat) (a : LI) : Option (LI) :=
 spec_FromTricks.l3 k a (fun x2 x3 =>
  some x3) (fun x4 =>
  spec_FromTricks.l10 k a x4 (fun x6 =>
   some x6) k 0 []) k 0 0

def spec_l15Round.s3 {R : Type} (k : Nat) (v0 : Int) (e0 : LI → LI → Int → Int → Option R) (rec : Int → LI → Int → Int → LI → Option R) (v1 : Int) (v2 : LI) (v3 v4 : Int) (v5 : LI) : Option R :=
 bif decide (v1 < v0) then
  (spec_l1Below.f k v2 v3 v4 20).bind fun r1 =>
  chk (decide ((v5.length + 1) * 8 ≤ room)) <|
  rec (IntKind.wrap .i64 (v1 + 1)) r1.2.1 (t2 r1).1 (t3 r1) (v5 ++ [r1.1])
 else
  e0 v5 v2 v3 v4
def spec_l15Round.l3 {R : Type} (k : Nat) (v0 : Int) (e0 : LI → LI → Int → Int → Option R) (n : Nat) (v1 : Int) (v2 : LI) (v3 v4 : Int) (v5 : LI) : Option R :=
 V.iter (A := Int × LI × Int × Int × LI) (fun rec a => spec_l15Round.s3 k v0 e0 (fun c0 c1 c2 c3 c4 => rec (c0, c1, c2, c3, c4)) a.1 a.2.1 (t2 a).1 (t3 a).1 (t4 a)) n (v1, v2, v3, v4, v5)
theorem spec_l15Round.l3_succ {R : Type} (k : Nat) (v0 : Int) (e0 : LI → LI → Int → Int → Option R) (n : Nat) (v1 : Int) (v2 : LI) (v3 v4 : Int) (v5 : LI) : spec_l15Round.l3 (R := R) k v0 e0 (n + 1) v1 v2 v3 v4 v5 = spec_l15Round.s3 k v0 e0 (spec_l15Round.l3 k v0 e0 n) v1 v2 v3 v4 v5 := rfl
def spec_l15Round.f (k : Nat) (a0 : LI) (a1 a2 g : Int) : Option (LI × LI × Int × Int) :=
 spec_l15Round.l3 k g (fun x2 x3 x4 x5 =>
  (spec_FromTricks.f k x2).bind fun r6 =>
  some (r6, x3, x4, x5)) k 0 a0 a1 a2 []

def spec_Missing.s3 {R : Type} (k : Nat) (v0 : LI) (e0 : LI → Option R) (rec : Int → LI → Option R) (v1 : Int) (v2 : LI) : Option R :=
 bif decide (v1 < 52) then
  (spec_HasCard.f k v0 v1).bind fun r1 =>
  bif (!r1) then
   chk (decide ((v2.length + 1) * 8 ≤ room)) <|
   rec (IntKind.wrap .i64 (v1 + 1)) (v2 ++ [v1])
  else
   rec (IntKind.wrap .i64 (v1 + 1)) v2
 else
  e0 v2
def spec_Missing.l3 {R : Type} (k : Nat) (v0 : LI) (e0 : LI → Option R) (n : Nat) (v1 : Int) (v2 : LI) : Option R :=
 V.iter (A := Int × LI) (fun rec a => spec_Missing.s3 k v0 e0 (fun c0 c1 => rec (c0, c1)) a.1 a.2) n (v1, v2)
theorem spec_Missing.l3_succ {R : Type} (k : Nat) (v0 : LI) (e0 : LI → Option R) (n : Nat) (v1 : Int) (v2 : LI) : spec_Missing.l3 (R := R) k v0 e0 (n + 1) v1 v2 = spec_Missing.s3 k v0 e0 (spec_Missing.l3 k v0 e0 n) v1 v2 := rfl
def spec_Missing.f (k : Nat) (a : LI) : Option (LI) :=
 spec_Missing.l3 k a (fun x2 =>
  some x2) k 0 []

def spec_FullDeck.f (k : Nat) : Option (LI) :=
 (spec_Missing.f k []).bind fun r1 =>
 some r1

def spec_l33Any.f (k : Nat) (a0 : LI) (a1 a2 : Int) : Option (Int × Int × Bool × Bool × LI × LI × Int × Int × LI × Bool × LI × Int × Int × Bool × Bool × LI × LI × Int × Int × LL × LI × LI × Int × Int × Int × LI × LL × LI × Int × Int) :=
 (spec_l22Draw.f k a0 a1 a2).bind fun r1 =>
 (spec_NewTable.f k r1.1 r1.2.1 (t2 r1).1 (t3 r1).1 (t4 r1).1 (t5 r1).1 (t6 r1).1 (t7 r1).1).bind fun r2 =>
 (spec_l1Below.f k (t8 r1).1 (t9 r1).1 (t9 r1.2) 12).bind fun r3 =>
 bif (r3.1 == 0) then
  (spec_l22Any.f k r3.2.1 (t2 r3).1 (t3 r3)).bind fun r4 =>
  some (r4.1, r4.2.1, (t2 r4).1, (t3 r4).1, (t4 r4).1, (t5 r4).1, (t6 r4).1, (t7 r4).1, (t8 r2).1, (t9 r2).1, (t9 r2.2).1, (t9 (t2 r2)).1, (t9 (t3 r2)).1, (t9 (t4 r2)).1, (t9 (t5 r2)).1, (t9 (t6 r2)).1, (t9 (t7 r2)).1, (t9 (t8 r2)).1, (t9 (t9 r2)).1, (t9 (t9 r2.2)).1, (t9 (t9 (t2 r2))).1, (t9 (t9 (t3 r2))).1, (t9 (t9 (t4 r2))).1, (t9 (t9 (t5 r2))).1, (t9 (t9 (t6 r2))).1, (t9 (t9 (t7 r2))).1, (t9 (t9 (t8 r2))).1, (t8 r4).1, (t9 r4).1, (t9 r4.2))
 else
  bif (r3.1 == 1) then
   (spec_l1Below.f k r3.2.1 (t2 r3).1 (t3 r3) 6).bind fun r5 =>
   chk ((decide (0 ≤ (IntKind.wrap .i64 (1 + r5.1)))) && (decide (((IntKind.wrap .i64 (1 + r5.1)).toNat) * 8 ≤ room))) <|
   some (r2.1, r2.2.1, (t2 r2).1, (t3 r2).1, (t4 r2).1, (t5 r2).1, (t6 r2).1, (t7 r2).1, List.replicate ((IntKind.wrap .i64 (1 + r5.1)).toNat) 0, (t9 r2).1, (t9 r2.2).1, (t9 (t2 r2)).1, (t9 (t3 r2)).1, (t9 (t4 r2)).1, (t9 (t5 r2)).1, (t9 (t6 r2)).1, (t9 (t7 r2)).1, (t9 (t8 r2)).1, (t9 (t9 r2)).1, (t9 (t9 r2.2)).1, (t9 (t9 (t2 r2))).1, (t9 (t9 (t3 r2))).1, (t9 (t9 (t4 r2))).1, (t9 (t9 (t5 r2))).1, (t9 (t9 (t6 r2))).1, (t9 (t9 (t7 r2))).1, (t9 (t9 (t8 r2))).1, r5.2.1, (t2 r5).1, (t3 r5))
  else
   bif (r3.1 == 2) then
    (spec_l15Round.f k r3.2.1 (t2 r3).1 (t3 r3) r2.1).bind fun r6 =>
    some (r2.1, r2.2.1, (t2 r2).1, (t3 r2).1, (t4 r2).1, (t5 r2).1, (t6 r2).1, (t7 r2).1, (t8 r2).1, (t9 r2).1, (t9 r2.2).1, (t9 (t2 r2)).1, (t9 (t3 r2)).1, (t9 (t4 r2)).1, (t9 (t5 r2)).1, (t9 (t6 r2)).1, (t9 (t7 r2)).1, (t9 (t8 r2)).1, (t9 (t9 r2)).1, (t9 (t9 r2.2)).1, (t9 (t9 (t2 r2))).1, (t9 (t9 (t3 r2))).1, (t9 (t9 (t4 r2))).1, (t9 (t9 (t5 r2))).1, (t9 (t9 (t6 r2))).1, (t9 (t9 (t7 r2))).1, [r6.1], r6.2.1, (t2 r6).1, (t3 r6))
   else
    bif (r3.1 == 3) then
     some (r2.1, r2.2.1, (t2 r2).1, (t3 r2).1, (t4 r2).1, (t5 r2).1, (t6 r2).1, (t7 r2).1, (t8 r2).1, (t9 r2).1, (t9 r2.2).1, (t9 (t2 r2)).1, (t9 (t3 r2)).1, (t9 (t4 r2)).1, (t9 (t5 r2)).1, (t9 (t6 r2)).1, (t9 (t7 r2)).1, (t9 (t8 r2)).1, (t9 (t9 r2)).1, (t9 (t9 r2.2)).1, (t9 (t9 (t2 r2))).1, (t9 (t9 (t3 r2))).1, (t9 (t9 (t4 r2))).1, (t9 (t9 (t5 r2))).1, (t9 (t9 (t6 r2))).1, (t9 (t9 (t7 r2))).1, [[1, (-1)]], r3.2.1, (t2 r3).1, (t3 r3))
    else
     bif (r3.1 == 4) then
      some (r2.1, r2.2.1, (t2 r2).1, (t3 r2).1, (t4 r2).1, (t5 r2).1, (t6 r2).1, (t7 r2).1, (t8 r2).1, true, (t9 r2.2).1, (t9 (t2 r2)).1, (t9 (t3 r2)).1, (t9 (t4 r2)).1, (t9 (t5 r2)).1, (t9 (t6 r2)).1, (t9 (t7 r2)).1, (t9 (t8 r2)).1, (t9 (t9 r2)).1, (t9 (t9 r2.2)).1, (t9 (t9 (t2 r2))).1, (t9 (t9 (t3 r2))).1, (t9 (t9 (t4 r2))).1, (t9 (t9 (t5 r2))).1, (t9 (t9 (t6 r2))).1, (t9 (t9 (t7 r2))).1, (t9 (t9 (t8 r2))).1, r3.2.1, (t2 r3).1, (t3 r3))
     else
      bif (r3.1 == 5) then
       some (r2.1, r2.2.1, (t2 r2).1, (t3 r2).1, (t4 r2).1, (t5 r2).1, (t6 r2).1, (t7 r2).1, (t8 r2).1, (t9 r2).1, (t9 r2.2).1, (t9 (t2 r2)).1, (t9 (t3 r2)).1, (t9 (t4 r2)).1, (t9 (t5 r2)).1, (t9 (t6 r2)).1, (t9 (t7 r2)).1, (t9 (t8 r2)).1, (t9 (t9 r2)).1, (t9 (t9 r2.2)).1, (t9 (t9 (t2 r2))).1, (t9 (t9 (t3 r2))).1, (t9 (t9 (t4 r2))).1, (t9 (t9 (t5 r2))).1, (t9 (t9 (t6 r2))).1, [(-1)], (t9 (t9 (t8 r2))).1, r3.2.1, (t2 r3).1, (t3 r3))
      else
       bif (r3.1 == 6) then
        (spec_FullDeck.f k).bind fun r7 =>
        some (r2.1, r2.2.1, (t2 r2).1, (t3 r2).1, (t4 r2).1, (t5 r2).1, (t6 r2).1, (t7 r2).1, (t8 r2).1, (t9 r2).1, r7, (t9 (t2 r2)).1, (t9 (t3 r2)).1, (t9 (t4 r2)).1, (t9 (t5 r2)).1, (t9 (t6 r2)).1, (t9 (t7 r2)).1, (t9 (t8 r2)).1, (t9 (t9 r2)).1, (t9 (t9 r2.2)).1, (t9 (t9 (t2 r2))).1, (t9 (t9 (t3 r2))).1, (t9 (t9 (t4 r2))).1, (t9 (t9 (t5 r2))).1, (t9 (t9 (t6 r2))).1, (t9 (t9 (t7 r2))).1, (t9 (t9 (t8 r2))).1, r3.2.1, (t2 r3).1, (t3 r3))
       else
        some (r2.1, r2.2.1, (t2 r2).1, (t3 r2).1, (t4 r2).1, (t5 r2).1, (t6 r2).1, (t7 r2).1, (t8 r2).1, (t9 r2).1, (t9 r2.2).1, (t9 (t2 r2)).1, (t9 (t3 r2)).1, (t9 (t4 r2)).1, (t9 (t5 r2)).1, (t9 (t6 r2)).1, (t9 (t7 r2)).1, (t9 (t8 r2)).1, (t9 (t9 r2)).1, (t9 (t9 r2.2)).1, (t9 (t9 (t2 r2))).1, (t9 (t9 (t3 r2))).1, (t9 (t9 (t4 r2))).1, (t9 (t9 (t5 r2))).1, (t9 (t9 (t6 r2))).1, (t9 (t9 (t7 r2))).1, (t9 (t9 (t8 r2))).1, r3.2.1, (t2 r3).1, (t3 r3))

def spec_DrawIsTable.f (k : Nat) (a : LI) : Option (Int × Int × Bool × Bool × LI × LI × Int × Int × LI × Bool × LI × Int × Int × Bool × Bool × LI × LI × Int × Int × LL × LI × LI × Int × Int × Int × LI × LL) :=
 (spec_l1New.f k a).bind fun r1 =>
 (spec_l33Any.f k r1.1 r1.2.1 (t2 r1)).bind fun r2 =>
 some (r2.1, r2.2.1, (t2 r2).1, (t3 r2).1, (t4 r2).1, (t5 r2).1, (t6 r2).1, (t7 r2).1, (t8 r2).1, (t9 r2).1, (t9 r2.2).1, (t9 (t2 r2)).1, (t9 (t3 r2)).1, (t9 (t4 r2)).1, (t9 (t5 r2)).1, (t9 (t6 r2)).1, (t9 (t7 r2)).1, (t9 (t8 r2)).1, (t9 (t9 r2)).1, (t9 (t9 r2.2)).1, (t9 (t9 (t2 r2))).1, (t9 (t9 (t3 r2))).1, (t9 (t9 (t4 r2))).1, (t9 (t9 (t5 r2))).1, (t9 (t9 (t6 r2))).1, (t9 (t9 (t7 r2))).1, (t9 (t9 (t8 r2))).1)

def spec_DrawFormatTable.f (k : Nat) (a : LI) : Option (Int × Int × Bool × Bool × LI × LI × Int × Int × LI × Bool × LI × Int × Int × Bool × Bool × LI × LI × Int × Int × LL × LI × LI × Int × Int × Int × LI × LL) :=
 (spec_DrawIsTable.f k a).bind fun r1 =>
 some (r1.1, r1.2.1, (t2 r1).1, (t3 r1).1, (t4 r1).1, (t5 r1).1, (t6 r1).1, (t7 r1).1, (t8 r1).1, (t9 r1).1, (t9 r1.2).1, (t9 (t2 r1)).1, (t9 (t3 r1)).1, (t9 (t4 r1)).1, (t9 (t5 r1)).1, (t9 (t6 r1)).1, (t9 (t7 r1)).1, (t9 (t8 r1)).1, (t9 (t9 r1)).1, (t9 (t9 r1.2)).1, (t9 (t9 (t2 r1))).1, (t9 (t9 (t3 r1))).1, (t9 (t9 (t4 r1))).1, (t9 (t9 (t5 r1))).1, (t9 (t9 (t6 r1))).1, (t9 (t9 (t7 r1))).1, (t9 (t9 (t8 r1))))

def impl_FormatNumbers.f (k : Nat) (a : LI) : Option (ByteArray) :=
 bif ((a.length : Int) == 0) then
  some (⟨#[45]⟩ : ByteArray)
 else
  (impl_numbersText.f k a (⟨#[32]⟩ : ByteArray)).bind fun r1 =>
  some r1

def impl_FormatSheet.s5 {R : Type} (k : Nat) (v0 : LL) (v1 : Int) (e0 : List ByteArray → Option R) (rec : Int → List ByteArray → Option R) (v2 : Int) (v3 : List ByteArray) : Option R :=
 bif decide (v2 < v1) then
  chk ((decide (0 ≤ v2)) && (decide (v2 < (v0.length : Int)))) <|
  (impl_numbersText.f k (v0.getD v2.toNat []) (⟨#[44]⟩ : ByteArray)).bind fun r1 =>
  chk (decide ((v3.length + 1) * 16 ≤ room)) <|
  rec (IntKind.wrap .i64 (v2 + 1)) (v3 ++ [r1])
 else
  e0 v3
def impl_FormatSheet.l5 {R : Type} (k : Nat) (v0 : LL) (v1 : Int) (e0 : List ByteArray → Option R) (n : Nat) (v2 : Int) (v3 : List ByteArray) : Option R :=
 V.iter (A := Int × List ByteArray) (fun rec a => impl_FormatSheet.s5 k v0 v1 e0 (fun c0 c1 => rec (c0, c1)) a.1 a.2) n (v2, v3)
theorem impl_FormatSheet.l5_succ {R : Type} (k : Nat) (v0 : LL) (v1 : Int) (e0 : List ByteArray → Option R) (n : Nat) (v2 : Int) (v3 : List ByteArray) : impl_FormatSheet.l5 (R := R) k v0 v1 e0 (n + 1) v2 v3 = impl_FormatSheet.s5 k v0 v1 e0 (impl_FormatSheet.l5 k v0 v1 e0 n) v2 v3 := rfl
def impl_FormatSheet.f (k : Nat) (a : LL) : Option (ByteArray) :=
 bif ((a.length : Int) == 0) then
  some (⟨#[45]⟩ : ByteArray)
 else
  impl_FormatSheet.l5 k a (a.length : Int) (fun x2 =>
   (strings_Join.f k x2 (⟨#[32]⟩ : ByteArray)).bind fun r3 =>
   some r3) k 0 []

def laws_FnViews.s7 {R : Type} (k : Nat) (v2 : ByteArray) (e0 : Int → Option R) (rec : Int → Int → Option R) (v3 v4 : Int) : Option R :=
 bif decide (v4 < (v2.size : Int)) then
  chk ((decide (0 ≤ v4)) && (decide (v4 < (v2.size : Int)))) <|
  bif ((sb v2 v4.toNat) == 32) then
   rec (IntKind.wrap .i64 (v3 + 1)) (IntKind.wrap .i64 (v4 + 1))
  else
   rec v3 (IntKind.wrap .i64 (v4 + 1))
 else
  e0 v3
def laws_FnViews.l7 {R : Type} (k : Nat) (v2 : ByteArray) (e0 : Int → Option R) (n : Nat) (v3 v4 : Int) : Option R :=
 V.iter (A := Int × Int) (fun rec a => laws_FnViews.s7 k v2 e0 (fun c0 c1 => rec (c0, c1)) a.1 a.2) n (v3, v4)
theorem laws_FnViews.l7_succ {R : Type} (k : Nat) (v2 : ByteArray) (e0 : Int → Option R) (n : Nat) (v3 v4 : Int) : laws_FnViews.l7 (R := R) k v2 e0 (n + 1) v3 v4 = laws_FnViews.s7 k v2 e0 (laws_FnViews.l7 k v2 e0 n) v3 v4 := rfl
def laws_FnViews.s16 {R : Type} (k : Nat) (v3 : ByteArray) (e0 : Int → Option R) (rec : Int → Int → Option R) (v4 v5 : Int) : Option R :=
 bif decide (v5 < (v3.size : Int)) then
  chk ((decide (0 ≤ v5)) && (decide (v5 < (v3.size : Int)))) <|
  bif ((sb v3 v5.toNat) == 32) then
   rec (IntKind.wrap .i64 (v4 + 1)) (IntKind.wrap .i64 (v5 + 1))
  else
   rec v4 (IntKind.wrap .i64 (v5 + 1))
 else
  e0 v4
def laws_FnViews.l16 {R : Type} (k : Nat) (v3 : ByteArray) (e0 : Int → Option R) (n : Nat) (v4 v5 : Int) : Option R :=
 V.iter (A := Int × Int) (fun rec a => laws_FnViews.s16 k v3 e0 (fun c0 c1 => rec (c0, c1)) a.1 a.2) n (v4, v5)
theorem laws_FnViews.l16_succ {R : Type} (k : Nat) (v3 : ByteArray) (e0 : Int → Option R) (n : Nat) (v4 v5 : Int) : laws_FnViews.l16 (R := R) k v3 e0 (n + 1) v4 v5 = laws_FnViews.s16 k v3 e0 (laws_FnViews.l16 k v3 e0 n) v4 v5 := rfl
def laws_FnViews.f (k : Nat) (a : LI) : Option (Bool) :=
 (laws_big.f k a).bind fun r1 =>
 bif r1 then
  some true
 else
  (spec_DrawFormatMelds.f k a).bind fun r2 =>
  (impl_FormatMelds.f k r2).bind fun r3 =>
  laws_FnViews.l7 k r3 (fun x4 =>
   (spec_DrawFormatKey.f k a).bind fun r5 =>
   (impl_FormatKey.f k r5).bind fun r6 =>
   (spec_DrawFormatTable.f k a).bind fun r7 =>
   (impl_FormatTable.f k r7.1 r7.2.1 (t2 r7).1 (t3 r7).1 (t4 r7).1 (t5 r7).1 (t6 r7).1 (t7 r7).1 (t8 r7).1 (t9 r7).1 (t9 r7.2).1 (t9 (t2 r7)).1 (t9 (t3 r7)).1 (t9 (t4 r7)).1 (t9 (t5 r7)).1 (t9 (t6 r7)).1 (t9 (t7 r7)).1 (t9 (t8 r7)).1 (t9 (t9 r7)).1 (t9 (t9 r7.2)).1 (t9 (t9 (t2 r7))).1 (t9 (t9 (t3 r7))).1 (t9 (t9 (t4 r7))).1 (t9 (t9 (t5 r7))).1 (t9 (t9 (t6 r7))).1 (t9 (t9 (t7 r7))).1 (t9 (t9 (t8 r7)))).bind fun r8 =>
   laws_FnViews.l16 k r8 (fun x9 =>
    bif ((r2.length : Int) == 0) then
     (impl_KeyOf.f k r5).bind fun r10 =>
     bif ((r6.toList == (⟨#[45]⟩ : ByteArray).toList) == ((r10.length : Int) == 0)) then
      bif (x9 == 3) then
       (impl_FormatNumbers.f k []).bind fun r11 =>
       bif (r11.toList == (⟨#[45]⟩ : ByteArray).toList) then
        (impl_FormatSheet.f k []).bind fun r12 =>
        some (r12.toList == (⟨#[45]⟩ : ByteArray).toList)
       else
        some false
      else
       some false
     else
      some false
    else
     bif (x4 == (IntKind.wrap .i64 ((r2.length : Int) - 1))) then
      (impl_KeyOf.f k r5).bind fun r13 =>
      bif ((r6.toList == (⟨#[45]⟩ : ByteArray).toList) == ((r13.length : Int) == 0)) then
       bif (x9 == 3) then
        (impl_FormatNumbers.f k []).bind fun r14 =>
        bif (r14.toList == (⟨#[45]⟩ : ByteArray).toList) then
         (impl_FormatSheet.f k []).bind fun r15 =>
         some (r15.toList == (⟨#[45]⟩ : ByteArray).toList)
        else
         some false
       else
        some false
      else
       some false
     else
      some false) k 0 0) k 0 0
end Go.Proofs.YtfbafmeeejmgoaaDoor
