/- Plain Lean functions, printed by a program out of the Go functions' translation: what each computes, without program and memory. -/
import Derived.Test.YtfkejiljabmaaaaFFnExactAverageMoves
set_option linter.unusedVariables false
namespace Go.Proofs.Ytfkejiljabmaaaa
open Go Go.Proofs.Ytfkejiljabmaaaa.V

def laws_szRules.f (k : Nat) (a0_0 : Int) (a0_1 : Int) (a0_2 : Bool) (a0_3 : Bool) (a0_4 : List Int) (a0_5 : List Int) (a0_6 : Int) (a0_7 : Int) (a1 : Int) : Option (Int) :=
  (laws_szIntS.f k a0_4 a1).bind fun r1 =>
  bif decide (r1 < (0 : Int)) then
    some (-1 : Int)
  else
    (laws_szIntS.f k a0_5 r1).bind fun r2 =>
    bif decide (r2 < (0 : Int)) then
      some (-1 : Int)
    else
      some r2

def laws_szGame.f (k : Nat) (a0_0 : Int) (a0_1 : Int) (a0_2 : Bool) (a0_3 : Bool) (a0_4 : List Int) (a0_5 : List Int) (a0_6 : Int) (a0_7 : Int) (a0_8 : List (List Int)) (a0_9 : List Int) (a0_10 : List Int) (a0_11 : Int) (a0_12 : Int) (a0_13 : Int) (a1 : Int) : Option (Int) :=
  (laws_szRules.f k a0_0 a0_1 a0_2 a0_3 a0_4 a0_5 a0_6 a0_7 a1).bind fun r1 =>
  bif decide (r1 < (0 : Int)) then
    some (-1 : Int)
  else
    (laws_szIntSS.f k a0_8 r1).bind fun r2 =>
    bif decide (r2 < (0 : Int)) then
      some (-1 : Int)
    else
      (laws_szIntS.f k a0_9 r2).bind fun r3 =>
      bif decide (r3 < (0 : Int)) then
        some (-1 : Int)
      else
        (laws_szIntS.f k a0_10 r3).bind fun r4 =>
        bif decide (r4 < (0 : Int)) then
          some (-1 : Int)
        else
          some r4

def laws_szTable.f (k : Nat) (a0_0 : Int) (a0_1 : Int) (a0_2 : Bool) (a0_3 : Bool) (a0_4 : List Int) (a0_5 : List Int) (a0_6 : Int) (a0_7 : Int) (a0_8 : List Int) (a0_9 : Bool) (a0_10 : List Int) (a0_11 : Int) (a0_12 : Int) (a0_13 : Bool) (a0_14 : Bool) (a0_15 : List Int) (a0_16 : List Int) (a0_17 : Int) (a0_18 : Int) (a0_19 : List (List Int)) (a0_20 : List Int) (a0_21 : List Int) (a0_22 : Int) (a0_23 : Int) (a0_24 : Int) (a0_25 : List Int) (a0_26 : List (List Int)) (a1 : Int) : Option (Int) :=
  (laws_szRules.f k a0_0 a0_1 a0_2 a0_3 a0_4 a0_5 a0_6 a0_7 a1).bind fun r1 =>
  bif decide (r1 < (0 : Int)) then
    some (-1 : Int)
  else
    (laws_szIntS.f k a0_8 r1).bind fun r2 =>
    bif decide (r2 < (0 : Int)) then
      some (-1 : Int)
    else
      (laws_szIntS.f k a0_10 r2).bind fun r3 =>
      bif decide (r3 < (0 : Int)) then
        some (-1 : Int)
      else
        (laws_szGame.f k a0_11 a0_12 a0_13 a0_14 a0_15 a0_16 a0_17 a0_18 a0_19 a0_20 a0_21 a0_22 a0_23 a0_24 r3).bind fun r4 =>
        bif decide (r4 < (0 : Int)) then
          some (-1 : Int)
        else
          (laws_szIntS.f k a0_25 r4).bind fun r5 =>
          bif decide (r5 < (0 : Int)) then
            some (-1 : Int)
          else
            (laws_szIntSS.f k a0_26 r5).bind fun r6 =>
            bif decide (r6 < (0 : Int)) then
              some (-1 : Int)
            else
              some r6

def spec_IsRecorded.f (k : Nat) (a0_0 : Int) (a0_1 : Int) (a0_2 : Bool) (a0_3 : Bool) (a0_4 : List Int) (a0_5 : List Int) (a0_6 : Int) (a0_7 : Int) (a0_8 : List Int) (a0_9 : Bool) (a0_10 : List Int) (a0_11 : Int) (a0_12 : Int) (a0_13 : Bool) (a0_14 : Bool) (a0_15 : List Int) (a0_16 : List Int) (a0_17 : Int) (a0_18 : Int) (a0_19 : List (List Int)) (a0_20 : List Int) (a0_21 : List Int) (a0_22 : Int) (a0_23 : Int) (a0_24 : Int) (a0_25 : List Int) (a0_26 : List (List Int)) : Option (Bool) :=
  some ((a0_25.length : Int) == a0_23)

def laws_toRules.f (k : Nat) (a0_0 : Int) (a0_1 : Int) (a0_2 : Bool) (a0_3 : Bool) (a0_4 : List Int) (a0_5 : List Int) (a0_6 : Int) (a0_7 : Int) : Option (Int × Int × Bool × Bool × List Int × List Int × Int × Int) :=
  (laws_toIntS.f k a0_4).bind fun r1 =>
  (laws_toIntS.f k a0_5).bind fun r2 =>
  some (a0_0, a0_1, a0_2, a0_3, r1, r2, a0_6, a0_7)

def laws_toGame.f (k : Nat) (a0_0 : Int) (a0_1 : Int) (a0_2 : Bool) (a0_3 : Bool) (a0_4 : List Int) (a0_5 : List Int) (a0_6 : Int) (a0_7 : Int) (a0_8 : List (List Int)) (a0_9 : List Int) (a0_10 : List Int) (a0_11 : Int) (a0_12 : Int) (a0_13 : Int) : Option (Int × Int × Bool × Bool × List Int × List Int × Int × Int × List (List Int) × List Int × List Int × Int × Int × Int) :=
  (laws_toRules.f k a0_0 a0_1 a0_2 a0_3 a0_4 a0_5 a0_6 a0_7).bind fun r1 =>
  (laws_toIntSS.f k a0_8).bind fun r2 =>
  (laws_toIntS.f k a0_9).bind fun r3 =>
  (laws_toIntS.f k a0_10).bind fun r4 =>
  some (r1.1, r1.2.1, r1.2.2.1, r1.2.2.2.1, r1.2.2.2.2.1, r1.2.2.2.2.2.1, r1.2.2.2.2.2.2.1, r1.2.2.2.2.2.2.2, r2, r3, r4, a0_11, a0_12, a0_13)

def laws_toTable.f (k : Nat) (a0_0 : Int) (a0_1 : Int) (a0_2 : Bool) (a0_3 : Bool) (a0_4 : List Int) (a0_5 : List Int) (a0_6 : Int) (a0_7 : Int) (a0_8 : List Int) (a0_9 : Bool) (a0_10 : List Int) (a0_11 : Int) (a0_12 : Int) (a0_13 : Bool) (a0_14 : Bool) (a0_15 : List Int) (a0_16 : List Int) (a0_17 : Int) (a0_18 : Int) (a0_19 : List (List Int)) (a0_20 : List Int) (a0_21 : List Int) (a0_22 : Int) (a0_23 : Int) (a0_24 : Int) (a0_25 : List Int) (a0_26 : List (List Int)) : Option (Int × Int × Bool × Bool × List Int × List Int × Int × Int × List Int × Bool × List Int × Int × Int × Bool × Bool × List Int × List Int × Int × Int × List (List Int) × List Int × List Int × Int × Int × Int × List Int × List (List Int)) :=
  (laws_toRules.f k a0_0 a0_1 a0_2 a0_3 a0_4 a0_5 a0_6 a0_7).bind fun r1 =>
  (laws_toIntS.f k a0_8).bind fun r2 =>
  (laws_toIntS.f k a0_10).bind fun r3 =>
  (laws_toGame.f k a0_11 a0_12 a0_13 a0_14 a0_15 a0_16 a0_17 a0_18 a0_19 a0_20 a0_21 a0_22 a0_23 a0_24).bind fun r4 =>
  (laws_toIntS.f k a0_25).bind fun r5 =>
  (laws_toIntSS.f k a0_26).bind fun r6 =>
  some (r1.1, r1.2.1, r1.2.2.1, r1.2.2.2.1, r1.2.2.2.2.1, r1.2.2.2.2.2.1, r1.2.2.2.2.2.2.1, r1.2.2.2.2.2.2.2, r2, a0_9, r3, r4.1, r4.2.1, r4.2.2.1, r4.2.2.2.1, r4.2.2.2.2.1, r4.2.2.2.2.2.1, r4.2.2.2.2.2.2.1, r4.2.2.2.2.2.2.2.1, r4.2.2.2.2.2.2.2.2.1, r4.2.2.2.2.2.2.2.2.2.1, r4.2.2.2.2.2.2.2.2.2.2.1, r4.2.2.2.2.2.2.2.2.2.2.2.1, r4.2.2.2.2.2.2.2.2.2.2.2.2.1, r4.2.2.2.2.2.2.2.2.2.2.2.2.2, r5, r6)

def impl_IsRecorded.f (k : Nat) (a0_0 : Int) (a0_1 : Int) (a0_2 : Bool) (a0_3 : Bool) (a0_4 : List Int) (a0_5 : List Int) (a0_6 : Int) (a0_7 : Int) (a0_8 : List Int) (a0_9 : Bool) (a0_10 : List Int) (a0_11 : Int) (a0_12 : Int) (a0_13 : Bool) (a0_14 : Bool) (a0_15 : List Int) (a0_16 : List Int) (a0_17 : Int) (a0_18 : Int) (a0_19 : List (List Int)) (a0_20 : List Int) (a0_21 : List Int) (a0_22 : Int) (a0_23 : Int) (a0_24 : Int) (a0_25 : List Int) (a0_26 : List (List Int)) : Option (Bool) :=
  some ((a0_25.length : Int) == a0_23)

def laws_eqRules.f (k : Nat) (a0_0 : Int) (a0_1 : Int) (a0_2 : Bool) (a0_3 : Bool) (a0_4 : List Int) (a0_5 : List Int) (a0_6 : Int) (a0_7 : Int) (a1_0 : Int) (a1_1 : Int) (a1_2 : Bool) (a1_3 : Bool) (a1_4 : List Int) (a1_5 : List Int) (a1_6 : Int) (a1_7 : Int) : Option (Bool) :=
  bif (a0_0 != a1_0) then
    some false
  else
    bif (a0_1 != a1_1) then
      some false
    else
      bif (!(a0_2 == a1_2)) then
        some false
      else
        bif (!(a0_3 == a1_3)) then
          some false
        else
          (laws_eqIntS.f k a0_4 a1_4).bind fun r1 =>
          bif (!r1) then
            some false
          else
            (laws_eqIntS.f k a0_5 a1_5).bind fun r2 =>
            bif (!r2) then
              some false
            else
              bif (a0_6 != a1_6) then
                some false
              else
                bif (a0_7 != a1_7) then
                  some false
                else
                  some true

def laws_eqGame.f (k : Nat) (a0_0 : Int) (a0_1 : Int) (a0_2 : Bool) (a0_3 : Bool) (a0_4 : List Int) (a0_5 : List Int) (a0_6 : Int) (a0_7 : Int) (a0_8 : List (List Int)) (a0_9 : List Int) (a0_10 : List Int) (a0_11 : Int) (a0_12 : Int) (a0_13 : Int) (a1_0 : Int) (a1_1 : Int) (a1_2 : Bool) (a1_3 : Bool) (a1_4 : List Int) (a1_5 : List Int) (a1_6 : Int) (a1_7 : Int) (a1_8 : List (List Int)) (a1_9 : List Int) (a1_10 : List Int) (a1_11 : Int) (a1_12 : Int) (a1_13 : Int) : Option (Bool) :=
  (laws_eqRules.f k a0_0 a0_1 a0_2 a0_3 a0_4 a0_5 a0_6 a0_7 a1_0 a1_1 a1_2 a1_3 a1_4 a1_5 a1_6 a1_7).bind fun r1 =>
  bif (!r1) then
    some false
  else
    (laws_eqIntSS.f k a0_8 a1_8).bind fun r2 =>
    bif (!r2) then
      some false
    else
      (laws_eqIntS.f k a0_9 a1_9).bind fun r3 =>
      bif (!r3) then
        some false
      else
        (laws_eqIntS.f k a0_10 a1_10).bind fun r4 =>
        bif (!r4) then
          some false
        else
          bif (a0_11 != a1_11) then
            some false
          else
            bif (a0_12 != a1_12) then
              some false
            else
              bif (a0_13 != a1_13) then
                some false
              else
                some true

def laws_eqTable.f (k : Nat) (a0_0 : Int) (a0_1 : Int) (a0_2 : Bool) (a0_3 : Bool) (a0_4 : List Int) (a0_5 : List Int) (a0_6 : Int) (a0_7 : Int) (a0_8 : List Int) (a0_9 : Bool) (a0_10 : List Int) (a0_11 : Int) (a0_12 : Int) (a0_13 : Bool) (a0_14 : Bool) (a0_15 : List Int) (a0_16 : List Int) (a0_17 : Int) (a0_18 : Int) (a0_19 : List (List Int)) (a0_20 : List Int) (a0_21 : List Int) (a0_22 : Int) (a0_23 : Int) (a0_24 : Int) (a0_25 : List Int) (a0_26 : List (List Int)) (a1_0 : Int) (a1_1 : Int) (a1_2 : Bool) (a1_3 : Bool) (a1_4 : List Int) (a1_5 : List Int) (a1_6 : Int) (a1_7 : Int) (a1_8 : List Int) (a1_9 : Bool) (a1_10 : List Int) (a1_11 : Int) (a1_12 : Int) (a1_13 : Bool) (a1_14 : Bool) (a1_15 : List Int) (a1_16 : List Int) (a1_17 : Int) (a1_18 : Int) (a1_19 : List (List Int)) (a1_20 : List Int) (a1_21 : List Int) (a1_22 : Int) (a1_23 : Int) (a1_24 : Int) (a1_25 : List Int) (a1_26 : List (List Int)) : Option (Bool) :=
  (laws_eqRules.f k a0_0 a0_1 a0_2 a0_3 a0_4 a0_5 a0_6 a0_7 a1_0 a1_1 a1_2 a1_3 a1_4 a1_5 a1_6 a1_7).bind fun r1 =>
  bif (!r1) then
    some false
  else
    (laws_eqIntS.f k a0_8 a1_8).bind fun r2 =>
    bif (!r2) then
      some false
    else
      bif (!(a0_9 == a1_9)) then
        some false
      else
        (laws_eqIntS.f k a0_10 a1_10).bind fun r3 =>
        bif (!r3) then
          some false
        else
          (laws_eqGame.f k a0_11 a0_12 a0_13 a0_14 a0_15 a0_16 a0_17 a0_18 a0_19 a0_20 a0_21 a0_22 a0_23 a0_24 a1_11 a1_12 a1_13 a1_14 a1_15 a1_16 a1_17 a1_18 a1_19 a1_20 a1_21 a1_22 a1_23 a1_24).bind fun r4 =>
          bif (!r4) then
            some false
          else
            (laws_eqIntS.f k a0_25 a1_25).bind fun r5 =>
            bif (!r5) then
              some false
            else
              (laws_eqIntSS.f k a0_26 a1_26).bind fun r6 =>
              bif (!r6) then
                some false
              else
                some true

def laws_FnExactIsRecorded.f (k : Nat) (a0_0 : Int) (a0_1 : Int) (a0_2 : Bool) (a0_3 : Bool) (a0_4 : List Int) (a0_5 : List Int) (a0_6 : Int) (a0_7 : Int) (a0_8 : List Int) (a0_9 : Bool) (a0_10 : List Int) (a0_11 : Int) (a0_12 : Int) (a0_13 : Bool) (a0_14 : Bool) (a0_15 : List Int) (a0_16 : List Int) (a0_17 : Int) (a0_18 : Int) (a0_19 : List (List Int)) (a0_20 : List Int) (a0_21 : List Int) (a0_22 : Int) (a0_23 : Int) (a0_24 : Int) (a0_25 : List Int) (a0_26 : List (List Int)) : Option (Bool) :=
  (laws_szTable.f k a0_0 a0_1 a0_2 a0_3 a0_4 a0_5 a0_6 a0_7 a0_8 a0_9 a0_10 a0_11 a0_12 a0_13 a0_14 a0_15 a0_16 a0_17 a0_18 a0_19 a0_20 a0_21 a0_22 a0_23 a0_24 a0_25 a0_26 (1048576 : Int)).bind fun r1 =>
  bif decide (r1 < (0 : Int)) then
    some true
  else
    (laws_toTable.f k a0_0 a0_1 a0_2 a0_3 a0_4 a0_5 a0_6 a0_7 a0_8 a0_9 a0_10 a0_11 a0_12 a0_13 a0_14 a0_15 a0_16 a0_17 a0_18 a0_19 a0_20 a0_21 a0_22 a0_23 a0_24 a0_25 a0_26).bind fun r2 =>
    (spec_IsRecorded.f k r2.1 r2.2.1 r2.2.2.1 r2.2.2.2.1 r2.2.2.2.2.1 r2.2.2.2.2.2.1 r2.2.2.2.2.2.2.1 r2.2.2.2.2.2.2.2.1 r2.2.2.2.2.2.2.2.2.1 r2.2.2.2.2.2.2.2.2.2.1 r2.2.2.2.2.2.2.2.2.2.2.1 r2.2.2.2.2.2.2.2.2.2.2.2.1 r2.2.2.2.2.2.2.2.2.2.2.2.2.1 r2.2.2.2.2.2.2.2.2.2.2.2.2.2.1 r2.2.2.2.2.2.2.2.2.2.2.2.2.2.2.1 r2.2.2.2.2.2.2.2.2.2.2.2.2.2.2.2.1 r2.2.2.2.2.2.2.2.2.2.2.2.2.2.2.2.2.1 r2.2.2.2.2.2.2.2.2.2.2.2.2.2.2.2.2.2.1 r2.2.2.2.2.2.2.2.2.2.2.2.2.2.2.2.2.2.2.1 r2.2.2.2.2.2.2.2.2.2.2.2.2.2.2.2.2.2.2.2.1 r2.2.2.2.2.2.2.2.2.2.2.2.2.2.2.2.2.2.2.2.2.1 r2.2.2.2.2.2.2.2.2.2.2.2.2.2.2.2.2.2.2.2.2.2.1 r2.2.2.2.2.2.2.2.2.2.2.2.2.2.2.2.2.2.2.2.2.2.2.1 r2.2.2.2.2.2.2.2.2.2.2.2.2.2.2.2.2.2.2.2.2.2.2.2.1 r2.2.2.2.2.2.2.2.2.2.2.2.2.2.2.2.2.2.2.2.2.2.2.2.2.1 r2.2.2.2.2.2.2.2.2.2.2.2.2.2.2.2.2.2.2.2.2.2.2.2.2.2.1 r2.2.2.2.2.2.2.2.2.2.2.2.2.2.2.2.2.2.2.2.2.2.2.2.2.2.2).bind fun r3 =>
    (laws_toTable.f k a0_0 a0_1 a0_2 a0_3 a0_4 a0_5 a0_6 a0_7 a0_8 a0_9 a0_10 a0_11 a0_12 a0_13 a0_14 a0_15 a0_16 a0_17 a0_18 a0_19 a0_20 a0_21 a0_22 a0_23 a0_24 a0_25 a0_26).bind fun r4 =>
    (impl_IsRecorded.f k r4.1 r4.2.1 r4.2.2.1 r4.2.2.2.1 r4.2.2.2.2.1 r4.2.2.2.2.2.1 r4.2.2.2.2.2.2.1 r4.2.2.2.2.2.2.2.1 r4.2.2.2.2.2.2.2.2.1 r4.2.2.2.2.2.2.2.2.2.1 r4.2.2.2.2.2.2.2.2.2.2.1 r4.2.2.2.2.2.2.2.2.2.2.2.1 r4.2.2.2.2.2.2.2.2.2.2.2.2.1 r4.2.2.2.2.2.2.2.2.2.2.2.2.2.1 r4.2.2.2.2.2.2.2.2.2.2.2.2.2.2.1 r4.2.2.2.2.2.2.2.2.2.2.2.2.2.2.2.1 r4.2.2.2.2.2.2.2.2.2.2.2.2.2.2.2.2.1 r4.2.2.2.2.2.2.2.2.2.2.2.2.2.2.2.2.2.1 r4.2.2.2.2.2.2.2.2.2.2.2.2.2.2.2.2.2.2.1 r4.2.2.2.2.2.2.2.2.2.2.2.2.2.2.2.2.2.2.2.1 r4.2.2.2.2.2.2.2.2.2.2.2.2.2.2.2.2.2.2.2.2.1 r4.2.2.2.2.2.2.2.2.2.2.2.2.2.2.2.2.2.2.2.2.2.1 r4.2.2.2.2.2.2.2.2.2.2.2.2.2.2.2.2.2.2.2.2.2.2.1 r4.2.2.2.2.2.2.2.2.2.2.2.2.2.2.2.2.2.2.2.2.2.2.2.1 r4.2.2.2.2.2.2.2.2.2.2.2.2.2.2.2.2.2.2.2.2.2.2.2.2.1 r4.2.2.2.2.2.2.2.2.2.2.2.2.2.2.2.2.2.2.2.2.2.2.2.2.2.1 r4.2.2.2.2.2.2.2.2.2.2.2.2.2.2.2.2.2.2.2.2.2.2.2.2.2.2).bind fun r5 =>
    bif (!(r5 == r3)) then
      some false
    else
      (laws_toTable.f k a0_0 a0_1 a0_2 a0_3 a0_4 a0_5 a0_6 a0_7 a0_8 a0_9 a0_10 a0_11 a0_12 a0_13 a0_14 a0_15 a0_16 a0_17 a0_18 a0_19 a0_20 a0_21 a0_22 a0_23 a0_24 a0_25 a0_26).bind fun r6 =>
      (laws_eqTable.f k r4.1 r4.2.1 r4.2.2.1 r4.2.2.2.1 r4.2.2.2.2.1 r4.2.2.2.2.2.1 r4.2.2.2.2.2.2.1 r4.2.2.2.2.2.2.2.1 r4.2.2.2.2.2.2.2.2.1 r4.2.2.2.2.2.2.2.2.2.1 r4.2.2.2.2.2.2.2.2.2.2.1 r4.2.2.2.2.2.2.2.2.2.2.2.1 r4.2.2.2.2.2.2.2.2.2.2.2.2.1 r4.2.2.2.2.2.2.2.2.2.2.2.2.2.1 r4.2.2.2.2.2.2.2.2.2.2.2.2.2.2.1 r4.2.2.2.2.2.2.2.2.2.2.2.2.2.2.2.1 r4.2.2.2.2.2.2.2.2.2.2.2.2.2.2.2.2.1 r4.2.2.2.2.2.2.2.2.2.2.2.2.2.2.2.2.2.1 r4.2.2.2.2.2.2.2.2.2.2.2.2.2.2.2.2.2.2.1 r4.2.2.2.2.2.2.2.2.2.2.2.2.2.2.2.2.2.2.2.1 r4.2.2.2.2.2.2.2.2.2.2.2.2.2.2.2.2.2.2.2.2.1 r4.2.2.2.2.2.2.2.2.2.2.2.2.2.2.2.2.2.2.2.2.2.1 r4.2.2.2.2.2.2.2.2.2.2.2.2.2.2.2.2.2.2.2.2.2.2.1 r4.2.2.2.2.2.2.2.2.2.2.2.2.2.2.2.2.2.2.2.2.2.2.2.1 r4.2.2.2.2.2.2.2.2.2.2.2.2.2.2.2.2.2.2.2.2.2.2.2.2.1 r4.2.2.2.2.2.2.2.2.2.2.2.2.2.2.2.2.2.2.2.2.2.2.2.2.2.1 r4.2.2.2.2.2.2.2.2.2.2.2.2.2.2.2.2.2.2.2.2.2.2.2.2.2.2 r6.1 r6.2.1 r6.2.2.1 r6.2.2.2.1 r6.2.2.2.2.1 r6.2.2.2.2.2.1 r6.2.2.2.2.2.2.1 r6.2.2.2.2.2.2.2.1 r6.2.2.2.2.2.2.2.2.1 r6.2.2.2.2.2.2.2.2.2.1 r6.2.2.2.2.2.2.2.2.2.2.1 r6.2.2.2.2.2.2.2.2.2.2.2.1 r6.2.2.2.2.2.2.2.2.2.2.2.2.1 r6.2.2.2.2.2.2.2.2.2.2.2.2.2.1 r6.2.2.2.2.2.2.2.2.2.2.2.2.2.2.1 r6.2.2.2.2.2.2.2.2.2.2.2.2.2.2.2.1 r6.2.2.2.2.2.2.2.2.2.2.2.2.2.2.2.2.1 r6.2.2.2.2.2.2.2.2.2.2.2.2.2.2.2.2.2.1 r6.2.2.2.2.2.2.2.2.2.2.2.2.2.2.2.2.2.2.1 r6.2.2.2.2.2.2.2.2.2.2.2.2.2.2.2.2.2.2.2.1 r6.2.2.2.2.2.2.2.2.2.2.2.2.2.2.2.2.2.2.2.2.1 r6.2.2.2.2.2.2.2.2.2.2.2.2.2.2.2.2.2.2.2.2.2.1 r6.2.2.2.2.2.2.2.2.2.2.2.2.2.2.2.2.2.2.2.2.2.2.1 r6.2.2.2.2.2.2.2.2.2.2.2.2.2.2.2.2.2.2.2.2.2.2.2.1 r6.2.2.2.2.2.2.2.2.2.2.2.2.2.2.2.2.2.2.2.2.2.2.2.2.1 r6.2.2.2.2.2.2.2.2.2.2.2.2.2.2.2.2.2.2.2.2.2.2.2.2.2.1 r6.2.2.2.2.2.2.2.2.2.2.2.2.2.2.2.2.2.2.2.2.2.2.2.2.2.2).bind fun r7 =>
      bif (!r7) then
        some false
      else
        some true
end Go.Proofs.Ytfkejiljabmaaaa
