/- Plain Lean functions, printed by a program out of the Go functions' translation: what each computes, without program and memory. -/
import Derived.Test.YtmdfedjdnjaaiaaGreatFFnExactCouldHave
import Derived.Test.YtmdfedjdnjaaiaaGreatFFnExactGameAt
import Derived.Test.YtmdfedjdnjaaiaaGreatFFnExactMatchRound
set_option linter.unusedVariables false
namespace Go.Proofs.YtmdfedjdnjaaiaaGreat
open Go Go.Proofs.YtmdfedjdnjaaiaaGreat.V

def spec_Blunders.s3 {R : Type} (k : Nat) (v1 v2 : Int) (v3 v4 : Bool) (v5 v6 : LI) (v7 v8 : Int) (v9 : LI) (v10 : Bool) (v11 : LI) (v12 v13 : Int) (v14 v15 : Bool) (v16 v17 : LI) (v18 v19 : Int) (v20 : LL) (v21 v22 : LI) (v23 v24 v25 : Int) (v26 : LI) (v27 : LL) (e0 : LI → Option R) (rec : Int → LI → Option R) (v0 : Int) (v28 : LI) : Option R :=
 bif decide (v0 < (v26.length : Int)) then
  (spec_IsTable.f k v1 v2 v3 v4 v5 v6 v7 v8 v9 v10 v11 v12 v13 v14 v15 v16 v17 v18 v19 v20 v21 v22 v23 v24 v25 v26 v27).bind fun r1 =>
  bif r1 then
   bif v10 then
    chk ((decide (0 ≤ v0)) && (decide (v0 < (v26.length : Int)))) <|
    bif ((v26.getD v0.toNat 0) == (-1)) then
     (spec_CouldHave.f k v1 v2 v3 v4 v5 v6 v7 v8 v9 v10 v11 v12 v13 v14 v15 v16 v17 v18 v19 v20 v21 v22 v23 v24 v25 v26 v27 v0).bind fun r2 =>
     bif decide ((r2.length : Int) > 0) then
      chk (decide ((v28.length + 1) * 8 ≤ room)) <|
      rec (IntKind.wrap .i64 (v0 + 1)) (v28 ++ [v0])
     else
      rec (IntKind.wrap .i64 (v0 + 1)) v28
    else
     rec (IntKind.wrap .i64 (v0 + 1)) v28
   else
    e0 v28
  else
   e0 v28
 else
  e0 v28
def spec_Blunders.l3 {R : Type} (k : Nat) (v1 v2 : Int) (v3 v4 : Bool) (v5 v6 : LI) (v7 v8 : Int) (v9 : LI) (v10 : Bool) (v11 : LI) (v12 v13 : Int) (v14 v15 : Bool) (v16 v17 : LI) (v18 v19 : Int) (v20 : LL) (v21 v22 : LI) (v23 v24 v25 : Int) (v26 : LI) (v27 : LL) (e0 : LI → Option R) (n : Nat) (v0 : Int) (v28 : LI) : Option R :=
 V.iter (A := Int × LI) (fun rec a => spec_Blunders.s3 k v1 v2 v3 v4 v5 v6 v7 v8 v9 v10 v11 v12 v13 v14 v15 v16 v17 v18 v19 v20 v21 v22 v23 v24 v25 v26 v27 e0 (fun c0 c1 => rec (c0, c1)) a.1 a.2) n (v0, v28)
theorem spec_Blunders.l3_succ {R : Type} (k : Nat) (v1 v2 : Int) (v3 v4 : Bool) (v5 v6 : LI) (v7 v8 : Int) (v9 : LI) (v10 : Bool) (v11 : LI) (v12 v13 : Int) (v14 v15 : Bool) (v16 v17 : LI) (v18 v19 : Int) (v20 : LL) (v21 v22 : LI) (v23 v24 v25 : Int) (v26 : LI) (v27 : LL) (e0 : LI → Option R) (n : Nat) (v0 : Int) (v28 : LI) : spec_Blunders.l3 (R := R) k v1 v2 v3 v4 v5 v6 v7 v8 v9 v10 v11 v12 v13 v14 v15 v16 v17 v18 v19 v20 v21 v22 v23 v24 v25 v26 v27 e0 (n + 1) v0 v28 = spec_Blunders.s3 k v1 v2 v3 v4 v5 v6 v7 v8 v9 v10 v11 v12 v13 v14 v15 v16 v17 v18 v19 v20 v21 v22 v23 v24 v25 v26 v27 e0 (spec_Blunders.l3 k v1 v2 v3 v4 v5 v6 v7 v8 v9 v10 v11 v12 v13 v14 v15 v16 v17 v18 v19 v20 v21 v22 v23 v24 v25 v26 v27 e0 n) v0 v28 := rfl
def spec_Blunders.f (k : Nat) (a0 a1 : Int) (a2 a3 : Bool) (a4 a5 : LI) (a6 a7 : Int) (a8 : LI) (a9 : Bool) (a10 : LI) (a11 a12 : Int) (a13 a14 : Bool) (a15 a16 : LI) (a17 a18 : Int) (a19 : LL) (a20 a21 : LI) (a22 a23 a24 : Int) (a25 : LI) (a26 : LL) : Option (LI) :=
 spec_Blunders.l3 k a0 a1 a2 a3 a4 a5 a6 a7 a8 a9 a10 a11 a12 a13 a14 a15 a16 a17 a18 a19 a20 a21 a22 a23 a24 a25 a26 (fun x3 =>
  some x3) k 0 []

def impl_Blunders.s5 {R : Type} (k : Nat) (v0 : LI) (v1 v3 v4 : Int) (v5 v6 : Bool) (v7 v8 : LI) (v9 v10 : Int) (v11 : LI) (v12 : Bool) (v13 : LI) (v14 v15 : Int) (v16 v17 : Bool) (v18 v19 : LI) (v20 v21 : Int) (v22 : LL) (v23 v24 : LI) (v25 v26 v27 : Int) (v28 : LI) (v29 : LL) (e0 : LI → Option R) (rec : Int → LI → Option R) (v2 : Int) (v30 : LI) : Option R :=
 bif decide (v2 < v1) then
  chk ((decide (0 ≤ v2)) && (decide (v2 < (v0.length : Int)))) <|
  bif ((v0.getD v2.toNat 0) == (-1)) then
   (impl_CouldHave.f k v3 v4 v5 v6 v7 v8 v9 v10 v11 v12 v13 v14 v15 v16 v17 v18 v19 v20 v21 v22 v23 v24 v25 v26 v27 v28 v29 v2).bind fun r2 =>
   bif decide ((r2.length : Int) > 0) then
    chk (decide ((v30.length + 1) * 8 ≤ room)) <|
    rec (IntKind.wrap .i64 (v2 + 1)) (v30 ++ [v2])
   else
    rec (IntKind.wrap .i64 (v2 + 1)) v30
  else
   rec (IntKind.wrap .i64 (v2 + 1)) v30
 else
  e0 v30
def impl_Blunders.l5 {R : Type} (k : Nat) (v0 : LI) (v1 v3 v4 : Int) (v5 v6 : Bool) (v7 v8 : LI) (v9 v10 : Int) (v11 : LI) (v12 : Bool) (v13 : LI) (v14 v15 : Int) (v16 v17 : Bool) (v18 v19 : LI) (v20 v21 : Int) (v22 : LL) (v23 v24 : LI) (v25 v26 v27 : Int) (v28 : LI) (v29 : LL) (e0 : LI → Option R) (n : Nat) (v2 : Int) (v30 : LI) : Option R :=
 V.iter (A := Int × LI) (fun rec a => impl_Blunders.s5 k v0 v1 v3 v4 v5 v6 v7 v8 v9 v10 v11 v12 v13 v14 v15 v16 v17 v18 v19 v20 v21 v22 v23 v24 v25 v26 v27 v28 v29 e0 (fun c0 c1 => rec (c0, c1)) a.1 a.2) n (v2, v30)
theorem impl_Blunders.l5_succ {R : Type} (k : Nat) (v0 : LI) (v1 v3 v4 : Int) (v5 v6 : Bool) (v7 v8 : LI) (v9 v10 : Int) (v11 : LI) (v12 : Bool) (v13 : LI) (v14 v15 : Int) (v16 v17 : Bool) (v18 v19 : LI) (v20 v21 : Int) (v22 : LL) (v23 v24 : LI) (v25 v26 v27 : Int) (v28 : LI) (v29 : LL) (e0 : LI → Option R) (n : Nat) (v2 : Int) (v30 : LI) : impl_Blunders.l5 (R := R) k v0 v1 v3 v4 v5 v6 v7 v8 v9 v10 v11 v12 v13 v14 v15 v16 v17 v18 v19 v20 v21 v22 v23 v24 v25 v26 v27 v28 v29 e0 (n + 1) v2 v30 = impl_Blunders.s5 k v0 v1 v3 v4 v5 v6 v7 v8 v9 v10 v11 v12 v13 v14 v15 v16 v17 v18 v19 v20 v21 v22 v23 v24 v25 v26 v27 v28 v29 e0 (impl_Blunders.l5 k v0 v1 v3 v4 v5 v6 v7 v8 v9 v10 v11 v12 v13 v14 v15 v16 v17 v18 v19 v20 v21 v22 v23 v24 v25 v26 v27 v28 v29 e0 n) v2 v30 := rfl
def impl_Blunders.f (k : Nat) (a0 a1 : Int) (a2 a3 : Bool) (a4 a5 : LI) (a6 a7 : Int) (a8 : LI) (a9 : Bool) (a10 : LI) (a11 a12 : Int) (a13 a14 : Bool) (a15 a16 : LI) (a17 a18 : Int) (a19 : LL) (a20 a21 : LI) (a22 a23 a24 : Int) (a25 : LI) (a26 : LL) : Option (LI) :=
 (impl_IsTable.f k a0 a1 a2 a3 a4 a5 a6 a7 a8 a9 a10 a11 a12 a13 a14 a15 a16 a17 a18 a19 a20 a21 a22 a23 a24 a25 a26).bind fun r1 =>
 bif (!r1) then
  some ([])
 else
  bif (!a9) then
   some ([])
  else
   impl_Blunders.l5 k a25 (a25.length : Int) a0 a1 a2 a3 a4 a5 a6 a7 a8 a9 a10 a11 a12 a13 a14 a15 a16 a17 a18 a19 a20 a21 a22 a23 a24 a25 a26 (fun x3 =>
    some x3) k 0 []

def laws_FnExactBlunders.f (k : Nat) (a0 a1 : Int) (a2 a3 : Bool) (a4 a5 : LI) (a6 a7 : Int) (a8 : LI) (a9 : Bool) (a10 : LI) (a11 a12 : Int) (a13 a14 : Bool) (a15 a16 : LI) (a17 a18 : Int) (a19 : LL) (a20 a21 : LI) (a22 a23 a24 : Int) (a25 : LI) (a26 : LL) : Option (Bool) :=
 (laws_szTable.f k a0 a1 a2 a3 a4 a5 a6 a7 a8 a9 a10 a11 a12 a13 a14 a15 a16 a17 a18 a19 a20 a21 a22 a23 a24 a25 a26 1048576).bind fun r1 =>
 bif decide (r1 < 0) then
  some true
 else
  (laws_toTable.f k a0 a1 a2 a3 a4 a5 a6 a7 a8 a9 a10 a11 a12 a13 a14 a15 a16 a17 a18 a19 a20 a21 a22 a23 a24 a25 a26).bind fun r2 =>
  (spec_Blunders.f k r2.1 r2.2.1 (t2 r2).1 (t3 r2).1 (t4 r2).1 (t5 r2).1 (t6 r2).1 (t7 r2).1 (t8 r2).1 (t9 r2).1 (t9 r2.2).1 (t9 (t2 r2)).1 (t9 (t3 r2)).1 (t9 (t4 r2)).1 (t9 (t5 r2)).1 (t9 (t6 r2)).1 (t9 (t7 r2)).1 (t9 (t8 r2)).1 (t9 (t9 r2)).1 (t9 (t9 r2.2)).1 (t9 (t9 (t2 r2))).1 (t9 (t9 (t3 r2))).1 (t9 (t9 (t4 r2))).1 (t9 (t9 (t5 r2))).1 (t9 (t9 (t6 r2))).1 (t9 (t9 (t7 r2))).1 (t9 (t9 (t8 r2)))).bind fun r3 =>
  (laws_toTable.f k a0 a1 a2 a3 a4 a5 a6 a7 a8 a9 a10 a11 a12 a13 a14 a15 a16 a17 a18 a19 a20 a21 a22 a23 a24 a25 a26).bind fun r4 =>
  (impl_Blunders.f k r4.1 r4.2.1 (t2 r4).1 (t3 r4).1 (t4 r4).1 (t5 r4).1 (t6 r4).1 (t7 r4).1 (t8 r4).1 (t9 r4).1 (t9 r4.2).1 (t9 (t2 r4)).1 (t9 (t3 r4)).1 (t9 (t4 r4)).1 (t9 (t5 r4)).1 (t9 (t6 r4)).1 (t9 (t7 r4)).1 (t9 (t8 r4)).1 (t9 (t9 r4)).1 (t9 (t9 r4.2)).1 (t9 (t9 (t2 r4))).1 (t9 (t9 (t3 r4))).1 (t9 (t9 (t4 r4))).1 (t9 (t9 (t5 r4))).1 (t9 (t9 (t6 r4))).1 (t9 (t9 (t7 r4))).1 (t9 (t9 (t8 r4)))).bind fun r5 =>
  (laws_eqIntS.f k r5 r3).bind fun r6 =>
  bif (!r6) then
   some false
  else
   (laws_toTable.f k a0 a1 a2 a3 a4 a5 a6 a7 a8 a9 a10 a11 a12 a13 a14 a15 a16 a17 a18 a19 a20 a21 a22 a23 a24 a25 a26).bind fun r7 =>
   (laws_eqTable.f k r4.1 r4.2.1 (t2 r4).1 (t3 r4).1 (t4 r4).1 (t5 r4).1 (t6 r4).1 (t7 r4).1 (t8 r4).1 (t9 r4).1 (t9 r4.2).1 (t9 (t2 r4)).1 (t9 (t3 r4)).1 (t9 (t4 r4)).1 (t9 (t5 r4)).1 (t9 (t6 r4)).1 (t9 (t7 r4)).1 (t9 (t8 r4)).1 (t9 (t9 r4)).1 (t9 (t9 r4.2)).1 (t9 (t9 (t2 r4))).1 (t9 (t9 (t3 r4))).1 (t9 (t9 (t4 r4))).1 (t9 (t9 (t5 r4))).1 (t9 (t9 (t6 r4))).1 (t9 (t9 (t7 r4))).1 (t9 (t9 (t8 r4))) r7.1 r7.2.1 (t2 r7).1 (t3 r7).1 (t4 r7).1 (t5 r7).1 (t6 r7).1 (t7 r7).1 (t8 r7).1 (t9 r7).1 (t9 r7.2).1 (t9 (t2 r7)).1 (t9 (t3 r7)).1 (t9 (t4 r7)).1 (t9 (t5 r7)).1 (t9 (t6 r7)).1 (t9 (t7 r7)).1 (t9 (t8 r7)).1 (t9 (t9 r7)).1 (t9 (t9 r7.2)).1 (t9 (t9 (t2 r7))).1 (t9 (t9 (t3 r7))).1 (t9 (t9 (t4 r7))).1 (t9 (t9 (t5 r7))).1 (t9 (t9 (t6 r7))).1 (t9 (t9 (t7 r7))).1 (t9 (t9 (t8 r7)))).bind fun r8 =>
   bif (!r8) then
    some false
   else
    (laws_markTable.f k r4.1 r4.2.1 (t2 r4).1 (t3 r4).1 (t4 r4).1 (t5 r4).1 (t6 r4).1 (t7 r4).1 (t8 r4).1 (t9 r4).1 (t9 r4.2).1 (t9 (t2 r4)).1 (t9 (t3 r4)).1 (t9 (t4 r4)).1 (t9 (t5 r4)).1 (t9 (t6 r4)).1 (t9 (t7 r4)).1 (t9 (t8 r4)).1 (t9 (t9 r4)).1 (t9 (t9 r4.2)).1 (t9 (t9 (t2 r4))).1 (t9 (t9 (t3 r4))).1 (t9 (t9 (t4 r4))).1 (t9 (t9 (t5 r4))).1 (t9 (t9 (t6 r4))).1 (t9 (t9 (t7 r4))).1 (t9 (t9 (t8 r4))) 1).bind fun r9 =>
    bif decide (r9.1 < 0) then
     some false
    else
     (laws_eqIntS.f k r5 r3).bind fun r10 =>
     bif (!r10) then
      some false
     else
      (laws_markIntS.f k r5 1).bind fun r11 =>
      (laws_heldIntS.f k r11.2 1).bind fun r12 =>
      bif decide (r12 < 0) then
       some false
      else
       bif (r12 != r11.1) then
        some false
       else
        (laws_toTable.f k a0 a1 a2 a3 a4 a5 a6 a7 a8 a9 a10 a11 a12 a13 a14 a15 a16 a17 a18 a19 a20 a21 a22 a23 a24 a25 a26).bind fun r13 =>
        (impl_Blunders.f k r13.1 r13.2.1 (t2 r13).1 (t3 r13).1 (t4 r13).1 (t5 r13).1 (t6 r13).1 (t7 r13).1 (t8 r13).1 (t9 r13).1 (t9 r13.2).1 (t9 (t2 r13)).1 (t9 (t3 r13)).1 (t9 (t4 r13)).1 (t9 (t5 r13)).1 (t9 (t6 r13)).1 (t9 (t7 r13)).1 (t9 (t8 r13)).1 (t9 (t9 r13)).1 (t9 (t9 r13.2)).1 (t9 (t9 (t2 r13))).1 (t9 (t9 (t3 r13))).1 (t9 (t9 (t4 r13))).1 (t9 (t9 (t5 r13))).1 (t9 (t9 (t6 r13))).1 (t9 (t9 (t7 r13))).1 (t9 (t9 (t8 r13)))).bind fun r14 =>
        (laws_eqIntS.f k r14 r3).bind fun r15 =>
        bif (!r15) then
         some false
        else
         (laws_heldIntS.f k r11.2 1).bind fun r16 =>
         bif decide (r16 < 0) then
          some false
         else
          bif (r16 != r11.1) then
           some false
          else
           some true
end Go.Proofs.YtmdfedjdnjaaiaaGreat
