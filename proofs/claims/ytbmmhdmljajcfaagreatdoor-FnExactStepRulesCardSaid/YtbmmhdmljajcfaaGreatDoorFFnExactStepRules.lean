/- Plain Lean functions, printed by a program out of the Go functions' translation: what each computes, without program and memory. -/
import Derived.Test.YtbmmhdmljajcfaaGreatDoorVEval
import Derived.Test.YtbmmhdmljajcfaaGreatDoorNoteF
import Derived.Test.YtbmmhdmljajcfaaGreatDoorVExt
set_option linter.unusedVariables false
namespace Go.Proofs.YtbmmhdmljajcfaaGreatDoor
open Go Go.Proofs.YtbmmhdmljajcfaaGreatDoor.V
def laws_szIntS.f (k:Nat) (a:LI) (g:Int):Option (Int):=
 bif decide ((IntKind.wrap .i64 (g-(a.length:Int)))<0) then
  some (-1)
 else
  some (IntKind.wrap .i64 (g-(a.length:Int)))
def laws_szRules.f (k:Nat) (a0 a1:Int) (a2 a3:Bool) (a4 a5:LI) (a6 a7 g:Int):Option (Int):=
 (laws_szIntS.f k a4 g).bind fun r1=>
 bif decide (r1<0) then
  some (-1)
 else
  (laws_szIntS.f k a5 r1).bind fun r2=>
  bif decide (r2<0) then
   some (-1)
  else
   some r2
def laws_szIntSS.s5 {R:Type} (k:Nat) (v0:LL) (e0 e1:Int->Option R) (rec:Int->Int->Option R) (v1 v2:Int):Option R:=
 bif decide (v2<(v0.length:Int)) then
  chk ((decide (0<=v2))&&(decide (v2<(v0.length:Int))))<|
  (laws_szIntS.f k (v0.getD v2.toNat []) v1).bind fun r1=>
  bif decide (r1<0) then
   e0 r1
  else
   rec r1 (IntKind.wrap .i64 (v2+1))
 else
  e1 v1
def laws_szIntSS.l5 {R:Type} (k:Nat) (v0:LL) (e0 e1:Int->Option R) (n:Nat) (v1 v2:Int):Option R:=
 V.iter (A:=Int×Int) (fun rec a=>laws_szIntSS.s5 k v0 e0 e1 (fun c0 c1=>rec (c0,c1)) a.1 a.2) n (v1,v2)
theorem laws_szIntSS.l5_succ {R:Type} (k:Nat) (v0:LL) (e0 e1:Int->Option R) (n:Nat) (v1 v2:Int):laws_szIntSS.l5 (R:=R) k v0 e0 e1 (n+1) v1 v2=laws_szIntSS.s5 k v0 e0 e1 (laws_szIntSS.l5 k v0 e0 e1 n) v1 v2:=rfl
def laws_szIntSS.f (k:Nat) (a:LL) (g:Int):Option (Int):=
 bif decide ((IntKind.wrap .i64 (g-(a.length:Int)))<0) then
  some (-1)
 else
  laws_szIntSS.l5 k a (fun x2=>
   some (-1)) (fun x3=>
   some x3) k (IntKind.wrap .i64 (g-(a.length:Int))) 0
def laws_szGame.f (k:Nat) (a0 a1:Int) (a2 a3:Bool) (a4 a5:LI) (a6 a7:Int) (a8:LL) (a9 a10:LI) (a11 a12 a13 g:Int):Option (Int):=
 (laws_szRules.f k a0 a1 a2 a3 a4 a5 a6 a7 g).bind fun r1=>
 bif decide (r1<0) then
  some (-1)
 else
  (laws_szIntSS.f k a8 r1).bind fun r2=>
  bif decide (r2<0) then
   some (-1)
  else
   (laws_szIntS.f k a9 r2).bind fun r3=>
   bif decide (r3<0) then
    some (-1)
   else
    (laws_szIntS.f k a10 r3).bind fun r4=>
    bif decide (r4<0) then
     some (-1)
    else
     some r4
def laws_szTable.f (k:Nat) (a0 a1:Int) (a2 a3:Bool) (a4 a5:LI) (a6 a7:Int) (a8:LI) (a9:Bool) (a10:LI) (a11 a12:Int) (a13 a14:Bool) (a15 a16:LI) (a17 a18:Int) (a19:LL) (a20 a21:LI) (a22 a23 a24:Int) (a25:LI) (a26:LL) (g:Int):Option (Int):=
 (laws_szRules.f k a0 a1 a2 a3 a4 a5 a6 a7 g).bind fun r1=>
 bif decide (r1<0) then
  some (-1)
 else
  (laws_szIntS.f k a8 r1).bind fun r2=>
  bif decide (r2<0) then
   some (-1)
  else
   (laws_szIntS.f k a10 r2).bind fun r3=>
   bif decide (r3<0) then
    some (-1)
   else
    (laws_szGame.f k a11 a12 a13 a14 a15 a16 a17 a18 a19 a20 a21 a22 a23 a24 r3).bind fun r4=>
    bif decide (r4<0) then
     some (-1)
    else
     (laws_szIntS.f k a25 r4).bind fun r5=>
     bif decide (r5<0) then
      some (-1)
     else
      (laws_szIntSS.f k a26 r5).bind fun r6=>
      bif decide (r6<0) then
       some (-1)
      else
       some r6
def spec_l22Copy.f (k:Nat) (a0 a1:Int) (a2 a3:Bool) (a4 a5:LI) (a6 a7:Int):Option (Int×Int×Bool×Bool×LI×LI×Int×Int):=
 chk (decide ((0+a4.length)*8<=room))<|
 chk (decide ((0+a5.length)*8<=room))<|
 some (a0,a1,a2,a3,[]++a4,[]++a5,a6,a7)
def spec_l15Copy.s3 {R:Type} (k:Nat) (v0:LL) (e0:LL->Option R) (rec:Int->LL->Option R) (v1:Int) (v2:LL):Option R:=
 bif decide (v1<(v0.length:Int)) then
  chk ((decide (0<=v1))&&(decide (v1<(v0.length:Int))))<|
  chk (decide ((0+((v0.getD v1.toNat []).length))*8<=room))<|
  chk (decide ((v2.length+1)*24<=room))<|
  rec (IntKind.wrap .i64 (v1+1)) (v2++([[]++(v0.getD v1.toNat [])]))
 else
  e0 v2
def spec_l15Copy.l3 {R:Type} (k:Nat) (v0:LL) (e0:LL->Option R) (n:Nat) (v1:Int) (v2:LL):Option R:=
 V.iter (A:=Int×LL) (fun rec a=>spec_l15Copy.s3 k v0 e0 (fun c0 c1=>rec (c0,c1)) a.1 a.2) n (v1,v2)
theorem spec_l15Copy.l3_succ {R:Type} (k:Nat) (v0:LL) (e0:LL->Option R) (n:Nat) (v1:Int) (v2:LL):spec_l15Copy.l3 (R:=R) k v0 e0 (n+1) v1 v2=spec_l15Copy.s3 k v0 e0 (spec_l15Copy.l3 k v0 e0 n) v1 v2:=rfl
def spec_l15Copy.f (k:Nat) (a:LL):Option (LL):=
 spec_l15Copy.l3 k a (fun x1=>
  some x1) k 0 []
def spec_l24Copy.f (k:Nat) (a0 a1:Int) (a2 a3:Bool) (a4 a5:LI) (a6 a7:Int) (a8:LL) (a9 a10:LI) (a11 a12 a13:Int):Option (Int×Int×Bool×Bool×LI×LI×Int×Int×LL×LI×LI×Int×Int×Int):=
 (spec_l22Copy.f k a0 a1 a2 a3 a4 a5 a6 a7).bind fun r1=>
 (spec_l15Copy.f k a8).bind fun r2=>
 chk (decide ((0+a9.length)*8<=room))<|
 chk (decide ((0+a10.length)*8<=room))<|
 some (r1.1,r1.2.1,(t2 r1).1,(t3 r1).1,(t4 r1).1,(t5 r1).1,(t6 r1).1,(t7 r1),r2,[]++a9,[]++a10,a11,a12,a13)
def spec_l33Copy.f (k:Nat) (a0 a1:Int) (a2 a3:Bool) (a4 a5:LI) (a6 a7:Int) (a8:LI) (a9:Bool) (a10:LI) (a11 a12:Int) (a13 a14:Bool) (a15 a16:LI) (a17 a18:Int) (a19:LL) (a20 a21:LI) (a22 a23 a24:Int) (a25:LI) (a26:LL):Option (Int×Int×Bool×Bool×LI×LI×Int×Int×LI×Bool×LI×Int×Int×Bool×Bool×LI×LI×Int×Int×LL×LI×LI×Int×Int×Int×LI×LL):=
 (spec_l22Copy.f k a0 a1 a2 a3 a4 a5 a6 a7).bind fun r1=>
 chk (decide ((0+a8.length)*8<=room))<|
 chk (decide ((0+a10.length)*8<=room))<|
 (spec_l24Copy.f k a11 a12 a13 a14 a15 a16 a17 a18 a19 a20 a21 a22 a23 a24).bind fun r2=>
 chk (decide ((0+a25.length)*8<=room))<|
 (spec_l15Copy.f k a26).bind fun r3=>
 some (r1.1,r1.2.1,(t2 r1).1,(t3 r1).1,(t4 r1).1,(t5 r1).1,(t6 r1).1,(t7 r1),[]++a8,a9,[]++a10,r2.1,r2.2.1,(t2 r2).1,(t3 r2).1,(t4 r2).1,(t5 r2).1,(t6 r2).1,(t7 r2).1,(t8 r2).1,(t9 r2).1,(t9 r2.2).1,(t9 (t2 r2)).1,(t9 (t3 r2)).1,(t9 (t4 r2)),[]++a25,r3)
def spec_l1In.f (k:Nat) (a g i:Int):Option (Bool):=
 bif decide (a>=g) then
  some (decide (a<=i))
 else
  some false
def spec_l8Leaf.f (k:Nat) (a:Int):Option (Bool):=
 (spec_l1In.f k a 100 103).bind fun r1=>
 bif r1 then
  some true
 else
  (spec_l1In.f k a 200 212).bind fun r2=>
  bif r2 then
   some true
  else
   (spec_l1In.f k a 300 312).bind fun r3=>
   bif r3 then
    some true
   else
    some (a==400)
def spec_IsPattern.s3 {R:Type} (k:Nat) (v0:LI) (e0 e1:Int->Option R) (rec:Int->Int->Option R) (v1 v2:Int):Option R:=
 bif decide (v2<(v0.length:Int)) then
  chk ((decide (0<=v2))&&(decide (v2<(v0.length:Int))))<|
  (spec_l8Leaf.f k (v0.getD v2.toNat 0)).bind fun r1=>
  bif r1 then
   rec (IntKind.wrap .i64 (v1+1)) (IntKind.wrap .i64 (v2+1))
  else
   chk ((decide (0<=v2))&&(decide (v2<(v0.length:Int))))<|
   bif ((v0.getD v2.toNat 0)==(-1)) then
    bif decide (v1>=1) then
     rec v1 (IntKind.wrap .i64 (v2+1))
    else
     chk ((decide (0<=v2))&&(decide (v2<(v0.length:Int))))<|
     bif ((v0.getD v2.toNat 0)==(-2)) then
      bif decide (v1>=2) then
       rec (IntKind.wrap .i64 (v1-1)) (IntKind.wrap .i64 (v2+1))
      else
       e0 v1
     else
      chk ((decide (0<=v2))&&(decide (v2<(v0.length:Int))))<|
      bif ((v0.getD v2.toNat 0)==(-3)) then
       bif decide (v1>=2) then
        rec (IntKind.wrap .i64 (v1-1)) (IntKind.wrap .i64 (v2+1))
       else
        e0 v1
      else
       e0 v1
   else
    chk ((decide (0<=v2))&&(decide (v2<(v0.length:Int))))<|
    bif ((v0.getD v2.toNat 0)==(-2)) then
     bif decide (v1>=2) then
      rec (IntKind.wrap .i64 (v1-1)) (IntKind.wrap .i64 (v2+1))
     else
      e0 v1
    else
     chk ((decide (0<=v2))&&(decide (v2<(v0.length:Int))))<|
     bif ((v0.getD v2.toNat 0)==(-3)) then
      bif decide (v1>=2) then
       rec (IntKind.wrap .i64 (v1-1)) (IntKind.wrap .i64 (v2+1))
      else
       e0 v1
     else
      e0 v1
 else
  e1 v1
def spec_IsPattern.l3 {R:Type} (k:Nat) (v0:LI) (e0 e1:Int->Option R) (n:Nat) (v1 v2:Int):Option R:=
 V.iter (A:=Int×Int) (fun rec a=>spec_IsPattern.s3 k v0 e0 e1 (fun c0 c1=>rec (c0,c1)) a.1 a.2) n (v1,v2)
theorem spec_IsPattern.l3_succ {R:Type} (k:Nat) (v0:LI) (e0 e1:Int->Option R) (n:Nat) (v1 v2:Int):spec_IsPattern.l3 (R:=R) k v0 e0 e1 (n+1) v1 v2=spec_IsPattern.s3 k v0 e0 e1 (spec_IsPattern.l3 k v0 e0 e1 n) v1 v2:=rfl
def spec_IsPattern.f (k:Nat) (a:LI):Option (Bool):=
 spec_IsPattern.l3 k a (fun x2=>
  some false) (fun x3=>
  bif (x3==1) then
   some (decide ((a.length:Int)<=20))
  else
   some false) k 0 0
def spec_l22Pattern.f (k:Nat) (a:LI):Option (Bool):=
 bif ((a.length:Int)==0) then
  some true
 else
  (spec_IsPattern.f k a).bind fun r1=>
  some r1
def spec_IsRules.f (k:Nat) (a0 a1:Int) (a2 a3:Bool) (a4 a5:LI) (a6 a7:Int):Option (Bool):=
 (spec_l1In.f k a0 2 6).bind fun r1=>
 bif r1 then
  (spec_l1In.f k a1 1 8).bind fun r2=>
  bif r2 then
   bif a2 then
    (spec_l22Pattern.f k a4).bind fun r3=>
    bif r3 then
     (spec_l22Pattern.f k a5).bind fun r4=>
     bif r4 then
      (spec_l1In.f k a6 1 4).bind fun r5=>
      bif r5 then
       (spec_l1In.f k a7 1 400).bind fun r6=>
       some r6
      else
       some false
     else
      some false
    else
     some false
   else
    bif a3 then
     (spec_l22Pattern.f k a4).bind fun r7=>
     bif r7 then
      (spec_l22Pattern.f k a5).bind fun r8=>
      bif r8 then
       (spec_l1In.f k a6 1 4).bind fun r9=>
       bif r9 then
        (spec_l1In.f k a7 1 400).bind fun r10=>
        some r10
       else
        some false
      else
       some false
     else
      some false
    else
     some false
  else
   some false
 else
  some false
def spec_FormatInt.s5 {R:Type} (k:Nat) (e0:ByteArray->Option R) (rec:ByteArray->Int->Option R) (v1:ByteArray) (v2:Int):Option R:=
 bif (v2 != 0) then
  bif decide ((v2.tmod 10)<0) then
   chk (decide ((strOf [IntKind.wrap .u8 (IntKind.wrap .i64 (48+(IntKind.wrap .i64 (0-(v2.tmod 10)))))]).size+v1.size<=maxI))<|
   rec ((strOf [IntKind.wrap .u8 (IntKind.wrap .i64 (48+(IntKind.wrap .i64 (0-(v2.tmod 10)))))])++v1) (IntKind.wrap .i64 (v2.tdiv 10))
  else
   chk (decide ((strOf [IntKind.wrap .u8 (IntKind.wrap .i64 (48+(v2.tmod 10)))]).size+v1.size<=maxI))<|
   rec ((strOf [IntKind.wrap .u8 (IntKind.wrap .i64 (48+(v2.tmod 10)))])++v1) (IntKind.wrap .i64 (v2.tdiv 10))
 else
  e0 v1
def spec_FormatInt.l5 {R:Type} (k:Nat) (e0:ByteArray->Option R) (n:Nat) (v1:ByteArray) (v2:Int):Option R:=
 V.iter (A:=ByteArray×Int) (fun rec a=>spec_FormatInt.s5 k e0 (fun c0 c1=>rec (c0,c1)) a.1 a.2) n (v1,v2)
theorem spec_FormatInt.l5_succ {R:Type} (k:Nat) (e0:ByteArray->Option R) (n:Nat) (v1:ByteArray) (v2:Int):spec_FormatInt.l5 (R:=R) k e0 (n+1) v1 v2=spec_FormatInt.s5 k e0 (spec_FormatInt.l5 k e0 n) v1 v2:=rfl
def spec_FormatInt.f (k:Nat) (a:Int):Option (ByteArray):=
 bif (a==0) then
  some (⟨#[48]⟩:ByteArray)
 else
  spec_FormatInt.l5 k (fun x1=>
   bif decide (a<0) then
    chk (decide ((⟨#[45]⟩:ByteArray).size+x1.size<=maxI))<|
    some ((⟨#[45]⟩:ByteArray)++x1)
   else
    some x1) k ByteArray.empty a
def spec_RulesWord.f (k:Nat) (a0 a1:Int) (a2 a3:Bool) (a4 a5:LI) (a6 a7:Int):Option (ByteArray):=
 bif a2 then
  bif a3 then
   some (⟨#[98,111,116,104]⟩:ByteArray)
  else
   bif a2 then
    some (⟨#[115,117,105,116]⟩:ByteArray)
   else
    bif a3 then
     some (⟨#[114,97,110,107]⟩:ByteArray)
    else
     some ByteArray.empty
 else
  bif a2 then
   some (⟨#[115,117,105,116]⟩:ByteArray)
  else
   bif a3 then
    some (⟨#[114,97,110,107]⟩:ByteArray)
   else
    some ByteArray.empty
def spec_l9Rank.f (k:Nat) (a:Int):Option (ByteArray):=
 chk ((decide (0<=(IntKind.wrap .i64 (a+1))))&&(decide ((IntKind.wrap .i64 (a+1))<=13)))<|
 chk ((decide (0<=a))&&(decide (a<=(IntKind.wrap .i64 (a+1)))))<|
 some ((⟨#[50,51,52,53,54,55,56,57,84,74,81,75,65]⟩:ByteArray).extract a.toNat ((IntKind.wrap .i64 (a+1)).toNat))
def spec_l9Leaf.f (k:Nat) (a:Int):Option (ByteArray):=
 bif (a==400) then
  some (⟨#[114]⟩:ByteArray)
 else
  bif decide (a>=300) then
   (spec_l9Rank.f k (IntKind.wrap .i64 (a-300))).bind fun r1=>
   chk (decide (r1.size+(⟨#[43]⟩:ByteArray).size<=maxI))<|
   some (r1++(⟨#[43]⟩:ByteArray))
  else
   bif decide (a>=200) then
    (spec_l9Rank.f k (IntKind.wrap .i64 (a-200))).bind fun r2=>
    some r2
   else
    chk ((decide (0<=(IntKind.wrap .i64 ((IntKind.wrap .i64 (a-100))+1))))&&(decide ((IntKind.wrap .i64 ((IntKind.wrap .i64 (a-100))+1))<=4)))<|
    chk ((decide (0<=(IntKind.wrap .i64 (a-100))))&&(decide ((IntKind.wrap .i64 (a-100))<=(IntKind.wrap .i64 ((IntKind.wrap .i64 (a-100))+1)))))<|
    some ((⟨#[99,100,104,115]⟩:ByteArray).extract ((IntKind.wrap .i64 (a-100)).toNat) ((IntKind.wrap .i64 ((IntKind.wrap .i64 (a-100))+1)).toNat))
def spec_PatternText.s5 {R:Type} (k:Nat) (v0:LI) (e0:List ByteArray->Option R) (rec:Int->List ByteArray->Option R) (v1:Int) (v2:List ByteArray):Option R:=
 bif decide (v1<(v0.length:Int)) then
  chk ((decide (0<=v1))&&(decide (v1<(v0.length:Int))))<|
  bif ((v0.getD v1.toNat 0)==(-1)) then
   chk ((decide (0<=(IntKind.wrap .i64 ((v2.length:Int)-1))))&&(decide ((IntKind.wrap .i64 ((v2.length:Int)-1))<(v2.length:Int))))<|
   chk (decide ((⟨#[33]⟩:ByteArray).size+(v2.getD ((IntKind.wrap .i64 ((v2.length:Int)-1)).toNat) ByteArray.empty).size<=maxI))<|
   chk ((decide (0<=(IntKind.wrap .i64 ((v2.length:Int)-1))))&&(decide ((IntKind.wrap .i64 ((v2.length:Int)-1))<(v2.length:Int))))<|
   rec (IntKind.wrap .i64 (v1+1)) (v2.set ((IntKind.wrap .i64 ((v2.length:Int)-1)).toNat) ((⟨#[33]⟩:ByteArray)++(v2.getD ((IntKind.wrap .i64 ((v2.length:Int)-1)).toNat) ByteArray.empty)))
  else
   bif ((v0.getD v1.toNat 0)==(-2)) then
    chk ((decide (0<=(IntKind.wrap .i64 ((v2.length:Int)-2))))&&(decide ((IntKind.wrap .i64 ((v2.length:Int)-2))<=(v2.length:Int))))<|
    chk (decide (0<=(IntKind.wrap .i64 ((v2.length:Int)-2))))<|
    chk ((decide (0<=(IntKind.wrap .i64 ((v2.length:Int)-2))))&&(decide ((IntKind.wrap .i64 ((v2.length:Int)-2))<(v2.length:Int))))<|
    chk (decide ((⟨#[40]⟩:ByteArray).size+(v2.getD ((IntKind.wrap .i64 ((v2.length:Int)-2)).toNat) ByteArray.empty).size<=maxI))<|
    chk (decide (((⟨#[40]⟩:ByteArray)++(v2.getD ((IntKind.wrap .i64 ((v2.length:Int)-2)).toNat) ByteArray.empty)).size+(⟨#[38]⟩:ByteArray).size<=maxI))<|
    chk ((decide (0<=(IntKind.wrap .i64 ((v2.length:Int)-1))))&&(decide ((IntKind.wrap .i64 ((v2.length:Int)-1))<(v2.length:Int))))<|
    chk (decide ((((⟨#[40]⟩:ByteArray)++(v2.getD ((IntKind.wrap .i64 ((v2.length:Int)-2)).toNat) ByteArray.empty))++(⟨#[38]⟩:ByteArray)).size+(v2.getD ((IntKind.wrap .i64 ((v2.length:Int)-1)).toNat) ByteArray.empty).size<=maxI))<|
    chk (decide (((((⟨#[40]⟩:ByteArray)++(v2.getD ((IntKind.wrap .i64 ((v2.length:Int)-2)).toNat) ByteArray.empty))++(⟨#[38]⟩:ByteArray))++(v2.getD ((IntKind.wrap .i64 ((v2.length:Int)-1)).toNat) ByteArray.empty)).size+(⟨#[41]⟩:ByteArray).size<=maxI))<|
    chk (decide ((((v2.take ((IntKind.wrap .i64 ((v2.length:Int)-2)).toNat)).length)+1)*16<=room))<|
    rec (IntKind.wrap .i64 (v1+1)) ((v2.take ((IntKind.wrap .i64 ((v2.length:Int)-2)).toNat))++([((((⟨#[40]⟩:ByteArray)++(v2.getD ((IntKind.wrap .i64 ((v2.length:Int)-2)).toNat) ByteArray.empty))++(⟨#[38]⟩:ByteArray))++(v2.getD ((IntKind.wrap .i64 ((v2.length:Int)-1)).toNat) ByteArray.empty))++(⟨#[41]⟩:ByteArray)]))
   else
    bif ((v0.getD v1.toNat 0)==(-3)) then
     chk ((decide (0<=(IntKind.wrap .i64 ((v2.length:Int)-2))))&&(decide ((IntKind.wrap .i64 ((v2.length:Int)-2))<=(v2.length:Int))))<|
     chk (decide (0<=(IntKind.wrap .i64 ((v2.length:Int)-2))))<|
     chk ((decide (0<=(IntKind.wrap .i64 ((v2.length:Int)-2))))&&(decide ((IntKind.wrap .i64 ((v2.length:Int)-2))<(v2.length:Int))))<|
     chk (decide ((⟨#[40]⟩:ByteArray).size+(v2.getD ((IntKind.wrap .i64 ((v2.length:Int)-2)).toNat) ByteArray.empty).size<=maxI))<|
     chk (decide (((⟨#[40]⟩:ByteArray)++(v2.getD ((IntKind.wrap .i64 ((v2.length:Int)-2)).toNat) ByteArray.empty)).size+(⟨#[124]⟩:ByteArray).size<=maxI))<|
     chk ((decide (0<=(IntKind.wrap .i64 ((v2.length:Int)-1))))&&(decide ((IntKind.wrap .i64 ((v2.length:Int)-1))<(v2.length:Int))))<|
     chk (decide ((((⟨#[40]⟩:ByteArray)++(v2.getD ((IntKind.wrap .i64 ((v2.length:Int)-2)).toNat) ByteArray.empty))++(⟨#[124]⟩:ByteArray)).size+(v2.getD ((IntKind.wrap .i64 ((v2.length:Int)-1)).toNat) ByteArray.empty).size<=maxI))<|
     chk (decide (((((⟨#[40]⟩:ByteArray)++(v2.getD ((IntKind.wrap .i64 ((v2.length:Int)-2)).toNat) ByteArray.empty))++(⟨#[124]⟩:ByteArray))++(v2.getD ((IntKind.wrap .i64 ((v2.length:Int)-1)).toNat) ByteArray.empty)).size+(⟨#[41]⟩:ByteArray).size<=maxI))<|
     chk (decide ((((v2.take ((IntKind.wrap .i64 ((v2.length:Int)-2)).toNat)).length)+1)*16<=room))<|
     rec (IntKind.wrap .i64 (v1+1)) ((v2.take ((IntKind.wrap .i64 ((v2.length:Int)-2)).toNat))++([((((⟨#[40]⟩:ByteArray)++(v2.getD ((IntKind.wrap .i64 ((v2.length:Int)-2)).toNat) ByteArray.empty))++(⟨#[124]⟩:ByteArray))++(v2.getD ((IntKind.wrap .i64 ((v2.length:Int)-1)).toNat) ByteArray.empty))++(⟨#[41]⟩:ByteArray)]))
    else
     chk ((decide (0<=v1))&&(decide (v1<(v0.length:Int))))<|
     (spec_l9Leaf.f k (v0.getD v1.toNat 0)).bind fun r2=>
     chk (decide ((v2.length+1)*16<=room))<|
     rec (IntKind.wrap .i64 (v1+1)) (v2++[r2])
 else
  e0 v2
def spec_PatternText.l5 {R:Type} (k:Nat) (v0:LI) (e0:List ByteArray->Option R) (n:Nat) (v1:Int) (v2:List ByteArray):Option R:=
 V.iter (A:=Int×List ByteArray) (fun rec a=>spec_PatternText.s5 k v0 e0 (fun c0 c1=>rec (c0,c1)) a.1 a.2) n (v1,v2)
theorem spec_PatternText.l5_succ {R:Type} (k:Nat) (v0:LI) (e0:List ByteArray->Option R) (n:Nat) (v1:Int) (v2:List ByteArray):spec_PatternText.l5 (R:=R) k v0 e0 (n+1) v1 v2=spec_PatternText.s5 k v0 e0 (spec_PatternText.l5 k v0 e0 n) v1 v2:=rfl
def spec_PatternText.f (k:Nat) (a:LI):Option (ByteArray):=
 (spec_IsPattern.f k a).bind fun r1=>
 bif (!r1) then
  some ByteArray.empty
 else
  spec_PatternText.l5 k a (fun x3=>
   chk (decide (0<(x3.length:Int)))<|
   some (x3.getD 0 ByteArray.empty)) k 0 []
def spec_l23Pattern.f (k:Nat) (a:LI):Option (ByteArray):=
 bif ((a.length:Int)==0) then
  some (⟨#[45]⟩:ByteArray)
 else
  (spec_PatternText.f k a).bind fun r1=>
  some r1
def spec_RulesText.f (k:Nat) (a0 a1:Int) (a2 a3:Bool) (a4 a5:LI) (a6 a7:Int):Option (ByteArray):=
 (spec_IsRules.f k a0 a1 a2 a3 a4 a5 a6 a7).bind fun r1=>
 bif (!r1) then
  some ByteArray.empty
 else
  (spec_FormatInt.f k a0).bind fun r2=>
  chk (decide ((⟨#[112,108,97,121,101,114,115,61]⟩:ByteArray).size+r2.size<=maxI))<|
  chk (decide (((⟨#[112,108,97,121,101,114,115,61]⟩:ByteArray)++r2).size+(⟨#[32,101,97,99,104,61]⟩:ByteArray).size<=maxI))<|
  (spec_FormatInt.f k a1).bind fun r3=>
  chk (decide ((((⟨#[112,108,97,121,101,114,115,61]⟩:ByteArray)++r2)++(⟨#[32,101,97,99,104,61]⟩:ByteArray)).size+r3.size<=maxI))<|
  chk (decide (((((⟨#[112,108,97,121,101,114,115,61]⟩:ByteArray)++r2)++(⟨#[32,101,97,99,104,61]⟩:ByteArray))++r3).size+(⟨#[32,109,97,116,99,104,61]⟩:ByteArray).size<=maxI))<|
  (spec_RulesWord.f k a0 a1 a2 a3 a4 a5 a6 a7).bind fun r4=>
  chk (decide ((((((⟨#[112,108,97,121,101,114,115,61]⟩:ByteArray)++r2)++(⟨#[32,101,97,99,104,61]⟩:ByteArray))++r3)++(⟨#[32,109,97,116,99,104,61]⟩:ByteArray)).size+r4.size<=maxI))<|
  chk (decide (((((((⟨#[112,108,97,121,101,114,115,61]⟩:ByteArray)++r2)++(⟨#[32,101,97,99,104,61]⟩:ByteArray))++r3)++(⟨#[32,109,97,116,99,104,61]⟩:ByteArray))++r4).size+(⟨#[32,119,105,108,100,61]⟩:ByteArray).size<=maxI))<|
  (spec_l23Pattern.f k a4).bind fun r5=>
  chk (decide ((((((((⟨#[112,108,97,121,101,114,115,61]⟩:ByteArray)++r2)++(⟨#[32,101,97,99,104,61]⟩:ByteArray))++r3)++(⟨#[32,109,97,116,99,104,61]⟩:ByteArray))++r4)++(⟨#[32,119,105,108,100,61]⟩:ByteArray)).size+r5.size<=maxI))<|
  chk (decide (((((((((⟨#[112,108,97,121,101,114,115,61]⟩:ByteArray)++r2)++(⟨#[32,101,97,99,104,61]⟩:ByteArray))++r3)++(⟨#[32,109,97,116,99,104,61]⟩:ByteArray))++r4)++(⟨#[32,119,105,108,100,61]⟩:ByteArray))++r5).size+(⟨#[32,115,107,105,112,61]⟩:ByteArray).size<=maxI))<|
  (spec_l23Pattern.f k a5).bind fun r6=>
  chk (decide ((((((((((⟨#[112,108,97,121,101,114,115,61]⟩:ByteArray)++r2)++(⟨#[32,101,97,99,104,61]⟩:ByteArray))++r3)++(⟨#[32,109,97,116,99,104,61]⟩:ByteArray))++r4)++(⟨#[32,119,105,108,100,61]⟩:ByteArray))++r5)++(⟨#[32,115,107,105,112,61]⟩:ByteArray)).size+r6.size<=maxI))<|
  chk (decide (((((((((((⟨#[112,108,97,121,101,114,115,61]⟩:ByteArray)++r2)++(⟨#[32,101,97,99,104,61]⟩:ByteArray))++r3)++(⟨#[32,109,97,116,99,104,61]⟩:ByteArray))++r4)++(⟨#[32,119,105,108,100,61]⟩:ByteArray))++r5)++(⟨#[32,115,107,105,112,61]⟩:ByteArray))++r6).size+(⟨#[32,116,97,107,101,61]⟩:ByteArray).size<=maxI))<|
  (spec_FormatInt.f k a6).bind fun r7=>
  chk (decide ((((((((((((⟨#[112,108,97,121,101,114,115,61]⟩:ByteArray)++r2)++(⟨#[32,101,97,99,104,61]⟩:ByteArray))++r3)++(⟨#[32,109,97,116,99,104,61]⟩:ByteArray))++r4)++(⟨#[32,119,105,108,100,61]⟩:ByteArray))++r5)++(⟨#[32,115,107,105,112,61]⟩:ByteArray))++r6)++(⟨#[32,116,97,107,101,61]⟩:ByteArray)).size+r7.size<=maxI))<|
  chk (decide (((((((((((((⟨#[112,108,97,121,101,114,115,61]⟩:ByteArray)++r2)++(⟨#[32,101,97,99,104,61]⟩:ByteArray))++r3)++(⟨#[32,109,97,116,99,104,61]⟩:ByteArray))++r4)++(⟨#[32,119,105,108,100,61]⟩:ByteArray))++r5)++(⟨#[32,115,107,105,112,61]⟩:ByteArray))++r6)++(⟨#[32,116,97,107,101,61]⟩:ByteArray))++r7).size+(⟨#[32,108,105,109,105,116,61]⟩:ByteArray).size<=maxI))<|
  (spec_FormatInt.f k a7).bind fun r8=>
  chk (decide ((((((((((((((⟨#[112,108,97,121,101,114,115,61]⟩:ByteArray)++r2)++(⟨#[32,101,97,99,104,61]⟩:ByteArray))++r3)++(⟨#[32,109,97,116,99,104,61]⟩:ByteArray))++r4)++(⟨#[32,119,105,108,100,61]⟩:ByteArray))++r5)++(⟨#[32,115,107,105,112,61]⟩:ByteArray))++r6)++(⟨#[32,116,97,107,101,61]⟩:ByteArray))++r7)++(⟨#[32,108,105,109,105,116,61]⟩:ByteArray)).size+r8.size<=maxI))<|
  some ((((((((((((((⟨#[112,108,97,121,101,114,115,61]⟩:ByteArray)++r2)++(⟨#[32,101,97,99,104,61]⟩:ByteArray))++r3)++(⟨#[32,109,97,116,99,104,61]⟩:ByteArray))++r4)++(⟨#[32,119,105,108,100,61]⟩:ByteArray))++r5)++(⟨#[32,115,107,105,112,61]⟩:ByteArray))++r6)++(⟨#[32,116,97,107,101,61]⟩:ByteArray))++r7)++(⟨#[32,108,105,109,105,116,61]⟩:ByteArray))++r8)
def spec_SplitWords.s4 {R:Type} (k:Nat) (v0:ByteArray) (v1:Int) (e0:List ByteArray->Option R) (rec:Int->Int->List ByteArray->Option R) (v2 v3:Int) (v4:List ByteArray):Option R:=
 bif decide (v3<=(v0.size:Int)) then
  bif (v3==(v0.size:Int)) then
   chk ((decide (0<=v3))&&(decide (v3<=(v0.size:Int))))<|
   chk ((decide (0<=v2))&&(decide (v2<=v3)))<|
   chk (decide ((v4.length+1)*16<=room))<|
   rec (IntKind.wrap .i64 (v3+1)) (IntKind.wrap .i64 (v3+1)) (v4++[v0.extract v2.toNat v3.toNat])
  else
   chk ((decide (0<=v3))&&(decide (v3<(v0.size:Int))))<|
   bif ((sb v0 v3.toNat)==v1) then
    chk ((decide (0<=v3))&&(decide (v3<=(v0.size:Int))))<|
    chk ((decide (0<=v2))&&(decide (v2<=v3)))<|
    chk (decide ((v4.length+1)*16<=room))<|
    rec (IntKind.wrap .i64 (v3+1)) (IntKind.wrap .i64 (v3+1)) (v4++[v0.extract v2.toNat v3.toNat])
   else
    rec v2 (IntKind.wrap .i64 (v3+1)) v4
 else
  e0 v4
def spec_SplitWords.l4 {R:Type} (k:Nat) (v0:ByteArray) (v1:Int) (e0:List ByteArray->Option R) (n:Nat) (v2 v3:Int) (v4:List ByteArray):Option R:=
 V.iter (A:=Int×Int×List ByteArray) (fun rec a=>spec_SplitWords.s4 k v0 v1 e0 (fun c0 c1 c2=>rec (c0,c1,c2)) a.1 a.2.1 (t2 a)) n (v2,v3,v4)
theorem spec_SplitWords.l4_succ {R:Type} (k:Nat) (v0:ByteArray) (v1:Int) (e0:List ByteArray->Option R) (n:Nat) (v2 v3:Int) (v4:List ByteArray):spec_SplitWords.l4 (R:=R) k v0 v1 e0 (n+1) v2 v3 v4=spec_SplitWords.s4 k v0 v1 e0 (spec_SplitWords.l4 k v0 v1 e0 n) v2 v3 v4:=rfl
def spec_SplitWords.f (k:Nat) (a:ByteArray) (g:Int):Option (List ByteArray):=
 spec_SplitWords.l4 k a g (fun x1=>
  some x1) k 0 0 []
def spec_ValueAfter.f (k:Nat) (a g:ByteArray):Option (ByteArray×Bool):=
 bif decide ((a.size:Int)<=(g.size:Int)) then
  some (ByteArray.empty,false)
 else
  chk ((decide (0<=(g.size:Int)))&&(decide ((g.size:Int)<=(a.size:Int))))<|
  chk (decide (0<=(g.size:Int)))<|
  bif (!((a.extract 0 ((g.size:Int).toNat)).toList==g.toList)) then
   some (ByteArray.empty,false)
  else
   chk ((decide (0<=(g.size:Int)))&&(decide ((g.size:Int)<(a.size:Int))))<|
   bif ((sb a ((g.size:Int).toNat)) != 61) then
    some (ByteArray.empty,false)
   else
    chk ((decide (0<=(a.size:Int)))&&(decide ((a.size:Int)<=(a.size:Int))))<|
    chk ((decide (0<=(IntKind.wrap .i64 ((g.size:Int)+1))))&&(decide ((IntKind.wrap .i64 ((g.size:Int)+1))<=(a.size:Int))))<|
    some (a.extract ((IntKind.wrap .i64 ((g.size:Int)+1)).toNat) (a.size:Int).toNat,true)
def spec_ParseInt.s5 {R:Type} (k:Nat) (v0:ByteArray) (e0 e1:Int->Option R) (rec:Int->Int->Option R) (v1 v2:Int):Option R:=
 bif decide (v2<(v0.size:Int)) then
  chk ((decide (0<=v2))&&(decide (v2<(v0.size:Int))))<|
  (spec_l1In.f k (IntKind.wrap .i64 (sb v0 v2.toNat)) 48 57).bind fun r2=>
  bif (!r2) then
   e0 v1
  else
   chk ((decide (0<=v2))&&(decide (v2<(v0.size:Int))))<|
   rec (IntKind.wrap .i64 ((IntKind.wrap .i64 (10*v1))+(IntKind.wrap .i64 (IntKind.wrap .u8 ((sb v0 v2.toNat)-48))))) (IntKind.wrap .i64 (v2+1))
 else
  e1 v1
def spec_ParseInt.l5 {R:Type} (k:Nat) (v0:ByteArray) (e0 e1:Int->Option R) (n:Nat) (v1 v2:Int):Option R:=
 V.iter (A:=Int×Int) (fun rec a=>spec_ParseInt.s5 k v0 e0 e1 (fun c0 c1=>rec (c0,c1)) a.1 a.2) n (v1,v2)
theorem spec_ParseInt.l5_succ {R:Type} (k:Nat) (v0:ByteArray) (e0 e1:Int->Option R) (n:Nat) (v1 v2:Int):spec_ParseInt.l5 (R:=R) k v0 e0 e1 (n+1) v1 v2=spec_ParseInt.s5 k v0 e0 e1 (spec_ParseInt.l5 k v0 e0 e1 n) v1 v2:=rfl
def spec_ParseInt.f (k:Nat) (a:ByteArray):Option (Int×Bool):=
 (spec_l1In.f k (a.size:Int) 1 13).bind fun r1=>
 bif (!r1) then
  some (0,false)
 else
  spec_ParseInt.l5 k a (fun x3=>
   some (0,false)) (fun x4=>
   bif decide (x4>1000000000000) then
    some (0,false)
   else
    (spec_FormatInt.f k x4).bind fun r5=>
    bif (!(r5.toList==a.toList)) then
     some (0,false)
    else
     some (x4,true)) k 0 0
def spec_l9At.s2 {R:Type} (k:Nat) (v0:ByteArray) (v1:Int) (e0:Int->Option R) (e1:Option R) (rec:Int->Option R) (v2:Int):Option R:=
 bif decide (v2<(v0.size:Int)) then
  chk ((decide (0<=v2))&&(decide (v2<(v0.size:Int))))<|
  bif ((sb v0 v2.toNat)==v1) then
   e0 v2
  else
   rec (IntKind.wrap .i64 (v2+1))
 else
  e1
def spec_l9At.l2 {R:Type} (k:Nat) (v0:ByteArray) (v1:Int) (e0:Int->Option R) (e1:Option R) (n:Nat) (v2:Int):Option R:=
 V.iter (A:=Int) (fun rec a=>spec_l9At.s2 k v0 v1 e0 e1 (fun c0=>rec c0) a) n v2
theorem spec_l9At.l2_succ {R:Type} (k:Nat) (v0:ByteArray) (v1:Int) (e0:Int->Option R) (e1:Option R) (n:Nat) (v2:Int):spec_l9At.l2 (R:=R) k v0 v1 e0 e1 (n+1) v2=spec_l9At.s2 k v0 v1 e0 e1 (spec_l9At.l2 k v0 v1 e0 e1 n) v2:=rfl
def spec_l9At.f (k:Nat) (a:ByteArray) (g:Int):Option (Int):=
 spec_l9At.l2 k a g (fun x1=>
  some x1) (some (-1)) k 0
def spec_l9Read.b (k:Nat) (self:ByteArray->Int->Option (LI×Int)) (a:ByteArray) (g:Int):Option (LI×Int):=
 bif decide (g>=(a.size:Int)) then
  some ([],(-1))
 else
  chk ((decide (0<=g))&&(decide (g<(a.size:Int))))<|
  bif ((sb a g.toNat)==33) then
   (self a (IntKind.wrap .i64 (g+1))).bind fun r1=>
   chk (decide ((r1.1.length+1)*8<=room))<|
   some (r1.1++[(-1)],r1.2)
  else
   chk ((decide (0<=g))&&(decide (g<(a.size:Int))))<|
   bif ((sb a g.toNat)==40) then
    (self a (IntKind.wrap .i64 (g+1))).bind fun r2=>
    bif decide (r2.2<0) then
     some ([],(-1))
    else
     bif decide (r2.2>=(a.size:Int)) then
      some ([],(-1))
     else
      chk ((decide (0<=r2.2))&&(decide (r2.2<(a.size:Int))))<|
      bif ((sb a r2.2.toNat) != 38) then
       chk ((decide (0<=r2.2))&&(decide (r2.2<(a.size:Int))))<|
       bif ((sb a r2.2.toNat) != 124) then
        some ([],(-1))
       else
        (self a (IntKind.wrap .i64 (r2.2+1))).bind fun r3=>
        bif decide (r3.2<0) then
         some ([],(-1))
        else
         bif decide (r3.2>=(a.size:Int)) then
          some ([],(-1))
         else
          chk ((decide (0<=r3.2))&&(decide (r3.2<(a.size:Int))))<|
          bif ((sb a r3.2.toNat) != 41) then
           some ([],(-1))
          else
           chk ((decide (0<=r2.2))&&(decide (r2.2<(a.size:Int))))<|
           bif ((sb a r2.2.toNat)==124) then
            chk (decide ((r2.1.length+r3.1.length)*8<=room))<|
            chk (decide ((((r2.1++r3.1).length)+1)*8<=room))<|
            some ((r2.1++r3.1)++[(-3)],IntKind.wrap .i64 (r3.2+1))
           else
            chk (decide ((r2.1.length+r3.1.length)*8<=room))<|
            chk (decide ((((r2.1++r3.1).length)+1)*8<=room))<|
            some ((r2.1++r3.1)++[(-2)],IntKind.wrap .i64 (r3.2+1))
      else
       (self a (IntKind.wrap .i64 (r2.2+1))).bind fun r4=>
       bif decide (r4.2<0) then
        some ([],(-1))
       else
        bif decide (r4.2>=(a.size:Int)) then
         some ([],(-1))
        else
         chk ((decide (0<=r4.2))&&(decide (r4.2<(a.size:Int))))<|
         bif ((sb a r4.2.toNat) != 41) then
          some ([],(-1))
         else
          chk ((decide (0<=r2.2))&&(decide (r2.2<(a.size:Int))))<|
          bif ((sb a r2.2.toNat)==124) then
           chk (decide ((r2.1.length+r4.1.length)*8<=room))<|
           chk (decide ((((r2.1++r4.1).length)+1)*8<=room))<|
           some ((r2.1++r4.1)++[(-3)],IntKind.wrap .i64 (r4.2+1))
          else
           chk (decide ((r2.1.length+r4.1.length)*8<=room))<|
           chk (decide ((((r2.1++r4.1).length)+1)*8<=room))<|
           some ((r2.1++r4.1)++[(-2)],IntKind.wrap .i64 (r4.2+1))
   else
    chk ((decide (0<=g))&&(decide (g<(a.size:Int))))<|
    bif ((sb a g.toNat)==114) then
     some ([400],IntKind.wrap .i64 (g+1))
    else
     chk ((decide (0<=g))&&(decide (g<(a.size:Int))))<|
     (spec_l9At.f k (⟨#[99,100,104,115]⟩:ByteArray) (sb a g.toNat)).bind fun r5=>
     bif decide (r5>=0) then
      some ([IntKind.wrap .i64 (100+r5)],IntKind.wrap .i64 (g+1))
     else
      chk ((decide (0<=g))&&(decide (g<(a.size:Int))))<|
      (spec_l9At.f k (⟨#[50,51,52,53,54,55,56,57,84,74,81,75,65]⟩:ByteArray) (sb a g.toNat)).bind fun r6=>
      bif decide (r6<0) then
       some ([],(-1))
      else
       bif decide ((IntKind.wrap .i64 (g+1))<(a.size:Int)) then
        chk ((decide (0<=(IntKind.wrap .i64 (g+1))))&&(decide ((IntKind.wrap .i64 (g+1))<(a.size:Int))))<|
        bif ((sb a ((IntKind.wrap .i64 (g+1)).toNat))==43) then
         some ([IntKind.wrap .i64 (300+r6)],IntKind.wrap .i64 (g+2))
        else
         some ([IntKind.wrap .i64 (200+r6)],IntKind.wrap .i64 (g+1))
       else
        some ([IntKind.wrap .i64 (200+r6)],IntKind.wrap .i64 (g+1))
def spec_l9Read.g (k:Nat):Nat->ByteArray->Int->Option (LI×Int)
 |0=>fun _ _=>none
 |n+1=>spec_l9Read.b k (spec_l9Read.g k n)
def spec_l9Read.f (k:Nat):ByteArray->Int->Option (LI×Int):=spec_l9Read.g k k
def spec_ParsePattern.f (k:Nat) (a:ByteArray):Option (LI×Bool):=
 bif decide ((a.size:Int)>200) then
  some ([],false)
 else
  (spec_l9Read.f k a 0).bind fun r1=>
  bif (a.toList==ByteArray.empty.toList) then
   some ([],false)
  else
   bif (r1.2 != (a.size:Int)) then
    some ([],false)
   else
    (spec_PatternText.f k r1.1).bind fun r2=>
    bif (!(r2.toList==a.toList)) then
     some ([],false)
    else
     some (r1.1,true)
def spec_ParseRules.s8 {R:Type} (k:Nat) (v8 v9:List ByteArray) (e0:List ByteArray->LI->Option R) (rec:Int->List ByteArray->LI->Option R) (v1:Int) (v10:List ByteArray) (v11:LI):Option R:=
 bif decide (v1<(v8.length:Int)) then
  chk ((decide (0<=v1))&&(decide (v1<(v8.length:Int))))<|
  chk ((decide (0<=v1))&&(decide (v1<(v9.length:Int))))<|
  (spec_ValueAfter.f k (v8.getD v1.toNat ByteArray.empty) (v9.getD v1.toNat ByteArray.empty)).bind fun r2=>
  (spec_ParseInt.f k r2.1).bind fun r3=>
  chk (decide ((v10.length+1)*16<=room))<|
  chk (decide ((v11.length+1)*8<=room))<|
  rec (IntKind.wrap .i64 (v1+1)) (v10++[r2.1]) (v11++[r3.1])
 else
  e0 v10 v11
def spec_ParseRules.l8 {R:Type} (k:Nat) (v8 v9:List ByteArray) (e0:List ByteArray->LI->Option R) (n:Nat) (v1:Int) (v10:List ByteArray) (v11:LI):Option R:=
 V.iter (A:=Int×List ByteArray×LI) (fun rec a=>spec_ParseRules.s8 k v8 v9 e0 (fun c0 c1 c2=>rec (c0,c1,c2)) a.1 a.2.1 (t2 a)) n (v1,v10,v11)
theorem spec_ParseRules.l8_succ {R:Type} (k:Nat) (v8 v9:List ByteArray) (e0:List ByteArray->LI->Option R) (n:Nat) (v1:Int) (v10:List ByteArray) (v11:LI):spec_ParseRules.l8 (R:=R) k v8 v9 e0 (n+1) v1 v10 v11=spec_ParseRules.s8 k v8 v9 e0 (spec_ParseRules.l8 k v8 v9 e0 n) v1 v10 v11:=rfl
def spec_ParseRules.f (k:Nat) (a:ByteArray):Option (Int×Int×Bool×Bool×LI×LI×Int×Int×Bool):=
 (spec_SplitWords.f k a 32).bind fun r1=>
 bif ((r1.length:Int) != 7) then
  some (0,0,false,false,[],[],0,0,false)
 else
  spec_ParseRules.l8 k r1 ([(⟨#[112,108,97,121,101,114,115]⟩:ByteArray),(⟨#[101,97,99,104]⟩:ByteArray),(⟨#[109,97,116,99,104]⟩:ByteArray),(⟨#[119,105,108,100]⟩:ByteArray),(⟨#[115,107,105,112]⟩:ByteArray),(⟨#[116,97,107,101]⟩:ByteArray),(⟨#[108,105,109,105,116]⟩:ByteArray)]) (fun x4 x5=>
   chk (decide (0<(x5.length:Int)))<|
   chk (decide (1<(x5.length:Int)))<|
   chk (decide (2<(x4.length:Int)))<|
   bif ((x4.getD 2 ByteArray.empty).toList==(⟨#[115,117,105,116]⟩:ByteArray).toList) then
    chk (decide (2<(x4.length:Int)))<|
    bif ((x4.getD 2 ByteArray.empty).toList==(⟨#[114,97,110,107]⟩:ByteArray).toList) then
     chk (decide (5<(x5.length:Int)))<|
     chk (decide (6<(x5.length:Int)))<|
     chk (decide (3<(x4.length:Int)))<|
     (spec_ParsePattern.f k (x4.getD 3 ByteArray.empty)).bind fun r6=>
     chk (decide (4<(x4.length:Int)))<|
     (spec_ParsePattern.f k (x4.getD 4 ByteArray.empty)).bind fun r7=>
     bif (a.toList==ByteArray.empty.toList) then
      some (0,0,false,false,[],[],0,0,false)
     else
      (spec_RulesText.f k (x5.getD 0 0) (x5.getD 1 0) true true r6.1 r7.1 (x5.getD 5 0) (x5.getD 6 0)).bind fun r8=>
      bif (!(r8.toList==a.toList)) then
       some (0,0,false,false,[],[],0,0,false)
      else
       some (x5.getD 0 0,x5.getD 1 0,true,true,r6.1,r7.1,x5.getD 5 0,x5.getD 6 0,true)
    else
     chk (decide (2<(x4.length:Int)))<|
     chk (decide (5<(x5.length:Int)))<|
     chk (decide (6<(x5.length:Int)))<|
     chk (decide (3<(x4.length:Int)))<|
     (spec_ParsePattern.f k (x4.getD 3 ByteArray.empty)).bind fun r9=>
     chk (decide (4<(x4.length:Int)))<|
     (spec_ParsePattern.f k (x4.getD 4 ByteArray.empty)).bind fun r10=>
     bif (a.toList==ByteArray.empty.toList) then
      some (0,0,false,false,[],[],0,0,false)
     else
      (spec_RulesText.f k (x5.getD 0 0) (x5.getD 1 0) true ((x4.getD 2 ByteArray.empty).toList==(⟨#[98,111,116,104]⟩:ByteArray).toList) r9.1 r10.1 (x5.getD 5 0) (x5.getD 6 0)).bind fun r11=>
      bif (!(r11.toList==a.toList)) then
       some (0,0,false,false,[],[],0,0,false)
      else
       some (x5.getD 0 0,x5.getD 1 0,true,(x4.getD 2 ByteArray.empty).toList==(⟨#[98,111,116,104]⟩:ByteArray).toList,r9.1,r10.1,x5.getD 5 0,x5.getD 6 0,true)
   else
    chk (decide (2<(x4.length:Int)))<|
    chk (decide (2<(x4.length:Int)))<|
    bif ((x4.getD 2 ByteArray.empty).toList==(⟨#[114,97,110,107]⟩:ByteArray).toList) then
     chk (decide (5<(x5.length:Int)))<|
     chk (decide (6<(x5.length:Int)))<|
     chk (decide (3<(x4.length:Int)))<|
     (spec_ParsePattern.f k (x4.getD 3 ByteArray.empty)).bind fun r12=>
     chk (decide (4<(x4.length:Int)))<|
     (spec_ParsePattern.f k (x4.getD 4 ByteArray.empty)).bind fun r13=>
     bif (a.toList==ByteArray.empty.toList) then
      some (0,0,false,false,[],[],0,0,false)
     else
      (spec_RulesText.f k (x5.getD 0 0) (x5.getD 1 0) ((x4.getD 2 ByteArray.empty).toList==(⟨#[98,111,116,104]⟩:ByteArray).toList) true r12.1 r13.1 (x5.getD 5 0) (x5.getD 6 0)).bind fun r14=>
      bif (!(r14.toList==a.toList)) then
       some (0,0,false,false,[],[],0,0,false)
      else
       some (x5.getD 0 0,x5.getD 1 0,(x4.getD 2 ByteArray.empty).toList==(⟨#[98,111,116,104]⟩:ByteArray).toList,true,r12.1,r13.1,x5.getD 5 0,x5.getD 6 0,true)
    else
     chk (decide (2<(x4.length:Int)))<|
     chk (decide (5<(x5.length:Int)))<|
     chk (decide (6<(x5.length:Int)))<|
     chk (decide (3<(x4.length:Int)))<|
     (spec_ParsePattern.f k (x4.getD 3 ByteArray.empty)).bind fun r15=>
     chk (decide (4<(x4.length:Int)))<|
     (spec_ParsePattern.f k (x4.getD 4 ByteArray.empty)).bind fun r16=>
     bif (a.toList==ByteArray.empty.toList) then
      some (0,0,false,false,[],[],0,0,false)
     else
      (spec_RulesText.f k (x5.getD 0 0) (x5.getD 1 0) ((x4.getD 2 ByteArray.empty).toList==(⟨#[98,111,116,104]⟩:ByteArray).toList) ((x4.getD 2 ByteArray.empty).toList==(⟨#[98,111,116,104]⟩:ByteArray).toList) r15.1 r16.1 (x5.getD 5 0) (x5.getD 6 0)).bind fun r17=>
      bif (!(r17.toList==a.toList)) then
       some (0,0,false,false,[],[],0,0,false)
      else
       some (x5.getD 0 0,x5.getD 1 0,(x4.getD 2 ByteArray.empty).toList==(⟨#[98,111,116,104]⟩:ByteArray).toList,(x4.getD 2 ByteArray.empty).toList==(⟨#[98,111,116,104]⟩:ByteArray).toList,r15.1,r16.1,x5.getD 5 0,x5.getD 6 0,true)) k 0 [] []
def spec_IsRound.s3 {R:Type} (k:Nat) (v1:LI) (e0 e1:Int->Option R) (rec:Int->Int->Option R) (v2 v3:Int):Option R:=
 bif decide (v3<(v1.length:Int)) then
  chk ((decide (0<=v3))&&(decide (v3<(v1.length:Int))))<|
  (spec_l1In.f k (v1.getD v3.toNat 0) (-1000) 1000).bind fun r1=>
  bif (!r1) then
   e0 v2
  else
   chk ((decide (0<=v3))&&(decide (v3<(v1.length:Int))))<|
   rec (IntKind.wrap .i64 (v2+(v1.getD v3.toNat 0))) (IntKind.wrap .i64 (v3+1))
 else
  e1 v2
def spec_IsRound.l3 {R:Type} (k:Nat) (v1:LI) (e0 e1:Int->Option R) (n:Nat) (v2 v3:Int):Option R:=
 V.iter (A:=Int×Int) (fun rec a=>spec_IsRound.s3 k v1 e0 e1 (fun c0 c1=>rec (c0,c1)) a.1 a.2) n (v2,v3)
theorem spec_IsRound.l3_succ {R:Type} (k:Nat) (v1:LI) (e0 e1:Int->Option R) (n:Nat) (v2 v3:Int):spec_IsRound.l3 (R:=R) k v1 e0 e1 (n+1) v2 v3=spec_IsRound.s3 k v1 e0 e1 (spec_IsRound.l3 k v1 e0 e1 n) v2 v3:=rfl
def spec_IsRound.f (k:Nat) (a:Int) (g:LI):Option (Bool):=
 spec_IsRound.l3 k g (fun x2=>
  some false) (fun x3=>
  (spec_l1In.f k a 2 6).bind fun r4=>
  bif r4 then
   bif ((g.length:Int)==a) then
    some (x3==0)
   else
    some false
  else
   some false) k 0 0
def spec_IsSheet.s2 {R:Type} (k:Nat) (v0:Int) (v1:LL) (e0 e1:Option R) (rec:Int->Option R) (v2:Int):Option R:=
 bif decide (v2<(v1.length:Int)) then
  chk ((decide (0<=v2))&&(decide (v2<(v1.length:Int))))<|
  (spec_IsRound.f k v0 (v1.getD v2.toNat [])).bind fun r1=>
  bif (!r1) then
   e0
  else
   rec (IntKind.wrap .i64 (v2+1))
 else
  e1
def spec_IsSheet.l2 {R:Type} (k:Nat) (v0:Int) (v1:LL) (e0 e1:Option R) (n:Nat) (v2:Int):Option R:=
 V.iter (A:=Int) (fun rec a=>spec_IsSheet.s2 k v0 v1 e0 e1 (fun c0=>rec c0) a) n v2
theorem spec_IsSheet.l2_succ {R:Type} (k:Nat) (v0:Int) (v1:LL) (e0 e1:Option R) (n:Nat) (v2:Int):spec_IsSheet.l2 (R:=R) k v0 v1 e0 e1 (n+1) v2=spec_IsSheet.s2 k v0 v1 e0 e1 (spec_IsSheet.l2 k v0 v1 e0 e1 n) v2:=rfl
def spec_IsSheet.f (k:Nat) (a:Int) (g:LL):Option (Bool):=
 spec_IsSheet.l2 k a g (some false) ((spec_l1In.f k a 2 6).bind fun r2=>
  bif r2 then
   some (decide ((g.length:Int)<=50))
  else
   some false) k 0
def spec_EqualInts.s4 {R:Type} (k:Nat) (v0 v1:LI) (e0 e1:Option R) (rec:Int->Option R) (v2:Int):Option R:=
 bif decide (v2<(v0.length:Int)) then
  chk ((decide (0<=v2))&&(decide (v2<(v0.length:Int))))<|
  chk ((decide (0<=v2))&&(decide (v2<(v1.length:Int))))<|
  bif ((v0.getD v2.toNat 0) != (v1.getD v2.toNat 0)) then
   e0
  else
   rec (IntKind.wrap .i64 (v2+1))
 else
  e1
def spec_EqualInts.l4 {R:Type} (k:Nat) (v0 v1:LI) (e0 e1:Option R) (n:Nat) (v2:Int):Option R:=
 V.iter (A:=Int) (fun rec a=>spec_EqualInts.s4 k v0 v1 e0 e1 (fun c0=>rec c0) a) n v2
theorem spec_EqualInts.l4_succ {R:Type} (k:Nat) (v0 v1:LI) (e0 e1:Option R) (n:Nat) (v2:Int):spec_EqualInts.l4 (R:=R) k v0 v1 e0 e1 (n+1) v2=spec_EqualInts.s4 k v0 v1 e0 e1 (spec_EqualInts.l4 k v0 v1 e0 e1 n) v2:=rfl
def spec_EqualInts.f (k:Nat) (a g:LI):Option (Bool):=
 bif ((a.length:Int) != (g.length:Int)) then
  some false
 else
  spec_EqualInts.l4 k a g (some false) (some true) k 0
def spec_EqualRules.f (k:Nat) (a0 a1:Int) (a2 a3:Bool) (a4 a5:LI) (a6 a7 g0 g1:Int) (g2 g3:Bool) (g4 g5:LI) (g6 g7:Int):Option (Bool):=
 bif (a0==g0) then
  bif (a1==g1) then
   bif (a2==g2) then
    bif (a3==g3) then
     (spec_EqualInts.f k a4 g4).bind fun r1=>
     bif r1 then
      (spec_EqualInts.f k a5 g5).bind fun r2=>
      bif r2 then
       bif (a6==g6) then
        some (a7==g7)
       else
        some false
      else
       some false
     else
      some false
    else
     some false
   else
    some false
  else
   some false
 else
  some false
def spec_EqualGames.s4 {R:Type} (k:Nat) (v9 v23:LL) (e0 e1:Option R) (rec:Int->Option R) (v0:Int):Option R:=
 bif decide (v0<(v9.length:Int)) then
  chk ((decide (0<=v0))&&(decide (v0<(v9.length:Int))))<|
  chk ((decide (0<=v0))&&(decide (v0<(v23.length:Int))))<|
  (spec_EqualInts.f k (v9.getD v0.toNat []) (v23.getD v0.toNat [])).bind fun r1=>
  bif (!r1) then
   e0
  else
   rec (IntKind.wrap .i64 (v0+1))
 else
  e1
def spec_EqualGames.l4 {R:Type} (k:Nat) (v9 v23:LL) (e0 e1:Option R) (n:Nat) (v0:Int):Option R:=
 V.iter (A:=Int) (fun rec a=>spec_EqualGames.s4 k v9 v23 e0 e1 (fun c0=>rec c0) a) n v0
theorem spec_EqualGames.l4_succ {R:Type} (k:Nat) (v9 v23:LL) (e0 e1:Option R) (n:Nat) (v0:Int):spec_EqualGames.l4 (R:=R) k v9 v23 e0 e1 (n+1) v0=spec_EqualGames.s4 k v9 v23 e0 e1 (spec_EqualGames.l4 k v9 v23 e0 e1 n) v0:=rfl
def spec_EqualGames.f (k:Nat) (a0 a1:Int) (a2 a3:Bool) (a4 a5:LI) (a6 a7:Int) (a8:LL) (a9 a10:LI) (a11 a12 a13 g0 g1:Int) (g2 g3:Bool) (g4 g5:LI) (g6 g7:Int) (g8:LL) (g9 g10:LI) (g11 g12 g13:Int):Option (Bool):=
 bif ((a8.length:Int) != (g8.length:Int)) then
  some false
 else
  spec_EqualGames.l4 k a8 g8 (some false) ((spec_EqualRules.f k a0 a1 a2 a3 a4 a5 a6 a7 g0 g1 g2 g3 g4 g5 g6 g7).bind fun r2=>
   bif r2 then
    (spec_EqualInts.f k a9 g9).bind fun r3=>
    bif r3 then
     (spec_EqualInts.f k a10 g10).bind fun r4=>
     bif r4 then
      bif (a11==g11) then
       bif (a12==g12) then
        some (a13==g13)
       else
        some false
      else
       some false
     else
      some false
    else
     some false
   else
    some false) k 0
def spec_IsCard.f (k:Nat) (a:Int):Option (Bool):=
 (spec_l1In.f k a 0 51).bind fun r1=>
 some r1
def spec_HasCard.s2 {R:Type} (k:Nat) (v0:LI) (v1:Int) (e0 e1:Option R) (rec:Int->Option R) (v2:Int):Option R:=
 bif decide (v2<(v0.length:Int)) then
  chk ((decide (0<=v2))&&(decide (v2<(v0.length:Int))))<|
  bif ((v0.getD v2.toNat 0)==v1) then
   e0
  else
   rec (IntKind.wrap .i64 (v2+1))
 else
  e1
def spec_HasCard.l2 {R:Type} (k:Nat) (v0:LI) (v1:Int) (e0 e1:Option R) (n:Nat) (v2:Int):Option R:=
 V.iter (A:=Int) (fun rec a=>spec_HasCard.s2 k v0 v1 e0 e1 (fun c0=>rec c0) a) n v2
theorem spec_HasCard.l2_succ {R:Type} (k:Nat) (v0:LI) (v1:Int) (e0 e1:Option R) (n:Nat) (v2:Int):spec_HasCard.l2 (R:=R) k v0 v1 e0 e1 (n+1) v2=spec_HasCard.s2 k v0 v1 e0 e1 (spec_HasCard.l2 k v0 v1 e0 e1 n) v2:=rfl
def spec_HasCard.f (k:Nat) (a:LI) (g:Int):Option (Bool):=
 spec_HasCard.l2 k a g (some true) (some false) k 0
def spec_IsHand.s2 {R:Type} (k:Nat) (v0:LI) (e0 e1:Option R) (rec:Int->Option R) (v1:Int):Option R:=
 bif decide (v1<(v0.length:Int)) then
  chk ((decide (0<=v1))&&(decide (v1<(v0.length:Int))))<|
  (spec_IsCard.f k (v0.getD v1.toNat 0)).bind fun r1=>
  bif (!r1) then
   e0
  else
   chk ((decide (0<=v1))&&(decide (v1<=(v0.length:Int))))<|
   chk ((decide (0<=v1))&&(decide (v1<(v0.length:Int))))<|
   (spec_HasCard.f k (v0.take v1.toNat) (v0.getD v1.toNat 0)).bind fun r2=>
   bif r2 then
    e0
   else
    rec (IntKind.wrap .i64 (v1+1))
 else
  e1
def spec_IsHand.l2 {R:Type} (k:Nat) (v0:LI) (e0 e1:Option R) (n:Nat) (v1:Int):Option R:=
 V.iter (A:=Int) (fun rec a=>spec_IsHand.s2 k v0 e0 e1 (fun c0=>rec c0) a) n v1
theorem spec_IsHand.l2_succ {R:Type} (k:Nat) (v0:LI) (e0 e1:Option R) (n:Nat) (v1:Int):spec_IsHand.l2 (R:=R) k v0 e0 e1 (n+1) v1=spec_IsHand.s2 k v0 e0 e1 (spec_IsHand.l2 k v0 e0 e1 n) v1:=rfl
def spec_IsHand.f (k:Nat) (a:LI):Option (Bool):=
 spec_IsHand.l2 k a (some false) (some true) k 0
def spec_Dealt.s9 {R:Type} (k:Nat) (v0:LI) (v1 v2 v3:Int) (e0:LI->Option R) (rec:Int->LI->Option R) (v4:Int) (v6:LI):Option R:=
 bif decide (v4<v2) then
  chk ((decide (0<=(IntKind.wrap .i64 ((IntKind.wrap .i64 (v4*v1))+v3))))&&(decide ((IntKind.wrap .i64 ((IntKind.wrap .i64 (v4*v1))+v3))<(v0.length:Int))))<|
  chk (decide ((v6.length+1)*8<=room))<|
  rec (IntKind.wrap .i64 (v4+1)) (v6++[v0.getD ((IntKind.wrap .i64 ((IntKind.wrap .i64 (v4*v1))+v3)).toNat) 0])
 else
  e0 v6
def spec_Dealt.l9 {R:Type} (k:Nat) (v0:LI) (v1 v2 v3:Int) (e0:LI->Option R) (n:Nat) (v4:Int) (v6:LI):Option R:=
 V.iter (A:=Int×LI) (fun rec a=>spec_Dealt.s9 k v0 v1 v2 v3 e0 (fun c0 c1=>rec (c0,c1)) a.1 a.2) n (v4,v6)
theorem spec_Dealt.l9_succ {R:Type} (k:Nat) (v0:LI) (v1 v2 v3:Int) (e0:LI->Option R) (n:Nat) (v4:Int) (v6:LI):spec_Dealt.l9 (R:=R) k v0 v1 v2 v3 e0 (n+1) v4 v6=spec_Dealt.s9 k v0 v1 v2 v3 e0 (spec_Dealt.l9 k v0 v1 v2 v3 e0 n) v4 v6:=rfl
def spec_Dealt.s5 {R:Type} (k:Nat) (v0:LI) (v1 v2:Int) (e0:LL->Option R) (rec:Int->LL->Option R) (v3:Int) (v4:LL):Option R:=
 bif decide (v3<v1) then
  spec_Dealt.l9 k v0 v1 v2 v3 (fun x4=>
   chk (decide ((v4.length+1)*24<=room))<|
   rec (IntKind.wrap .i64 (v3+1)) (v4++[x4])) k 0 []
 else
  e0 v4
def spec_Dealt.l5 {R:Type} (k:Nat) (v0:LI) (v1 v2:Int) (e0:LL->Option R) (n:Nat) (v3:Int) (v4:LL):Option R:=
 V.iter (A:=Int×LL) (fun rec a=>spec_Dealt.s5 k v0 v1 v2 e0 (fun c0 c1=>rec (c0,c1)) a.1 a.2) n (v3,v4)
theorem spec_Dealt.l5_succ {R:Type} (k:Nat) (v0:LI) (v1 v2:Int) (e0:LL->Option R) (n:Nat) (v3:Int) (v4:LL):spec_Dealt.l5 (R:=R) k v0 v1 v2 e0 (n+1) v3 v4=spec_Dealt.s5 k v0 v1 v2 e0 (spec_Dealt.l5 k v0 v1 v2 e0 n) v3 v4:=rfl
def spec_Dealt.f (k:Nat) (a:LI) (g i:Int):Option (LL×LI×Bool):=
 (spec_IsHand.f k a).bind fun r1=>
 bif (!r1) then
  chk (decide ((0+a.length)*8<=room))<|
  some ([],[]++a,false)
 else
  (spec_l1In.f k g 1 6).bind fun r2=>
  bif (!r2) then
   chk (decide ((0+a.length)*8<=room))<|
   some ([],[]++a,false)
  else
   (spec_l1In.f k i 0 20).bind fun r3=>
   bif (!r3) then
    chk (decide ((0+a.length)*8<=room))<|
    some ([],[]++a,false)
   else
    bif decide ((IntKind.wrap .i64 (g*i))>(a.length:Int)) then
     chk (decide ((0+a.length)*8<=room))<|
     some ([],[]++a,false)
    else
     spec_Dealt.l5 k a g i (fun x5=>
      chk ((decide (0<=(IntKind.wrap .i64 (g*i))))&&(decide ((IntKind.wrap .i64 (g*i))<=(a.length:Int))))<|
      chk (decide ((0+((a.drop ((IntKind.wrap .i64 (g*i)).toNat)).length))*8<=room))<|
      some (x5,[]++(a.drop ((IntKind.wrap .i64 (g*i)).toNat)),true)) k 0 []
def spec_NewGame.f (k:Nat) (a0 a1:Int) (a2 a3:Bool) (a4 a5:LI) (a6 a7:Int) (g:LI):Option (Int×Int×Bool×Bool×LI×LI×Int×Int×LL×LI×LI×Int×Int×Int×Bool):=
 (spec_IsRules.f k a0 a1 a2 a3 a4 a5 a6 a7).bind fun r1=>
 bif (!r1) then
  some (0,0,false,false,[],[],0,0,[],[],[],0,0,0,false)
 else
  (spec_IsHand.f k g).bind fun r2=>
  bif (!r2) then
   some (0,0,false,false,[],[],0,0,[],[],[],0,0,0,false)
  else
   bif ((g.length:Int) != 52) then
    some (0,0,false,false,[],[],0,0,[],[],[],0,0,0,false)
   else
    (spec_Dealt.f k g a0 a1).bind fun r3=>
    (spec_l22Copy.f k a0 a1 a2 a3 a4 a5 a6 a7).bind fun r4=>
    chk (decide (1<=(r3.2.1.length:Int)))<|
    chk (decide ((0+(((r3.2.1.take 1).drop 0).length))*8<=room))<|
    chk ((decide (0<=(r3.2.1.length:Int)))&&(decide ((r3.2.1.length:Int)<=(r3.2.1.length:Int))))<|
    chk (decide (1<=(r3.2.1.length:Int)))<|
    chk (decide ((0+(((r3.2.1.take ((r3.2.1.length:Int).toNat)).drop 1).length))*8<=room))<|
    some (r4.1,r4.2.1,(t2 r4).1,(t3 r4).1,(t4 r4).1,(t5 r4).1,(t6 r4).1,(t7 r4),r3.1,[]++((r3.2.1.take ((r3.2.1.length:Int).toNat)).drop 1),[]++((r3.2.1.take 1).drop 0),0,0,0,true)
def spec_IsGame.s5 {R:Type} (k:Nat) (v9:LL) (e0:LI->Option R) (rec:Int->LI->Option R) (v0:Int) (v15:LI):Option R:=
 bif decide (v0<(v9.length:Int)) then
  chk ((decide (0<=v0))&&(decide (v0<(v9.length:Int))))<|
  chk (decide ((v15.length+((v9.getD v0.toNat []).length))*8<=room))<|
  rec (IntKind.wrap .i64 (v0+1)) (v15++(v9.getD v0.toNat []))
 else
  e0 v15
def spec_IsGame.l5 {R:Type} (k:Nat) (v9:LL) (e0:LI->Option R) (n:Nat) (v0:Int) (v15:LI):Option R:=
 V.iter (A:=Int×LI) (fun rec a=>spec_IsGame.s5 k v9 e0 (fun c0 c1=>rec (c0,c1)) a.1 a.2) n (v0,v15)
theorem spec_IsGame.l5_succ {R:Type} (k:Nat) (v9:LL) (e0:LI->Option R) (n:Nat) (v0:Int) (v15:LI):spec_IsGame.l5 (R:=R) k v9 e0 (n+1) v0 v15=spec_IsGame.s5 k v9 e0 (spec_IsGame.l5 k v9 e0 n) v0 v15:=rfl
def spec_IsGame.f (k:Nat) (a0 a1:Int) (a2 a3:Bool) (a4 a5:LI) (a6 a7:Int) (a8:LL) (a9 a10:LI) (a11 a12 a13:Int):Option (Bool):=
 (spec_IsRules.f k a0 a1 a2 a3 a4 a5 a6 a7).bind fun r1=>
 bif (!r1) then
  some false
 else
  bif ((a8.length:Int) != a0) then
   some false
  else
   bif ((a10.length:Int)==0) then
    some false
   else
    (spec_l1In.f k a11 0 (IntKind.wrap .i64 (a0-1))).bind fun r2=>
    bif (!r2) then
     some false
    else
     (spec_l1In.f k a12 0 a7).bind fun r3=>
     bif (!r3) then
      some false
     else
      (spec_l1In.f k a13 0 a12).bind fun r4=>
      bif (!r4) then
       some false
      else
       chk (decide ((0+a9.length)*8<=room))<|
       chk (decide (((([]++a9).length)+a10.length)*8<=room))<|
       spec_IsGame.l5 k a8 (fun x5=>
        bif ((x5.length:Int)==52) then
         (spec_IsHand.f k x5).bind fun r6=>
         some r6
        else
         some false) k 0 (([]++a9)++a10)
def spec_l24First.s2 {R:Type} (k:Nat) (v9:LL) (e0:Int->Option R) (e1:Option R) (rec:Int->Option R) (v0:Int):Option R:=
 bif decide (v0<(v9.length:Int)) then
  chk ((decide (0<=v0))&&(decide (v0<(v9.length:Int))))<|
  bif (((v9.getD v0.toNat []).length:Int)==0) then
   e0 v0
  else
   rec (IntKind.wrap .i64 (v0+1))
 else
  e1
def spec_l24First.l2 {R:Type} (k:Nat) (v9:LL) (e0:Int->Option R) (e1:Option R) (n:Nat) (v0:Int):Option R:=
 V.iter (A:=Int) (fun rec a=>spec_l24First.s2 k v9 e0 e1 (fun c0=>rec c0) a) n v0
theorem spec_l24First.l2_succ {R:Type} (k:Nat) (v9:LL) (e0:Int->Option R) (e1:Option R) (n:Nat) (v0:Int):spec_l24First.l2 (R:=R) k v9 e0 e1 (n+1) v0=spec_l24First.s2 k v9 e0 e1 (spec_l24First.l2 k v9 e0 e1 n) v0:=rfl
def spec_l24First.f (k:Nat) (a0 a1:Int) (a2 a3:Bool) (a4 a5:LI) (a6 a7:Int) (a8:LL) (a9 a10:LI) (a11 a12 a13:Int):Option (Int):=
 spec_l24First.l2 k a8 (fun x1=>
  some x1) (some (-1)) k 0
def spec_l24Over.f (k:Nat) (a0 a1:Int) (a2 a3:Bool) (a4 a5:LI) (a6 a7:Int) (a8:LL) (a9 a10:LI) (a11 a12 a13:Int):Option (Bool):=
 (spec_l24First.f k a0 a1 a2 a3 a4 a5 a6 a7 a8 a9 a10 a11 a12 a13).bind fun r1=>
 bif decide (r1>=0) then
  some true
 else
  bif (a12==a7) then
   some true
  else
   some (decide (a13>=a0))
def spec_TakeCards.s6 {R:Type} (k:Nat) (v8 v13:Int) (e0:Int->LL->LI->LI->Option R) (rec:Int->Int->LL->LI->LI->Option R) (v0 v1:Int) (v36:LL) (v37 v38:LI):Option R:=
 bif decide (v1<v8) then
  bif ((v37.length:Int)==0) then
   chk ((decide (0<=(IntKind.wrap .i64 ((v38.length:Int)-1))))&&(decide ((IntKind.wrap .i64 ((v38.length:Int)-1))<=(v38.length:Int))))<|
   chk (decide (0<=(IntKind.wrap .i64 ((v38.length:Int)-1))))<|
   chk (decide ((0+(((v38.take ((IntKind.wrap .i64 ((v38.length:Int)-1)).toNat)).drop 0).length))*8<=room))<|
   chk ((decide (0<=(v38.length:Int)))&&(decide ((v38.length:Int)<=(v38.length:Int))))<|
   chk ((decide (0<=(IntKind.wrap .i64 ((v38.length:Int)-1))))&&(decide ((IntKind.wrap .i64 ((v38.length:Int)-1))<=(v38.length:Int))))<|
   chk (decide ((0+(((v38.take ((v38.length:Int).toNat)).drop ((IntKind.wrap .i64 ((v38.length:Int)-1)).toNat)).length))*8<=room))<|
   bif ((([]++((v38.take ((IntKind.wrap .i64 ((v38.length:Int)-1)).toNat)).drop 0)).length:Int)==0) then
    e0 v0 v36 ([]++((v38.take ((IntKind.wrap .i64 ((v38.length:Int)-1)).toNat)).drop 0)) ([]++((v38.take ((v38.length:Int).toNat)).drop ((IntKind.wrap .i64 ((v38.length:Int)-1)).toNat)))
   else
    chk ((decide (0<=v13))&&(decide (v13<(v36.length:Int))))<|
    chk (decide (0<(([]++((v38.take ((IntKind.wrap .i64 ((v38.length:Int)-1)).toNat)).drop 0)).length:Int)))<|
    chk (decide ((((v36.getD v13.toNat []).length)+1)*8<=room))<|
    chk ((decide (0<=v13))&&(decide (v13<(v36.length:Int))))<|
    chk (v13.toNat==v13.toNat)<|
    chk ((decide (0<=(([]++((v38.take ((IntKind.wrap .i64 ((v38.length:Int)-1)).toNat)).drop 0)).length:Int)))&&(decide ((([]++((v38.take ((IntKind.wrap .i64 ((v38.length:Int)-1)).toNat)).drop 0)).length:Int)<=(([]++((v38.take ((IntKind.wrap .i64 ((v38.length:Int)-1)).toNat)).drop 0)).length:Int))))<|
    chk (decide (1<=(([]++((v38.take ((IntKind.wrap .i64 ((v38.length:Int)-1)).toNat)).drop 0)).length:Int)))<|
    chk (decide ((0+(((([]++((v38.take ((IntKind.wrap .i64 ((v38.length:Int)-1)).toNat)).drop 0)).take ((([]++((v38.take ((IntKind.wrap .i64 ((v38.length:Int)-1)).toNat)).drop 0)).length:Int).toNat)).drop 1).length))*8<=room))<|
    rec (IntKind.wrap .i64 (v0+1)) (IntKind.wrap .i64 (v1+1)) (v36.set v13.toNat ((v36.getD v13.toNat [])++([([]++((v38.take ((IntKind.wrap .i64 ((v38.length:Int)-1)).toNat)).drop 0)).getD 0 0]))) ([]++((([]++((v38.take ((IntKind.wrap .i64 ((v38.length:Int)-1)).toNat)).drop 0)).take ((([]++((v38.take ((IntKind.wrap .i64 ((v38.length:Int)-1)).toNat)).drop 0)).length:Int).toNat)).drop 1)) ([]++((v38.take ((v38.length:Int).toNat)).drop ((IntKind.wrap .i64 ((v38.length:Int)-1)).toNat)))
  else
   bif ((v37.length:Int)==0) then
    e0 v0 v36 v37 v38
   else
    chk ((decide (0<=v13))&&(decide (v13<(v36.length:Int))))<|
    chk (decide (0<(v37.length:Int)))<|
    chk (decide ((((v36.getD v13.toNat []).length)+1)*8<=room))<|
    chk ((decide (0<=v13))&&(decide (v13<(v36.length:Int))))<|
    chk (v13.toNat==v13.toNat)<|
    chk ((decide (0<=(v37.length:Int)))&&(decide ((v37.length:Int)<=(v37.length:Int))))<|
    chk (decide (1<=(v37.length:Int)))<|
    chk (decide ((0+(((v37.take ((v37.length:Int).toNat)).drop 1).length))*8<=room))<|
    rec (IntKind.wrap .i64 (v0+1)) (IntKind.wrap .i64 (v1+1)) (v36.set v13.toNat ((v36.getD v13.toNat [])++[v37.getD 0 0])) ([]++((v37.take ((v37.length:Int).toNat)).drop 1)) v38
 else
  e0 v0 v36 v37 v38
def spec_TakeCards.l6 {R:Type} (k:Nat) (v8 v13:Int) (e0:Int->LL->LI->LI->Option R) (n:Nat) (v0 v1:Int) (v36:LL) (v37 v38:LI):Option R:=
 V.iter (A:=Int×Int×LL×LI×LI) (fun rec a=>spec_TakeCards.s6 k v8 v13 e0 (fun c0 c1 c2 c3 c4=>rec (c0,c1,c2,c3,c4)) a.1 a.2.1 (t2 a).1 (t3 a).1 (t4 a)) n (v0,v1,v36,v37,v38)
theorem spec_TakeCards.l6_succ {R:Type} (k:Nat) (v8 v13:Int) (e0:Int->LL->LI->LI->Option R) (n:Nat) (v0 v1:Int) (v36:LL) (v37 v38:LI):spec_TakeCards.l6 (R:=R) k v8 v13 e0 (n+1) v0 v1 v36 v37 v38=spec_TakeCards.s6 k v8 v13 e0 (spec_TakeCards.l6 k v8 v13 e0 n) v0 v1 v36 v37 v38:=rfl
def spec_TakeCards.f (k:Nat) (a0 a1:Int) (a2 a3:Bool) (a4 a5:LI) (a6 a7:Int) (a8:LL) (a9 a10:LI) (a11 a12 a13:Int):Option (Int×Int×Bool×Bool×LI×LI×Int×Int×LL×LI×LI×Int×Int×Int×Bool):=
 (spec_l24Copy.f k a0 a1 a2 a3 a4 a5 a6 a7 a8 a9 a10 a11 a12 a13).bind fun r1=>
 (spec_IsGame.f k a0 a1 a2 a3 a4 a5 a6 a7 a8 a9 a10 a11 a12 a13).bind fun r2=>
 bif (!r2) then
  some (r1.1,r1.2.1,(t2 r1).1,(t3 r1).1,(t4 r1).1,(t5 r1).1,(t6 r1).1,(t7 r1).1,(t8 r1).1,(t9 r1).1,(t9 r1.2).1,(t9 (t2 r1)).1,(t9 (t3 r1)).1,(t9 (t4 r1)),false)
 else
  (spec_l24Over.f k a0 a1 a2 a3 a4 a5 a6 a7 a8 a9 a10 a11 a12 a13).bind fun r3=>
  bif r3 then
   some (r1.1,r1.2.1,(t2 r1).1,(t3 r1).1,(t4 r1).1,(t5 r1).1,(t6 r1).1,(t7 r1).1,(t8 r1).1,(t9 r1).1,(t9 r1.2).1,(t9 (t2 r1)).1,(t9 (t3 r1)).1,(t9 (t4 r1)),false)
  else
   spec_TakeCards.l6 k a6 a11 (fun x4 x5 x6 x7=>
    bif (x4==0) then
     chk (!(decide (a0=0)))<|
     some (r1.1,r1.2.1,(t2 r1).1,(t3 r1).1,(t4 r1).1,(t5 r1).1,(t6 r1).1,(t7 r1).1,x5,x6,x7,(IntKind.wrap .i64 (a11+1)).tmod a0,IntKind.wrap .i64 (a12+1),IntKind.wrap .i64 (a13+1),true)
    else
     chk (!(decide (a0=0)))<|
     some (r1.1,r1.2.1,(t2 r1).1,(t3 r1).1,(t4 r1).1,(t5 r1).1,(t6 r1).1,(t7 r1).1,x5,x6,x7,(IntKind.wrap .i64 (a11+1)).tmod a0,IntKind.wrap .i64 (a12+1),0,true)) k 0 0 (t8 r1).1 (t9 r1).1 (t9 r1.2).1
def spec_Sorted.s6 {R:Type} (k:Nat) (v0:LI) (v1:Int) (v3:LI) (e0 rec:Int->Option R) (v2:Int):Option R:=
 bif decide (v2>0) then
  chk ((decide (0<=(IntKind.wrap .i64 (v2-1))))&&(decide ((IntKind.wrap .i64 (v2-1))<(v3.length:Int))))<|
  chk ((decide (0<=v1))&&(decide (v1<(v0.length:Int))))<|
  bif decide ((v3.getD ((IntKind.wrap .i64 (v2-1)).toNat) 0)>(v0.getD v1.toNat 0)) then
   rec (IntKind.wrap .i64 (v2-1))
  else
   e0 v2
 else
  e0 v2
def spec_Sorted.l6 {R:Type} (k:Nat) (v0:LI) (v1:Int) (v3:LI) (e0:Int->Option R) (n:Nat) (v2:Int):Option R:=
 V.iter (A:=Int) (fun rec a=>spec_Sorted.s6 k v0 v1 v3 e0 (fun c0=>rec c0) a) n v2
theorem spec_Sorted.l6_succ {R:Type} (k:Nat) (v0:LI) (v1:Int) (v3:LI) (e0:Int->Option R) (n:Nat) (v2:Int):spec_Sorted.l6 (R:=R) k v0 v1 v3 e0 (n+1) v2=spec_Sorted.s6 k v0 v1 v3 e0 (spec_Sorted.l6 k v0 v1 v3 e0 n) v2:=rfl
def spec_Sorted.s3 {R:Type} (k:Nat) (v0:LI) (e0:LI->Option R) (rec:Int->LI->Option R) (v1:Int) (v2:LI):Option R:=
 bif decide (v1<(v0.length:Int)) then
  spec_Sorted.l6 k v0 v1 v2 (fun x1=>
   chk ((decide (0<=x1))&&(decide (x1<=(v2.length:Int))))<|
   chk (decide (0<=x1))<|
   chk (decide ((0+(((v2.take x1.toNat).drop 0).length))*8<=room))<|
   chk ((decide (0<=v1))&&(decide (v1<(v0.length:Int))))<|
   chk (decide (((([]++((v2.take x1.toNat).drop 0)).length)+1)*8<=room))<|
   chk ((decide (0<=(v2.length:Int)))&&(decide ((v2.length:Int)<=(v2.length:Int))))<|
   chk ((decide (0<=x1))&&(decide (x1<=(v2.length:Int))))<|
   chk (decide ((((([]++((v2.take x1.toNat).drop 0))++[v0.getD v1.toNat 0]).length)+(((v2.take ((v2.length:Int).toNat)).drop x1.toNat).length))*8<=room))<|
   rec (IntKind.wrap .i64 (v1+1)) ((([]++((v2.take x1.toNat).drop 0))++[v0.getD v1.toNat 0])++((v2.take ((v2.length:Int).toNat)).drop x1.toNat))) k (v2.length:Int)
 else
  e0 v2
def spec_Sorted.l3 {R:Type} (k:Nat) (v0:LI) (e0:LI->Option R) (n:Nat) (v1:Int) (v2:LI):Option R:=
 V.iter (A:=Int×LI) (fun rec a=>spec_Sorted.s3 k v0 e0 (fun c0 c1=>rec (c0,c1)) a.1 a.2) n (v1,v2)
theorem spec_Sorted.l3_succ {R:Type} (k:Nat) (v0:LI) (e0:LI->Option R) (n:Nat) (v1:Int) (v2:LI):spec_Sorted.l3 (R:=R) k v0 e0 (n+1) v1 v2=spec_Sorted.s3 k v0 e0 (spec_Sorted.l3 k v0 e0 n) v1 v2:=rfl
def spec_Sorted.f (k:Nat) (a:LI):Option (LI):=
 spec_Sorted.l3 k a (fun x2=>
  some x2) k 0 []
def spec_SuitOf.f (k:Nat) (a:Int):Option (Int):=
 (spec_IsCard.f k a).bind fun r1=>
 bif (!r1) then
  some (-1)
 else
  some (IntKind.wrap .i64 (a.tdiv 13))
def spec_RankOf.f (k:Nat) (a:Int):Option (Int):=
 (spec_IsCard.f k a).bind fun r1=>
 bif (!r1) then
  some (-1)
 else
  some (a.tmod 13)
def spec_IsRed.f (k:Nat) (a:Int):Option (Bool):=
 (spec_SuitOf.f k a).bind fun r1=>
 (spec_l1In.f k r1 1 2).bind fun r2=>
 some r2
def spec_l8Value.f (k:Nat) (a g:Int):Option (Bool):=
 bif (a==400) then
  (spec_IsRed.f k g).bind fun r1=>
  some r1
 else
  bif decide (a>=300) then
   (spec_RankOf.f k g).bind fun r2=>
   some (decide (r2>=(IntKind.wrap .i64 (a-300))))
  else
   bif decide (a>=200) then
    (spec_RankOf.f k g).bind fun r3=>
    some (r3==(IntKind.wrap .i64 (a-200)))
   else
    (spec_SuitOf.f k g).bind fun r4=>
    some (r4==(IntKind.wrap .i64 (a-100)))
def spec_Matches.s5 {R:Type} (k:Nat) (v0:LI) (v1:Int) (e0:List Bool->Option R) (rec:Int->List Bool->Option R) (v2:Int) (v3:List Bool):Option R:=
 bif decide (v2<(v0.length:Int)) then
  chk ((decide (0<=v2))&&(decide (v2<(v0.length:Int))))<|
  bif ((v0.getD v2.toNat 0)==(-1)) then
   chk ((decide (0<=(IntKind.wrap .i64 ((v3.length:Int)-1))))&&(decide ((IntKind.wrap .i64 ((v3.length:Int)-1))<(v3.length:Int))))<|
   chk ((decide (0<=(IntKind.wrap .i64 ((v3.length:Int)-1))))&&(decide ((IntKind.wrap .i64 ((v3.length:Int)-1))<(v3.length:Int))))<|
   rec (IntKind.wrap .i64 (v2+1)) (v3.set ((IntKind.wrap .i64 ((v3.length:Int)-1)).toNat) (!(v3.getD ((IntKind.wrap .i64 ((v3.length:Int)-1)).toNat) false)))
  else
   bif ((v0.getD v2.toNat 0)==(-2)) then
    chk ((decide (0<=(IntKind.wrap .i64 ((v3.length:Int)-2))))&&(decide ((IntKind.wrap .i64 ((v3.length:Int)-2))<=(v3.length:Int))))<|
    chk (decide (0<=(IntKind.wrap .i64 ((v3.length:Int)-2))))<|
    chk ((decide (0<=(IntKind.wrap .i64 ((v3.length:Int)-2))))&&(decide ((IntKind.wrap .i64 ((v3.length:Int)-2))<(v3.length:Int))))<|
    bif (v3.getD ((IntKind.wrap .i64 ((v3.length:Int)-2)).toNat) false) then
     chk ((decide (0<=(IntKind.wrap .i64 ((v3.length:Int)-1))))&&(decide ((IntKind.wrap .i64 ((v3.length:Int)-1))<(v3.length:Int))))<|
     chk (decide ((((v3.take ((IntKind.wrap .i64 ((v3.length:Int)-2)).toNat)).length)+1)*1<=room))<|
     rec (IntKind.wrap .i64 (v2+1)) ((v3.take ((IntKind.wrap .i64 ((v3.length:Int)-2)).toNat))++[v3.getD ((IntKind.wrap .i64 ((v3.length:Int)-1)).toNat) false])
    else
     chk (decide ((((v3.take ((IntKind.wrap .i64 ((v3.length:Int)-2)).toNat)).length)+1)*1<=room))<|
     rec (IntKind.wrap .i64 (v2+1)) ((v3.take ((IntKind.wrap .i64 ((v3.length:Int)-2)).toNat))++[false])
   else
    bif ((v0.getD v2.toNat 0)==(-3)) then
     chk ((decide (0<=(IntKind.wrap .i64 ((v3.length:Int)-2))))&&(decide ((IntKind.wrap .i64 ((v3.length:Int)-2))<=(v3.length:Int))))<|
     chk (decide (0<=(IntKind.wrap .i64 ((v3.length:Int)-2))))<|
     chk ((decide (0<=(IntKind.wrap .i64 ((v3.length:Int)-2))))&&(decide ((IntKind.wrap .i64 ((v3.length:Int)-2))<(v3.length:Int))))<|
     bif (v3.getD ((IntKind.wrap .i64 ((v3.length:Int)-2)).toNat) false) then
      chk (decide ((((v3.take ((IntKind.wrap .i64 ((v3.length:Int)-2)).toNat)).length)+1)*1<=room))<|
      rec (IntKind.wrap .i64 (v2+1)) ((v3.take ((IntKind.wrap .i64 ((v3.length:Int)-2)).toNat))++[true])
     else
      chk ((decide (0<=(IntKind.wrap .i64 ((v3.length:Int)-1))))&&(decide ((IntKind.wrap .i64 ((v3.length:Int)-1))<(v3.length:Int))))<|
      chk (decide ((((v3.take ((IntKind.wrap .i64 ((v3.length:Int)-2)).toNat)).length)+1)*1<=room))<|
      rec (IntKind.wrap .i64 (v2+1)) ((v3.take ((IntKind.wrap .i64 ((v3.length:Int)-2)).toNat))++[v3.getD ((IntKind.wrap .i64 ((v3.length:Int)-1)).toNat) false])
    else
     chk ((decide (0<=v2))&&(decide (v2<(v0.length:Int))))<|
     (spec_l8Value.f k (v0.getD v2.toNat 0) v1).bind fun r3=>
     chk (decide ((v3.length+1)*1<=room))<|
     rec (IntKind.wrap .i64 (v2+1)) (v3++[r3])
 else
  e0 v3
def spec_Matches.l5 {R:Type} (k:Nat) (v0:LI) (v1:Int) (e0:List Bool->Option R) (n:Nat) (v2:Int) (v3:List Bool):Option R:=
 V.iter (A:=Int×List Bool) (fun rec a=>spec_Matches.s5 k v0 v1 e0 (fun c0 c1=>rec (c0,c1)) a.1 a.2) n (v2,v3)
theorem spec_Matches.l5_succ {R:Type} (k:Nat) (v0:LI) (v1:Int) (e0:List Bool->Option R) (n:Nat) (v2:Int) (v3:List Bool):spec_Matches.l5 (R:=R) k v0 v1 e0 (n+1) v2 v3=spec_Matches.s5 k v0 v1 e0 (spec_Matches.l5 k v0 v1 e0 n) v2 v3:=rfl
def spec_Matches.f (k:Nat) (a:LI) (g:Int):Option (Bool):=
 (spec_IsPattern.f k a).bind fun r1=>
 bif (!r1) then
  some false
 else
  (spec_IsCard.f k g).bind fun r2=>
  bif (!r2) then
   some false
  else
   spec_Matches.l5 k a g (fun x4=>
    chk (decide (0<(x4.length:Int)))<|
    some (x4.getD 0 false)) k 0 []
def spec_FitsOn.f (k:Nat) (a0 a1:Int) (a2 a3:Bool) (a4 a5:LI) (a6 a7 g i:Int):Option (Bool):=
 (spec_IsRules.f k a0 a1 a2 a3 a4 a5 a6 a7).bind fun r1=>
 bif (!r1) then
  some false
 else
  (spec_IsCard.f k g).bind fun r2=>
  bif (!r2) then
   some false
  else
   (spec_IsCard.f k i).bind fun r3=>
   bif (!r3) then
    some false
   else
    bif a2 then
     (spec_SuitOf.f k i).bind fun r4=>
     (spec_SuitOf.f k g).bind fun r5=>
     bif (r4==r5) then
      some true
     else
      bif a3 then
       (spec_RankOf.f k i).bind fun r6=>
       (spec_RankOf.f k g).bind fun r7=>
       bif (r6==r7) then
        some true
       else
        (spec_Matches.f k a4 i).bind fun r8=>
        some r8
      else
       (spec_Matches.f k a4 i).bind fun r9=>
       some r9
    else
     bif a3 then
      (spec_RankOf.f k i).bind fun r10=>
      (spec_RankOf.f k g).bind fun r11=>
      bif (r10==r11) then
       some true
      else
       (spec_Matches.f k a4 i).bind fun r12=>
       some r12
     else
      (spec_Matches.f k a4 i).bind fun r13=>
      some r13
def spec_Playable.s6 {R:Type} (k:Nat) (v1 v2:Int) (v3 v4:Bool) (v5 v6:LI) (v7 v8:Int) (v11 v16:LI) (e0:LI->Option R) (rec:Int->LI->Option R) (v0:Int) (v15:LI):Option R:=
 bif decide (v0<(v16.length:Int)) then
  chk ((decide (0<=(IntKind.wrap .i64 ((v11.length:Int)-1))))&&(decide ((IntKind.wrap .i64 ((v11.length:Int)-1))<(v11.length:Int))))<|
  chk ((decide (0<=v0))&&(decide (v0<(v16.length:Int))))<|
  (spec_FitsOn.f k v1 v2 v3 v4 v5 v6 v7 v8 (v11.getD ((IntKind.wrap .i64 ((v11.length:Int)-1)).toNat) 0) (v16.getD v0.toNat 0)).bind fun r4=>
  bif r4 then
   chk ((decide (0<=v0))&&(decide (v0<(v16.length:Int))))<|
   chk (decide ((v15.length+1)*8<=room))<|
   rec (IntKind.wrap .i64 (v0+1)) (v15++[v16.getD v0.toNat 0])
  else
   rec (IntKind.wrap .i64 (v0+1)) v15
 else
  e0 v15
def spec_Playable.l6 {R:Type} (k:Nat) (v1 v2:Int) (v3 v4:Bool) (v5 v6:LI) (v7 v8:Int) (v11 v16:LI) (e0:LI->Option R) (n:Nat) (v0:Int) (v15:LI):Option R:=
 V.iter (A:=Int×LI) (fun rec a=>spec_Playable.s6 k v1 v2 v3 v4 v5 v6 v7 v8 v11 v16 e0 (fun c0 c1=>rec (c0,c1)) a.1 a.2) n (v0,v15)
theorem spec_Playable.l6_succ {R:Type} (k:Nat) (v1 v2:Int) (v3 v4:Bool) (v5 v6:LI) (v7 v8:Int) (v11 v16:LI) (e0:LI->Option R) (n:Nat) (v0:Int) (v15:LI):spec_Playable.l6 (R:=R) k v1 v2 v3 v4 v5 v6 v7 v8 v11 v16 e0 (n+1) v0 v15=spec_Playable.s6 k v1 v2 v3 v4 v5 v6 v7 v8 v11 v16 e0 (spec_Playable.l6 k v1 v2 v3 v4 v5 v6 v7 v8 v11 v16 e0 n) v0 v15:=rfl
def spec_Playable.f (k:Nat) (a0 a1:Int) (a2 a3:Bool) (a4 a5:LI) (a6 a7:Int) (a8:LL) (a9 a10:LI) (a11 a12 a13:Int):Option (LI):=
 (spec_IsGame.f k a0 a1 a2 a3 a4 a5 a6 a7 a8 a9 a10 a11 a12 a13).bind fun r1=>
 bif (!r1) then
  some ([])
 else
  (spec_l24Over.f k a0 a1 a2 a3 a4 a5 a6 a7 a8 a9 a10 a11 a12 a13).bind fun r2=>
  bif r2 then
   some ([])
  else
   chk ((decide (0<=a11))&&(decide (a11<(a8.length:Int))))<|
   (spec_Sorted.f k (a8.getD a11.toNat [])).bind fun r3=>
   spec_Playable.l6 k a0 a1 a2 a3 a4 a5 a6 a7 a10 r3 (fun x5=>
    some x5) k 0 []
def spec_Without.s3 {R:Type} (k:Nat) (v0:LI) (v1:Int) (e0:LI->Option R) (rec:Int->LI->Option R) (v2:Int) (v3:LI):Option R:=
 bif decide (v2<(v0.length:Int)) then
  chk ((decide (0<=v2))&&(decide (v2<(v0.length:Int))))<|
  bif ((v0.getD v2.toNat 0) != v1) then
   chk ((decide (0<=v2))&&(decide (v2<(v0.length:Int))))<|
   chk (decide ((v3.length+1)*8<=room))<|
   rec (IntKind.wrap .i64 (v2+1)) (v3++[v0.getD v2.toNat 0])
  else
   rec (IntKind.wrap .i64 (v2+1)) v3
 else
  e0 v3
def spec_Without.l3 {R:Type} (k:Nat) (v0:LI) (v1:Int) (e0:LI->Option R) (n:Nat) (v2:Int) (v3:LI):Option R:=
 V.iter (A:=Int×LI) (fun rec a=>spec_Without.s3 k v0 v1 e0 (fun c0 c1=>rec (c0,c1)) a.1 a.2) n (v2,v3)
theorem spec_Without.l3_succ {R:Type} (k:Nat) (v0:LI) (v1:Int) (e0:LI->Option R) (n:Nat) (v2:Int) (v3:LI):spec_Without.l3 (R:=R) k v0 v1 e0 (n+1) v2 v3=spec_Without.s3 k v0 v1 e0 (spec_Without.l3 k v0 v1 e0 n) v2 v3:=rfl
def spec_Without.f (k:Nat) (a:LI) (g:Int):Option (LI):=
 spec_Without.l3 k a g (fun x1=>
  some x1) k 0 []
def spec_DoesSkip.f (k:Nat) (a0 a1:Int) (a2 a3:Bool) (a4 a5:LI) (a6 a7 g:Int):Option (Bool):=
 (spec_IsRules.f k a0 a1 a2 a3 a4 a5 a6 a7).bind fun r1=>
 bif r1 then
  (spec_Matches.f k a5 g).bind fun r2=>
  some r2
 else
  some false
def spec_PlayOn.f (k:Nat) (a0 a1:Int) (a2 a3:Bool) (a4 a5:LI) (a6 a7:Int) (a8:LL) (a9 a10:LI) (a11 a12 a13 g:Int):Option (Int×Int×Bool×Bool×LI×LI×Int×Int×LL×LI×LI×Int×Int×Int×Bool):=
 (spec_l24Copy.f k a0 a1 a2 a3 a4 a5 a6 a7 a8 a9 a10 a11 a12 a13).bind fun r1=>
 (spec_Playable.f k a0 a1 a2 a3 a4 a5 a6 a7 a8 a9 a10 a11 a12 a13).bind fun r2=>
 (spec_HasCard.f k r2 g).bind fun r3=>
 bif (!r3) then
  some (r1.1,r1.2.1,(t2 r1).1,(t3 r1).1,(t4 r1).1,(t5 r1).1,(t6 r1).1,(t7 r1).1,(t8 r1).1,(t9 r1).1,(t9 r1.2).1,(t9 (t2 r1)).1,(t9 (t3 r1)).1,(t9 (t4 r1)),false)
 else
  chk ((decide (0<=a11))&&(decide (a11<(a8.length:Int))))<|
  (spec_Without.f k (a8.getD a11.toNat []) g).bind fun r4=>
  chk ((decide (0<=a11))&&(decide (a11<((t8 r1).1.length:Int))))<|
  chk (decide (((t9 r1.2).1.length+1)*8<=room))<|
  (spec_DoesSkip.f k a0 a1 a2 a3 a4 a5 a6 a7 g).bind fun r5=>
  bif r5 then
   chk (!(decide (a0=0)))<|
   some (r1.1,r1.2.1,(t2 r1).1,(t3 r1).1,(t4 r1).1,(t5 r1).1,(t6 r1).1,(t7 r1).1,(t8 r1).1.set a11.toNat r4,(t9 r1).1,(t9 r1.2).1++[g],(IntKind.wrap .i64 (a11+2)).tmod a0,IntKind.wrap .i64 (a12+1),0,true)
  else
   chk (!(decide (a0=0)))<|
   some (r1.1,r1.2.1,(t2 r1).1,(t3 r1).1,(t4 r1).1,(t5 r1).1,(t6 r1).1,(t7 r1).1,(t8 r1).1.set a11.toNat r4,(t9 r1).1,(t9 r1.2).1++[g],(IntKind.wrap .i64 (a11+1)).tmod a0,IntKind.wrap .i64 (a12+1),0,true)
def spec_ReplayMove.f (k:Nat) (a0 a1:Int) (a2 a3:Bool) (a4 a5:LI) (a6 a7:Int) (a8:LL) (a9 a10:LI) (a11 a12 a13 g:Int):Option (Int×Int×Bool×Bool×LI×LI×Int×Int×LL×LI×LI×Int×Int×Int×Bool):=
 bif (g==(-1)) then
  (spec_TakeCards.f k a0 a1 a2 a3 a4 a5 a6 a7 a8 a9 a10 a11 a12 a13).bind fun r1=>
  some (r1.1,r1.2.1,(t2 r1).1,(t3 r1).1,(t4 r1).1,(t5 r1).1,(t6 r1).1,(t7 r1).1,(t8 r1).1,(t9 r1).1,(t9 r1.2).1,(t9 (t2 r1)).1,(t9 (t3 r1)).1,(t9 (t4 r1)).1,(t9 (t5 r1)))
 else
  (spec_PlayOn.f k a0 a1 a2 a3 a4 a5 a6 a7 a8 a9 a10 a11 a12 a13 g).bind fun r2=>
  some (r2.1,r2.2.1,(t2 r2).1,(t3 r2).1,(t4 r2).1,(t5 r2).1,(t6 r2).1,(t7 r2).1,(t8 r2).1,(t9 r2).1,(t9 r2.2).1,(t9 (t2 r2)).1,(t9 (t3 r2)).1,(t9 (t4 r2)).1,(t9 (t5 r2)))
def spec_Replayed.s3 {R:Type} (k:Nat) (v0:LI) (e0:Int->Int->Int->Bool->Bool->Int->Int->Int->Int->Int->LI->LI->LL->LI->LI->Option R) (e1:Int->Int->Bool->Bool->Int->Int->Int->Int->Int->LI->LI->LL->LI->LI->Option R) (rec:Int->Int->Int->Bool->Bool->Int->Int->Int->Int->Int->LI->LI->LL->LI->LI->Option R) (v1 v11 v12:Int) (v13 v14:Bool) (v15 v16 v17 v18 v19:Int) (v20 v21:LI) (v22:LL) (v23 v24:LI):Option R:=
 bif decide (v1<(v0.length:Int)) then
  chk ((decide (0<=v1))&&(decide (v1<(v0.length:Int))))<|
  (spec_ReplayMove.f k v11 v12 v13 v14 v20 v21 v15 v16 v22 v23 v24 v17 v18 v19 (v0.getD v1.toNat 0)).bind fun r2=>
  bif (!(t9 (t5 r2))) then
   e0 v1 v11 v12 v13 v14 v15 v16 v17 v18 v19 v20 v21 v22 v23 v24
  else
   rec (IntKind.wrap .i64 (v1+1)) r2.1 r2.2.1 (t2 r2).1 (t3 r2).1 (t6 r2).1 (t7 r2).1 (t9 (t2 r2)).1 (t9 (t3 r2)).1 (t9 (t4 r2)).1 (t4 r2).1 (t5 r2).1 (t8 r2).1 (t9 r2).1 (t9 r2.2).1
 else
  e1 v11 v12 v13 v14 v15 v16 v17 v18 v19 v20 v21 v22 v23 v24
def spec_Replayed.l3 {R:Type} (k:Nat) (v0:LI) (e0:Int->Int->Int->Bool->Bool->Int->Int->Int->Int->Int->LI->LI->LL->LI->LI->Option R) (e1:Int->Int->Bool->Bool->Int->Int->Int->Int->Int->LI->LI->LL->LI->LI->Option R) (n:Nat) (v1 v11 v12:Int) (v13 v14:Bool) (v15 v16 v17 v18 v19:Int) (v20 v21:LI) (v22:LL) (v23 v24:LI):Option R:=
 V.iter (A:=Int×Int×Int×Bool×Bool×Int×Int×Int×Int×Int×LI×LI×LL×LI×LI) (fun rec a=>spec_Replayed.s3 k v0 e0 e1 (fun c0 c1 c2 c3 c4 c5 c6 c7 c8 c9 c10 c11 c12 c13 c14=>rec (c0,c1,c2,c3,c4,c5,c6,c7,c8,c9,c10,c11,c12,c13,c14)) a.1 a.2.1 (t2 a).1 (t3 a).1 (t4 a).1 (t5 a).1 (t6 a).1 (t7 a).1 (t8 a).1 (t9 a).1 (t9 a.2).1 (t9 (t2 a)).1 (t9 (t3 a)).1 (t9 (t4 a)).1 (t9 (t5 a))) n (v1,v11,v12,v13,v14,v15,v16,v17,v18,v19,v20,v21,v22,v23,v24)
theorem spec_Replayed.l3_succ {R:Type} (k:Nat) (v0:LI) (e0:Int->Int->Int->Bool->Bool->Int->Int->Int->Int->Int->LI->LI->LL->LI->LI->Option R) (e1:Int->Int->Bool->Bool->Int->Int->Int->Int->Int->LI->LI->LL->LI->LI->Option R) (n:Nat) (v1 v11 v12:Int) (v13 v14:Bool) (v15 v16 v17 v18 v19:Int) (v20 v21:LI) (v22:LL) (v23 v24:LI):spec_Replayed.l3 (R:=R) k v0 e0 e1 (n+1) v1 v11 v12 v13 v14 v15 v16 v17 v18 v19 v20 v21 v22 v23 v24=spec_Replayed.s3 k v0 e0 e1 (spec_Replayed.l3 k v0 e0 e1 n) v1 v11 v12 v13 v14 v15 v16 v17 v18 v19 v20 v21 v22 v23 v24:=rfl
def spec_Replayed.f (k:Nat) (a0 a1:Int) (a2 a3:Bool) (a4 a5:LI) (a6 a7:Int) (a8:LL) (a9 a10:LI) (a11 a12 a13:Int) (g:LI):Option (Int×Int×Bool×Bool×LI×LI×Int×Int×LL×LI×LI×Int×Int×Int×Int):=
 (spec_l24Copy.f k a0 a1 a2 a3 a4 a5 a6 a7 a8 a9 a10 a11 a12 a13).bind fun r1=>
 spec_Replayed.l3 k g (fun x3 x4 x5 x6 x7 x8 x9 x10 x11 x12 x13 x14 x15 x16 x17=>
  some (x4,x5,x6,x7,x13,x14,x8,x9,x15,x16,x17,x10,x11,x12,x3)) (fun x18 x19 x20 x21 x22 x23 x24 x25 x26 x27 x28 x29 x30 x31=>
  some (x18,x19,x20,x21,x27,x28,x22,x23,x29,x30,x31,x24,x25,x26,(g.length:Int))) k 0 r1.1 r1.2.1 (t2 r1).1 (t3 r1).1 (t6 r1).1 (t7 r1).1 (t9 (t2 r1)).1 (t9 (t3 r1)).1 (t9 (t4 r1)) (t4 r1).1 (t5 r1).1 (t8 r1).1 (t9 r1).1 (t9 r1.2).1
def spec_IsTable.f (k:Nat) (a0 a1:Int) (a2 a3:Bool) (a4 a5:LI) (a6 a7:Int) (a8:LI) (a9:Bool) (a10:LI) (a11 a12:Int) (a13 a14:Bool) (a15 a16:LI) (a17 a18:Int) (a19:LL) (a20 a21:LI) (a22 a23 a24:Int) (a25:LI) (a26:LL):Option (Bool):=
 (spec_IsRules.f k a0 a1 a2 a3 a4 a5 a6 a7).bind fun r1=>
 bif (!r1) then
  some false
 else
  bif decide ((a8.length:Int)>a0) then
   some false
  else
   (spec_IsSheet.f k a0 a26).bind fun r2=>
   bif (!r2) then
    some false
   else
    bif (!a9) then
     bif ((a10.length:Int)==0) then
      bif ((a25.length:Int)==0) then
       (spec_EqualGames.f k a11 a12 a13 a14 a15 a16 a17 a18 a19 a20 a21 a22 a23 a24 0 0 false false [] [] 0 0 [] [] [] 0 0 0).bind fun r3=>
       some r3
      else
       some false
     else
      some false
    else
     (spec_NewGame.f k a0 a1 a2 a3 a4 a5 a6 a7 a10).bind fun r4=>
     (spec_Replayed.f k r4.1 r4.2.1 (t2 r4).1 (t3 r4).1 (t4 r4).1 (t5 r4).1 (t6 r4).1 (t7 r4).1 (t8 r4).1 (t9 r4).1 (t9 r4.2).1 (t9 (t2 r4)).1 (t9 (t3 r4)).1 (t9 (t4 r4)).1 a25).bind fun r5=>
     bif (t9 (t5 r4)) then
      bif ((a8.length:Int)==a0) then
       bif ((t9 (t5 r5))==(a25.length:Int)) then
        (spec_EqualGames.f k r5.1 r5.2.1 (t2 r5).1 (t3 r5).1 (t4 r5).1 (t5 r5).1 (t6 r5).1 (t7 r5).1 (t8 r5).1 (t9 r5).1 (t9 r5.2).1 (t9 (t2 r5)).1 (t9 (t3 r5)).1 (t9 (t4 r5)).1 a11 a12 a13 a14 a15 a16 a17 a18 a19 a20 a21 a22 a23 a24).bind fun r6=>
        some r6
       else
        some false
      else
       some false
     else
      some false
def spec_l34Done.f (k:Nat) (a0 a1:Int) (a2 a3:Bool) (a4 a5:LI) (a6 a7:Int) (a8:LI) (a9:Bool) (a10:LI) (a11 a12:Int) (a13 a14:Bool) (a15 a16:LI) (a17 a18:Int) (a19:LL) (a20 a21:LI) (a22 a23 a24:Int) (a25:LI) (a26:LL) (g0 g1:Int) (g2 g3:Bool) (g4 g5:LI) (g6 g7:Int) (g8:LI) (g9:Bool) (g10:LI) (g11 g12:Int) (g13 g14:Bool) (g15 g16:LI) (g17 g18:Int) (g19:LL) (g20 g21:LI) (g22 g23 g24:Int) (g25:LI) (g26:LL) (i:Bool):Option (Int×Int×Bool×Bool×LI×LI×Int×Int×LI×Bool×LI×Int×Int×Bool×Bool×LI×LI×Int×Int×LL×LI×LI×Int×Int×Int×LI×LL×Bool):=
 bif (!i) then
  (spec_l33Copy.f k a0 a1 a2 a3 a4 a5 a6 a7 a8 a9 a10 a11 a12 a13 a14 a15 a16 a17 a18 a19 a20 a21 a22 a23 a24 a25 a26).bind fun r1=>
  some (r1.1,r1.2.1,(t2 r1).1,(t3 r1).1,(t4 r1).1,(t5 r1).1,(t6 r1).1,(t7 r1).1,(t8 r1).1,(t9 r1).1,(t9 r1.2).1,(t9 (t2 r1)).1,(t9 (t3 r1)).1,(t9 (t4 r1)).1,(t9 (t5 r1)).1,(t9 (t6 r1)).1,(t9 (t7 r1)).1,(t9 (t8 r1)).1,(t9 (t9 r1)).1,(t9 (t9 r1.2)).1,(t9 (t9 (t2 r1))).1,(t9 (t9 (t3 r1))).1,(t9 (t9 (t4 r1))).1,(t9 (t9 (t5 r1))).1,(t9 (t9 (t6 r1))).1,(t9 (t9 (t7 r1))).1,(t9 (t9 (t8 r1))),false)
 else
  (spec_IsTable.f k a0 a1 a2 a3 a4 a5 a6 a7 a8 a9 a10 a11 a12 a13 a14 a15 a16 a17 a18 a19 a20 a21 a22 a23 a24 a25 a26).bind fun r2=>
  bif (!r2) then
   (spec_l33Copy.f k a0 a1 a2 a3 a4 a5 a6 a7 a8 a9 a10 a11 a12 a13 a14 a15 a16 a17 a18 a19 a20 a21 a22 a23 a24 a25 a26).bind fun r3=>
   some (r3.1,r3.2.1,(t2 r3).1,(t3 r3).1,(t4 r3).1,(t5 r3).1,(t6 r3).1,(t7 r3).1,(t8 r3).1,(t9 r3).1,(t9 r3.2).1,(t9 (t2 r3)).1,(t9 (t3 r3)).1,(t9 (t4 r3)).1,(t9 (t5 r3)).1,(t9 (t6 r3)).1,(t9 (t7 r3)).1,(t9 (t8 r3)).1,(t9 (t9 r3)).1,(t9 (t9 r3.2)).1,(t9 (t9 (t2 r3))).1,(t9 (t9 (t3 r3))).1,(t9 (t9 (t4 r3))).1,(t9 (t9 (t5 r3))).1,(t9 (t9 (t6 r3))).1,(t9 (t9 (t7 r3))).1,(t9 (t9 (t8 r3))),false)
  else
   (spec_IsTable.f k g0 g1 g2 g3 g4 g5 g6 g7 g8 g9 g10 g11 g12 g13 g14 g15 g16 g17 g18 g19 g20 g21 g22 g23 g24 g25 g26).bind fun r4=>
   bif (!r4) then
    (spec_l33Copy.f k a0 a1 a2 a3 a4 a5 a6 a7 a8 a9 a10 a11 a12 a13 a14 a15 a16 a17 a18 a19 a20 a21 a22 a23 a24 a25 a26).bind fun r5=>
    some (r5.1,r5.2.1,(t2 r5).1,(t3 r5).1,(t4 r5).1,(t5 r5).1,(t6 r5).1,(t7 r5).1,(t8 r5).1,(t9 r5).1,(t9 r5.2).1,(t9 (t2 r5)).1,(t9 (t3 r5)).1,(t9 (t4 r5)).1,(t9 (t5 r5)).1,(t9 (t6 r5)).1,(t9 (t7 r5)).1,(t9 (t8 r5)).1,(t9 (t9 r5)).1,(t9 (t9 r5.2)).1,(t9 (t9 (t2 r5))).1,(t9 (t9 (t3 r5))).1,(t9 (t9 (t4 r5))).1,(t9 (t9 (t5 r5))).1,(t9 (t9 (t6 r5))).1,(t9 (t9 (t7 r5))).1,(t9 (t9 (t8 r5))),false)
   else
    some (g0,g1,g2,g3,g4,g5,g6,g7,g8,g9,g10,g11,g12,g13,g14,g15,g16,g17,g18,g19,g20,g21,g22,g23,g24,g25,g26,true)
def spec_StepRules.f (k:Nat) (a0 a1:Int) (a2 a3:Bool) (a4 a5:LI) (a6 a7:Int) (a8:LI) (a9:Bool) (a10:LI) (a11 a12:Int) (a13 a14:Bool) (a15 a16:LI) (a17 a18:Int) (a19:LL) (a20 a21:LI) (a22 a23 a24:Int) (a25:LI) (a26:LL) (g:ByteArray):Option (Int×Int×Bool×Bool×LI×LI×Int×Int×LI×Bool×LI×Int×Int×Bool×Bool×LI×LI×Int×Int×LL×LI×LI×Int×Int×Int×LI×LL×Bool):=
 (spec_l33Copy.f k a0 a1 a2 a3 a4 a5 a6 a7 a8 a9 a10 a11 a12 a13 a14 a15 a16 a17 a18 a19 a20 a21 a22 a23 a24 a25 a26).bind fun r1=>
 (spec_ParseRules.f k g).bind fun r2=>
 bif (r2.1 != a0) then
  bif (t8 r2) then
   (spec_l34Done.f k a0 a1 a2 a3 a4 a5 a6 a7 a8 a9 a10 a11 a12 a13 a14 a15 a16 a17 a18 a19 a20 a21 a22 a23 a24 a25 a26 r2.1 r2.2.1 (t2 r2).1 (t3 r2).1 (t4 r2).1 (t5 r2).1 (t6 r2).1 (t7 r2).1 [] (t9 r1).1 (t9 r1.2).1 (t9 (t2 r1)).1 (t9 (t3 r1)).1 (t9 (t4 r1)).1 (t9 (t5 r1)).1 (t9 (t6 r1)).1 (t9 (t7 r1)).1 (t9 (t8 r1)).1 (t9 (t9 r1)).1 (t9 (t9 r1.2)).1 (t9 (t9 (t2 r1))).1 (t9 (t9 (t3 r1))).1 (t9 (t9 (t4 r1))).1 (t9 (t9 (t5 r1))).1 (t9 (t9 (t6 r1))).1 (t9 (t9 (t7 r1))).1 [] (!a9)).bind fun r3=>
   some (r3.1,r3.2.1,(t2 r3).1,(t3 r3).1,(t4 r3).1,(t5 r3).1,(t6 r3).1,(t7 r3).1,(t8 r3).1,(t9 r3).1,(t9 r3.2).1,(t9 (t2 r3)).1,(t9 (t3 r3)).1,(t9 (t4 r3)).1,(t9 (t5 r3)).1,(t9 (t6 r3)).1,(t9 (t7 r3)).1,(t9 (t8 r3)).1,(t9 (t9 r3)).1,(t9 (t9 r3.2)).1,(t9 (t9 (t2 r3))).1,(t9 (t9 (t3 r3))).1,(t9 (t9 (t4 r3))).1,(t9 (t9 (t5 r3))).1,(t9 (t9 (t6 r3))).1,(t9 (t9 (t7 r3))).1,(t9 (t9 (t8 r3))).1,(t9 (t9 (t9 r3))))
  else
   (spec_l34Done.f k a0 a1 a2 a3 a4 a5 a6 a7 a8 a9 a10 a11 a12 a13 a14 a15 a16 a17 a18 a19 a20 a21 a22 a23 a24 a25 a26 r2.1 r2.2.1 (t2 r2).1 (t3 r2).1 (t4 r2).1 (t5 r2).1 (t6 r2).1 (t7 r2).1 [] (t9 r1).1 (t9 r1.2).1 (t9 (t2 r1)).1 (t9 (t3 r1)).1 (t9 (t4 r1)).1 (t9 (t5 r1)).1 (t9 (t6 r1)).1 (t9 (t7 r1)).1 (t9 (t8 r1)).1 (t9 (t9 r1)).1 (t9 (t9 r1.2)).1 (t9 (t9 (t2 r1))).1 (t9 (t9 (t3 r1))).1 (t9 (t9 (t4 r1))).1 (t9 (t9 (t5 r1))).1 (t9 (t9 (t6 r1))).1 (t9 (t9 (t7 r1))).1 [] false).bind fun r4=>
   some (r4.1,r4.2.1,(t2 r4).1,(t3 r4).1,(t4 r4).1,(t5 r4).1,(t6 r4).1,(t7 r4).1,(t8 r4).1,(t9 r4).1,(t9 r4.2).1,(t9 (t2 r4)).1,(t9 (t3 r4)).1,(t9 (t4 r4)).1,(t9 (t5 r4)).1,(t9 (t6 r4)).1,(t9 (t7 r4)).1,(t9 (t8 r4)).1,(t9 (t9 r4)).1,(t9 (t9 r4.2)).1,(t9 (t9 (t2 r4))).1,(t9 (t9 (t3 r4))).1,(t9 (t9 (t4 r4))).1,(t9 (t9 (t5 r4))).1,(t9 (t9 (t6 r4))).1,(t9 (t9 (t7 r4))).1,(t9 (t9 (t8 r4))).1,(t9 (t9 (t9 r4))))
 else
  bif (t8 r2) then
   (spec_l34Done.f k a0 a1 a2 a3 a4 a5 a6 a7 a8 a9 a10 a11 a12 a13 a14 a15 a16 a17 a18 a19 a20 a21 a22 a23 a24 a25 a26 r2.1 r2.2.1 (t2 r2).1 (t3 r2).1 (t4 r2).1 (t5 r2).1 (t6 r2).1 (t7 r2).1 (t8 r1).1 (t9 r1).1 (t9 r1.2).1 (t9 (t2 r1)).1 (t9 (t3 r1)).1 (t9 (t4 r1)).1 (t9 (t5 r1)).1 (t9 (t6 r1)).1 (t9 (t7 r1)).1 (t9 (t8 r1)).1 (t9 (t9 r1)).1 (t9 (t9 r1.2)).1 (t9 (t9 (t2 r1))).1 (t9 (t9 (t3 r1))).1 (t9 (t9 (t4 r1))).1 (t9 (t9 (t5 r1))).1 (t9 (t9 (t6 r1))).1 (t9 (t9 (t7 r1))).1 (t9 (t9 (t8 r1))) (!a9)).bind fun r5=>
   some (r5.1,r5.2.1,(t2 r5).1,(t3 r5).1,(t4 r5).1,(t5 r5).1,(t6 r5).1,(t7 r5).1,(t8 r5).1,(t9 r5).1,(t9 r5.2).1,(t9 (t2 r5)).1,(t9 (t3 r5)).1,(t9 (t4 r5)).1,(t9 (t5 r5)).1,(t9 (t6 r5)).1,(t9 (t7 r5)).1,(t9 (t8 r5)).1,(t9 (t9 r5)).1,(t9 (t9 r5.2)).1,(t9 (t9 (t2 r5))).1,(t9 (t9 (t3 r5))).1,(t9 (t9 (t4 r5))).1,(t9 (t9 (t5 r5))).1,(t9 (t9 (t6 r5))).1,(t9 (t9 (t7 r5))).1,(t9 (t9 (t8 r5))).1,(t9 (t9 (t9 r5))))
  else
   (spec_l34Done.f k a0 a1 a2 a3 a4 a5 a6 a7 a8 a9 a10 a11 a12 a13 a14 a15 a16 a17 a18 a19 a20 a21 a22 a23 a24 a25 a26 r2.1 r2.2.1 (t2 r2).1 (t3 r2).1 (t4 r2).1 (t5 r2).1 (t6 r2).1 (t7 r2).1 (t8 r1).1 (t9 r1).1 (t9 r1.2).1 (t9 (t2 r1)).1 (t9 (t3 r1)).1 (t9 (t4 r1)).1 (t9 (t5 r1)).1 (t9 (t6 r1)).1 (t9 (t7 r1)).1 (t9 (t8 r1)).1 (t9 (t9 r1)).1 (t9 (t9 r1.2)).1 (t9 (t9 (t2 r1))).1 (t9 (t9 (t3 r1))).1 (t9 (t9 (t4 r1))).1 (t9 (t9 (t5 r1))).1 (t9 (t9 (t6 r1))).1 (t9 (t9 (t7 r1))).1 (t9 (t9 (t8 r1))) false).bind fun r6=>
   some (r6.1,r6.2.1,(t2 r6).1,(t3 r6).1,(t4 r6).1,(t5 r6).1,(t6 r6).1,(t7 r6).1,(t8 r6).1,(t9 r6).1,(t9 r6.2).1,(t9 (t2 r6)).1,(t9 (t3 r6)).1,(t9 (t4 r6)).1,(t9 (t5 r6)).1,(t9 (t6 r6)).1,(t9 (t7 r6)).1,(t9 (t8 r6)).1,(t9 (t9 r6)).1,(t9 (t9 r6.2)).1,(t9 (t9 (t2 r6))).1,(t9 (t9 (t3 r6))).1,(t9 (t9 (t4 r6))).1,(t9 (t9 (t5 r6))).1,(t9 (t9 (t6 r6))).1,(t9 (t9 (t7 r6))).1,(t9 (t9 (t8 r6))).1,(t9 (t9 (t9 r6))))
def laws_toIntS.s3 {R:Type} (k:Nat) (v0:LI) (e0:LI->Option R) (rec:Int->LI->Option R) (v1:Int) (v2:LI):Option R:=
 bif decide (v1<(v0.length:Int)) then
  chk ((decide (0<=v1))&&(decide (v1<(v0.length:Int))))<|
  chk ((decide (0<=v1))&&(decide (v1<(v2.length:Int))))<|
  rec (IntKind.wrap .i64 (v1+1)) (v2.set v1.toNat (v0.getD v1.toNat 0))
 else
  e0 v2
def laws_toIntS.l3 {R:Type} (k:Nat) (v0:LI) (e0:LI->Option R) (n:Nat) (v1:Int) (v2:LI):Option R:=
 V.iter (A:=Int×LI) (fun rec a=>laws_toIntS.s3 k v0 e0 (fun c0 c1=>rec (c0,c1)) a.1 a.2) n (v1,v2)
theorem laws_toIntS.l3_succ {R:Type} (k:Nat) (v0:LI) (e0:LI->Option R) (n:Nat) (v1:Int) (v2:LI):laws_toIntS.l3 (R:=R) k v0 e0 (n+1) v1 v2=laws_toIntS.s3 k v0 e0 (laws_toIntS.l3 k v0 e0 n) v1 v2:=rfl
def laws_toIntS.f (k:Nat) (a:LI):Option (LI):=
 chk ((decide (0<=(a.length:Int)))&&(decide (((a.length:Int).toNat)*8<=room)))<|
 laws_toIntS.l3 k a (fun x1=>
  some x1) k 0 (List.replicate ((a.length:Int).toNat) 0)
def laws_toRules.f (k:Nat) (a0 a1:Int) (a2 a3:Bool) (a4 a5:LI) (a6 a7:Int):Option (Int×Int×Bool×Bool×LI×LI×Int×Int):=
 (laws_toIntS.f k a4).bind fun r1=>
 (laws_toIntS.f k a5).bind fun r2=>
 some (a0,a1,a2,a3,r1,r2,a6,a7)
def laws_toIntSS.s3 {R:Type} (k:Nat) (v0:LL) (e0:LL->Option R) (rec:Int->LL->Option R) (v1:Int) (v2:LL):Option R:=
 bif decide (v1<(v0.length:Int)) then
  chk ((decide (0<=v1))&&(decide (v1<(v0.length:Int))))<|
  (laws_toIntS.f k (v0.getD v1.toNat [])).bind fun r1=>
  chk ((decide (0<=v1))&&(decide (v1<(v2.length:Int))))<|
  rec (IntKind.wrap .i64 (v1+1)) (v2.set v1.toNat r1)
 else
  e0 v2
def laws_toIntSS.l3 {R:Type} (k:Nat) (v0:LL) (e0:LL->Option R) (n:Nat) (v1:Int) (v2:LL):Option R:=
 V.iter (A:=Int×LL) (fun rec a=>laws_toIntSS.s3 k v0 e0 (fun c0 c1=>rec (c0,c1)) a.1 a.2) n (v1,v2)
theorem laws_toIntSS.l3_succ {R:Type} (k:Nat) (v0:LL) (e0:LL->Option R) (n:Nat) (v1:Int) (v2:LL):laws_toIntSS.l3 (R:=R) k v0 e0 (n+1) v1 v2=laws_toIntSS.s3 k v0 e0 (laws_toIntSS.l3 k v0 e0 n) v1 v2:=rfl
def laws_toIntSS.f (k:Nat) (a:LL):Option (LL):=
 chk ((decide (0<=(a.length:Int)))&&(decide (((a.length:Int).toNat)*24<=room)))<|
 laws_toIntSS.l3 k a (fun x2=>
  some x2) k 0 (List.replicate ((a.length:Int).toNat) [])
def laws_toGame.f (k:Nat) (a0 a1:Int) (a2 a3:Bool) (a4 a5:LI) (a6 a7:Int) (a8:LL) (a9 a10:LI) (a11 a12 a13:Int):Option (Int×Int×Bool×Bool×LI×LI×Int×Int×LL×LI×LI×Int×Int×Int):=
 (laws_toRules.f k a0 a1 a2 a3 a4 a5 a6 a7).bind fun r1=>
 (laws_toIntSS.f k a8).bind fun r2=>
 (laws_toIntS.f k a9).bind fun r3=>
 (laws_toIntS.f k a10).bind fun r4=>
 some (r1.1,r1.2.1,(t2 r1).1,(t3 r1).1,(t4 r1).1,(t5 r1).1,(t6 r1).1,(t7 r1),r2,r3,r4,a11,a12,a13)
def laws_toTable.f (k:Nat) (a0 a1:Int) (a2 a3:Bool) (a4 a5:LI) (a6 a7:Int) (a8:LI) (a9:Bool) (a10:LI) (a11 a12:Int) (a13 a14:Bool) (a15 a16:LI) (a17 a18:Int) (a19:LL) (a20 a21:LI) (a22 a23 a24:Int) (a25:LI) (a26:LL):Option (Int×Int×Bool×Bool×LI×LI×Int×Int×LI×Bool×LI×Int×Int×Bool×Bool×LI×LI×Int×Int×LL×LI×LI×Int×Int×Int×LI×LL):=
 (laws_toRules.f k a0 a1 a2 a3 a4 a5 a6 a7).bind fun r1=>
 (laws_toIntS.f k a8).bind fun r2=>
 (laws_toIntS.f k a10).bind fun r3=>
 (laws_toGame.f k a11 a12 a13 a14 a15 a16 a17 a18 a19 a20 a21 a22 a23 a24).bind fun r4=>
 (laws_toIntS.f k a25).bind fun r5=>
 (laws_toIntSS.f k a26).bind fun r6=>
 some (r1.1,r1.2.1,(t2 r1).1,(t3 r1).1,(t4 r1).1,(t5 r1).1,(t6 r1).1,(t7 r1),r2,a9,r3,r4.1,r4.2.1,(t2 r4).1,(t3 r4).1,(t4 r4).1,(t5 r4).1,(t6 r4).1,(t7 r4).1,(t8 r4).1,(t9 r4).1,(t9 r4.2).1,(t9 (t2 r4)).1,(t9 (t3 r4)).1,(t9 (t4 r4)),r5,r6)
def impl_copyOf.f (k:Nat) (a:LI):Option (LI):=
 chk (decide ((0+a.length)*8<=room))<|
 some ([]++a)
def impl_Rules_copied.f (k:Nat) (a0 a1:Int) (a2 a3:Bool) (a4 a5:LI) (a6 a7:Int):Option (Int×Int×Bool×Bool×LI×LI×Int×Int):=
 (impl_copyOf.f k a4).bind fun r1=>
 (impl_copyOf.f k a5).bind fun r2=>
 some (a0,a1,a2,a3,r1,r2,a6,a7)
def impl_copyRows.s3 {R:Type} (k:Nat) (v0:LL) (v1:Int) (e0:LL->Option R) (rec:Int->LL->Option R) (v2:Int) (v3:LL):Option R:=
 bif decide (v2<v1) then
  chk ((decide (0<=v2))&&(decide (v2<(v0.length:Int))))<|
  (impl_copyOf.f k (v0.getD v2.toNat [])).bind fun r1=>
  chk (decide ((v3.length+1)*24<=room))<|
  rec (IntKind.wrap .i64 (v2+1)) (v3++[r1])
 else
  e0 v3
def impl_copyRows.l3 {R:Type} (k:Nat) (v0:LL) (v1:Int) (e0:LL->Option R) (n:Nat) (v2:Int) (v3:LL):Option R:=
 V.iter (A:=Int×LL) (fun rec a=>impl_copyRows.s3 k v0 v1 e0 (fun c0 c1=>rec (c0,c1)) a.1 a.2) n (v2,v3)
theorem impl_copyRows.l3_succ {R:Type} (k:Nat) (v0:LL) (v1:Int) (e0:LL->Option R) (n:Nat) (v2:Int) (v3:LL):impl_copyRows.l3 (R:=R) k v0 v1 e0 (n+1) v2 v3=impl_copyRows.s3 k v0 v1 e0 (impl_copyRows.l3 k v0 v1 e0 n) v2 v3:=rfl
def impl_copyRows.f (k:Nat) (a:LL):Option (LL):=
 impl_copyRows.l3 k a (a.length:Int) (fun x2=>
  some x2) k 0 []
def impl_Game_copied.f (k:Nat) (a0 a1:Int) (a2 a3:Bool) (a4 a5:LI) (a6 a7:Int) (a8:LL) (a9 a10:LI) (a11 a12 a13:Int):Option (Int×Int×Bool×Bool×LI×LI×Int×Int×LL×LI×LI×Int×Int×Int):=
 (impl_Rules_copied.f k a0 a1 a2 a3 a4 a5 a6 a7).bind fun r1=>
 (impl_copyRows.f k a8).bind fun r2=>
 (impl_copyOf.f k a9).bind fun r3=>
 (impl_copyOf.f k a10).bind fun r4=>
 some (r1.1,r1.2.1,(t2 r1).1,(t3 r1).1,(t4 r1).1,(t5 r1).1,(t6 r1).1,(t7 r1),r2,r3,r4,a11,a12,a13)
def impl_Table_copied.f (k:Nat) (a0 a1:Int) (a2 a3:Bool) (a4 a5:LI) (a6 a7:Int) (a8:LI) (a9:Bool) (a10:LI) (a11 a12:Int) (a13 a14:Bool) (a15 a16:LI) (a17 a18:Int) (a19:LL) (a20 a21:LI) (a22 a23 a24:Int) (a25:LI) (a26:LL):Option (Int×Int×Bool×Bool×LI×LI×Int×Int×LI×Bool×LI×Int×Int×Bool×Bool×LI×LI×Int×Int×LL×LI×LI×Int×Int×Int×LI×LL):=
 (impl_Rules_copied.f k a0 a1 a2 a3 a4 a5 a6 a7).bind fun r1=>
 (impl_copyOf.f k a8).bind fun r2=>
 (impl_copyOf.f k a10).bind fun r3=>
 (impl_Game_copied.f k a11 a12 a13 a14 a15 a16 a17 a18 a19 a20 a21 a22 a23 a24).bind fun r4=>
 (impl_copyOf.f k a25).bind fun r5=>
 (impl_copyRows.f k a26).bind fun r6=>
 some (r1.1,r1.2.1,(t2 r1).1,(t3 r1).1,(t4 r1).1,(t5 r1).1,(t6 r1).1,(t7 r1),r2,a9,r3,r4.1,r4.2.1,(t2 r4).1,(t3 r4).1,(t4 r4).1,(t5 r4).1,(t6 r4).1,(t7 r4).1,(t8 r4).1,(t9 r4).1,(t9 r4.2).1,(t9 (t2 r4)).1,(t9 (t3 r4)).1,(t9 (t4 r4)),r5,r6)
def impl_InRange.f (k:Nat) (a g i:Int):Option (Bool):=
 bif decide (g<=a) then
  some (decide (a<=i))
 else
  some false
def impl_isTest.f (k:Nat) (a:Int):Option (Bool):=
 (impl_InRange.f k a 100 103).bind fun r1=>
 bif r1 then
  some true
 else
  (impl_InRange.f k a 200 212).bind fun r2=>
  bif r2 then
   some true
  else
   (impl_InRange.f k a 300 312).bind fun r3=>
   bif r3 then
    some true
   else
    some (a==400)
def impl_IsPattern.s3 {R:Type} (k:Nat) (v2:LI) (v3:Int) (e0 e1:Int->Option R) (rec:Int->Int->Option R) (v1 v4:Int):Option R:=
 bif decide (v4<v3) then
  chk ((decide (0<=v4))&&(decide (v4<(v2.length:Int))))<|
  (impl_isTest.f k (v2.getD v4.toNat 0)).bind fun r1=>
  bif r1 then
   rec (IntKind.wrap .i64 (v1+1)) (IntKind.wrap .i64 (v4+1))
  else
   bif ((v2.getD v4.toNat 0)==(-1)) then
    bif decide (v1>=1) then
     rec v1 (IntKind.wrap .i64 (v4+1))
    else
     bif ((v2.getD v4.toNat 0)==(-2)) then
      bif decide (v1>=2) then
       rec (IntKind.wrap .i64 (v1-1)) (IntKind.wrap .i64 (v4+1))
      else
       e0 v1
     else
      bif ((v2.getD v4.toNat 0)==(-3)) then
       bif decide (v1>=2) then
        rec (IntKind.wrap .i64 (v1-1)) (IntKind.wrap .i64 (v4+1))
       else
        e0 v1
      else
       e0 v1
   else
    bif ((v2.getD v4.toNat 0)==(-2)) then
     bif decide (v1>=2) then
      rec (IntKind.wrap .i64 (v1-1)) (IntKind.wrap .i64 (v4+1))
     else
      e0 v1
    else
     bif ((v2.getD v4.toNat 0)==(-3)) then
      bif decide (v1>=2) then
       rec (IntKind.wrap .i64 (v1-1)) (IntKind.wrap .i64 (v4+1))
      else
       e0 v1
     else
      e0 v1
 else
  e1 v1
def impl_IsPattern.l3 {R:Type} (k:Nat) (v2:LI) (v3:Int) (e0 e1:Int->Option R) (n:Nat) (v1 v4:Int):Option R:=
 V.iter (A:=Int×Int) (fun rec a=>impl_IsPattern.s3 k v2 v3 e0 e1 (fun c0 c1=>rec (c0,c1)) a.1 a.2) n (v1,v4)
theorem impl_IsPattern.l3_succ {R:Type} (k:Nat) (v2:LI) (v3:Int) (e0 e1:Int->Option R) (n:Nat) (v1 v4:Int):impl_IsPattern.l3 (R:=R) k v2 v3 e0 e1 (n+1) v1 v4=impl_IsPattern.s3 k v2 v3 e0 e1 (impl_IsPattern.l3 k v2 v3 e0 e1 n) v1 v4:=rfl
def impl_IsPattern.f (k:Nat) (a:LI):Option (Bool):=
 impl_IsPattern.l3 k a (a.length:Int) (fun x2=>
  some false) (fun x3=>
  (impl_InRange.f k (a.length:Int) 1 20).bind fun r4=>
  bif r4 then
   some (x3==1)
  else
   some false) k 0 0
def impl_isMaybe.f (k:Nat) (a:LI):Option (Bool):=
 bif ((a.length:Int)==0) then
  some true
 else
  (impl_IsPattern.f k a).bind fun r1=>
  some r1
def impl_IsRules.f (k:Nat) (a0 a1:Int) (a2 a3:Bool) (a4 a5:LI) (a6 a7:Int):Option (Bool):=
 (impl_InRange.f k a0 2 6).bind fun r1=>
 bif r1 then
  (impl_InRange.f k a1 1 8).bind fun r2=>
  bif r2 then
   bif a2 then
    (impl_isMaybe.f k a4).bind fun r3=>
    bif r3 then
     (impl_isMaybe.f k a5).bind fun r4=>
     bif r4 then
      (impl_InRange.f k a6 1 4).bind fun r5=>
      bif r5 then
       (impl_InRange.f k a7 1 400).bind fun r6=>
       some r6
      else
       some false
     else
      some false
    else
     some false
   else
    bif a3 then
     (impl_isMaybe.f k a4).bind fun r7=>
     bif r7 then
      (impl_isMaybe.f k a5).bind fun r8=>
      bif r8 then
       (impl_InRange.f k a6 1 4).bind fun r9=>
       bif r9 then
        (impl_InRange.f k a7 1 400).bind fun r10=>
        some r10
       else
        some false
      else
       some false
     else
      some false
    else
     some false
  else
   some false
 else
  some false
def strings_Join.f (k:Nat) (a0:List ByteArray) (a1:ByteArray):Option (ByteArray):=
 chk (Nat.ble a0.length 140737488355328&&Nat.ble (joinB a0 a1).size 140737488355328)<|some (joinB a0 a1)
def strconv_Itoa.f (k:Nat) (a0:Int):Option (ByteArray):=
 chk (decide ((-9223372036854775808:Int)<=a0)&&decide (a0<=9223372036854775807))<|some (itoaB a0)
def impl_FormatInt.f (k:Nat) (a:Int):Option (ByteArray):=
 (strconv_Itoa.f k a).bind fun r1=>
 some r1
def impl_RulesWord.f (k:Nat) (a0 a1:Int) (a2 a3:Bool) (a4 a5:LI) (a6 a7:Int):Option (ByteArray):=
 bif a2 then
  bif a3 then
   some (⟨#[98,111,116,104]⟩:ByteArray)
  else
   bif a2 then
    some (⟨#[115,117,105,116]⟩:ByteArray)
   else
    bif a3 then
     some (⟨#[114,97,110,107]⟩:ByteArray)
    else
     some ByteArray.empty
 else
  bif a2 then
   some (⟨#[115,117,105,116]⟩:ByteArray)
  else
   bif a3 then
    some (⟨#[114,97,110,107]⟩:ByteArray)
   else
    some ByteArray.empty
def impl_signText.f (k:Nat) (a:Int):Option (ByteArray):=
 bif (a==400) then
  some (⟨#[114]⟩:ByteArray)
 else
  bif decide (a>=300) then
   chk ((decide (0<=(IntKind.wrap .i64 ((IntKind.wrap .i64 (a-300))+1))))&&(decide ((IntKind.wrap .i64 ((IntKind.wrap .i64 (a-300))+1))<=13)))<|
   chk ((decide (0<=(IntKind.wrap .i64 (a-300))))&&(decide ((IntKind.wrap .i64 (a-300))<=(IntKind.wrap .i64 ((IntKind.wrap .i64 (a-300))+1)))))<|
   chk (decide (((⟨#[50,51,52,53,54,55,56,57,84,74,81,75,65]⟩:ByteArray).extract ((IntKind.wrap .i64 (a-300)).toNat) ((IntKind.wrap .i64 ((IntKind.wrap .i64 (a-300))+1)).toNat)).size+(⟨#[43]⟩:ByteArray).size<=maxI))<|
   some (((⟨#[50,51,52,53,54,55,56,57,84,74,81,75,65]⟩:ByteArray).extract ((IntKind.wrap .i64 (a-300)).toNat) ((IntKind.wrap .i64 ((IntKind.wrap .i64 (a-300))+1)).toNat))++(⟨#[43]⟩:ByteArray))
  else
   bif decide (a>=200) then
    chk ((decide (0<=(IntKind.wrap .i64 ((IntKind.wrap .i64 (a-200))+1))))&&(decide ((IntKind.wrap .i64 ((IntKind.wrap .i64 (a-200))+1))<=13)))<|
    chk ((decide (0<=(IntKind.wrap .i64 (a-200))))&&(decide ((IntKind.wrap .i64 (a-200))<=(IntKind.wrap .i64 ((IntKind.wrap .i64 (a-200))+1)))))<|
    some ((⟨#[50,51,52,53,54,55,56,57,84,74,81,75,65]⟩:ByteArray).extract ((IntKind.wrap .i64 (a-200)).toNat) ((IntKind.wrap .i64 ((IntKind.wrap .i64 (a-200))+1)).toNat))
   else
    chk ((decide (0<=(IntKind.wrap .i64 ((IntKind.wrap .i64 (a-100))+1))))&&(decide ((IntKind.wrap .i64 ((IntKind.wrap .i64 (a-100))+1))<=4)))<|
    chk ((decide (0<=(IntKind.wrap .i64 (a-100))))&&(decide ((IntKind.wrap .i64 (a-100))<=(IntKind.wrap .i64 ((IntKind.wrap .i64 (a-100))+1)))))<|
    some ((⟨#[99,100,104,115]⟩:ByteArray).extract ((IntKind.wrap .i64 (a-100)).toNat) ((IntKind.wrap .i64 ((IntKind.wrap .i64 (a-100))+1)).toNat))
def impl_PatternText.s5 {R:Type} (k:Nat) (v0:LI) (v1:Int) (e0:List ByteArray->Option R) (rec:Int->List ByteArray->Option R) (v2:Int) (v3:List ByteArray):Option R:=
 bif decide (v2<v1) then
  chk ((decide (0<=v2))&&(decide (v2<(v0.length:Int))))<|
  bif ((v0.getD v2.toNat 0)==(-1)) then
   chk ((decide (0<=(IntKind.wrap .i64 ((v3.length:Int)-1))))&&(decide ((IntKind.wrap .i64 ((v3.length:Int)-1))<(v3.length:Int))))<|
   chk (decide ((⟨#[33]⟩:ByteArray).size+(v3.getD ((IntKind.wrap .i64 ((v3.length:Int)-1)).toNat) ByteArray.empty).size<=maxI))<|
   chk ((decide (0<=(IntKind.wrap .i64 ((v3.length:Int)-1))))&&(decide ((IntKind.wrap .i64 ((v3.length:Int)-1))<(v3.length:Int))))<|
   rec (IntKind.wrap .i64 (v2+1)) (v3.set ((IntKind.wrap .i64 ((v3.length:Int)-1)).toNat) ((⟨#[33]⟩:ByteArray)++(v3.getD ((IntKind.wrap .i64 ((v3.length:Int)-1)).toNat) ByteArray.empty)))
  else
   bif ((v0.getD v2.toNat 0)==(-2)) then
    chk ((decide (0<=(IntKind.wrap .i64 ((v3.length:Int)-2))))&&(decide ((IntKind.wrap .i64 ((v3.length:Int)-2))<=(v3.length:Int))))<|
    chk (decide (0<=(IntKind.wrap .i64 ((v3.length:Int)-2))))<|
    chk ((decide (0<=(IntKind.wrap .i64 ((v3.length:Int)-2))))&&(decide ((IntKind.wrap .i64 ((v3.length:Int)-2))<(v3.length:Int))))<|
    chk (decide ((⟨#[40]⟩:ByteArray).size+(v3.getD ((IntKind.wrap .i64 ((v3.length:Int)-2)).toNat) ByteArray.empty).size<=maxI))<|
    chk (decide (((⟨#[40]⟩:ByteArray)++(v3.getD ((IntKind.wrap .i64 ((v3.length:Int)-2)).toNat) ByteArray.empty)).size+(⟨#[38]⟩:ByteArray).size<=maxI))<|
    chk ((decide (0<=(IntKind.wrap .i64 ((v3.length:Int)-1))))&&(decide ((IntKind.wrap .i64 ((v3.length:Int)-1))<(v3.length:Int))))<|
    chk (decide ((((⟨#[40]⟩:ByteArray)++(v3.getD ((IntKind.wrap .i64 ((v3.length:Int)-2)).toNat) ByteArray.empty))++(⟨#[38]⟩:ByteArray)).size+(v3.getD ((IntKind.wrap .i64 ((v3.length:Int)-1)).toNat) ByteArray.empty).size<=maxI))<|
    chk (decide (((((⟨#[40]⟩:ByteArray)++(v3.getD ((IntKind.wrap .i64 ((v3.length:Int)-2)).toNat) ByteArray.empty))++(⟨#[38]⟩:ByteArray))++(v3.getD ((IntKind.wrap .i64 ((v3.length:Int)-1)).toNat) ByteArray.empty)).size+(⟨#[41]⟩:ByteArray).size<=maxI))<|
    chk (decide ((((v3.take ((IntKind.wrap .i64 ((v3.length:Int)-2)).toNat)).length)+1)*16<=room))<|
    rec (IntKind.wrap .i64 (v2+1)) ((v3.take ((IntKind.wrap .i64 ((v3.length:Int)-2)).toNat))++([((((⟨#[40]⟩:ByteArray)++(v3.getD ((IntKind.wrap .i64 ((v3.length:Int)-2)).toNat) ByteArray.empty))++(⟨#[38]⟩:ByteArray))++(v3.getD ((IntKind.wrap .i64 ((v3.length:Int)-1)).toNat) ByteArray.empty))++(⟨#[41]⟩:ByteArray)]))
   else
    bif ((v0.getD v2.toNat 0)==(-3)) then
     chk ((decide (0<=(IntKind.wrap .i64 ((v3.length:Int)-2))))&&(decide ((IntKind.wrap .i64 ((v3.length:Int)-2))<=(v3.length:Int))))<|
     chk (decide (0<=(IntKind.wrap .i64 ((v3.length:Int)-2))))<|
     chk ((decide (0<=(IntKind.wrap .i64 ((v3.length:Int)-2))))&&(decide ((IntKind.wrap .i64 ((v3.length:Int)-2))<(v3.length:Int))))<|
     chk (decide ((⟨#[40]⟩:ByteArray).size+(v3.getD ((IntKind.wrap .i64 ((v3.length:Int)-2)).toNat) ByteArray.empty).size<=maxI))<|
     chk (decide (((⟨#[40]⟩:ByteArray)++(v3.getD ((IntKind.wrap .i64 ((v3.length:Int)-2)).toNat) ByteArray.empty)).size+(⟨#[124]⟩:ByteArray).size<=maxI))<|
     chk ((decide (0<=(IntKind.wrap .i64 ((v3.length:Int)-1))))&&(decide ((IntKind.wrap .i64 ((v3.length:Int)-1))<(v3.length:Int))))<|
     chk (decide ((((⟨#[40]⟩:ByteArray)++(v3.getD ((IntKind.wrap .i64 ((v3.length:Int)-2)).toNat) ByteArray.empty))++(⟨#[124]⟩:ByteArray)).size+(v3.getD ((IntKind.wrap .i64 ((v3.length:Int)-1)).toNat) ByteArray.empty).size<=maxI))<|
     chk (decide (((((⟨#[40]⟩:ByteArray)++(v3.getD ((IntKind.wrap .i64 ((v3.length:Int)-2)).toNat) ByteArray.empty))++(⟨#[124]⟩:ByteArray))++(v3.getD ((IntKind.wrap .i64 ((v3.length:Int)-1)).toNat) ByteArray.empty)).size+(⟨#[41]⟩:ByteArray).size<=maxI))<|
     chk (decide ((((v3.take ((IntKind.wrap .i64 ((v3.length:Int)-2)).toNat)).length)+1)*16<=room))<|
     rec (IntKind.wrap .i64 (v2+1)) ((v3.take ((IntKind.wrap .i64 ((v3.length:Int)-2)).toNat))++([((((⟨#[40]⟩:ByteArray)++(v3.getD ((IntKind.wrap .i64 ((v3.length:Int)-2)).toNat) ByteArray.empty))++(⟨#[124]⟩:ByteArray))++(v3.getD ((IntKind.wrap .i64 ((v3.length:Int)-1)).toNat) ByteArray.empty))++(⟨#[41]⟩:ByteArray)]))
    else
     (impl_signText.f k (v0.getD v2.toNat 0)).bind fun r2=>
     chk (decide ((v3.length+1)*16<=room))<|
     rec (IntKind.wrap .i64 (v2+1)) (v3++[r2])
 else
  e0 v3
def impl_PatternText.l5 {R:Type} (k:Nat) (v0:LI) (v1:Int) (e0:List ByteArray->Option R) (n:Nat) (v2:Int) (v3:List ByteArray):Option R:=
 V.iter (A:=Int×List ByteArray) (fun rec a=>impl_PatternText.s5 k v0 v1 e0 (fun c0 c1=>rec (c0,c1)) a.1 a.2) n (v2,v3)
theorem impl_PatternText.l5_succ {R:Type} (k:Nat) (v0:LI) (v1:Int) (e0:List ByteArray->Option R) (n:Nat) (v2:Int) (v3:List ByteArray):impl_PatternText.l5 (R:=R) k v0 v1 e0 (n+1) v2 v3=impl_PatternText.s5 k v0 v1 e0 (impl_PatternText.l5 k v0 v1 e0 n) v2 v3:=rfl
def impl_PatternText.f (k:Nat) (a:LI):Option (ByteArray):=
 (impl_IsPattern.f k a).bind fun r1=>
 bif (!r1) then
  some ByteArray.empty
 else
  impl_PatternText.l5 k a (a.length:Int) (fun x3=>
   chk (decide (0<(x3.length:Int)))<|
   some (x3.getD 0 ByteArray.empty)) k 0 []
def impl_maybeText.f (k:Nat) (a:LI):Option (ByteArray):=
 bif ((a.length:Int)==0) then
  some (⟨#[45]⟩:ByteArray)
 else
  (impl_PatternText.f k a).bind fun r1=>
  some r1
def impl_RulesText.f (k:Nat) (a0 a1:Int) (a2 a3:Bool) (a4 a5:LI) (a6 a7:Int):Option (ByteArray):=
 (impl_IsRules.f k a0 a1 a2 a3 a4 a5 a6 a7).bind fun r1=>
 bif (!r1) then
  some ByteArray.empty
 else
  (impl_FormatInt.f k a0).bind fun r2=>
  chk (decide ((⟨#[112,108,97,121,101,114,115,61]⟩:ByteArray).size+r2.size<=maxI))<|
  (impl_FormatInt.f k a1).bind fun r3=>
  chk (decide ((⟨#[101,97,99,104,61]⟩:ByteArray).size+r3.size<=maxI))<|
  (impl_RulesWord.f k a0 a1 a2 a3 a4 a5 a6 a7).bind fun r4=>
  chk (decide ((⟨#[109,97,116,99,104,61]⟩:ByteArray).size+r4.size<=maxI))<|
  (impl_maybeText.f k a4).bind fun r5=>
  chk (decide ((⟨#[119,105,108,100,61]⟩:ByteArray).size+r5.size<=maxI))<|
  (impl_maybeText.f k a5).bind fun r6=>
  chk (decide ((⟨#[115,107,105,112,61]⟩:ByteArray).size+r6.size<=maxI))<|
  (impl_FormatInt.f k a6).bind fun r7=>
  chk (decide ((⟨#[116,97,107,101,61]⟩:ByteArray).size+r7.size<=maxI))<|
  (impl_FormatInt.f k a7).bind fun r8=>
  chk (decide ((⟨#[108,105,109,105,116,61]⟩:ByteArray).size+r8.size<=maxI))<|
  (strings_Join.f k ([(⟨#[112,108,97,121,101,114,115,61]⟩:ByteArray)++r2,(⟨#[101,97,99,104,61]⟩:ByteArray)++r3,(⟨#[109,97,116,99,104,61]⟩:ByteArray)++r4,(⟨#[119,105,108,100,61]⟩:ByteArray)++r5,(⟨#[115,107,105,112,61]⟩:ByteArray)++r6,(⟨#[116,97,107,101,61]⟩:ByteArray)++r7,(⟨#[108,105,109,105,116,61]⟩:ByteArray)++r8]) (⟨#[32]⟩:ByteArray)).bind fun r9=>
  some r9
def impl_SplitWords.s3 {R:Type} (k:Nat) (v0:ByteArray) (v1 v3:Int) (e0:Int->List ByteArray->Option R) (rec:Int->Int->List ByteArray->Option R) (v2 v4:Int) (v5:List ByteArray):Option R:=
 bif decide (v4<v3) then
  chk ((decide (0<=v4))&&(decide (v4<(v0.size:Int))))<|
  bif ((sb v0 v4.toNat)==v1) then
   chk ((decide (0<=v4))&&(decide (v4<=(v0.size:Int))))<|
   chk ((decide (0<=v2))&&(decide (v2<=v4)))<|
   chk (decide ((v5.length+1)*16<=room))<|
   rec (IntKind.wrap .i64 (v4+1)) (IntKind.wrap .i64 (v4+1)) (v5++[v0.extract v2.toNat v4.toNat])
  else
   rec v2 (IntKind.wrap .i64 (v4+1)) v5
 else
  e0 v2 v5
def impl_SplitWords.l3 {R:Type} (k:Nat) (v0:ByteArray) (v1 v3:Int) (e0:Int->List ByteArray->Option R) (n:Nat) (v2 v4:Int) (v5:List ByteArray):Option R:=
 V.iter (A:=Int×Int×List ByteArray) (fun rec a=>impl_SplitWords.s3 k v0 v1 v3 e0 (fun c0 c1 c2=>rec (c0,c1,c2)) a.1 a.2.1 (t2 a)) n (v2,v4,v5)
theorem impl_SplitWords.l3_succ {R:Type} (k:Nat) (v0:ByteArray) (v1 v3:Int) (e0:Int->List ByteArray->Option R) (n:Nat) (v2 v4:Int) (v5:List ByteArray):impl_SplitWords.l3 (R:=R) k v0 v1 v3 e0 (n+1) v2 v4 v5=impl_SplitWords.s3 k v0 v1 v3 e0 (impl_SplitWords.l3 k v0 v1 v3 e0 n) v2 v4 v5:=rfl
def impl_SplitWords.f (k:Nat) (a:ByteArray) (g:Int):Option (List ByteArray):=
 impl_SplitWords.l3 k a g (a.size:Int) (fun x1 x2=>
  chk ((decide (0<=(a.size:Int)))&&(decide ((a.size:Int)<=(a.size:Int))))<|
  chk ((decide (0<=x1))&&(decide (x1<=(a.size:Int))))<|
  chk (decide ((x2.length+1)*16<=room))<|
  some (x2++[a.extract x1.toNat (a.size:Int).toNat])) k 0 0 []
def strings_CutPrefix.f (k:Nat) (a0:ByteArray) (a1:ByteArray):Option (ByteArray×Bool):=
 some (trimPre a0 a1,hasPre a0 a1)
def impl_ValueAfter.f (k:Nat) (a g:ByteArray):Option (ByteArray×Bool):=
 chk (decide (g.size+(⟨#[61]⟩:ByteArray).size<=maxI))<|
 (strings_CutPrefix.f k a (g++(⟨#[61]⟩:ByteArray))).bind fun r1=>
 bif (!r1.2) then
  some (ByteArray.empty,false)
 else
  some (r1.1,true)
def strconv_Atoi.f (k:Nat) (a0:ByteArray):Option (Int×Bool):=
 chk (Nat.ble a0.size 18)<|some (atoiN a0,atoiOK a0)
def impl_ParseInt.f (k:Nat) (a:ByteArray):Option (Int×Bool):=
 bif decide ((a.size:Int)>13) then
  some (0,false)
 else
  (strconv_Atoi.f k a).bind fun r1=>
  bif (!r1.2) then
   some (0,false)
  else
   (impl_InRange.f k r1.1 0 1000000000000).bind fun r2=>
   bif (!r2) then
    some (0,false)
   else
    (impl_FormatInt.f k r1.1).bind fun r3=>
    bif (!(r3.toList==a.toList)) then
     some (0,false)
    else
     some (r1.1,true)
def impl_ParsePattern.f (k:Nat) (a0:ByteArray):Option (List Int×Bool):=
 Note.parseF (impl_PatternText.f k) a0
def impl_ParseRules.s7 {R:Type} (k:Nat) (v1:Int) (v9 v11:List ByteArray) (e0 e1:List ByteArray->Option R) (rec:Int->List ByteArray->Option R) (v2:Int) (v10:List ByteArray):Option R:=
 bif decide (v2<v1) then
  chk ((decide (0<=v2))&&(decide (v2<(v11.length:Int))))<|
  chk ((decide (0<=v2))&&(decide (v2<(v9.length:Int))))<|
  (impl_ValueAfter.f k (v11.getD v2.toNat ByteArray.empty) (v9.getD v2.toNat ByteArray.empty)).bind fun r2=>
  bif (!r2.2) then
   e0 v10
  else
   chk (decide ((v10.length+1)*16<=room))<|
   rec (IntKind.wrap .i64 (v2+1)) (v10++[r2.1])
 else
  e1 v10
def impl_ParseRules.l7 {R:Type} (k:Nat) (v1:Int) (v9 v11:List ByteArray) (e0 e1:List ByteArray->Option R) (n:Nat) (v2:Int) (v10:List ByteArray):Option R:=
 V.iter (A:=Int×List ByteArray) (fun rec a=>impl_ParseRules.s7 k v1 v9 v11 e0 e1 (fun c0 c1=>rec (c0,c1)) a.1 a.2) n (v2,v10)
theorem impl_ParseRules.l7_succ {R:Type} (k:Nat) (v1:Int) (v9 v11:List ByteArray) (e0 e1:List ByteArray->Option R) (n:Nat) (v2:Int) (v10:List ByteArray):impl_ParseRules.l7 (R:=R) k v1 v9 v11 e0 e1 (n+1) v2 v10=impl_ParseRules.s7 k v1 v9 v11 e0 e1 (impl_ParseRules.l7 k v1 v9 v11 e0 e1 n) v2 v10:=rfl
def impl_ParseRules.f (k:Nat) (a:ByteArray):Option (Int×Int×Bool×Bool×LI×LI×Int×Int×Bool):=
 (impl_SplitWords.f k a 32).bind fun r1=>
 bif ((r1.length:Int) != 7) then
  some (0,0,false,false,[],[],0,0,false)
 else
  impl_ParseRules.l7 k (r1.length:Int) ([(⟨#[112,108,97,121,101,114,115]⟩:ByteArray),(⟨#[101,97,99,104]⟩:ByteArray),(⟨#[109,97,116,99,104]⟩:ByteArray),(⟨#[119,105,108,100]⟩:ByteArray),(⟨#[115,107,105,112]⟩:ByteArray),(⟨#[116,97,107,101]⟩:ByteArray),(⟨#[108,105,109,105,116]⟩:ByteArray)]) r1 (fun x3=>
   some (0,0,false,false,[],[],0,0,false)) (fun x4=>
   chk (decide (2<(x4.length:Int)))<|
   chk (decide (2<(x4.length:Int)))<|
   chk (decide (0<(x4.length:Int)))<|
   (impl_ParseInt.f k (x4.getD 0 ByteArray.empty)).bind fun r5=>
   chk (decide (1<(x4.length:Int)))<|
   (impl_ParseInt.f k (x4.getD 1 ByteArray.empty)).bind fun r6=>
   chk (decide (3<(x4.length:Int)))<|
   (impl_ParsePattern.f k (x4.getD 3 ByteArray.empty)).bind fun r7=>
   chk (decide (4<(x4.length:Int)))<|
   (impl_ParsePattern.f k (x4.getD 4 ByteArray.empty)).bind fun r8=>
   chk (decide (5<(x4.length:Int)))<|
   (impl_ParseInt.f k (x4.getD 5 ByteArray.empty)).bind fun r9=>
   chk (decide (6<(x4.length:Int)))<|
   (impl_ParseInt.f k (x4.getD 6 ByteArray.empty)).bind fun r10=>
   (impl_IsRules.f k r5.1 r6.1 (!((x4.getD 2 ByteArray.empty).toList==(⟨#[114,97,110,107]⟩:ByteArray).toList)) (!((x4.getD 2 ByteArray.empty).toList==(⟨#[115,117,105,116]⟩:ByteArray).toList)) r7.1 r8.1 r9.1 r10.1).bind fun r11=>
   bif (!r11) then
    some (0,0,false,false,[],[],0,0,false)
   else
    (impl_RulesText.f k r5.1 r6.1 (!((x4.getD 2 ByteArray.empty).toList==(⟨#[114,97,110,107]⟩:ByteArray).toList)) (!((x4.getD 2 ByteArray.empty).toList==(⟨#[115,117,105,116]⟩:ByteArray).toList)) r7.1 r8.1 r9.1 r10.1).bind fun r12=>
    bif (!(r12.toList==a.toList)) then
     some (0,0,false,false,[],[],0,0,false)
    else
     some (r5.1,r6.1,!((x4.getD 2 ByteArray.empty).toList==(⟨#[114,97,110,107]⟩:ByteArray).toList),!((x4.getD 2 ByteArray.empty).toList==(⟨#[115,117,105,116]⟩:ByteArray).toList),r7.1,r8.1,r9.1,r10.1,true)) k 0 []
def impl_IsCard.f (k:Nat) (a:Int):Option (Bool):=
 (impl_InRange.f k a 0 51).bind fun r1=>
 some r1
def impl_IsHand.s3 {R:Type} (k:Nat) (v0:LI) (v1:Int) (e0 e1:Option R) (rec:Int->List Bool->Option R) (v2:Int) (v3:List Bool):Option R:=
 bif decide (v2<v1) then
  chk ((decide (0<=v2))&&(decide (v2<(v0.length:Int))))<|
  (impl_IsCard.f k (v0.getD v2.toNat 0)).bind fun r1=>
  bif (!r1) then
   e0
  else
   chk ((decide (0<=(v0.getD v2.toNat 0)))&&(decide ((v0.getD v2.toNat 0)<52)))<|
   bif (v3.getD ((v0.getD v2.toNat 0).toNat) false) then
    e0
   else
    chk ((decide (0<=(v0.getD v2.toNat 0)))&&(decide ((v0.getD v2.toNat 0)<52)))<|
    rec (IntKind.wrap .i64 (v2+1)) (v3.set ((v0.getD v2.toNat 0).toNat) true)
 else
  e1
def impl_IsHand.l3 {R:Type} (k:Nat) (v0:LI) (v1:Int) (e0 e1:Option R) (n:Nat) (v2:Int) (v3:List Bool):Option R:=
 V.iter (A:=Int×List Bool) (fun rec a=>impl_IsHand.s3 k v0 v1 e0 e1 (fun c0 c1=>rec (c0,c1)) a.1 a.2) n (v2,v3)
theorem impl_IsHand.l3_succ {R:Type} (k:Nat) (v0:LI) (v1:Int) (e0 e1:Option R) (n:Nat) (v2:Int) (v3:List Bool):impl_IsHand.l3 (R:=R) k v0 v1 e0 e1 (n+1) v2 v3=impl_IsHand.s3 k v0 v1 e0 e1 (impl_IsHand.l3 k v0 v1 e0 e1 n) v2 v3:=rfl
def impl_IsHand.f (k:Nat) (a:LI):Option (Bool):=
 impl_IsHand.l3 k a (a.length:Int) (some false) (some true) k 0 [false,false,false,false,false,false,false,false,false,false,false,false,false,false,false,false,false,false,false,false,false,false,false,false,false,false,false,false,false,false,false,false,false,false,false,false,false,false,false,false,false,false,false,false,false,false,false,false,false,false,false,false]
def impl_Dealt.s5 {R:Type} (k:Nat) (v1:Int) (v3:LI) (v4:Int) (e0:LL->Option R) (rec:Int->LL->Option R) (v5:Int) (v6:LL):Option R:=
 bif decide (v5<v4) then
  chk ((decide (0<=v5))&&(decide (v5<(v3.length:Int))))<|
  chk (!(decide (v1=0)))<|
  chk (!(decide (v1=0)))<|
  chk ((decide (0<=(v5.tmod v1)))&&(decide ((v5.tmod v1)<(v6.length:Int))))<|
  chk (decide ((((v6.getD ((v5.tmod v1).toNat) []).length)+1)*8<=room))<|
  chk ((decide (0<=(v5.tmod v1)))&&(decide ((v5.tmod v1)<(v6.length:Int))))<|
  chk (((v5.tmod v1).toNat)==((v5.tmod v1).toNat))<|
  rec (IntKind.wrap .i64 (v5+1)) (v6.set ((v5.tmod v1).toNat) ((v6.getD ((v5.tmod v1).toNat) [])++[v3.getD v5.toNat 0]))
 else
  e0 v6
def impl_Dealt.l5 {R:Type} (k:Nat) (v1:Int) (v3:LI) (v4:Int) (e0:LL->Option R) (n:Nat) (v5:Int) (v6:LL):Option R:=
 V.iter (A:=Int×LL) (fun rec a=>impl_Dealt.s5 k v1 v3 v4 e0 (fun c0 c1=>rec (c0,c1)) a.1 a.2) n (v5,v6)
theorem impl_Dealt.l5_succ {R:Type} (k:Nat) (v1:Int) (v3:LI) (v4:Int) (e0:LL->Option R) (n:Nat) (v5:Int) (v6:LL):impl_Dealt.l5 (R:=R) k v1 v3 v4 e0 (n+1) v5 v6=impl_Dealt.s5 k v1 v3 v4 e0 (impl_Dealt.l5 k v1 v3 v4 e0 n) v5 v6:=rfl
def impl_Dealt.f (k:Nat) (a:LI) (g i:Int):Option (LL×LI×Bool):=
 (impl_IsHand.f k a).bind fun r1=>
 bif (!r1) then
  (impl_copyOf.f k a).bind fun r2=>
  some ([],r2,false)
 else
  (impl_InRange.f k g 1 6).bind fun r3=>
  bif (!r3) then
   (impl_copyOf.f k a).bind fun r4=>
   some ([],r4,false)
  else
   (impl_InRange.f k i 0 20).bind fun r5=>
   bif (!r5) then
    (impl_copyOf.f k a).bind fun r6=>
    some ([],r6,false)
   else
    bif decide ((IntKind.wrap .i64 (g*i))>(a.length:Int)) then
     (impl_copyOf.f k a).bind fun r7=>
     some ([],r7,false)
    else
     chk ((decide (0<=g))&&(decide (g.toNat*24<=room)))<|
     chk ((decide (0<=(IntKind.wrap .i64 (g*i))))&&(decide ((IntKind.wrap .i64 (g*i))<=(a.length:Int))))<|
     impl_Dealt.l5 k g (a.take ((IntKind.wrap .i64 (g*i)).toNat)) ((a.take ((IntKind.wrap .i64 (g*i)).toNat)).length:Int) (fun x8=>
      chk ((decide (0<=(IntKind.wrap .i64 (g*i))))&&(decide ((IntKind.wrap .i64 (g*i))<=(a.length:Int))))<|
      (impl_copyOf.f k (a.drop ((IntKind.wrap .i64 (g*i)).toNat))).bind fun r9=>
      some (x8,r9,true)) k 0 (List.replicate g.toNat [])
def impl_NewGame.f (k:Nat) (a0 a1:Int) (a2 a3:Bool) (a4 a5:LI) (a6 a7:Int) (g:LI):Option (Int×Int×Bool×Bool×LI×LI×Int×Int×LL×LI×LI×Int×Int×Int×Bool):=
 (impl_IsRules.f k a0 a1 a2 a3 a4 a5 a6 a7).bind fun r1=>
 bif (!r1) then
  some (0,0,false,false,[],[],0,0,[],[],[],0,0,0,false)
 else
  (impl_IsHand.f k g).bind fun r2=>
  bif (!r2) then
   some (0,0,false,false,[],[],0,0,[],[],[],0,0,0,false)
  else
   bif ((g.length:Int) != 52) then
    some (0,0,false,false,[],[],0,0,[],[],[],0,0,0,false)
   else
    (impl_Dealt.f k g a0 a1).bind fun r3=>
    (impl_Rules_copied.f k a0 a1 a2 a3 a4 a5 a6 a7).bind fun r4=>
    chk ((decide (0<=(r3.2.1.length:Int)))&&(decide ((r3.2.1.length:Int)<=(r3.2.1.length:Int))))<|
    chk (decide (1<=(r3.2.1.length:Int)))<|
    (impl_copyOf.f k ((r3.2.1.take ((r3.2.1.length:Int).toNat)).drop 1)).bind fun r5=>
    chk (decide (0<(r3.2.1.length:Int)))<|
    some (r4.1,r4.2.1,(t2 r4).1,(t3 r4).1,(t4 r4).1,(t5 r4).1,(t6 r4).1,(t7 r4),r3.1,r5,[r3.2.1.getD 0 0],0,0,0,true)
def impl_sum.s3 {R:Type} (k:Nat) (v1:LI) (v2:Int) (e0:Int->Option R) (rec:Int->Int->Option R) (v0 v3:Int):Option R:=
 bif decide (v3<v2) then
  chk ((decide (0<=v3))&&(decide (v3<(v1.length:Int))))<|
  rec (IntKind.wrap .i64 (v0+(v1.getD v3.toNat 0))) (IntKind.wrap .i64 (v3+1))
 else
  e0 v0
def impl_sum.l3 {R:Type} (k:Nat) (v1:LI) (v2:Int) (e0:Int->Option R) (n:Nat) (v0 v3:Int):Option R:=
 V.iter (A:=Int×Int) (fun rec a=>impl_sum.s3 k v1 v2 e0 (fun c0 c1=>rec (c0,c1)) a.1 a.2) n (v0,v3)
theorem impl_sum.l3_succ {R:Type} (k:Nat) (v1:LI) (v2:Int) (e0:Int->Option R) (n:Nat) (v0 v3:Int):impl_sum.l3 (R:=R) k v1 v2 e0 (n+1) v0 v3=impl_sum.s3 k v1 v2 e0 (impl_sum.l3 k v1 v2 e0 n) v0 v3:=rfl
def impl_sum.f (k:Nat) (a:LI):Option (Int):=
 impl_sum.l3 k a (a.length:Int) (fun x1=>
  some x1) k 0 0
def impl_allIn.s2 {R:Type} (k:Nat) (v0 v1:Int) (v2:LI) (v3:Int) (e0 e1:Option R) (rec:Int->Option R) (v4:Int):Option R:=
 bif decide (v4<v3) then
  chk ((decide (0<=v4))&&(decide (v4<(v2.length:Int))))<|
  (impl_InRange.f k (v2.getD v4.toNat 0) v0 v1).bind fun r1=>
  bif (!r1) then
   e0
  else
   rec (IntKind.wrap .i64 (v4+1))
 else
  e1
def impl_allIn.l2 {R:Type} (k:Nat) (v0 v1:Int) (v2:LI) (v3:Int) (e0 e1:Option R) (n:Nat) (v4:Int):Option R:=
 V.iter (A:=Int) (fun rec a=>impl_allIn.s2 k v0 v1 v2 v3 e0 e1 (fun c0=>rec c0) a) n v4
theorem impl_allIn.l2_succ {R:Type} (k:Nat) (v0 v1:Int) (v2:LI) (v3:Int) (e0 e1:Option R) (n:Nat) (v4:Int):impl_allIn.l2 (R:=R) k v0 v1 v2 v3 e0 e1 (n+1) v4=impl_allIn.s2 k v0 v1 v2 v3 e0 e1 (impl_allIn.l2 k v0 v1 v2 v3 e0 e1 n) v4:=rfl
def impl_allIn.f (k:Nat) (a:LI) (g i:Int):Option (Bool):=
 impl_allIn.l2 k g i a (a.length:Int) (some false) (some true) k 0
def impl_IsRound.f (k:Nat) (a:Int) (g:LI):Option (Bool):=
 (impl_InRange.f k a 2 6).bind fun r1=>
 bif r1 then
  bif ((g.length:Int)==a) then
   (impl_allIn.f k g (-1000) 1000).bind fun r2=>
   bif r2 then
    (impl_sum.f k g).bind fun r3=>
    some (r3==0)
   else
    some false
  else
   some false
 else
  some false
def impl_IsSheet.s2 {R:Type} (k:Nat) (v0:Int) (v2:LL) (v3:Int) (e0 e1:Option R) (rec:Int->Option R) (v4:Int):Option R:=
 bif decide (v4<v3) then
  chk ((decide (0<=v4))&&(decide (v4<(v2.length:Int))))<|
  (impl_IsRound.f k v0 (v2.getD v4.toNat [])).bind fun r1=>
  bif (!r1) then
   e0
  else
   rec (IntKind.wrap .i64 (v4+1))
 else
  e1
def impl_IsSheet.l2 {R:Type} (k:Nat) (v0:Int) (v2:LL) (v3:Int) (e0 e1:Option R) (n:Nat) (v4:Int):Option R:=
 V.iter (A:=Int) (fun rec a=>impl_IsSheet.s2 k v0 v2 v3 e0 e1 (fun c0=>rec c0) a) n v4
theorem impl_IsSheet.l2_succ {R:Type} (k:Nat) (v0:Int) (v2:LL) (v3:Int) (e0 e1:Option R) (n:Nat) (v4:Int):impl_IsSheet.l2 (R:=R) k v0 v2 v3 e0 e1 (n+1) v4=impl_IsSheet.s2 k v0 v2 v3 e0 e1 (impl_IsSheet.l2 k v0 v2 v3 e0 e1 n) v4:=rfl
def impl_IsSheet.f (k:Nat) (a:Int) (g:LL):Option (Bool):=
 impl_IsSheet.l2 k a g (g.length:Int) (some false) ((impl_InRange.f k a 2 6).bind fun r2=>
  bif r2 then
   some (decide ((g.length:Int)<=50))
  else
   some false) k 0
def impl_EqualInts.s4 {R:Type} (k:Nat) (v0 v1:LI) (v2:Int) (e0 e1:Option R) (rec:Int->Option R) (v3:Int):Option R:=
 bif decide (v3<v2) then
  chk ((decide (0<=v3))&&(decide (v3<(v0.length:Int))))<|
  chk ((decide (0<=v3))&&(decide (v3<(v1.length:Int))))<|
  bif ((v0.getD v3.toNat 0) != (v1.getD v3.toNat 0)) then
   e0
  else
   rec (IntKind.wrap .i64 (v3+1))
 else
  e1
def impl_EqualInts.l4 {R:Type} (k:Nat) (v0 v1:LI) (v2:Int) (e0 e1:Option R) (n:Nat) (v3:Int):Option R:=
 V.iter (A:=Int) (fun rec a=>impl_EqualInts.s4 k v0 v1 v2 e0 e1 (fun c0=>rec c0) a) n v3
theorem impl_EqualInts.l4_succ {R:Type} (k:Nat) (v0 v1:LI) (v2:Int) (e0 e1:Option R) (n:Nat) (v3:Int):impl_EqualInts.l4 (R:=R) k v0 v1 v2 e0 e1 (n+1) v3=impl_EqualInts.s4 k v0 v1 v2 e0 e1 (impl_EqualInts.l4 k v0 v1 v2 e0 e1 n) v3:=rfl
def impl_EqualInts.f (k:Nat) (a g:LI):Option (Bool):=
 bif ((a.length:Int) != (g.length:Int)) then
  some false
 else
  impl_EqualInts.l4 k a g (a.length:Int) (some false) (some true) k 0
def impl_EqualRules.f (k:Nat) (a0 a1:Int) (a2 a3:Bool) (a4 a5:LI) (a6 a7 g0 g1:Int) (g2 g3:Bool) (g4 g5:LI) (g6 g7:Int):Option (Bool):=
 bif (a0==g0) then
  bif (a1==g1) then
   bif (a2==g2) then
    bif (a3==g3) then
     bif (a6==g6) then
      bif (a7==g7) then
       (impl_EqualInts.f k a4 g4).bind fun r1=>
       bif r1 then
        (impl_EqualInts.f k a5 g5).bind fun r2=>
        some r2
       else
        some false
      else
       some false
     else
      some false
    else
     some false
   else
    some false
  else
   some false
 else
  some false
def impl_sameRows.s4 {R:Type} (k:Nat) (v0 v1:LL) (v2:Int) (e0 e1:Option R) (rec:Int->Option R) (v3:Int):Option R:=
 bif decide (v3<v2) then
  chk ((decide (0<=v3))&&(decide (v3<(v0.length:Int))))<|
  chk ((decide (0<=v3))&&(decide (v3<(v1.length:Int))))<|
  (impl_EqualInts.f k (v0.getD v3.toNat []) (v1.getD v3.toNat [])).bind fun r1=>
  bif (!r1) then
   e0
  else
   rec (IntKind.wrap .i64 (v3+1))
 else
  e1
def impl_sameRows.l4 {R:Type} (k:Nat) (v0 v1:LL) (v2:Int) (e0 e1:Option R) (n:Nat) (v3:Int):Option R:=
 V.iter (A:=Int) (fun rec a=>impl_sameRows.s4 k v0 v1 v2 e0 e1 (fun c0=>rec c0) a) n v3
theorem impl_sameRows.l4_succ {R:Type} (k:Nat) (v0 v1:LL) (v2:Int) (e0 e1:Option R) (n:Nat) (v3:Int):impl_sameRows.l4 (R:=R) k v0 v1 v2 e0 e1 (n+1) v3=impl_sameRows.s4 k v0 v1 v2 e0 e1 (impl_sameRows.l4 k v0 v1 v2 e0 e1 n) v3:=rfl
def impl_sameRows.f (k:Nat) (a g:LL):Option (Bool):=
 bif ((a.length:Int) != (g.length:Int)) then
  some false
 else
  impl_sameRows.l4 k a g (a.length:Int) (some false) (some true) k 0
def impl_EqualGames.f (k:Nat) (a0 a1:Int) (a2 a3:Bool) (a4 a5:LI) (a6 a7:Int) (a8:LL) (a9 a10:LI) (a11 a12 a13 g0 g1:Int) (g2 g3:Bool) (g4 g5:LI) (g6 g7:Int) (g8:LL) (g9 g10:LI) (g11 g12 g13:Int):Option (Bool):=
 (impl_EqualRules.f k a0 a1 a2 a3 a4 a5 a6 a7 g0 g1 g2 g3 g4 g5 g6 g7).bind fun r1=>
 bif r1 then
  (impl_sameRows.f k a8 g8).bind fun r2=>
  bif r2 then
   (impl_EqualInts.f k a9 g9).bind fun r3=>
   bif r3 then
    (impl_EqualInts.f k a10 g10).bind fun r4=>
    bif r4 then
     bif (a11==g11) then
      bif (a12==g12) then
       some (a13==g13)
      else
       some false
     else
      some false
    else
     some false
   else
    some false
  else
   some false
 else
  some false
def impl_AllApart.s3 {R:Type} (k:Nat) (v0:LL) (v1:Int) (e0:LI->Option R) (rec:Int->LI->Option R) (v2:Int) (v3:LI):Option R:=
 bif decide (v2<v1) then
  chk ((decide (0<=v2))&&(decide (v2<(v0.length:Int))))<|
  chk (decide ((v3.length+((v0.getD v2.toNat []).length))*8<=room))<|
  rec (IntKind.wrap .i64 (v2+1)) (v3++(v0.getD v2.toNat []))
 else
  e0 v3
def impl_AllApart.l3 {R:Type} (k:Nat) (v0:LL) (v1:Int) (e0:LI->Option R) (n:Nat) (v2:Int) (v3:LI):Option R:=
 V.iter (A:=Int×LI) (fun rec a=>impl_AllApart.s3 k v0 v1 e0 (fun c0 c1=>rec (c0,c1)) a.1 a.2) n (v2,v3)
theorem impl_AllApart.l3_succ {R:Type} (k:Nat) (v0:LL) (v1:Int) (e0:LI->Option R) (n:Nat) (v2:Int) (v3:LI):impl_AllApart.l3 (R:=R) k v0 v1 e0 (n+1) v2 v3=impl_AllApart.s3 k v0 v1 e0 (impl_AllApart.l3 k v0 v1 e0 n) v2 v3:=rfl
def impl_AllApart.f (k:Nat) (a:LL):Option (Bool):=
 impl_AllApart.l3 k a (a.length:Int) (fun x1=>
  (impl_IsHand.f k x1).bind fun r2=>
  some r2) k 0 []
def impl_TotalCards.s3 {R:Type} (k:Nat) (v1:LL) (v2:Int) (e0:Int->Option R) (rec:Int->Int->Option R) (v0 v3:Int):Option R:=
 bif decide (v3<v2) then
  chk ((decide (0<=v3))&&(decide (v3<(v1.length:Int))))<|
  rec (IntKind.wrap .i64 (v0+((v1.getD v3.toNat []).length:Int))) (IntKind.wrap .i64 (v3+1))
 else
  e0 v0
def impl_TotalCards.l3 {R:Type} (k:Nat) (v1:LL) (v2:Int) (e0:Int->Option R) (n:Nat) (v0 v3:Int):Option R:=
 V.iter (A:=Int×Int) (fun rec a=>impl_TotalCards.s3 k v1 v2 e0 (fun c0 c1=>rec (c0,c1)) a.1 a.2) n (v0,v3)
theorem impl_TotalCards.l3_succ {R:Type} (k:Nat) (v1:LL) (v2:Int) (e0:Int->Option R) (n:Nat) (v0 v3:Int):impl_TotalCards.l3 (R:=R) k v1 v2 e0 (n+1) v0 v3=impl_TotalCards.s3 k v1 v2 e0 (impl_TotalCards.l3 k v1 v2 e0 n) v0 v3:=rfl
def impl_TotalCards.f (k:Nat) (a:LL):Option (Int):=
 impl_TotalCards.l3 k a (a.length:Int) (fun x1=>
  some x1) k 0 0
def impl_isWhole.f (k:Nat) (a:LL):Option (Bool):=
 (impl_AllApart.f k a).bind fun r1=>
 bif r1 then
  (impl_TotalCards.f k a).bind fun r2=>
  some (r2==52)
 else
  some false
def impl_IsGame.f (k:Nat) (a0 a1:Int) (a2 a3:Bool) (a4 a5:LI) (a6 a7:Int) (a8:LL) (a9 a10:LI) (a11 a12 a13:Int):Option (Bool):=
 (impl_IsRules.f k a0 a1 a2 a3 a4 a5 a6 a7).bind fun r1=>
 bif r1 then
  bif ((a8.length:Int)==a0) then
   (impl_copyRows.f k a8).bind fun r2=>
   chk (decide ((r2.length+2)*24<=room))<|
   (impl_isWhole.f k (r2++[a9,a10])).bind fun r3=>
   bif r3 then
    bif decide ((a10.length:Int)>0) then
     (impl_InRange.f k a11 0 (IntKind.wrap .i64 ((a8.length:Int)-1))).bind fun r4=>
     bif r4 then
      (impl_InRange.f k a12 0 a7).bind fun r5=>
      bif r5 then
       (impl_InRange.f k a13 0 a12).bind fun r6=>
       some r6
      else
       some false
     else
      some false
    else
     some false
   else
    some false
  else
   some false
 else
  some false
def impl_Winner.s4 {R:Type} (k:Nat) (v0:LL) (v1:Int) (e0:Int->Option R) (e1:Option R) (rec:Int->Option R) (v2:Int):Option R:=
 bif decide (v2<v1) then
  chk ((decide (0<=v2))&&(decide (v2<(v0.length:Int))))<|
  bif (((v0.getD v2.toNat []).length:Int)==0) then
   e0 v2
  else
   rec (IntKind.wrap .i64 (v2+1))
 else
  e1
def impl_Winner.l4 {R:Type} (k:Nat) (v0:LL) (v1:Int) (e0:Int->Option R) (e1:Option R) (n:Nat) (v2:Int):Option R:=
 V.iter (A:=Int) (fun rec a=>impl_Winner.s4 k v0 v1 e0 e1 (fun c0=>rec c0) a) n v2
theorem impl_Winner.l4_succ {R:Type} (k:Nat) (v0:LL) (v1:Int) (e0:Int->Option R) (e1:Option R) (n:Nat) (v2:Int):impl_Winner.l4 (R:=R) k v0 v1 e0 e1 (n+1) v2=impl_Winner.s4 k v0 v1 e0 e1 (impl_Winner.l4 k v0 v1 e0 e1 n) v2:=rfl
def impl_Winner.f (k:Nat) (a0 a1:Int) (a2 a3:Bool) (a4 a5:LI) (a6 a7:Int) (a8:LL) (a9 a10:LI) (a11 a12 a13:Int):Option (Int):=
 (impl_IsGame.f k a0 a1 a2 a3 a4 a5 a6 a7 a8 a9 a10 a11 a12 a13).bind fun r1=>
 bif (!r1) then
  some (-1)
 else
  impl_Winner.l4 k a8 (a8.length:Int) (fun x2=>
   some x2) (some (-1)) k 0
def impl_IsEnded.f (k:Nat) (a0 a1:Int) (a2 a3:Bool) (a4 a5:LI) (a6 a7:Int) (a8:LL) (a9 a10:LI) (a11 a12 a13:Int):Option (Bool):=
 (impl_IsGame.f k a0 a1 a2 a3 a4 a5 a6 a7 a8 a9 a10 a11 a12 a13).bind fun r1=>
 bif r1 then
  (impl_Winner.f k a0 a1 a2 a3 a4 a5 a6 a7 a8 a9 a10 a11 a12 a13).bind fun r2=>
  bif decide (r2>=0) then
   some true
  else
   bif (a12==a7) then
    some true
   else
    some (decide (a13>=a0))
 else
  some false
def impl_TakeCards.s6 {R:Type} (k:Nat) (v1 v14:Int) (e0:Int->LL->LI->LI->Option R) (rec:Int->Int->LL->LI->LI->Option R) (v0 v2:Int) (v37:LL) (v38 v39:LI):Option R:=
 bif decide (v2<v1) then
  bif ((v38.length:Int)==0) then
   chk ((decide (0<=(IntKind.wrap .i64 ((v39.length:Int)-1))))&&(decide ((IntKind.wrap .i64 ((v39.length:Int)-1))<=(v39.length:Int))))<|
   chk (decide (0<=(IntKind.wrap .i64 ((v39.length:Int)-1))))<|
   (impl_copyOf.f k ((v39.take ((IntKind.wrap .i64 ((v39.length:Int)-1)).toNat)).drop 0)).bind fun r4=>
   chk ((decide (0<=(v39.length:Int)))&&(decide ((v39.length:Int)<=(v39.length:Int))))<|
   chk ((decide (0<=(IntKind.wrap .i64 ((v39.length:Int)-1))))&&(decide ((IntKind.wrap .i64 ((v39.length:Int)-1))<=(v39.length:Int))))<|
   (impl_copyOf.f k ((v39.take ((v39.length:Int).toNat)).drop ((IntKind.wrap .i64 ((v39.length:Int)-1)).toNat))).bind fun r5=>
   bif ((r4.length:Int)==0) then
    e0 v0 v37 r4 r5
   else
    chk ((decide (0<=v14))&&(decide (v14<(v37.length:Int))))<|
    chk (decide (0<(r4.length:Int)))<|
    chk (decide ((((v37.getD v14.toNat []).length)+1)*8<=room))<|
    chk ((decide (0<=v14))&&(decide (v14<(v37.length:Int))))<|
    chk (v14.toNat==v14.toNat)<|
    chk ((decide (0<=(r4.length:Int)))&&(decide ((r4.length:Int)<=(r4.length:Int))))<|
    chk (decide (1<=(r4.length:Int)))<|
    (impl_copyOf.f k ((r4.take ((r4.length:Int).toNat)).drop 1)).bind fun r6=>
    rec (IntKind.wrap .i64 (v0+1)) (IntKind.wrap .i64 (v2+1)) (v37.set v14.toNat ((v37.getD v14.toNat [])++[r4.getD 0 0])) r6 r5
  else
   bif ((v38.length:Int)==0) then
    e0 v0 v37 v38 v39
   else
    chk ((decide (0<=v14))&&(decide (v14<(v37.length:Int))))<|
    chk (decide (0<(v38.length:Int)))<|
    chk (decide ((((v37.getD v14.toNat []).length)+1)*8<=room))<|
    chk ((decide (0<=v14))&&(decide (v14<(v37.length:Int))))<|
    chk (v14.toNat==v14.toNat)<|
    chk ((decide (0<=(v38.length:Int)))&&(decide ((v38.length:Int)<=(v38.length:Int))))<|
    chk (decide (1<=(v38.length:Int)))<|
    (impl_copyOf.f k ((v38.take ((v38.length:Int).toNat)).drop 1)).bind fun r7=>
    rec (IntKind.wrap .i64 (v0+1)) (IntKind.wrap .i64 (v2+1)) (v37.set v14.toNat ((v37.getD v14.toNat [])++[v38.getD 0 0])) r7 v39
 else
  e0 v0 v37 v38 v39
def impl_TakeCards.l6 {R:Type} (k:Nat) (v1 v14:Int) (e0:Int->LL->LI->LI->Option R) (n:Nat) (v0 v2:Int) (v37:LL) (v38 v39:LI):Option R:=
 V.iter (A:=Int×Int×LL×LI×LI) (fun rec a=>impl_TakeCards.s6 k v1 v14 e0 (fun c0 c1 c2 c3 c4=>rec (c0,c1,c2,c3,c4)) a.1 a.2.1 (t2 a).1 (t3 a).1 (t4 a)) n (v0,v2,v37,v38,v39)
theorem impl_TakeCards.l6_succ {R:Type} (k:Nat) (v1 v14:Int) (e0:Int->LL->LI->LI->Option R) (n:Nat) (v0 v2:Int) (v37:LL) (v38 v39:LI):impl_TakeCards.l6 (R:=R) k v1 v14 e0 (n+1) v0 v2 v37 v38 v39=impl_TakeCards.s6 k v1 v14 e0 (impl_TakeCards.l6 k v1 v14 e0 n) v0 v2 v37 v38 v39:=rfl
def impl_TakeCards.f (k:Nat) (a0 a1:Int) (a2 a3:Bool) (a4 a5:LI) (a6 a7:Int) (a8:LL) (a9 a10:LI) (a11 a12 a13:Int):Option (Int×Int×Bool×Bool×LI×LI×Int×Int×LL×LI×LI×Int×Int×Int×Bool):=
 (impl_Game_copied.f k a0 a1 a2 a3 a4 a5 a6 a7 a8 a9 a10 a11 a12 a13).bind fun r1=>
 (impl_IsGame.f k a0 a1 a2 a3 a4 a5 a6 a7 a8 a9 a10 a11 a12 a13).bind fun r2=>
 bif (!r2) then
  some (r1.1,r1.2.1,(t2 r1).1,(t3 r1).1,(t4 r1).1,(t5 r1).1,(t6 r1).1,(t7 r1).1,(t8 r1).1,(t9 r1).1,(t9 r1.2).1,(t9 (t2 r1)).1,(t9 (t3 r1)).1,(t9 (t4 r1)),false)
 else
  (impl_IsEnded.f k a0 a1 a2 a3 a4 a5 a6 a7 a8 a9 a10 a11 a12 a13).bind fun r3=>
  bif r3 then
   some (r1.1,r1.2.1,(t2 r1).1,(t3 r1).1,(t4 r1).1,(t5 r1).1,(t6 r1).1,(t7 r1).1,(t8 r1).1,(t9 r1).1,(t9 r1.2).1,(t9 (t2 r1)).1,(t9 (t3 r1)).1,(t9 (t4 r1)),false)
  else
   impl_TakeCards.l6 k a6 a11 (fun x8 x9 x10 x11=>
    bif decide (x8>0) then
     chk (!(decide ((a8.length:Int)=0)))<|
     some (r1.1,r1.2.1,(t2 r1).1,(t3 r1).1,(t4 r1).1,(t5 r1).1,(t6 r1).1,(t7 r1).1,x9,x10,x11,(IntKind.wrap .i64 (a11+1)).tmod (a8.length:Int),IntKind.wrap .i64 ((t9 (t3 r1)).1+1),0,true)
    else
     chk (!(decide ((a8.length:Int)=0)))<|
     some (r1.1,r1.2.1,(t2 r1).1,(t3 r1).1,(t4 r1).1,(t5 r1).1,(t6 r1).1,(t7 r1).1,x9,x10,x11,(IntKind.wrap .i64 (a11+1)).tmod (a8.length:Int),IntKind.wrap .i64 ((t9 (t3 r1)).1+1),IntKind.wrap .i64 ((t9 (t4 r1))+1),true)) k 0 0 (t8 r1).1 (t9 r1).1 (t9 r1.2).1
def impl_Sorted.s6 {R:Type} (k:Nat) (v0:Int) (v5:LI) (e0 rec:Int->Option R) (v1:Int):Option R:=
 bif decide (v1>0) then
  chk ((decide (0<=(IntKind.wrap .i64 (v1-1))))&&(decide ((IntKind.wrap .i64 (v1-1))<(v5.length:Int))))<|
  bif decide ((v5.getD ((IntKind.wrap .i64 (v1-1)).toNat) 0)>v0) then
   rec (IntKind.wrap .i64 (v1-1))
  else
   e0 v1
 else
  e0 v1
def impl_Sorted.l6 {R:Type} (k:Nat) (v0:Int) (v5:LI) (e0:Int->Option R) (n:Nat) (v1:Int):Option R:=
 V.iter (A:=Int) (fun rec a=>impl_Sorted.s6 k v0 v5 e0 (fun c0=>rec c0) a) n v1
theorem impl_Sorted.l6_succ {R:Type} (k:Nat) (v0:Int) (v5:LI) (e0:Int->Option R) (n:Nat) (v1:Int):impl_Sorted.l6 (R:=R) k v0 v5 e0 (n+1) v1=impl_Sorted.s6 k v0 v5 e0 (impl_Sorted.l6 k v0 v5 e0 n) v1:=rfl
def impl_Sorted.s3 {R:Type} (k:Nat) (v0:LI) (v1:Int) (e0:LI->Option R) (rec:Int->LI->Option R) (v2:Int) (v3:LI):Option R:=
 bif decide (v2<v1) then
  chk ((decide (0<=v2))&&(decide (v2<(v0.length:Int))))<|
  impl_Sorted.l6 k (v0.getD v2.toNat 0) v3 (fun x1=>
   chk (decide ((v3.length+1)*8<=room))<|
   chk ((decide (0<=((v3++[0]).length:Int)))&&(decide (((v3++[0]).length:Int)<=((v3++[0]).length:Int))))<|
   chk ((decide (0<=(IntKind.wrap .i64 (x1+1))))&&(decide ((IntKind.wrap .i64 (x1+1))<=((v3++[0]).length:Int))))<|
   chk ((decide (0<=((v3++[0]).length:Int)))&&(decide (((v3++[0]).length:Int)<=((v3++[0]).length:Int))))<|
   chk ((decide (0<=x1))&&(decide (x1<=((v3++[0]).length:Int))))<|
   chk ((decide (0<=x1))&&(decide (x1<((((v3++[0]).take ((IntKind.wrap .i64 (x1+1)).toNat))++(((((v3++[0]).take (((v3++[0]).length:Int).toNat)).drop x1.toNat).take ((((v3++[0]).length:Int).toNat)-((IntKind.wrap .i64 (x1+1)).toNat)))++((v3++[0]).drop (((IntKind.wrap .i64 (x1+1)).toNat)+(min ((((v3++[0]).length:Int).toNat)-x1.toNat) ((((v3++[0]).length:Int).toNat)-((IntKind.wrap .i64 (x1+1)).toNat))))))).length:Int))))<|
   rec (IntKind.wrap .i64 (v2+1)) ((((v3++[0]).take ((IntKind.wrap .i64 (x1+1)).toNat))++(((((v3++[0]).take (((v3++[0]).length:Int).toNat)).drop x1.toNat).take ((((v3++[0]).length:Int).toNat)-((IntKind.wrap .i64 (x1+1)).toNat)))++((v3++[0]).drop (((IntKind.wrap .i64 (x1+1)).toNat)+(min ((((v3++[0]).length:Int).toNat)-x1.toNat) ((((v3++[0]).length:Int).toNat)-((IntKind.wrap .i64 (x1+1)).toNat))))))).set x1.toNat (v0.getD v2.toNat 0))) k (v3.length:Int)
 else
  e0 v3
def impl_Sorted.l3 {R:Type} (k:Nat) (v0:LI) (v1:Int) (e0:LI->Option R) (n:Nat) (v2:Int) (v3:LI):Option R:=
 V.iter (A:=Int×LI) (fun rec a=>impl_Sorted.s3 k v0 v1 e0 (fun c0 c1=>rec (c0,c1)) a.1 a.2) n (v2,v3)
theorem impl_Sorted.l3_succ {R:Type} (k:Nat) (v0:LI) (v1:Int) (e0:LI->Option R) (n:Nat) (v2:Int) (v3:LI):impl_Sorted.l3 (R:=R) k v0 v1 e0 (n+1) v2 v3=impl_Sorted.s3 k v0 v1 e0 (impl_Sorted.l3 k v0 v1 e0 n) v2 v3:=rfl
def impl_Sorted.f (k:Nat) (a:LI):Option (LI):=
 impl_Sorted.l3 k a (a.length:Int) (fun x2=>
  some x2) k 0 []
def impl_SuitOf.f (k:Nat) (a:Int):Option (Int):=
 (impl_IsCard.f k a).bind fun r1=>
 bif (!r1) then
  some (-1)
 else
  some (IntKind.wrap .i64 (a.tdiv 13))
def impl_RankOf.f (k:Nat) (a:Int):Option (Int):=
 (impl_IsCard.f k a).bind fun r1=>
 bif (!r1) then
  some (-1)
 else
  some (a.tmod 13)
def impl_IsRed.f (k:Nat) (a:Int):Option (Bool):=
 (impl_SuitOf.f k a).bind fun r1=>
 bif (r1==1) then
  some true
 else
  (impl_SuitOf.f k a).bind fun r2=>
  some (r2==2)
def impl_asks.f (k:Nat) (a g:Int):Option (Bool):=
 bif (a==400) then
  (impl_IsRed.f k g).bind fun r1=>
  some r1
 else
  bif decide (a>=300) then
   (impl_RankOf.f k g).bind fun r2=>
   some (decide (r2>=(IntKind.wrap .i64 (a-300))))
  else
   bif decide (a>=200) then
    (impl_RankOf.f k g).bind fun r3=>
    some (r3==(IntKind.wrap .i64 (a-200)))
   else
    (impl_SuitOf.f k g).bind fun r4=>
    some (r4==(IntKind.wrap .i64 (a-100)))
def impl_Matches.s5 {R:Type} (k:Nat) (v0:Int) (v1:LI) (v2:Int) (e0:List Bool->Option R) (rec:Int->List Bool->Option R) (v3:Int) (v4:List Bool):Option R:=
 bif decide (v3<v2) then
  chk ((decide (0<=v3))&&(decide (v3<(v1.length:Int))))<|
  bif ((v1.getD v3.toNat 0)==(-1)) then
   chk ((decide (0<=(IntKind.wrap .i64 ((v4.length:Int)-1))))&&(decide ((IntKind.wrap .i64 ((v4.length:Int)-1))<(v4.length:Int))))<|
   chk ((decide (0<=(IntKind.wrap .i64 ((v4.length:Int)-1))))&&(decide ((IntKind.wrap .i64 ((v4.length:Int)-1))<(v4.length:Int))))<|
   rec (IntKind.wrap .i64 (v3+1)) (v4.set ((IntKind.wrap .i64 ((v4.length:Int)-1)).toNat) (!(v4.getD ((IntKind.wrap .i64 ((v4.length:Int)-1)).toNat) false)))
  else
   bif ((v1.getD v3.toNat 0)==(-2)) then
    chk ((decide (0<=(IntKind.wrap .i64 ((v4.length:Int)-2))))&&(decide ((IntKind.wrap .i64 ((v4.length:Int)-2))<=(v4.length:Int))))<|
    chk (decide (0<=(IntKind.wrap .i64 ((v4.length:Int)-2))))<|
    chk ((decide (0<=(IntKind.wrap .i64 ((v4.length:Int)-2))))&&(decide ((IntKind.wrap .i64 ((v4.length:Int)-2))<(v4.length:Int))))<|
    bif (v4.getD ((IntKind.wrap .i64 ((v4.length:Int)-2)).toNat) false) then
     chk ((decide (0<=(IntKind.wrap .i64 ((v4.length:Int)-1))))&&(decide ((IntKind.wrap .i64 ((v4.length:Int)-1))<(v4.length:Int))))<|
     chk (decide ((((v4.take ((IntKind.wrap .i64 ((v4.length:Int)-2)).toNat)).length)+1)*1<=room))<|
     rec (IntKind.wrap .i64 (v3+1)) ((v4.take ((IntKind.wrap .i64 ((v4.length:Int)-2)).toNat))++[v4.getD ((IntKind.wrap .i64 ((v4.length:Int)-1)).toNat) false])
    else
     chk (decide ((((v4.take ((IntKind.wrap .i64 ((v4.length:Int)-2)).toNat)).length)+1)*1<=room))<|
     rec (IntKind.wrap .i64 (v3+1)) ((v4.take ((IntKind.wrap .i64 ((v4.length:Int)-2)).toNat))++[false])
   else
    bif ((v1.getD v3.toNat 0)==(-3)) then
     chk ((decide (0<=(IntKind.wrap .i64 ((v4.length:Int)-2))))&&(decide ((IntKind.wrap .i64 ((v4.length:Int)-2))<=(v4.length:Int))))<|
     chk (decide (0<=(IntKind.wrap .i64 ((v4.length:Int)-2))))<|
     chk ((decide (0<=(IntKind.wrap .i64 ((v4.length:Int)-2))))&&(decide ((IntKind.wrap .i64 ((v4.length:Int)-2))<(v4.length:Int))))<|
     bif (v4.getD ((IntKind.wrap .i64 ((v4.length:Int)-2)).toNat) false) then
      chk (decide ((((v4.take ((IntKind.wrap .i64 ((v4.length:Int)-2)).toNat)).length)+1)*1<=room))<|
      rec (IntKind.wrap .i64 (v3+1)) ((v4.take ((IntKind.wrap .i64 ((v4.length:Int)-2)).toNat))++[true])
     else
      chk ((decide (0<=(IntKind.wrap .i64 ((v4.length:Int)-1))))&&(decide ((IntKind.wrap .i64 ((v4.length:Int)-1))<(v4.length:Int))))<|
      chk (decide ((((v4.take ((IntKind.wrap .i64 ((v4.length:Int)-2)).toNat)).length)+1)*1<=room))<|
      rec (IntKind.wrap .i64 (v3+1)) ((v4.take ((IntKind.wrap .i64 ((v4.length:Int)-2)).toNat))++[v4.getD ((IntKind.wrap .i64 ((v4.length:Int)-1)).toNat) false])
    else
     (impl_asks.f k (v1.getD v3.toNat 0) v0).bind fun r3=>
     chk (decide ((v4.length+1)*1<=room))<|
     rec (IntKind.wrap .i64 (v3+1)) (v4++[r3])
 else
  e0 v4
def impl_Matches.l5 {R:Type} (k:Nat) (v0:Int) (v1:LI) (v2:Int) (e0:List Bool->Option R) (n:Nat) (v3:Int) (v4:List Bool):Option R:=
 V.iter (A:=Int×List Bool) (fun rec a=>impl_Matches.s5 k v0 v1 v2 e0 (fun c0 c1=>rec (c0,c1)) a.1 a.2) n (v3,v4)
theorem impl_Matches.l5_succ {R:Type} (k:Nat) (v0:Int) (v1:LI) (v2:Int) (e0:List Bool->Option R) (n:Nat) (v3:Int) (v4:List Bool):impl_Matches.l5 (R:=R) k v0 v1 v2 e0 (n+1) v3 v4=impl_Matches.s5 k v0 v1 v2 e0 (impl_Matches.l5 k v0 v1 v2 e0 n) v3 v4:=rfl
def impl_Matches.f (k:Nat) (a:LI) (g:Int):Option (Bool):=
 (impl_IsPattern.f k a).bind fun r1=>
 bif (!r1) then
  some false
 else
  (impl_IsCard.f k g).bind fun r2=>
  bif (!r2) then
   some false
  else
   impl_Matches.l5 k g a (a.length:Int) (fun x4=>
    chk (decide (0<(x4.length:Int)))<|
    some (x4.getD 0 false)) k 0 []
def impl_FitsOn.f (k:Nat) (a0 a1:Int) (a2 a3:Bool) (a4 a5:LI) (a6 a7 g i:Int):Option (Bool):=
 (impl_IsRules.f k a0 a1 a2 a3 a4 a5 a6 a7).bind fun r1=>
 bif (!r1) then
  some false
 else
  (impl_IsCard.f k g).bind fun r2=>
  bif (!r2) then
   some false
  else
   (impl_IsCard.f k i).bind fun r3=>
   bif (!r3) then
    some false
   else
    bif a2 then
     (impl_SuitOf.f k i).bind fun r4=>
     (impl_SuitOf.f k g).bind fun r5=>
     bif (r4==r5) then
      some true
     else
      bif a3 then
       (impl_RankOf.f k i).bind fun r6=>
       (impl_RankOf.f k g).bind fun r7=>
       bif (r6==r7) then
        some true
       else
        (impl_Matches.f k a4 i).bind fun r8=>
        some r8
      else
       (impl_Matches.f k a4 i).bind fun r9=>
       some r9
    else
     bif a3 then
      (impl_RankOf.f k i).bind fun r10=>
      (impl_RankOf.f k g).bind fun r11=>
      bif (r10==r11) then
       some true
      else
       (impl_Matches.f k a4 i).bind fun r12=>
       some r12
     else
      (impl_Matches.f k a4 i).bind fun r13=>
      some r13
def impl_Playable.s5 {R:Type} (k:Nat) (v0 v2 v3:Int) (v4 v5:Bool) (v6 v7:LI) (v8 v9:Int) (v12 v17:LI) (e0:LI->Option R) (rec:Int->LI->Option R) (v1:Int) (v16:LI):Option R:=
 bif decide (v1<v0) then
  chk ((decide (0<=v1))&&(decide (v1<(v17.length:Int))))<|
  chk ((decide (0<=(IntKind.wrap .i64 ((v12.length:Int)-1))))&&(decide ((IntKind.wrap .i64 ((v12.length:Int)-1))<(v12.length:Int))))<|
  (impl_FitsOn.f k v2 v3 v4 v5 v6 v7 v8 v9 (v12.getD ((IntKind.wrap .i64 ((v12.length:Int)-1)).toNat) 0) (v17.getD v1.toNat 0)).bind fun r4=>
  bif r4 then
   chk (decide ((v16.length+1)*8<=room))<|
   rec (IntKind.wrap .i64 (v1+1)) (v16++[v17.getD v1.toNat 0])
  else
   rec (IntKind.wrap .i64 (v1+1)) v16
 else
  e0 v16
def impl_Playable.l5 {R:Type} (k:Nat) (v0 v2 v3:Int) (v4 v5:Bool) (v6 v7:LI) (v8 v9:Int) (v12 v17:LI) (e0:LI->Option R) (n:Nat) (v1:Int) (v16:LI):Option R:=
 V.iter (A:=Int×LI) (fun rec a=>impl_Playable.s5 k v0 v2 v3 v4 v5 v6 v7 v8 v9 v12 v17 e0 (fun c0 c1=>rec (c0,c1)) a.1 a.2) n (v1,v16)
theorem impl_Playable.l5_succ {R:Type} (k:Nat) (v0 v2 v3:Int) (v4 v5:Bool) (v6 v7:LI) (v8 v9:Int) (v12 v17:LI) (e0:LI->Option R) (n:Nat) (v1:Int) (v16:LI):impl_Playable.l5 (R:=R) k v0 v2 v3 v4 v5 v6 v7 v8 v9 v12 v17 e0 (n+1) v1 v16=impl_Playable.s5 k v0 v2 v3 v4 v5 v6 v7 v8 v9 v12 v17 e0 (impl_Playable.l5 k v0 v2 v3 v4 v5 v6 v7 v8 v9 v12 v17 e0 n) v1 v16:=rfl
def impl_Playable.f (k:Nat) (a0 a1:Int) (a2 a3:Bool) (a4 a5:LI) (a6 a7:Int) (a8:LL) (a9 a10:LI) (a11 a12 a13:Int):Option (LI):=
 (impl_IsGame.f k a0 a1 a2 a3 a4 a5 a6 a7 a8 a9 a10 a11 a12 a13).bind fun r1=>
 bif (!r1) then
  some ([])
 else
  (impl_IsEnded.f k a0 a1 a2 a3 a4 a5 a6 a7 a8 a9 a10 a11 a12 a13).bind fun r2=>
  bif r2 then
   some ([])
  else
   chk ((decide (0<=a11))&&(decide (a11<(a8.length:Int))))<|
   (impl_Sorted.f k (a8.getD a11.toNat [])).bind fun r3=>
   impl_Playable.l5 k (r3.length:Int) a0 a1 a2 a3 a4 a5 a6 a7 a10 r3 (fun x5=>
    some x5) k 0 []
def impl_PlaceOf.s2 {R:Type} (k:Nat) (v0:Int) (v1:LI) (v2:Int) (e0:Int->Option R) (e1:Option R) (rec:Int->Option R) (v3:Int):Option R:=
 bif decide (v3<v2) then
  chk ((decide (0<=v3))&&(decide (v3<(v1.length:Int))))<|
  bif ((v1.getD v3.toNat 0)==v0) then
   e0 v3
  else
   rec (IntKind.wrap .i64 (v3+1))
 else
  e1
def impl_PlaceOf.l2 {R:Type} (k:Nat) (v0:Int) (v1:LI) (v2:Int) (e0:Int->Option R) (e1:Option R) (n:Nat) (v3:Int):Option R:=
 V.iter (A:=Int) (fun rec a=>impl_PlaceOf.s2 k v0 v1 v2 e0 e1 (fun c0=>rec c0) a) n v3
theorem impl_PlaceOf.l2_succ {R:Type} (k:Nat) (v0:Int) (v1:LI) (v2:Int) (e0:Int->Option R) (e1:Option R) (n:Nat) (v3:Int):impl_PlaceOf.l2 (R:=R) k v0 v1 v2 e0 e1 (n+1) v3=impl_PlaceOf.s2 k v0 v1 v2 e0 e1 (impl_PlaceOf.l2 k v0 v1 v2 e0 e1 n) v3:=rfl
def impl_PlaceOf.f (k:Nat) (a:LI) (g:Int):Option (Int):=
 impl_PlaceOf.l2 k g a (a.length:Int) (fun x1=>
  some x1) (some (-1)) k 0
def impl_HasCard.f (k:Nat) (a:LI) (g:Int):Option (Bool):=
 (impl_PlaceOf.f k a g).bind fun r1=>
 some (decide (r1>=0))
def impl_Without.s3 {R:Type} (k:Nat) (v0:Int) (v1:LI) (v2:Int) (e0:LI->Option R) (rec:Int->LI->Option R) (v3:Int) (v4:LI):Option R:=
 bif decide (v3<v2) then
  chk ((decide (0<=v3))&&(decide (v3<(v1.length:Int))))<|
  bif ((v1.getD v3.toNat 0) != v0) then
   chk (decide ((v4.length+1)*8<=room))<|
   rec (IntKind.wrap .i64 (v3+1)) (v4++[v1.getD v3.toNat 0])
  else
   rec (IntKind.wrap .i64 (v3+1)) v4
 else
  e0 v4
def impl_Without.l3 {R:Type} (k:Nat) (v0:Int) (v1:LI) (v2:Int) (e0:LI->Option R) (n:Nat) (v3:Int) (v4:LI):Option R:=
 V.iter (A:=Int×LI) (fun rec a=>impl_Without.s3 k v0 v1 v2 e0 (fun c0 c1=>rec (c0,c1)) a.1 a.2) n (v3,v4)
theorem impl_Without.l3_succ {R:Type} (k:Nat) (v0:Int) (v1:LI) (v2:Int) (e0:LI->Option R) (n:Nat) (v3:Int) (v4:LI):impl_Without.l3 (R:=R) k v0 v1 v2 e0 (n+1) v3 v4=impl_Without.s3 k v0 v1 v2 e0 (impl_Without.l3 k v0 v1 v2 e0 n) v3 v4:=rfl
def impl_Without.f (k:Nat) (a:LI) (g:Int):Option (LI):=
 impl_Without.l3 k g a (a.length:Int) (fun x1=>
  some x1) k 0 []
def impl_DoesSkip.f (k:Nat) (a0 a1:Int) (a2 a3:Bool) (a4 a5:LI) (a6 a7 g:Int):Option (Bool):=
 (impl_IsRules.f k a0 a1 a2 a3 a4 a5 a6 a7).bind fun r1=>
 bif r1 then
  (impl_Matches.f k a5 g).bind fun r2=>
  some r2
 else
  some false
def impl_PlayOn.f (k:Nat) (a0 a1:Int) (a2 a3:Bool) (a4 a5:LI) (a6 a7:Int) (a8:LL) (a9 a10:LI) (a11 a12 a13 g:Int):Option (Int×Int×Bool×Bool×LI×LI×Int×Int×LL×LI×LI×Int×Int×Int×Bool):=
 (impl_Game_copied.f k a0 a1 a2 a3 a4 a5 a6 a7 a8 a9 a10 a11 a12 a13).bind fun r1=>
 (impl_Playable.f k a0 a1 a2 a3 a4 a5 a6 a7 a8 a9 a10 a11 a12 a13).bind fun r2=>
 (impl_HasCard.f k r2 g).bind fun r3=>
 bif (!r3) then
  some (r1.1,r1.2.1,(t2 r1).1,(t3 r1).1,(t4 r1).1,(t5 r1).1,(t6 r1).1,(t7 r1).1,(t8 r1).1,(t9 r1).1,(t9 r1.2).1,(t9 (t2 r1)).1,(t9 (t3 r1)).1,(t9 (t4 r1)),false)
 else
  chk ((decide (0<=a11))&&(decide (a11<((t8 r1).1.length:Int))))<|
  (impl_Without.f k ((t8 r1).1.getD a11.toNat []) g).bind fun r4=>
  chk ((decide (0<=a11))&&(decide (a11<((t8 r1).1.length:Int))))<|
  chk (decide (((t9 r1.2).1.length+1)*8<=room))<|
  (impl_DoesSkip.f k a0 a1 a2 a3 a4 a5 a6 a7 g).bind fun r5=>
  bif r5 then
   chk (!(decide ((a8.length:Int)=0)))<|
   some (r1.1,r1.2.1,(t2 r1).1,(t3 r1).1,(t4 r1).1,(t5 r1).1,(t6 r1).1,(t7 r1).1,(t8 r1).1.set a11.toNat r4,(t9 r1).1,(t9 r1.2).1++[g],(IntKind.wrap .i64 (a11+2)).tmod (a8.length:Int),IntKind.wrap .i64 ((t9 (t3 r1)).1+1),0,true)
  else
   chk (!(decide ((a8.length:Int)=0)))<|
   some (r1.1,r1.2.1,(t2 r1).1,(t3 r1).1,(t4 r1).1,(t5 r1).1,(t6 r1).1,(t7 r1).1,(t8 r1).1.set a11.toNat r4,(t9 r1).1,(t9 r1.2).1++[g],(IntKind.wrap .i64 (a11+1)).tmod (a8.length:Int),IntKind.wrap .i64 ((t9 (t3 r1)).1+1),0,true)
def impl_ReplayMove.f (k:Nat) (a0 a1:Int) (a2 a3:Bool) (a4 a5:LI) (a6 a7:Int) (a8:LL) (a9 a10:LI) (a11 a12 a13 g:Int):Option (Int×Int×Bool×Bool×LI×LI×Int×Int×LL×LI×LI×Int×Int×Int×Bool):=
 bif (g==(-1)) then
  (impl_TakeCards.f k a0 a1 a2 a3 a4 a5 a6 a7 a8 a9 a10 a11 a12 a13).bind fun r1=>
  some (r1.1,r1.2.1,(t2 r1).1,(t3 r1).1,(t4 r1).1,(t5 r1).1,(t6 r1).1,(t7 r1).1,(t8 r1).1,(t9 r1).1,(t9 r1.2).1,(t9 (t2 r1)).1,(t9 (t3 r1)).1,(t9 (t4 r1)).1,(t9 (t5 r1)))
 else
  (impl_PlayOn.f k a0 a1 a2 a3 a4 a5 a6 a7 a8 a9 a10 a11 a12 a13 g).bind fun r2=>
  some (r2.1,r2.2.1,(t2 r2).1,(t3 r2).1,(t4 r2).1,(t5 r2).1,(t6 r2).1,(t7 r2).1,(t8 r2).1,(t9 r2).1,(t9 r2.2).1,(t9 (t2 r2)).1,(t9 (t3 r2)).1,(t9 (t4 r2)).1,(t9 (t5 r2)))
def impl_Replayed.s3 {R:Type} (k:Nat) (v1:LI) (v2:Int) (e0:Int->Int->Int->Bool->Bool->Int->Int->Int->Int->Int->LI->LI->LL->LI->LI->Option R) (e1:Int->Int->Bool->Bool->Int->Int->Int->Int->Int->LI->LI->LL->LI->LI->Option R) (rec:Int->Int->Int->Bool->Bool->Int->Int->Int->Int->Int->LI->LI->LL->LI->LI->Option R) (v3 v13 v14:Int) (v15 v16:Bool) (v17 v18 v19 v20 v21:Int) (v22 v23:LI) (v24:LL) (v25 v26:LI):Option R:=
 bif decide (v3<v2) then
  chk ((decide (0<=v3))&&(decide (v3<(v1.length:Int))))<|
  (impl_ReplayMove.f k v13 v14 v15 v16 v22 v23 v17 v18 v24 v25 v26 v19 v20 v21 (v1.getD v3.toNat 0)).bind fun r2=>
  bif (!(t9 (t5 r2))) then
   e0 v3 v13 v14 v15 v16 v17 v18 v19 v20 v21 v22 v23 v24 v25 v26
  else
   rec (IntKind.wrap .i64 (v3+1)) r2.1 r2.2.1 (t2 r2).1 (t3 r2).1 (t6 r2).1 (t7 r2).1 (t9 (t2 r2)).1 (t9 (t3 r2)).1 (t9 (t4 r2)).1 (t4 r2).1 (t5 r2).1 (t8 r2).1 (t9 r2).1 (t9 r2.2).1
 else
  e1 v13 v14 v15 v16 v17 v18 v19 v20 v21 v22 v23 v24 v25 v26
def impl_Replayed.l3 {R:Type} (k:Nat) (v1:LI) (v2:Int) (e0:Int->Int->Int->Bool->Bool->Int->Int->Int->Int->Int->LI->LI->LL->LI->LI->Option R) (e1:Int->Int->Bool->Bool->Int->Int->Int->Int->Int->LI->LI->LL->LI->LI->Option R) (n:Nat) (v3 v13 v14:Int) (v15 v16:Bool) (v17 v18 v19 v20 v21:Int) (v22 v23:LI) (v24:LL) (v25 v26:LI):Option R:=
 V.iter (A:=Int×Int×Int×Bool×Bool×Int×Int×Int×Int×Int×LI×LI×LL×LI×LI) (fun rec a=>impl_Replayed.s3 k v1 v2 e0 e1 (fun c0 c1 c2 c3 c4 c5 c6 c7 c8 c9 c10 c11 c12 c13 c14=>rec (c0,c1,c2,c3,c4,c5,c6,c7,c8,c9,c10,c11,c12,c13,c14)) a.1 a.2.1 (t2 a).1 (t3 a).1 (t4 a).1 (t5 a).1 (t6 a).1 (t7 a).1 (t8 a).1 (t9 a).1 (t9 a.2).1 (t9 (t2 a)).1 (t9 (t3 a)).1 (t9 (t4 a)).1 (t9 (t5 a))) n (v3,v13,v14,v15,v16,v17,v18,v19,v20,v21,v22,v23,v24,v25,v26)
theorem impl_Replayed.l3_succ {R:Type} (k:Nat) (v1:LI) (v2:Int) (e0:Int->Int->Int->Bool->Bool->Int->Int->Int->Int->Int->LI->LI->LL->LI->LI->Option R) (e1:Int->Int->Bool->Bool->Int->Int->Int->Int->Int->LI->LI->LL->LI->LI->Option R) (n:Nat) (v3 v13 v14:Int) (v15 v16:Bool) (v17 v18 v19 v20 v21:Int) (v22 v23:LI) (v24:LL) (v25 v26:LI):impl_Replayed.l3 (R:=R) k v1 v2 e0 e1 (n+1) v3 v13 v14 v15 v16 v17 v18 v19 v20 v21 v22 v23 v24 v25 v26=impl_Replayed.s3 k v1 v2 e0 e1 (impl_Replayed.l3 k v1 v2 e0 e1 n) v3 v13 v14 v15 v16 v17 v18 v19 v20 v21 v22 v23 v24 v25 v26:=rfl
def impl_Replayed.f (k:Nat) (a0 a1:Int) (a2 a3:Bool) (a4 a5:LI) (a6 a7:Int) (a8:LL) (a9 a10:LI) (a11 a12 a13:Int) (g:LI):Option (Int×Int×Bool×Bool×LI×LI×Int×Int×LL×LI×LI×Int×Int×Int×Int):=
 (impl_Game_copied.f k a0 a1 a2 a3 a4 a5 a6 a7 a8 a9 a10 a11 a12 a13).bind fun r1=>
 impl_Replayed.l3 k g (g.length:Int) (fun x3 x4 x5 x6 x7 x8 x9 x10 x11 x12 x13 x14 x15 x16 x17=>
  some (x4,x5,x6,x7,x13,x14,x8,x9,x15,x16,x17,x10,x11,x12,x3)) (fun x18 x19 x20 x21 x22 x23 x24 x25 x26 x27 x28 x29 x30 x31=>
  some (x18,x19,x20,x21,x27,x28,x22,x23,x29,x30,x31,x24,x25,x26,(g.length:Int))) k 0 r1.1 r1.2.1 (t2 r1).1 (t3 r1).1 (t6 r1).1 (t7 r1).1 (t9 (t2 r1)).1 (t9 (t3 r1)).1 (t9 (t4 r1)) (t4 r1).1 (t5 r1).1 (t8 r1).1 (t9 r1).1 (t9 r1.2).1
def impl_IsTable.f (k:Nat) (a0 a1:Int) (a2 a3:Bool) (a4 a5:LI) (a6 a7:Int) (a8:LI) (a9:Bool) (a10:LI) (a11 a12:Int) (a13 a14:Bool) (a15 a16:LI) (a17 a18:Int) (a19:LL) (a20 a21:LI) (a22 a23 a24:Int) (a25:LI) (a26:LL):Option (Bool):=
 (impl_IsRules.f k a0 a1 a2 a3 a4 a5 a6 a7).bind fun r1=>
 bif (!r1) then
  some false
 else
  bif decide ((a8.length:Int)>a0) then
   some false
  else
   (impl_IsSheet.f k a0 a26).bind fun r2=>
   bif (!r2) then
    some false
   else
    bif (!a9) then
     bif ((a10.length:Int)==0) then
      bif ((a25.length:Int)==0) then
       (impl_EqualGames.f k a11 a12 a13 a14 a15 a16 a17 a18 a19 a20 a21 a22 a23 a24 0 0 false false [] [] 0 0 [] [] [] 0 0 0).bind fun r3=>
       some r3
      else
       some false
     else
      some false
    else
     (impl_NewGame.f k a0 a1 a2 a3 a4 a5 a6 a7 a10).bind fun r4=>
     bif (!(t9 (t5 r4))) then
      some false
     else
      bif ((a8.length:Int) != a0) then
       some false
      else
       (impl_Replayed.f k r4.1 r4.2.1 (t2 r4).1 (t3 r4).1 (t4 r4).1 (t5 r4).1 (t6 r4).1 (t7 r4).1 (t8 r4).1 (t9 r4).1 (t9 r4.2).1 (t9 (t2 r4)).1 (t9 (t3 r4)).1 (t9 (t4 r4)).1 a25).bind fun r5=>
       bif ((t9 (t5 r5))==(a25.length:Int)) then
        (impl_EqualGames.f k r5.1 r5.2.1 (t2 r5).1 (t3 r5).1 (t4 r5).1 (t5 r5).1 (t6 r5).1 (t7 r5).1 (t8 r5).1 (t9 r5).1 (t9 r5.2).1 (t9 (t2 r5)).1 (t9 (t3 r5)).1 (t9 (t4 r5)).1 a11 a12 a13 a14 a15 a16 a17 a18 a19 a20 a21 a22 a23 a24).bind fun r6=>
        some r6
       else
        some false
def impl_Table_becomes.f (k:Nat) (a0 a1:Int) (a2 a3:Bool) (a4 a5:LI) (a6 a7:Int) (a8:LI) (a9:Bool) (a10:LI) (a11 a12:Int) (a13 a14:Bool) (a15 a16:LI) (a17 a18:Int) (a19:LL) (a20 a21:LI) (a22 a23 a24:Int) (a25:LI) (a26:LL) (g0 g1:Int) (g2 g3:Bool) (g4 g5:LI) (g6 g7:Int) (g8:LI) (g9:Bool) (g10:LI) (g11 g12:Int) (g13 g14:Bool) (g15 g16:LI) (g17 g18:Int) (g19:LL) (g20 g21:LI) (g22 g23 g24:Int) (g25:LI) (g26:LL) (i:Bool):Option (Int×Int×Bool×Bool×LI×LI×Int×Int×LI×Bool×LI×Int×Int×Bool×Bool×LI×LI×Int×Int×LL×LI×LI×Int×Int×Int×LI×LL×Bool):=
 bif (!i) then
  (impl_Table_copied.f k a0 a1 a2 a3 a4 a5 a6 a7 a8 a9 a10 a11 a12 a13 a14 a15 a16 a17 a18 a19 a20 a21 a22 a23 a24 a25 a26).bind fun r1=>
  some (r1.1,r1.2.1,(t2 r1).1,(t3 r1).1,(t4 r1).1,(t5 r1).1,(t6 r1).1,(t7 r1).1,(t8 r1).1,(t9 r1).1,(t9 r1.2).1,(t9 (t2 r1)).1,(t9 (t3 r1)).1,(t9 (t4 r1)).1,(t9 (t5 r1)).1,(t9 (t6 r1)).1,(t9 (t7 r1)).1,(t9 (t8 r1)).1,(t9 (t9 r1)).1,(t9 (t9 r1.2)).1,(t9 (t9 (t2 r1))).1,(t9 (t9 (t3 r1))).1,(t9 (t9 (t4 r1))).1,(t9 (t9 (t5 r1))).1,(t9 (t9 (t6 r1))).1,(t9 (t9 (t7 r1))).1,(t9 (t9 (t8 r1))),false)
 else
  (impl_IsTable.f k a0 a1 a2 a3 a4 a5 a6 a7 a8 a9 a10 a11 a12 a13 a14 a15 a16 a17 a18 a19 a20 a21 a22 a23 a24 a25 a26).bind fun r2=>
  bif (!r2) then
   (impl_Table_copied.f k a0 a1 a2 a3 a4 a5 a6 a7 a8 a9 a10 a11 a12 a13 a14 a15 a16 a17 a18 a19 a20 a21 a22 a23 a24 a25 a26).bind fun r3=>
   some (r3.1,r3.2.1,(t2 r3).1,(t3 r3).1,(t4 r3).1,(t5 r3).1,(t6 r3).1,(t7 r3).1,(t8 r3).1,(t9 r3).1,(t9 r3.2).1,(t9 (t2 r3)).1,(t9 (t3 r3)).1,(t9 (t4 r3)).1,(t9 (t5 r3)).1,(t9 (t6 r3)).1,(t9 (t7 r3)).1,(t9 (t8 r3)).1,(t9 (t9 r3)).1,(t9 (t9 r3.2)).1,(t9 (t9 (t2 r3))).1,(t9 (t9 (t3 r3))).1,(t9 (t9 (t4 r3))).1,(t9 (t9 (t5 r3))).1,(t9 (t9 (t6 r3))).1,(t9 (t9 (t7 r3))).1,(t9 (t9 (t8 r3))),false)
  else
   (impl_IsTable.f k g0 g1 g2 g3 g4 g5 g6 g7 g8 g9 g10 g11 g12 g13 g14 g15 g16 g17 g18 g19 g20 g21 g22 g23 g24 g25 g26).bind fun r4=>
   bif (!r4) then
    (impl_Table_copied.f k a0 a1 a2 a3 a4 a5 a6 a7 a8 a9 a10 a11 a12 a13 a14 a15 a16 a17 a18 a19 a20 a21 a22 a23 a24 a25 a26).bind fun r5=>
    some (r5.1,r5.2.1,(t2 r5).1,(t3 r5).1,(t4 r5).1,(t5 r5).1,(t6 r5).1,(t7 r5).1,(t8 r5).1,(t9 r5).1,(t9 r5.2).1,(t9 (t2 r5)).1,(t9 (t3 r5)).1,(t9 (t4 r5)).1,(t9 (t5 r5)).1,(t9 (t6 r5)).1,(t9 (t7 r5)).1,(t9 (t8 r5)).1,(t9 (t9 r5)).1,(t9 (t9 r5.2)).1,(t9 (t9 (t2 r5))).1,(t9 (t9 (t3 r5))).1,(t9 (t9 (t4 r5))).1,(t9 (t9 (t5 r5))).1,(t9 (t9 (t6 r5))).1,(t9 (t9 (t7 r5))).1,(t9 (t9 (t8 r5))),false)
   else
    some (g0,g1,g2,g3,g4,g5,g6,g7,g8,g9,g10,g11,g12,g13,g14,g15,g16,g17,g18,g19,g20,g21,g22,g23,g24,g25,g26,true)
def impl_StepRules.f (k:Nat) (a0 a1:Int) (a2 a3:Bool) (a4 a5:LI) (a6 a7:Int) (a8:LI) (a9:Bool) (a10:LI) (a11 a12:Int) (a13 a14:Bool) (a15 a16:LI) (a17 a18:Int) (a19:LL) (a20 a21:LI) (a22 a23 a24:Int) (a25:LI) (a26:LL) (g:ByteArray):Option (Int×Int×Bool×Bool×LI×LI×Int×Int×LI×Bool×LI×Int×Int×Bool×Bool×LI×LI×Int×Int×LL×LI×LI×Int×Int×Int×LI×LL×Bool):=
 (impl_Table_copied.f k a0 a1 a2 a3 a4 a5 a6 a7 a8 a9 a10 a11 a12 a13 a14 a15 a16 a17 a18 a19 a20 a21 a22 a23 a24 a25 a26).bind fun r1=>
 (impl_ParseRules.f k g).bind fun r2=>
 bif (r2.1 != a0) then
  bif (t8 r2) then
   (impl_Table_becomes.f k a0 a1 a2 a3 a4 a5 a6 a7 a8 a9 a10 a11 a12 a13 a14 a15 a16 a17 a18 a19 a20 a21 a22 a23 a24 a25 a26 r2.1 r2.2.1 (t2 r2).1 (t3 r2).1 (t4 r2).1 (t5 r2).1 (t6 r2).1 (t7 r2).1 [] (t9 r1).1 (t9 r1.2).1 (t9 (t2 r1)).1 (t9 (t3 r1)).1 (t9 (t4 r1)).1 (t9 (t5 r1)).1 (t9 (t6 r1)).1 (t9 (t7 r1)).1 (t9 (t8 r1)).1 (t9 (t9 r1)).1 (t9 (t9 r1.2)).1 (t9 (t9 (t2 r1))).1 (t9 (t9 (t3 r1))).1 (t9 (t9 (t4 r1))).1 (t9 (t9 (t5 r1))).1 (t9 (t9 (t6 r1))).1 (t9 (t9 (t7 r1))).1 [] (!a9)).bind fun r3=>
   some (r3.1,r3.2.1,(t2 r3).1,(t3 r3).1,(t4 r3).1,(t5 r3).1,(t6 r3).1,(t7 r3).1,(t8 r3).1,(t9 r3).1,(t9 r3.2).1,(t9 (t2 r3)).1,(t9 (t3 r3)).1,(t9 (t4 r3)).1,(t9 (t5 r3)).1,(t9 (t6 r3)).1,(t9 (t7 r3)).1,(t9 (t8 r3)).1,(t9 (t9 r3)).1,(t9 (t9 r3.2)).1,(t9 (t9 (t2 r3))).1,(t9 (t9 (t3 r3))).1,(t9 (t9 (t4 r3))).1,(t9 (t9 (t5 r3))).1,(t9 (t9 (t6 r3))).1,(t9 (t9 (t7 r3))).1,(t9 (t9 (t8 r3))).1,(t9 (t9 (t9 r3))))
  else
   (impl_Table_becomes.f k a0 a1 a2 a3 a4 a5 a6 a7 a8 a9 a10 a11 a12 a13 a14 a15 a16 a17 a18 a19 a20 a21 a22 a23 a24 a25 a26 r2.1 r2.2.1 (t2 r2).1 (t3 r2).1 (t4 r2).1 (t5 r2).1 (t6 r2).1 (t7 r2).1 [] (t9 r1).1 (t9 r1.2).1 (t9 (t2 r1)).1 (t9 (t3 r1)).1 (t9 (t4 r1)).1 (t9 (t5 r1)).1 (t9 (t6 r1)).1 (t9 (t7 r1)).1 (t9 (t8 r1)).1 (t9 (t9 r1)).1 (t9 (t9 r1.2)).1 (t9 (t9 (t2 r1))).1 (t9 (t9 (t3 r1))).1 (t9 (t9 (t4 r1))).1 (t9 (t9 (t5 r1))).1 (t9 (t9 (t6 r1))).1 (t9 (t9 (t7 r1))).1 [] false).bind fun r4=>
   some (r4.1,r4.2.1,(t2 r4).1,(t3 r4).1,(t4 r4).1,(t5 r4).1,(t6 r4).1,(t7 r4).1,(t8 r4).1,(t9 r4).1,(t9 r4.2).1,(t9 (t2 r4)).1,(t9 (t3 r4)).1,(t9 (t4 r4)).1,(t9 (t5 r4)).1,(t9 (t6 r4)).1,(t9 (t7 r4)).1,(t9 (t8 r4)).1,(t9 (t9 r4)).1,(t9 (t9 r4.2)).1,(t9 (t9 (t2 r4))).1,(t9 (t9 (t3 r4))).1,(t9 (t9 (t4 r4))).1,(t9 (t9 (t5 r4))).1,(t9 (t9 (t6 r4))).1,(t9 (t9 (t7 r4))).1,(t9 (t9 (t8 r4))).1,(t9 (t9 (t9 r4))))
 else
  bif (t8 r2) then
   (impl_Table_becomes.f k a0 a1 a2 a3 a4 a5 a6 a7 a8 a9 a10 a11 a12 a13 a14 a15 a16 a17 a18 a19 a20 a21 a22 a23 a24 a25 a26 r2.1 r2.2.1 (t2 r2).1 (t3 r2).1 (t4 r2).1 (t5 r2).1 (t6 r2).1 (t7 r2).1 (t8 r1).1 (t9 r1).1 (t9 r1.2).1 (t9 (t2 r1)).1 (t9 (t3 r1)).1 (t9 (t4 r1)).1 (t9 (t5 r1)).1 (t9 (t6 r1)).1 (t9 (t7 r1)).1 (t9 (t8 r1)).1 (t9 (t9 r1)).1 (t9 (t9 r1.2)).1 (t9 (t9 (t2 r1))).1 (t9 (t9 (t3 r1))).1 (t9 (t9 (t4 r1))).1 (t9 (t9 (t5 r1))).1 (t9 (t9 (t6 r1))).1 (t9 (t9 (t7 r1))).1 (t9 (t9 (t8 r1))) (!a9)).bind fun r5=>
   some (r5.1,r5.2.1,(t2 r5).1,(t3 r5).1,(t4 r5).1,(t5 r5).1,(t6 r5).1,(t7 r5).1,(t8 r5).1,(t9 r5).1,(t9 r5.2).1,(t9 (t2 r5)).1,(t9 (t3 r5)).1,(t9 (t4 r5)).1,(t9 (t5 r5)).1,(t9 (t6 r5)).1,(t9 (t7 r5)).1,(t9 (t8 r5)).1,(t9 (t9 r5)).1,(t9 (t9 r5.2)).1,(t9 (t9 (t2 r5))).1,(t9 (t9 (t3 r5))).1,(t9 (t9 (t4 r5))).1,(t9 (t9 (t5 r5))).1,(t9 (t9 (t6 r5))).1,(t9 (t9 (t7 r5))).1,(t9 (t9 (t8 r5))).1,(t9 (t9 (t9 r5))))
  else
   (impl_Table_becomes.f k a0 a1 a2 a3 a4 a5 a6 a7 a8 a9 a10 a11 a12 a13 a14 a15 a16 a17 a18 a19 a20 a21 a22 a23 a24 a25 a26 r2.1 r2.2.1 (t2 r2).1 (t3 r2).1 (t4 r2).1 (t5 r2).1 (t6 r2).1 (t7 r2).1 (t8 r1).1 (t9 r1).1 (t9 r1.2).1 (t9 (t2 r1)).1 (t9 (t3 r1)).1 (t9 (t4 r1)).1 (t9 (t5 r1)).1 (t9 (t6 r1)).1 (t9 (t7 r1)).1 (t9 (t8 r1)).1 (t9 (t9 r1)).1 (t9 (t9 r1.2)).1 (t9 (t9 (t2 r1))).1 (t9 (t9 (t3 r1))).1 (t9 (t9 (t4 r1))).1 (t9 (t9 (t5 r1))).1 (t9 (t9 (t6 r1))).1 (t9 (t9 (t7 r1))).1 (t9 (t9 (t8 r1))) false).bind fun r6=>
   some (r6.1,r6.2.1,(t2 r6).1,(t3 r6).1,(t4 r6).1,(t5 r6).1,(t6 r6).1,(t7 r6).1,(t8 r6).1,(t9 r6).1,(t9 r6.2).1,(t9 (t2 r6)).1,(t9 (t3 r6)).1,(t9 (t4 r6)).1,(t9 (t5 r6)).1,(t9 (t6 r6)).1,(t9 (t7 r6)).1,(t9 (t8 r6)).1,(t9 (t9 r6)).1,(t9 (t9 r6.2)).1,(t9 (t9 (t2 r6))).1,(t9 (t9 (t3 r6))).1,(t9 (t9 (t4 r6))).1,(t9 (t9 (t5 r6))).1,(t9 (t9 (t6 r6))).1,(t9 (t9 (t7 r6))).1,(t9 (t9 (t8 r6))).1,(t9 (t9 (t9 r6))))
def laws_eqIntS.s4 {R:Type} (k:Nat) (v0 v1:LI) (e0 e1:Option R) (rec:Int->Option R) (v2:Int):Option R:=
 bif decide (v2<(v0.length:Int)) then
  chk ((decide (0<=v2))&&(decide (v2<(v0.length:Int))))<|
  chk ((decide (0<=v2))&&(decide (v2<(v1.length:Int))))<|
  bif ((v0.getD v2.toNat 0) != (v1.getD v2.toNat 0)) then
   e0
  else
   rec (IntKind.wrap .i64 (v2+1))
 else
  e1
def laws_eqIntS.l4 {R:Type} (k:Nat) (v0 v1:LI) (e0 e1:Option R) (n:Nat) (v2:Int):Option R:=
 V.iter (A:=Int) (fun rec a=>laws_eqIntS.s4 k v0 v1 e0 e1 (fun c0=>rec c0) a) n v2
theorem laws_eqIntS.l4_succ {R:Type} (k:Nat) (v0 v1:LI) (e0 e1:Option R) (n:Nat) (v2:Int):laws_eqIntS.l4 (R:=R) k v0 v1 e0 e1 (n+1) v2=laws_eqIntS.s4 k v0 v1 e0 e1 (laws_eqIntS.l4 k v0 v1 e0 e1 n) v2:=rfl
def laws_eqIntS.f (k:Nat) (a g:LI):Option (Bool):=
 bif ((a.length:Int) != (g.length:Int)) then
  some false
 else
  laws_eqIntS.l4 k a g (some false) (some true) k 0
def laws_eqRules.f (k:Nat) (a0 a1:Int) (a2 a3:Bool) (a4 a5:LI) (a6 a7 g0 g1:Int) (g2 g3:Bool) (g4 g5:LI) (g6 g7:Int):Option (Bool):=
 bif (a0 != g0) then
  some false
 else
  bif (a1 != g1) then
   some false
  else
   bif (!(a2==g2)) then
    some false
   else
    bif (!(a3==g3)) then
     some false
    else
     (laws_eqIntS.f k a4 g4).bind fun r1=>
     bif (!r1) then
      some false
     else
      (laws_eqIntS.f k a5 g5).bind fun r2=>
      bif (!r2) then
       some false
      else
       bif (a6 != g6) then
        some false
       else
        bif (a7 != g7) then
         some false
        else
         some true
def laws_eqIntSS.s4 {R:Type} (k:Nat) (v0 v1:LL) (e0 e1:Option R) (rec:Int->Option R) (v2:Int):Option R:=
 bif decide (v2<(v0.length:Int)) then
  chk ((decide (0<=v2))&&(decide (v2<(v0.length:Int))))<|
  chk ((decide (0<=v2))&&(decide (v2<(v1.length:Int))))<|
  (laws_eqIntS.f k (v0.getD v2.toNat []) (v1.getD v2.toNat [])).bind fun r1=>
  bif (!r1) then
   e0
  else
   rec (IntKind.wrap .i64 (v2+1))
 else
  e1
def laws_eqIntSS.l4 {R:Type} (k:Nat) (v0 v1:LL) (e0 e1:Option R) (n:Nat) (v2:Int):Option R:=
 V.iter (A:=Int) (fun rec a=>laws_eqIntSS.s4 k v0 v1 e0 e1 (fun c0=>rec c0) a) n v2
theorem laws_eqIntSS.l4_succ {R:Type} (k:Nat) (v0 v1:LL) (e0 e1:Option R) (n:Nat) (v2:Int):laws_eqIntSS.l4 (R:=R) k v0 v1 e0 e1 (n+1) v2=laws_eqIntSS.s4 k v0 v1 e0 e1 (laws_eqIntSS.l4 k v0 v1 e0 e1 n) v2:=rfl
def laws_eqIntSS.f (k:Nat) (a g:LL):Option (Bool):=
 bif ((a.length:Int) != (g.length:Int)) then
  some false
 else
  laws_eqIntSS.l4 k a g (some false) (some true) k 0
def laws_eqGame.f (k:Nat) (a0 a1:Int) (a2 a3:Bool) (a4 a5:LI) (a6 a7:Int) (a8:LL) (a9 a10:LI) (a11 a12 a13 g0 g1:Int) (g2 g3:Bool) (g4 g5:LI) (g6 g7:Int) (g8:LL) (g9 g10:LI) (g11 g12 g13:Int):Option (Bool):=
 (laws_eqRules.f k a0 a1 a2 a3 a4 a5 a6 a7 g0 g1 g2 g3 g4 g5 g6 g7).bind fun r1=>
 bif (!r1) then
  some false
 else
  (laws_eqIntSS.f k a8 g8).bind fun r2=>
  bif (!r2) then
   some false
  else
   (laws_eqIntS.f k a9 g9).bind fun r3=>
   bif (!r3) then
    some false
   else
    (laws_eqIntS.f k a10 g10).bind fun r4=>
    bif (!r4) then
     some false
    else
     bif (a11 != g11) then
      some false
     else
      bif (a12 != g12) then
       some false
      else
       bif (a13 != g13) then
        some false
       else
        some true
def laws_eqTable.f (k:Nat) (a0 a1:Int) (a2 a3:Bool) (a4 a5:LI) (a6 a7:Int) (a8:LI) (a9:Bool) (a10:LI) (a11 a12:Int) (a13 a14:Bool) (a15 a16:LI) (a17 a18:Int) (a19:LL) (a20 a21:LI) (a22 a23 a24:Int) (a25:LI) (a26:LL) (g0 g1:Int) (g2 g3:Bool) (g4 g5:LI) (g6 g7:Int) (g8:LI) (g9:Bool) (g10:LI) (g11 g12:Int) (g13 g14:Bool) (g15 g16:LI) (g17 g18:Int) (g19:LL) (g20 g21:LI) (g22 g23 g24:Int) (g25:LI) (g26:LL):Option (Bool):=
 (laws_eqRules.f k a0 a1 a2 a3 a4 a5 a6 a7 g0 g1 g2 g3 g4 g5 g6 g7).bind fun r1=>
 bif (!r1) then
  some false
 else
  (laws_eqIntS.f k a8 g8).bind fun r2=>
  bif (!r2) then
   some false
  else
   bif (!(a9==g9)) then
    some false
   else
    (laws_eqIntS.f k a10 g10).bind fun r3=>
    bif (!r3) then
     some false
    else
     (laws_eqGame.f k a11 a12 a13 a14 a15 a16 a17 a18 a19 a20 a21 a22 a23 a24 g11 g12 g13 g14 g15 g16 g17 g18 g19 g20 g21 g22 g23 g24).bind fun r4=>
     bif (!r4) then
      some false
     else
      (laws_eqIntS.f k a25 g25).bind fun r5=>
      bif (!r5) then
       some false
      else
       (laws_eqIntSS.f k a26 g26).bind fun r6=>
       bif (!r6) then
        some false
       else
        some true
def laws_markIntS.s2 {R:Type} (k:Nat) (e0:Int->LI->Option R) (rec:Int->Int->LI->Option R) (v0 v1:Int) (v2:LI):Option R:=
 bif decide (v1<(v2.length:Int)) then
  chk ((decide (0<=v1))&&(decide (v1<(v2.length:Int))))<|
  rec (IntKind.wrap .i64 (v0+1)) (IntKind.wrap .i64 (v1+1)) (v2.set v1.toNat v0)
 else
  e0 v0 v2
def laws_markIntS.l2 {R:Type} (k:Nat) (e0:Int->LI->Option R) (n:Nat) (v0 v1:Int) (v2:LI):Option R:=
 V.iter (A:=Int×Int×LI) (fun rec a=>laws_markIntS.s2 k e0 (fun c0 c1 c2=>rec (c0,c1,c2)) a.1 a.2.1 (t2 a)) n (v0,v1,v2)
theorem laws_markIntS.l2_succ {R:Type} (k:Nat) (e0:Int->LI->Option R) (n:Nat) (v0 v1:Int) (v2:LI):laws_markIntS.l2 (R:=R) k e0 (n+1) v0 v1 v2=laws_markIntS.s2 k e0 (laws_markIntS.l2 k e0 n) v0 v1 v2:=rfl
def laws_markIntS.f (k:Nat) (a:LI) (g:Int):Option (Int×LI):=
 laws_markIntS.l2 k (fun x1 x2=>
  some (x1,x2)) k g 0 a
def laws_markRules.f (k:Nat) (a0 a1:Int) (a2 a3:Bool) (a4 a5:LI) (a6 a7 g:Int):Option (Int×Int×Int×Bool×Bool×LI×LI×Int×Int):=
 (laws_markIntS.f k a4 g).bind fun r1=>
 (laws_markIntS.f k a5 r1.1).bind fun r2=>
 some (r2.1,a0,a1,a2,a3,r1.2,r2.2,a6,a7)
def laws_markIntSS.s2 {R:Type} (k:Nat) (e0:Int->LL->Option R) (rec:Int->Int->LL->Option R) (v0 v1:Int) (v2:LL):Option R:=
 bif decide (v1<(v2.length:Int)) then
  chk ((decide (0<=v1))&&(decide (v1<(v2.length:Int))))<|
  chk (Nat.blt v1.toNat v2.length)<|
  (laws_markIntS.f k (v2.getD v1.toNat []) v0).bind fun r1=>
  rec r1.1 (IntKind.wrap .i64 (v1+1)) (v2.set v1.toNat r1.2)
 else
  e0 v0 v2
def laws_markIntSS.l2 {R:Type} (k:Nat) (e0:Int->LL->Option R) (n:Nat) (v0 v1:Int) (v2:LL):Option R:=
 V.iter (A:=Int×Int×LL) (fun rec a=>laws_markIntSS.s2 k e0 (fun c0 c1 c2=>rec (c0,c1,c2)) a.1 a.2.1 (t2 a)) n (v0,v1,v2)
theorem laws_markIntSS.l2_succ {R:Type} (k:Nat) (e0:Int->LL->Option R) (n:Nat) (v0 v1:Int) (v2:LL):laws_markIntSS.l2 (R:=R) k e0 (n+1) v0 v1 v2=laws_markIntSS.s2 k e0 (laws_markIntSS.l2 k e0 n) v0 v1 v2:=rfl
def laws_markIntSS.f (k:Nat) (a:LL) (g:Int):Option (Int×LL):=
 laws_markIntSS.l2 k (fun x2 x3=>
  some (x2,x3)) k g 0 a
def laws_markGame.f (k:Nat) (a0 a1:Int) (a2 a3:Bool) (a4 a5:LI) (a6 a7:Int) (a8:LL) (a9 a10:LI) (a11 a12 a13 g:Int):Option (Int×Int×Int×Bool×Bool×LI×LI×Int×Int×LL×LI×LI×Int×Int×Int):=
 (laws_markRules.f k a0 a1 a2 a3 a4 a5 a6 a7 g).bind fun r1=>
 (laws_markIntSS.f k a8 r1.1).bind fun r2=>
 (laws_markIntS.f k a9 r2.1).bind fun r3=>
 (laws_markIntS.f k a10 r3.1).bind fun r4=>
 some (r4.1,a0,a1,a2,a3,(t5 r1).1,(t6 r1).1,a6,a7,r2.2,r3.2,r4.2,a11,a12,a13)
def laws_markTable.f (k:Nat) (a0 a1:Int) (a2 a3:Bool) (a4 a5:LI) (a6 a7:Int) (a8:LI) (a9:Bool) (a10:LI) (a11 a12:Int) (a13 a14:Bool) (a15 a16:LI) (a17 a18:Int) (a19:LL) (a20 a21:LI) (a22 a23 a24:Int) (a25:LI) (a26:LL) (g:Int):Option (Int×Int×Int×Bool×Bool×LI×LI×Int×Int×LI×Bool×LI×Int×Int×Bool×Bool×LI×LI×Int×Int×LL×LI×LI×Int×Int×Int×LI×LL):=
 (laws_markRules.f k a0 a1 a2 a3 a4 a5 a6 a7 g).bind fun r1=>
 (laws_markIntS.f k a8 r1.1).bind fun r2=>
 (laws_markIntS.f k a10 r2.1).bind fun r3=>
 (laws_markGame.f k a11 a12 a13 a14 a15 a16 a17 a18 a19 a20 a21 a22 a23 a24 r3.1).bind fun r4=>
 (laws_markIntS.f k a25 r4.1).bind fun r5=>
 (laws_markIntSS.f k a26 r5.1).bind fun r6=>
 some (r6.1,a0,a1,a2,a3,(t5 r1).1,(t6 r1).1,a6,a7,r2.2,a9,r3.2,a11,a12,a13,a14,(t5 r4).1,(t6 r4).1,a17,a18,(t9 r4).1,(t9 r4.2).1,(t9 (t2 r4)).1,a22,a23,a24,r5.2,r6.2)
def laws_heldIntS.s2 {R:Type} (k:Nat) (v0:LI) (e0 e1:Int->Option R) (rec:Int->Int->Option R) (v1 v2:Int):Option R:=
 bif decide (v2<(v0.length:Int)) then
  chk ((decide (0<=v2))&&(decide (v2<(v0.length:Int))))<|
  bif ((v0.getD v2.toNat 0) != v1) then
   e0 v1
  else
   rec (IntKind.wrap .i64 (v1+1)) (IntKind.wrap .i64 (v2+1))
 else
  e1 v1
def laws_heldIntS.l2 {R:Type} (k:Nat) (v0:LI) (e0 e1:Int->Option R) (n:Nat) (v1 v2:Int):Option R:=
 V.iter (A:=Int×Int) (fun rec a=>laws_heldIntS.s2 k v0 e0 e1 (fun c0 c1=>rec (c0,c1)) a.1 a.2) n (v1,v2)
theorem laws_heldIntS.l2_succ {R:Type} (k:Nat) (v0:LI) (e0 e1:Int->Option R) (n:Nat) (v1 v2:Int):laws_heldIntS.l2 (R:=R) k v0 e0 e1 (n+1) v1 v2=laws_heldIntS.s2 k v0 e0 e1 (laws_heldIntS.l2 k v0 e0 e1 n) v1 v2:=rfl
def laws_heldIntS.f (k:Nat) (a:LI) (g:Int):Option (Int):=
 laws_heldIntS.l2 k a (fun x1=>
  some (-1)) (fun x2=>
  some x2) k g 0
def laws_heldRules.f (k:Nat) (a0 a1:Int) (a2 a3:Bool) (a4 a5:LI) (a6 a7 g:Int):Option (Int):=
 (laws_heldIntS.f k a4 g).bind fun r1=>
 bif decide (r1<0) then
  some (-1)
 else
  (laws_heldIntS.f k a5 r1).bind fun r2=>
  bif decide (r2<0) then
   some (-1)
  else
   some r2
def laws_heldIntSS.s2 {R:Type} (k:Nat) (v0:LL) (e0 e1:Int->Option R) (rec:Int->Int->Option R) (v1 v2:Int):Option R:=
 bif decide (v2<(v0.length:Int)) then
  chk ((decide (0<=v2))&&(decide (v2<(v0.length:Int))))<|
  (laws_heldIntS.f k (v0.getD v2.toNat []) v1).bind fun r1=>
  bif decide (r1<0) then
   e0 r1
  else
   rec r1 (IntKind.wrap .i64 (v2+1))
 else
  e1 v1
def laws_heldIntSS.l2 {R:Type} (k:Nat) (v0:LL) (e0 e1:Int->Option R) (n:Nat) (v1 v2:Int):Option R:=
 V.iter (A:=Int×Int) (fun rec a=>laws_heldIntSS.s2 k v0 e0 e1 (fun c0 c1=>rec (c0,c1)) a.1 a.2) n (v1,v2)
theorem laws_heldIntSS.l2_succ {R:Type} (k:Nat) (v0:LL) (e0 e1:Int->Option R) (n:Nat) (v1 v2:Int):laws_heldIntSS.l2 (R:=R) k v0 e0 e1 (n+1) v1 v2=laws_heldIntSS.s2 k v0 e0 e1 (laws_heldIntSS.l2 k v0 e0 e1 n) v1 v2:=rfl
def laws_heldIntSS.f (k:Nat) (a:LL) (g:Int):Option (Int):=
 laws_heldIntSS.l2 k a (fun x2=>
  some (-1)) (fun x3=>
  some x3) k g 0
def laws_heldGame.f (k:Nat) (a0 a1:Int) (a2 a3:Bool) (a4 a5:LI) (a6 a7:Int) (a8:LL) (a9 a10:LI) (a11 a12 a13 g:Int):Option (Int):=
 (laws_heldRules.f k a0 a1 a2 a3 a4 a5 a6 a7 g).bind fun r1=>
 bif decide (r1<0) then
  some (-1)
 else
  (laws_heldIntSS.f k a8 r1).bind fun r2=>
  bif decide (r2<0) then
   some (-1)
  else
   (laws_heldIntS.f k a9 r2).bind fun r3=>
   bif decide (r3<0) then
    some (-1)
   else
    (laws_heldIntS.f k a10 r3).bind fun r4=>
    bif decide (r4<0) then
     some (-1)
    else
     some r4
def laws_heldTable.f (k:Nat) (a0 a1:Int) (a2 a3:Bool) (a4 a5:LI) (a6 a7:Int) (a8:LI) (a9:Bool) (a10:LI) (a11 a12:Int) (a13 a14:Bool) (a15 a16:LI) (a17 a18:Int) (a19:LL) (a20 a21:LI) (a22 a23 a24:Int) (a25:LI) (a26:LL) (g:Int):Option (Int):=
 (laws_heldRules.f k a0 a1 a2 a3 a4 a5 a6 a7 g).bind fun r1=>
 bif decide (r1<0) then
  some (-1)
 else
  (laws_heldIntS.f k a8 r1).bind fun r2=>
  bif decide (r2<0) then
   some (-1)
  else
   (laws_heldIntS.f k a10 r2).bind fun r3=>
   bif decide (r3<0) then
    some (-1)
   else
    (laws_heldGame.f k a11 a12 a13 a14 a15 a16 a17 a18 a19 a20 a21 a22 a23 a24 r3).bind fun r4=>
    bif decide (r4<0) then
     some (-1)
    else
     (laws_heldIntS.f k a25 r4).bind fun r5=>
     bif decide (r5<0) then
      some (-1)
     else
      (laws_heldIntSS.f k a26 r5).bind fun r6=>
      bif decide (r6<0) then
       some (-1)
      else
       some r6
def laws_FnExactStepRules.f (k:Nat) (a0 a1:Int) (a2 a3:Bool) (a4 a5:LI) (a6 a7:Int) (a8:LI) (a9:Bool) (a10:LI) (a11 a12:Int) (a13 a14:Bool) (a15 a16:LI) (a17 a18:Int) (a19:LL) (a20 a21:LI) (a22 a23 a24:Int) (a25:LI) (a26:LL) (g:ByteArray):Option (Bool):=
 bif decide ((g.size:Int)>1048576) then
  some true
 else
  (laws_szTable.f k a0 a1 a2 a3 a4 a5 a6 a7 a8 a9 a10 a11 a12 a13 a14 a15 a16 a17 a18 a19 a20 a21 a22 a23 a24 a25 a26 1048576).bind fun r1=>
  bif decide (r1<0) then
   some true
  else
   (laws_toTable.f k a0 a1 a2 a3 a4 a5 a6 a7 a8 a9 a10 a11 a12 a13 a14 a15 a16 a17 a18 a19 a20 a21 a22 a23 a24 a25 a26).bind fun r2=>
   (spec_StepRules.f k r2.1 r2.2.1 (t2 r2).1 (t3 r2).1 (t4 r2).1 (t5 r2).1 (t6 r2).1 (t7 r2).1 (t8 r2).1 (t9 r2).1 (t9 r2.2).1 (t9 (t2 r2)).1 (t9 (t3 r2)).1 (t9 (t4 r2)).1 (t9 (t5 r2)).1 (t9 (t6 r2)).1 (t9 (t7 r2)).1 (t9 (t8 r2)).1 (t9 (t9 r2)).1 (t9 (t9 r2.2)).1 (t9 (t9 (t2 r2))).1 (t9 (t9 (t3 r2))).1 (t9 (t9 (t4 r2))).1 (t9 (t9 (t5 r2))).1 (t9 (t9 (t6 r2))).1 (t9 (t9 (t7 r2))).1 (t9 (t9 (t8 r2))) g).bind fun r3=>
   (laws_toTable.f k a0 a1 a2 a3 a4 a5 a6 a7 a8 a9 a10 a11 a12 a13 a14 a15 a16 a17 a18 a19 a20 a21 a22 a23 a24 a25 a26).bind fun r4=>
   (impl_StepRules.f k r4.1 r4.2.1 (t2 r4).1 (t3 r4).1 (t4 r4).1 (t5 r4).1 (t6 r4).1 (t7 r4).1 (t8 r4).1 (t9 r4).1 (t9 r4.2).1 (t9 (t2 r4)).1 (t9 (t3 r4)).1 (t9 (t4 r4)).1 (t9 (t5 r4)).1 (t9 (t6 r4)).1 (t9 (t7 r4)).1 (t9 (t8 r4)).1 (t9 (t9 r4)).1 (t9 (t9 r4.2)).1 (t9 (t9 (t2 r4))).1 (t9 (t9 (t3 r4))).1 (t9 (t9 (t4 r4))).1 (t9 (t9 (t5 r4))).1 (t9 (t9 (t6 r4))).1 (t9 (t9 (t7 r4))).1 (t9 (t9 (t8 r4))) g).bind fun r5=>
   (laws_eqTable.f k r5.1 r5.2.1 (t2 r5).1 (t3 r5).1 (t4 r5).1 (t5 r5).1 (t6 r5).1 (t7 r5).1 (t8 r5).1 (t9 r5).1 (t9 r5.2).1 (t9 (t2 r5)).1 (t9 (t3 r5)).1 (t9 (t4 r5)).1 (t9 (t5 r5)).1 (t9 (t6 r5)).1 (t9 (t7 r5)).1 (t9 (t8 r5)).1 (t9 (t9 r5)).1 (t9 (t9 r5.2)).1 (t9 (t9 (t2 r5))).1 (t9 (t9 (t3 r5))).1 (t9 (t9 (t4 r5))).1 (t9 (t9 (t5 r5))).1 (t9 (t9 (t6 r5))).1 (t9 (t9 (t7 r5))).1 (t9 (t9 (t8 r5))).1 r3.1 r3.2.1 (t2 r3).1 (t3 r3).1 (t4 r3).1 (t5 r3).1 (t6 r3).1 (t7 r3).1 (t8 r3).1 (t9 r3).1 (t9 r3.2).1 (t9 (t2 r3)).1 (t9 (t3 r3)).1 (t9 (t4 r3)).1 (t9 (t5 r3)).1 (t9 (t6 r3)).1 (t9 (t7 r3)).1 (t9 (t8 r3)).1 (t9 (t9 r3)).1 (t9 (t9 r3.2)).1 (t9 (t9 (t2 r3))).1 (t9 (t9 (t3 r3))).1 (t9 (t9 (t4 r3))).1 (t9 (t9 (t5 r3))).1 (t9 (t9 (t6 r3))).1 (t9 (t9 (t7 r3))).1 (t9 (t9 (t8 r3))).1).bind fun r6=>
   bif (!r6) then
    some false
   else
    bif (!((t9 (t9 (t9 r5)))==(t9 (t9 (t9 r3))))) then
     some false
    else
     (laws_toTable.f k a0 a1 a2 a3 a4 a5 a6 a7 a8 a9 a10 a11 a12 a13 a14 a15 a16 a17 a18 a19 a20 a21 a22 a23 a24 a25 a26).bind fun r7=>
     (laws_eqTable.f k r4.1 r4.2.1 (t2 r4).1 (t3 r4).1 (t4 r4).1 (t5 r4).1 (t6 r4).1 (t7 r4).1 (t8 r4).1 (t9 r4).1 (t9 r4.2).1 (t9 (t2 r4)).1 (t9 (t3 r4)).1 (t9 (t4 r4)).1 (t9 (t5 r4)).1 (t9 (t6 r4)).1 (t9 (t7 r4)).1 (t9 (t8 r4)).1 (t9 (t9 r4)).1 (t9 (t9 r4.2)).1 (t9 (t9 (t2 r4))).1 (t9 (t9 (t3 r4))).1 (t9 (t9 (t4 r4))).1 (t9 (t9 (t5 r4))).1 (t9 (t9 (t6 r4))).1 (t9 (t9 (t7 r4))).1 (t9 (t9 (t8 r4))) r7.1 r7.2.1 (t2 r7).1 (t3 r7).1 (t4 r7).1 (t5 r7).1 (t6 r7).1 (t7 r7).1 (t8 r7).1 (t9 r7).1 (t9 r7.2).1 (t9 (t2 r7)).1 (t9 (t3 r7)).1 (t9 (t4 r7)).1 (t9 (t5 r7)).1 (t9 (t6 r7)).1 (t9 (t7 r7)).1 (t9 (t8 r7)).1 (t9 (t9 r7)).1 (t9 (t9 r7.2)).1 (t9 (t9 (t2 r7))).1 (t9 (t9 (t3 r7))).1 (t9 (t9 (t4 r7))).1 (t9 (t9 (t5 r7))).1 (t9 (t9 (t6 r7))).1 (t9 (t9 (t7 r7))).1 (t9 (t9 (t8 r7)))).bind fun r8=>
     bif (!r8) then
      some false
     else
      (laws_markTable.f k r4.1 r4.2.1 (t2 r4).1 (t3 r4).1 (t4 r4).1 (t5 r4).1 (t6 r4).1 (t7 r4).1 (t8 r4).1 (t9 r4).1 (t9 r4.2).1 (t9 (t2 r4)).1 (t9 (t3 r4)).1 (t9 (t4 r4)).1 (t9 (t5 r4)).1 (t9 (t6 r4)).1 (t9 (t7 r4)).1 (t9 (t8 r4)).1 (t9 (t9 r4)).1 (t9 (t9 r4.2)).1 (t9 (t9 (t2 r4))).1 (t9 (t9 (t3 r4))).1 (t9 (t9 (t4 r4))).1 (t9 (t9 (t5 r4))).1 (t9 (t9 (t6 r4))).1 (t9 (t9 (t7 r4))).1 (t9 (t9 (t8 r4))) 1).bind fun r9=>
      bif decide (r9.1<0) then
       some false
      else
       (laws_eqTable.f k r5.1 r5.2.1 (t2 r5).1 (t3 r5).1 (t4 r5).1 (t5 r5).1 (t6 r5).1 (t7 r5).1 (t8 r5).1 (t9 r5).1 (t9 r5.2).1 (t9 (t2 r5)).1 (t9 (t3 r5)).1 (t9 (t4 r5)).1 (t9 (t5 r5)).1 (t9 (t6 r5)).1 (t9 (t7 r5)).1 (t9 (t8 r5)).1 (t9 (t9 r5)).1 (t9 (t9 r5.2)).1 (t9 (t9 (t2 r5))).1 (t9 (t9 (t3 r5))).1 (t9 (t9 (t4 r5))).1 (t9 (t9 (t5 r5))).1 (t9 (t9 (t6 r5))).1 (t9 (t9 (t7 r5))).1 (t9 (t9 (t8 r5))).1 r3.1 r3.2.1 (t2 r3).1 (t3 r3).1 (t4 r3).1 (t5 r3).1 (t6 r3).1 (t7 r3).1 (t8 r3).1 (t9 r3).1 (t9 r3.2).1 (t9 (t2 r3)).1 (t9 (t3 r3)).1 (t9 (t4 r3)).1 (t9 (t5 r3)).1 (t9 (t6 r3)).1 (t9 (t7 r3)).1 (t9 (t8 r3)).1 (t9 (t9 r3)).1 (t9 (t9 r3.2)).1 (t9 (t9 (t2 r3))).1 (t9 (t9 (t3 r3))).1 (t9 (t9 (t4 r3))).1 (t9 (t9 (t5 r3))).1 (t9 (t9 (t6 r3))).1 (t9 (t9 (t7 r3))).1 (t9 (t9 (t8 r3))).1).bind fun r10=>
       bif (!r10) then
        some false
       else
        bif (!((t9 (t9 (t9 r5)))==(t9 (t9 (t9 r3))))) then
         some false
        else
         (laws_markTable.f k r5.1 r5.2.1 (t2 r5).1 (t3 r5).1 (t4 r5).1 (t5 r5).1 (t6 r5).1 (t7 r5).1 (t8 r5).1 (t9 r5).1 (t9 r5.2).1 (t9 (t2 r5)).1 (t9 (t3 r5)).1 (t9 (t4 r5)).1 (t9 (t5 r5)).1 (t9 (t6 r5)).1 (t9 (t7 r5)).1 (t9 (t8 r5)).1 (t9 (t9 r5)).1 (t9 (t9 r5.2)).1 (t9 (t9 (t2 r5))).1 (t9 (t9 (t3 r5))).1 (t9 (t9 (t4 r5))).1 (t9 (t9 (t5 r5))).1 (t9 (t9 (t6 r5))).1 (t9 (t9 (t7 r5))).1 (t9 (t9 (t8 r5))).1 1).bind fun r11=>
         (laws_heldTable.f k r5.1 r5.2.1 (t2 r5).1 (t3 r5).1 (t5 r11).1 (t6 r11).1 (t6 r5).1 (t7 r5).1 (t9 r11).1 (t9 r5).1 (t9 (t2 r11)).1 (t9 (t2 r5)).1 (t9 (t3 r5)).1 (t9 (t4 r5)).1 (t9 (t5 r5)).1 (t9 (t7 r11)).1 (t9 (t8 r11)).1 (t9 (t8 r5)).1 (t9 (t9 r5)).1 (t9 (t9 (t2 r11))).1 (t9 (t9 (t3 r11))).1 (t9 (t9 (t4 r11))).1 (t9 (t9 (t4 r5))).1 (t9 (t9 (t5 r5))).1 (t9 (t9 (t6 r5))).1 (t9 (t9 (t8 r11))).1 (t9 (t9 (t9 r11))) 1).bind fun r12=>
         bif decide (r12<0) then
          some false
         else
          bif (r12 != r11.1) then
           some false
          else
           (laws_toTable.f k a0 a1 a2 a3 a4 a5 a6 a7 a8 a9 a10 a11 a12 a13 a14 a15 a16 a17 a18 a19 a20 a21 a22 a23 a24 a25 a26).bind fun r13=>
           (impl_StepRules.f k r13.1 r13.2.1 (t2 r13).1 (t3 r13).1 (t4 r13).1 (t5 r13).1 (t6 r13).1 (t7 r13).1 (t8 r13).1 (t9 r13).1 (t9 r13.2).1 (t9 (t2 r13)).1 (t9 (t3 r13)).1 (t9 (t4 r13)).1 (t9 (t5 r13)).1 (t9 (t6 r13)).1 (t9 (t7 r13)).1 (t9 (t8 r13)).1 (t9 (t9 r13)).1 (t9 (t9 r13.2)).1 (t9 (t9 (t2 r13))).1 (t9 (t9 (t3 r13))).1 (t9 (t9 (t4 r13))).1 (t9 (t9 (t5 r13))).1 (t9 (t9 (t6 r13))).1 (t9 (t9 (t7 r13))).1 (t9 (t9 (t8 r13))) g).bind fun r14=>
           (laws_eqTable.f k r14.1 r14.2.1 (t2 r14).1 (t3 r14).1 (t4 r14).1 (t5 r14).1 (t6 r14).1 (t7 r14).1 (t8 r14).1 (t9 r14).1 (t9 r14.2).1 (t9 (t2 r14)).1 (t9 (t3 r14)).1 (t9 (t4 r14)).1 (t9 (t5 r14)).1 (t9 (t6 r14)).1 (t9 (t7 r14)).1 (t9 (t8 r14)).1 (t9 (t9 r14)).1 (t9 (t9 r14.2)).1 (t9 (t9 (t2 r14))).1 (t9 (t9 (t3 r14))).1 (t9 (t9 (t4 r14))).1 (t9 (t9 (t5 r14))).1 (t9 (t9 (t6 r14))).1 (t9 (t9 (t7 r14))).1 (t9 (t9 (t8 r14))).1 r3.1 r3.2.1 (t2 r3).1 (t3 r3).1 (t4 r3).1 (t5 r3).1 (t6 r3).1 (t7 r3).1 (t8 r3).1 (t9 r3).1 (t9 r3.2).1 (t9 (t2 r3)).1 (t9 (t3 r3)).1 (t9 (t4 r3)).1 (t9 (t5 r3)).1 (t9 (t6 r3)).1 (t9 (t7 r3)).1 (t9 (t8 r3)).1 (t9 (t9 r3)).1 (t9 (t9 r3.2)).1 (t9 (t9 (t2 r3))).1 (t9 (t9 (t3 r3))).1 (t9 (t9 (t4 r3))).1 (t9 (t9 (t5 r3))).1 (t9 (t9 (t6 r3))).1 (t9 (t9 (t7 r3))).1 (t9 (t9 (t8 r3))).1).bind fun r15=>
           bif (!r15) then
            some false
           else
            bif (!((t9 (t9 (t9 r14)))==(t9 (t9 (t9 r3))))) then
             some false
            else
             (laws_heldTable.f k r5.1 r5.2.1 (t2 r5).1 (t3 r5).1 (t5 r11).1 (t6 r11).1 (t6 r5).1 (t7 r5).1 (t9 r11).1 (t9 r5).1 (t9 (t2 r11)).1 (t9 (t2 r5)).1 (t9 (t3 r5)).1 (t9 (t4 r5)).1 (t9 (t5 r5)).1 (t9 (t7 r11)).1 (t9 (t8 r11)).1 (t9 (t8 r5)).1 (t9 (t9 r5)).1 (t9 (t9 (t2 r11))).1 (t9 (t9 (t3 r11))).1 (t9 (t9 (t4 r11))).1 (t9 (t9 (t4 r5))).1 (t9 (t9 (t5 r5))).1 (t9 (t9 (t6 r5))).1 (t9 (t9 (t8 r11))).1 (t9 (t9 (t9 r11))) 1).bind fun r16=>
             bif decide (r16<0) then
              some false
             else
              bif (r16 != r11.1) then
               some false
              else
               some true
end Go.Proofs.YtbmmhdmljajcfaaGreatDoor
