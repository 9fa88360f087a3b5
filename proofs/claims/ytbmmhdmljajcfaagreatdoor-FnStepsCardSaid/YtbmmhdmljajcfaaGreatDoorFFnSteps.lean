/- Plain Lean functions, printed by a program out of the Go functions' translation: what each computes, without program and memory. -/
import Derived.Test.YtbmmhdmljajcfaaGreatDoorVEval
import Derived.Test.YtbmmhdmljajcfaaGreatDoorNoteF
import Derived.Test.YtbmmhdmljajcfaaGreatDoorVExt
set_option linter.unusedVariables false
namespace Go.Proofs.YtbmmhdmljajcfaaGreatDoor
open Go Go.Proofs.YtbmmhdmljajcfaaGreatDoor.V
def aF.f (k:Nat) (a:LI):Option (LI):=
 aC (decide ((0+a.length)*8<=room))<|
 some ([]++a)
def cj.f (k:Nat) (a0 a1:Int) (a2 a3:Bool) (a4 a5:LI) (a6 a7:Int):Option (Int×Int×Bool×Bool×LI×LI×Int×Int):=
 (aF.f k a4).bind fun r1=>
 (aF.f k a5).bind fun r2=>
 some (a0,a1,a2,a3,r1,r2,a6,a7)
def bo.s3 {R:Type} (k:Nat) (v0:LL) (v1:Int) (e0:LL->Option R) (rec:Int->LL->Option R) (v2:Int) (v3:LL):Option R:=
 bif decide (v2<v1) then
  aC ((decide (0<=v2))&&(decide (v2<(v0.length:Int))))<|
  (aF.f k (v0.getD v2.toNat [])).bind fun r1=>
  aC (decide ((v3.length+1)*24<=room))<|
  rec (IntKind.wrap .i64 (v2+1)) (v3++[r1])
 else
  e0 v3
def bo.l3 {R:Type} (k:Nat) (v0:LL) (v1:Int) (e0:LL->Option R) (n:Nat) (v2:Int) (v3:LL):Option R:=
 V.iter (A:=Int×LL) (fun rec a=>bo.s3 k v0 v1 e0 (fun c0 c1=>rec (c0,c1)) a.1 a.2) n (v2,v3)
theorem bo.aE {R:Type} (k:Nat) (v0:LL) (v1:Int) (e0:LL->Option R) (n:Nat) (v2:Int) (v3:LL):bo.l3 (R:=R) k v0 v1 e0 (n+1) v2 v3=bo.s3 k v0 v1 e0 (bo.l3 k v0 v1 e0 n) v2 v3:=rfl
def bo.f (k:Nat) (a:LL):Option (LL):=
 bo.l3 k a (a.length:Int) (fun x2=>
  some x2) k 0 []
def bS.f (k:Nat) (a0 a1:Int) (a2 a3:Bool) (a4 a5:LI) (a6 a7:Int) (a8:LL) (a9 dX:LI) (cV a12 dU:Int):Option (Int×Int×Bool×Bool×LI×LI×Int×Int×LL×LI×LI×Int×Int×Int):=
 (cj.f k a0 a1 a2 a3 a4 a5 a6 a7).bind fun r1=>
 (bo.f k a8).bind fun r2=>
 (aF.f k a9).bind fun r3=>
 (aF.f k dX).bind fun r4=>
 some (r1.1,r1.2.1,(t2 r1).1,(t3 r1).1,(t4 r1).1,(t5 r1).1,(t6 r1).1,(t7 r1),r2,r3,r4,cV,a12,dU)
def aD.f (k:Nat) (a0 a1:Int) (a2 a3:Bool) (a4 a5:LI) (a6 a7:Int) (a8:LI) (a9:Bool) (dX:LI) (cV a12:Int) (dU iD:Bool) (iE iF:LI) (iG iH:Int) (iI:LL) (a20 a21:LI) (iJ iK a24:Int) (jh:LI) (jq:LL):Option (Int×Int×Bool×Bool×LI×LI×Int×Int×LI×Bool×LI×Int×Int×Bool×Bool×LI×LI×Int×Int×LL×LI×LI×Int×Int×Int×LI×LL):=
 (cj.f k a0 a1 a2 a3 a4 a5 a6 a7).bind fun r1=>
 (aF.f k a8).bind fun r2=>
 (aF.f k dX).bind fun r3=>
 (bS.f k cV a12 dU iD iE iF iG iH iI a20 a21 iJ iK a24).bind fun r4=>
 (aF.f k jh).bind fun r5=>
 (bo.f k jq).bind fun r6=>
 some (r1.1,r1.2.1,(t2 r1).1,(t3 r1).1,(t4 r1).1,(t5 r1).1,(t6 r1).1,(t7 r1),r2,a9,r3,r4.1,r4.2.1,(t2 r4).1,(t3 r4).1,(t4 r4).1,(t5 r4).1,(t6 r4).1,(t7 r4).1,(t8 r4).1,(t9 r4).1,(t9 r4.2).1,(t9 (t2 r4)).1,(t9 (t3 r4)).1,(t9 (t4 r4)),r5,r6)
def an.f (k:Nat) (a g i:Int):Option (Bool):=
 bif decide (g<=a) then
  some (decide (a<=i))
 else
  some false
def iN.f (k:Nat) (a:Int):Option (Bool):=
 (an.f k a 100 103).bind fun r1=>
 bif r1 then
  some true
 else
  (an.f k a 200 212).bind fun r2=>
  bif r2 then
   some true
  else
   (an.f k a 300 312).bind fun r3=>
   bif r3 then
    some true
   else
    some (a==400)
def bb.s3 {R:Type} (k:Nat) (v2:LI) (v3:Int) (e0 e1:Int->Option R) (rec:Int->Int->Option R) (v1 v4:Int):Option R:=
 bif decide (v4<v3) then
  aC ((decide (0<=v4))&&(decide (v4<(v2.length:Int))))<|
  (iN.f k (v2.getD v4.toNat 0)).bind fun r1=>
  bif r1 then
   rec (IntKind.wrap .i64 (v1+1)) (IntKind.wrap .i64 (v4+1))
  else
   bif ((v2.getD v4.toNat 0)==(-1)) then
    bif decide (v1>=1) then
     rec v1 (IntKind.wrap .i64 (v4+1))
    else
     bif ((v2.getD v4.toNat 0)==(-2)) then
      bif decide (v1>=2) then
       rec (IntKind.wrap .i64 (v1-1)) (IntKind.wrap .i64 (v4+1))
      else
       e0 v1
     else
      bif ((v2.getD v4.toNat 0)==(-3)) then
       bif decide (v1>=2) then
        rec (IntKind.wrap .i64 (v1-1)) (IntKind.wrap .i64 (v4+1))
       else
        e0 v1
      else
       e0 v1
   else
    bif ((v2.getD v4.toNat 0)==(-2)) then
     bif decide (v1>=2) then
      rec (IntKind.wrap .i64 (v1-1)) (IntKind.wrap .i64 (v4+1))
     else
      e0 v1
    else
     bif ((v2.getD v4.toNat 0)==(-3)) then
      bif decide (v1>=2) then
       rec (IntKind.wrap .i64 (v1-1)) (IntKind.wrap .i64 (v4+1))
      else
       e0 v1
     else
      e0 v1
 else
  e1 v1
def bb.l3 {R:Type} (k:Nat) (v2:LI) (v3:Int) (e0 e1:Int->Option R) (n:Nat) (v1 v4:Int):Option R:=
 V.iter (A:=Int×Int) (fun rec a=>bb.s3 k v2 v3 e0 e1 (fun c0 c1=>rec (c0,c1)) a.1 a.2) n (v1,v4)
theorem bb.aE {R:Type} (k:Nat) (v2:LI) (v3:Int) (e0 e1:Int->Option R) (n:Nat) (v1 v4:Int):bb.l3 (R:=R) k v2 v3 e0 e1 (n+1) v1 v4=bb.s3 k v2 v3 e0 e1 (bb.l3 k v2 v3 e0 e1 n) v1 v4:=rfl
def bb.f (k:Nat) (a:LI):Option (Bool):=
 bb.l3 k a (a.length:Int) (fun x2=>
  some false) (fun x3=>
  (an.f k (a.length:Int) 1 20).bind fun r4=>
  bif r4 then
   some (x3==1)
  else
   some false) k 0 0
def eK.f (k:Nat) (a:LI):Option (Bool):=
 bif ((a.length:Int)==0) then
  some true
 else
  (bb.f k a).bind fun r1=>
  some r1
def bN.f (k:Nat) (a0 a1:Int) (a2 a3:Bool) (a4 a5:LI) (a6 a7:Int):Option (Bool):=
 (an.f k a0 2 6).bind fun r1=>
 bif r1 then
  (an.f k a1 1 8).bind fun r2=>
  bif r2 then
   bif a2 then
    (eK.f k a4).bind fun r3=>
    bif r3 then
     (eK.f k a5).bind fun r4=>
     bif r4 then
      (an.f k a6 1 4).bind fun r5=>
      bif r5 then
       (an.f k a7 1 400).bind fun r6=>
       some r6
      else
       some false
     else
      some false
    else
     some false
   else
    bif a3 then
     (eK.f k a4).bind fun r7=>
     bif r7 then
      (eK.f k a5).bind fun r8=>
      bif r8 then
       (an.f k a6 1 4).bind fun r9=>
       bif r9 then
        (an.f k a7 1 400).bind fun fW=>
        some fW
       else
        some false
      else
       some false
     else
      some false
    else
     some false
  else
   some false
 else
  some false
def strings_Join.f (k:Nat) (a0:List ByteArray) (a1:ByteArray):Option (ByteArray):=
 aC (Nat.ble a0.length 140737488355328&&Nat.ble (ob a0 a1).size 140737488355328)<|some (ob a0 a1)
def strconv_Itoa.f (k:Nat) (a0:Int):Option (ByteArray):=
 aC (decide ((-9223372036854775808:Int)<=a0)&&decide (a0<=9223372036854775807))<|some (jT a0)
def cg.f (k:Nat) (a:Int):Option (ByteArray):=
 (strconv_Itoa.f k a).bind fun r1=>
 some r1
def gv.f (k:Nat) (a0 a1:Int) (a2 a3:Bool) (a4 a5:LI) (a6 a7:Int):Option (ByteArray):=
 bif a2 then
  bif a3 then
   some (⟨#[98,111,116,104]⟩:ByteArray)
  else
   bif a2 then
    some (⟨#[115,117,105,116]⟩:ByteArray)
   else
    bif a3 then
     some (⟨#[114,97,110,107]⟩:ByteArray)
    else
     some ByteArray.empty
 else
  bif a2 then
   some (⟨#[115,117,105,116]⟩:ByteArray)
  else
   bif a3 then
    some (⟨#[114,97,110,107]⟩:ByteArray)
   else
    some ByteArray.empty
def fZ.f (k:Nat) (a:Int):Option (ByteArray):=
 bif (a==400) then
  some (⟨#[114]⟩:ByteArray)
 else
  bif decide (a>=300) then
   aC ((decide (0<=(IntKind.wrap .i64 ((IntKind.wrap .i64 (a-300))+1))))&&(decide ((IntKind.wrap .i64 ((IntKind.wrap .i64 (a-300))+1))<=13)))<|
   aC ((decide (0<=(IntKind.wrap .i64 (a-300))))&&(decide ((IntKind.wrap .i64 (a-300))<=(IntKind.wrap .i64 ((IntKind.wrap .i64 (a-300))+1)))))<|
   aC (decide (((⟨#[50,51,52,53,54,55,56,57,84,74,81,75,65]⟩:ByteArray).extract ((IntKind.wrap .i64 (a-300)).toNat) ((IntKind.wrap .i64 ((IntKind.wrap .i64 (a-300))+1)).toNat)).size+(⟨#[43]⟩:ByteArray).size<=eo))<|
   some (((⟨#[50,51,52,53,54,55,56,57,84,74,81,75,65]⟩:ByteArray).extract ((IntKind.wrap .i64 (a-300)).toNat) ((IntKind.wrap .i64 ((IntKind.wrap .i64 (a-300))+1)).toNat))++(⟨#[43]⟩:ByteArray))
  else
   bif decide (a>=200) then
    aC ((decide (0<=(IntKind.wrap .i64 ((IntKind.wrap .i64 (a-200))+1))))&&(decide ((IntKind.wrap .i64 ((IntKind.wrap .i64 (a-200))+1))<=13)))<|
    aC ((decide (0<=(IntKind.wrap .i64 (a-200))))&&(decide ((IntKind.wrap .i64 (a-200))<=(IntKind.wrap .i64 ((IntKind.wrap .i64 (a-200))+1)))))<|
    some ((⟨#[50,51,52,53,54,55,56,57,84,74,81,75,65]⟩:ByteArray).extract ((IntKind.wrap .i64 (a-200)).toNat) ((IntKind.wrap .i64 ((IntKind.wrap .i64 (a-200))+1)).toNat))
   else
    aC ((decide (0<=(IntKind.wrap .i64 ((IntKind.wrap .i64 (a-100))+1))))&&(decide ((IntKind.wrap .i64 ((IntKind.wrap .i64 (a-100))+1))<=4)))<|
    aC ((decide (0<=(IntKind.wrap .i64 (a-100))))&&(decide ((IntKind.wrap .i64 (a-100))<=(IntKind.wrap .i64 ((IntKind.wrap .i64 (a-100))+1)))))<|
    some ((⟨#[99,100,104,115]⟩:ByteArray).extract ((IntKind.wrap .i64 (a-100)).toNat) ((IntKind.wrap .i64 ((IntKind.wrap .i64 (a-100))+1)).toNat))
def aH.s5 {R:Type} (k:Nat) (v0:LI) (v1:Int) (e0:List ByteArray->Option R) (rec:Int->List ByteArray->Option R) (v2:Int) (v3:List ByteArray):Option R:=
 bif decide (v2<v1) then
  aC ((decide (0<=v2))&&(decide (v2<(v0.length:Int))))<|
  bif ((v0.getD v2.toNat 0)==(-1)) then
   aC ((decide (0<=(IntKind.wrap .i64 ((v3.length:Int)-1))))&&(decide ((IntKind.wrap .i64 ((v3.length:Int)-1))<(v3.length:Int))))<|
   aC (decide ((⟨#[33]⟩:ByteArray).size+(v3.getD ((IntKind.wrap .i64 ((v3.length:Int)-1)).toNat) ByteArray.empty).size<=eo))<|
   aC ((decide (0<=(IntKind.wrap .i64 ((v3.length:Int)-1))))&&(decide ((IntKind.wrap .i64 ((v3.length:Int)-1))<(v3.length:Int))))<|
   rec (IntKind.wrap .i64 (v2+1)) (v3.set ((IntKind.wrap .i64 ((v3.length:Int)-1)).toNat) ((⟨#[33]⟩:ByteArray)++(v3.getD ((IntKind.wrap .i64 ((v3.length:Int)-1)).toNat) ByteArray.empty)))
  else
   bif ((v0.getD v2.toNat 0)==(-2)) then
    aC ((decide (0<=(IntKind.wrap .i64 ((v3.length:Int)-2))))&&(decide ((IntKind.wrap .i64 ((v3.length:Int)-2))<=(v3.length:Int))))<|
    aC (decide (0<=(IntKind.wrap .i64 ((v3.length:Int)-2))))<|
    aC ((decide (0<=(IntKind.wrap .i64 ((v3.length:Int)-2))))&&(decide ((IntKind.wrap .i64 ((v3.length:Int)-2))<(v3.length:Int))))<|
    aC (decide ((⟨#[40]⟩:ByteArray).size+(v3.getD ((IntKind.wrap .i64 ((v3.length:Int)-2)).toNat) ByteArray.empty).size<=eo))<|
    aC (decide (((⟨#[40]⟩:ByteArray)++(v3.getD ((IntKind.wrap .i64 ((v3.length:Int)-2)).toNat) ByteArray.empty)).size+(⟨#[38]⟩:ByteArray).size<=eo))<|
    aC ((decide (0<=(IntKind.wrap .i64 ((v3.length:Int)-1))))&&(decide ((IntKind.wrap .i64 ((v3.length:Int)-1))<(v3.length:Int))))<|
    aC (decide ((((⟨#[40]⟩:ByteArray)++(v3.getD ((IntKind.wrap .i64 ((v3.length:Int)-2)).toNat) ByteArray.empty))++(⟨#[38]⟩:ByteArray)).size+(v3.getD ((IntKind.wrap .i64 ((v3.length:Int)-1)).toNat) ByteArray.empty).size<=eo))<|
    aC (decide (((((⟨#[40]⟩:ByteArray)++(v3.getD ((IntKind.wrap .i64 ((v3.length:Int)-2)).toNat) ByteArray.empty))++(⟨#[38]⟩:ByteArray))++(v3.getD ((IntKind.wrap .i64 ((v3.length:Int)-1)).toNat) ByteArray.empty)).size+(⟨#[41]⟩:ByteArray).size<=eo))<|
    aC (decide ((((v3.take ((IntKind.wrap .i64 ((v3.length:Int)-2)).toNat)).length)+1)*16<=room))<|
    rec (IntKind.wrap .i64 (v2+1)) ((v3.take ((IntKind.wrap .i64 ((v3.length:Int)-2)).toNat))++([((((⟨#[40]⟩:ByteArray)++(v3.getD ((IntKind.wrap .i64 ((v3.length:Int)-2)).toNat) ByteArray.empty))++(⟨#[38]⟩:ByteArray))++(v3.getD ((IntKind.wrap .i64 ((v3.length:Int)-1)).toNat) ByteArray.empty))++(⟨#[41]⟩:ByteArray)]))
   else
    bif ((v0.getD v2.toNat 0)==(-3)) then
     aC ((decide (0<=(IntKind.wrap .i64 ((v3.length:Int)-2))))&&(decide ((IntKind.wrap .i64 ((v3.length:Int)-2))<=(v3.length:Int))))<|
     aC (decide (0<=(IntKind.wrap .i64 ((v3.length:Int)-2))))<|
     aC ((decide (0<=(IntKind.wrap .i64 ((v3.length:Int)-2))))&&(decide ((IntKind.wrap .i64 ((v3.length:Int)-2))<(v3.length:Int))))<|
     aC (decide ((⟨#[40]⟩:ByteArray).size+(v3.getD ((IntKind.wrap .i64 ((v3.length:Int)-2)).toNat) ByteArray.empty).size<=eo))<|
     aC (decide (((⟨#[40]⟩:ByteArray)++(v3.getD ((IntKind.wrap .i64 ((v3.length:Int)-2)).toNat) ByteArray.empty)).size+(⟨#[124]⟩:ByteArray).size<=eo))<|
     aC ((decide (0<=(IntKind.wrap .i64 ((v3.length:Int)-1))))&&(decide ((IntKind.wrap .i64 ((v3.length:Int)-1))<(v3.length:Int))))<|
     aC (decide ((((⟨#[40]⟩:ByteArray)++(v3.getD ((IntKind.wrap .i64 ((v3.length:Int)-2)).toNat) ByteArray.empty))++(⟨#[124]⟩:ByteArray)).size+(v3.getD ((IntKind.wrap .i64 ((v3.length:Int)-1)).toNat) ByteArray.empty).size<=eo))<|
     aC (decide (((((⟨#[40]⟩:ByteArray)++(v3.getD ((IntKind.wrap .i64 ((v3.length:Int)-2)).toNat) ByteArray.empty))++(⟨#[124]⟩:ByteArray))++(v3.getD ((IntKind.wrap .i64 ((v3.length:Int)-1)).toNat) ByteArray.empty)).size+(⟨#[41]⟩:ByteArray).size<=eo))<|
     aC (decide ((((v3.take ((IntKind.wrap .i64 ((v3.length:Int)-2)).toNat)).length)+1)*16<=room))<|
     rec (IntKind.wrap .i64 (v2+1)) ((v3.take ((IntKind.wrap .i64 ((v3.length:Int)-2)).toNat))++([((((⟨#[40]⟩:ByteArray)++(v3.getD ((IntKind.wrap .i64 ((v3.length:Int)-2)).toNat) ByteArray.empty))++(⟨#[124]⟩:ByteArray))++(v3.getD ((IntKind.wrap .i64 ((v3.length:Int)-1)).toNat) ByteArray.empty))++(⟨#[41]⟩:ByteArray)]))
    else
     (fZ.f k (v0.getD v2.toNat 0)).bind fun r2=>
     aC (decide ((v3.length+1)*16<=room))<|
     rec (IntKind.wrap .i64 (v2+1)) (v3++[r2])
 else
  e0 v3
def aH.l5 {R:Type} (k:Nat) (v0:LI) (v1:Int) (e0:List ByteArray->Option R) (n:Nat) (v2:Int) (v3:List ByteArray):Option R:=
 V.iter (A:=Int×List ByteArray) (fun rec a=>aH.s5 k v0 v1 e0 (fun c0 c1=>rec (c0,c1)) a.1 a.2) n (v2,v3)
theorem aH.de {R:Type} (k:Nat) (v0:LI) (v1:Int) (e0:List ByteArray->Option R) (n:Nat) (v2:Int) (v3:List ByteArray):aH.l5 (R:=R) k v0 v1 e0 (n+1) v2 v3=aH.s5 k v0 v1 e0 (aH.l5 k v0 v1 e0 n) v2 v3:=rfl
def aH.f (k:Nat) (a:LI):Option (ByteArray):=
 (bb.f k a).bind fun r1=>
 bif (!r1) then
  some ByteArray.empty
 else
  aH.l5 k a (a.length:Int) (fun x3=>
   aC (decide (0<(x3.length:Int)))<|
   some (x3.getD 0 ByteArray.empty)) k 0 []
def eH.f (k:Nat) (a:LI):Option (ByteArray):=
 bif ((a.length:Int)==0) then
  some (⟨#[45]⟩:ByteArray)
 else
  (aH.f k a).bind fun r1=>
  some r1
def d_.f (k:Nat) (a0 a1:Int) (a2 a3:Bool) (a4 a5:LI) (a6 a7:Int):Option (ByteArray):=
 (bN.f k a0 a1 a2 a3 a4 a5 a6 a7).bind fun r1=>
 bif (!r1) then
  some ByteArray.empty
 else
  (cg.f k a0).bind fun r2=>
  aC (decide ((⟨#[112,108,97,121,101,114,115,61]⟩:ByteArray).size+r2.size<=eo))<|
  (cg.f k a1).bind fun r3=>
  aC (decide ((⟨#[101,97,99,104,61]⟩:ByteArray).size+r3.size<=eo))<|
  (gv.f k a0 a1 a2 a3 a4 a5 a6 a7).bind fun r4=>
  aC (decide ((⟨#[109,97,116,99,104,61]⟩:ByteArray).size+r4.size<=eo))<|
  (eH.f k a4).bind fun r5=>
  aC (decide ((⟨#[119,105,108,100,61]⟩:ByteArray).size+r5.size<=eo))<|
  (eH.f k a5).bind fun r6=>
  aC (decide ((⟨#[115,107,105,112,61]⟩:ByteArray).size+r6.size<=eo))<|
  (cg.f k a6).bind fun r7=>
  aC (decide ((⟨#[116,97,107,101,61]⟩:ByteArray).size+r7.size<=eo))<|
  (cg.f k a7).bind fun r8=>
  aC (decide ((⟨#[108,105,109,105,116,61]⟩:ByteArray).size+r8.size<=eo))<|
  (strings_Join.f k ([(⟨#[112,108,97,121,101,114,115,61]⟩:ByteArray)++r2,(⟨#[101,97,99,104,61]⟩:ByteArray)++r3,(⟨#[109,97,116,99,104,61]⟩:ByteArray)++r4,(⟨#[119,105,108,100,61]⟩:ByteArray)++r5,(⟨#[115,107,105,112,61]⟩:ByteArray)++r6,(⟨#[116,97,107,101,61]⟩:ByteArray)++r7,(⟨#[108,105,109,105,116,61]⟩:ByteArray)++r8]) (⟨#[32]⟩:ByteArray)).bind fun r9=>
  some r9
def aX.s3 {R:Type} (k:Nat) (v0:ByteArray) (v1 v3:Int) (e0:Int->List ByteArray->Option R) (rec:Int->Int->List ByteArray->Option R) (v2 v4:Int) (v5:List ByteArray):Option R:=
 bif decide (v4<v3) then
  aC ((decide (0<=v4))&&(decide (v4<(v0.size:Int))))<|
  bif ((sb v0 v4.toNat)==v1) then
   aC ((decide (0<=v4))&&(decide (v4<=(v0.size:Int))))<|
   aC ((decide (0<=v2))&&(decide (v2<=v4)))<|
   aC (decide ((v5.length+1)*16<=room))<|
   rec (IntKind.wrap .i64 (v4+1)) (IntKind.wrap .i64 (v4+1)) (v5++[v0.extract v2.toNat v4.toNat])
  else
   rec v2 (IntKind.wrap .i64 (v4+1)) v5
 else
  e0 v2 v5
def aX.l3 {R:Type} (k:Nat) (v0:ByteArray) (v1 v3:Int) (e0:Int->List ByteArray->Option R) (n:Nat) (v2 v4:Int) (v5:List ByteArray):Option R:=
 V.iter (A:=Int×Int×List ByteArray) (fun rec a=>aX.s3 k v0 v1 v3 e0 (fun c0 c1 c2=>rec (c0,c1,c2)) a.1 a.2.1 (t2 a)) n (v2,v4,v5)
theorem aX.aE {R:Type} (k:Nat) (v0:ByteArray) (v1 v3:Int) (e0:Int->List ByteArray->Option R) (n:Nat) (v2 v4:Int) (v5:List ByteArray):aX.l3 (R:=R) k v0 v1 v3 e0 (n+1) v2 v4 v5=aX.s3 k v0 v1 v3 e0 (aX.l3 k v0 v1 v3 e0 n) v2 v4 v5:=rfl
def aX.f (k:Nat) (a:ByteArray) (g:Int):Option (List ByteArray):=
 aX.l3 k a g (a.size:Int) (fun x1 x2=>
  aC ((decide (0<=(a.size:Int)))&&(decide ((a.size:Int)<=(a.size:Int))))<|
  aC ((decide (0<=x1))&&(decide (x1<=(a.size:Int))))<|
  aC (decide ((x2.length+1)*16<=room))<|
  some (x2++[a.extract x1.toNat (a.size:Int).toNat])) k 0 0 []
def strings_CutPrefix.f (k:Nat) (a0:ByteArray) (a1:ByteArray):Option (ByteArray×Bool):=
 some (tY a0 a1,sX a0 a1)
def ff.f (k:Nat) (a g:ByteArray):Option (ByteArray×Bool):=
 aC (decide (g.size+(⟨#[61]⟩:ByteArray).size<=eo))<|
 (strings_CutPrefix.f k a (g++(⟨#[61]⟩:ByteArray))).bind fun r1=>
 bif (!r1.2) then
  some (ByteArray.empty,false)
 else
  some (r1.1,true)
def strconv_Atoi.f (k:Nat) (a0:ByteArray):Option (Int×Bool):=
 aC (Nat.ble a0.size 18)<|some (od a0,nP a0)
def dw.f (k:Nat) (a:ByteArray):Option (Int×Bool):=
 bif decide ((a.size:Int)>13) then
  some (0,false)
 else
  (strconv_Atoi.f k a).bind fun r1=>
  bif (!r1.2) then
   some (0,false)
  else
   (an.f k r1.1 0 1000000000000).bind fun r2=>
   bif (!r2) then
    some (0,false)
   else
    (cg.f k r1.1).bind fun r3=>
    bif (!(r3.toList==a.toList)) then
     some (0,false)
    else
     some (r1.1,true)
def dV.f (k:Nat) (a0:ByteArray):Option (List Int×Bool):=
 DR.yu (aH.f k) a0
def bg.s7 {R:Type} (k:Nat) (v1:Int) (v9 v11:List ByteArray) (e0 e1:List ByteArray->Option R) (rec:Int->List ByteArray->Option R) (v2:Int) (v10:List ByteArray):Option R:=
 bif decide (v2<v1) then
  aC ((decide (0<=v2))&&(decide (v2<(v11.length:Int))))<|
  aC ((decide (0<=v2))&&(decide (v2<(v9.length:Int))))<|
  (ff.f k (v11.getD v2.toNat ByteArray.empty) (v9.getD v2.toNat ByteArray.empty)).bind fun r2=>
  bif (!r2.2) then
   e0 v10
  else
   aC (decide ((v10.length+1)*16<=room))<|
   rec (IntKind.wrap .i64 (v2+1)) (v10++[r2.1])
 else
  e1 v10
def bg.l7 {R:Type} (k:Nat) (v1:Int) (v9 v11:List ByteArray) (e0 e1:List ByteArray->Option R) (n:Nat) (v2:Int) (v10:List ByteArray):Option R:=
 V.iter (A:=Int×List ByteArray) (fun rec a=>bg.s7 k v1 v9 v11 e0 e1 (fun c0 c1=>rec (c0,c1)) a.1 a.2) n (v2,v10)
theorem bg.If {R:Type} (k:Nat) (v1:Int) (v9 v11:List ByteArray) (e0 e1:List ByteArray->Option R) (n:Nat) (v2:Int) (v10:List ByteArray):bg.l7 (R:=R) k v1 v9 v11 e0 e1 (n+1) v2 v10=bg.s7 k v1 v9 v11 e0 e1 (bg.l7 k v1 v9 v11 e0 e1 n) v2 v10:=rfl
def bg.f (k:Nat) (a:ByteArray):Option (Int×Int×Bool×Bool×LI×LI×Int×Int×Bool):=
 (aX.f k a 32).bind fun r1=>
 bif ((r1.length:Int) != 7) then
  some (0,0,false,false,[],[],0,0,false)
 else
  bg.l7 k (r1.length:Int) ([(⟨#[112,108,97,121,101,114,115]⟩:ByteArray),(⟨#[101,97,99,104]⟩:ByteArray),(⟨#[109,97,116,99,104]⟩:ByteArray),(⟨#[119,105,108,100]⟩:ByteArray),(⟨#[115,107,105,112]⟩:ByteArray),(⟨#[116,97,107,101]⟩:ByteArray),(⟨#[108,105,109,105,116]⟩:ByteArray)]) r1 (fun x3=>
   some (0,0,false,false,[],[],0,0,false)) (fun x4=>
   aC (decide (2<(x4.length:Int)))<|
   aC (decide (2<(x4.length:Int)))<|
   aC (decide (0<(x4.length:Int)))<|
   (dw.f k (x4.getD 0 ByteArray.empty)).bind fun r5=>
   aC (decide (1<(x4.length:Int)))<|
   (dw.f k (x4.getD 1 ByteArray.empty)).bind fun r6=>
   aC (decide (3<(x4.length:Int)))<|
   (dV.f k (x4.getD 3 ByteArray.empty)).bind fun r7=>
   aC (decide (4<(x4.length:Int)))<|
   (dV.f k (x4.getD 4 ByteArray.empty)).bind fun r8=>
   aC (decide (5<(x4.length:Int)))<|
   (dw.f k (x4.getD 5 ByteArray.empty)).bind fun r9=>
   aC (decide (6<(x4.length:Int)))<|
   (dw.f k (x4.getD 6 ByteArray.empty)).bind fun fW=>
   (bN.f k r5.1 r6.1 (!((x4.getD 2 ByteArray.empty).toList==(⟨#[114,97,110,107]⟩:ByteArray).toList)) (!((x4.getD 2 ByteArray.empty).toList==(⟨#[115,117,105,116]⟩:ByteArray).toList)) r7.1 r8.1 r9.1 fW.1).bind fun gN=>
   bif (!gN) then
    some (0,0,false,false,[],[],0,0,false)
   else
    (d_.f k r5.1 r6.1 (!((x4.getD 2 ByteArray.empty).toList==(⟨#[114,97,110,107]⟩:ByteArray).toList)) (!((x4.getD 2 ByteArray.empty).toList==(⟨#[115,117,105,116]⟩:ByteArray).toList)) r7.1 r8.1 r9.1 fW.1).bind fun iS=>
    bif (!(iS.toList==a.toList)) then
     some (0,0,false,false,[],[],0,0,false)
    else
     some (r5.1,r6.1,!((x4.getD 2 ByteArray.empty).toList==(⟨#[114,97,110,107]⟩:ByteArray).toList),!((x4.getD 2 ByteArray.empty).toList==(⟨#[115,117,105,116]⟩:ByteArray).toList),r7.1,r8.1,r9.1,fW.1,true)) k 0 []
def bX.f (k:Nat) (a:Int):Option (Bool):=
 (an.f k a 0 51).bind fun r1=>
 some r1
def bI.s3 {R:Type} (k:Nat) (v0:LI) (v1:Int) (e0 e1:Option R) (rec:Int->List Bool->Option R) (v2:Int) (v3:List Bool):Option R:=
 bif decide (v2<v1) then
  aC ((decide (0<=v2))&&(decide (v2<(v0.length:Int))))<|
  (bX.f k (v0.getD v2.toNat 0)).bind fun r1=>
  bif (!r1) then
   e0
  else
   aC ((decide (0<=(v0.getD v2.toNat 0)))&&(decide ((v0.getD v2.toNat 0)<52)))<|
   bif (v3.getD ((v0.getD v2.toNat 0).toNat) false) then
    e0
   else
    aC ((decide (0<=(v0.getD v2.toNat 0)))&&(decide ((v0.getD v2.toNat 0)<52)))<|
    rec (IntKind.wrap .i64 (v2+1)) (v3.set ((v0.getD v2.toNat 0).toNat) true)
 else
  e1
def bI.l3 {R:Type} (k:Nat) (v0:LI) (v1:Int) (e0 e1:Option R) (n:Nat) (v2:Int) (v3:List Bool):Option R:=
 V.iter (A:=Int×List Bool) (fun rec a=>bI.s3 k v0 v1 e0 e1 (fun c0 c1=>rec (c0,c1)) a.1 a.2) n (v2,v3)
theorem bI.aE {R:Type} (k:Nat) (v0:LI) (v1:Int) (e0 e1:Option R) (n:Nat) (v2:Int) (v3:List Bool):bI.l3 (R:=R) k v0 v1 e0 e1 (n+1) v2 v3=bI.s3 k v0 v1 e0 e1 (bI.l3 k v0 v1 e0 e1 n) v2 v3:=rfl
def bI.f (k:Nat) (a:LI):Option (Bool):=
 bI.l3 k a (a.length:Int) (some false) (some true) k 0 [false,false,false,false,false,false,false,false,false,false,false,false,false,false,false,false,false,false,false,false,false,false,false,false,false,false,false,false,false,false,false,false,false,false,false,false,false,false,false,false,false,false,false,false,false,false,false,false,false,false,false,false]
def cW.s5 {R:Type} (k:Nat) (v1:Int) (v3:LI) (v4:Int) (e0:LL->Option R) (rec:Int->LL->Option R) (v5:Int) (v6:LL):Option R:=
 bif decide (v5<v4) then
  aC ((decide (0<=v5))&&(decide (v5<(v3.length:Int))))<|
  aC (!(decide (v1=0)))<|
  aC (!(decide (v1=0)))<|
  aC ((decide (0<=(v5.tmod v1)))&&(decide ((v5.tmod v1)<(v6.length:Int))))<|
  aC (decide ((((v6.getD ((v5.tmod v1).toNat) []).length)+1)*8<=room))<|
  aC ((decide (0<=(v5.tmod v1)))&&(decide ((v5.tmod v1)<(v6.length:Int))))<|
  aC (((v5.tmod v1).toNat)==((v5.tmod v1).toNat))<|
  rec (IntKind.wrap .i64 (v5+1)) (v6.set ((v5.tmod v1).toNat) ((v6.getD ((v5.tmod v1).toNat) [])++[v3.getD v5.toNat 0]))
 else
  e0 v6
def cW.l5 {R:Type} (k:Nat) (v1:Int) (v3:LI) (v4:Int) (e0:LL->Option R) (n:Nat) (v5:Int) (v6:LL):Option R:=
 V.iter (A:=Int×LL) (fun rec a=>cW.s5 k v1 v3 v4 e0 (fun c0 c1=>rec (c0,c1)) a.1 a.2) n (v5,v6)
theorem cW.de {R:Type} (k:Nat) (v1:Int) (v3:LI) (v4:Int) (e0:LL->Option R) (n:Nat) (v5:Int) (v6:LL):cW.l5 (R:=R) k v1 v3 v4 e0 (n+1) v5 v6=cW.s5 k v1 v3 v4 e0 (cW.l5 k v1 v3 v4 e0 n) v5 v6:=rfl
def cW.f (k:Nat) (a:LI) (g i:Int):Option (LL×LI×Bool):=
 (bI.f k a).bind fun r1=>
 bif (!r1) then
  (aF.f k a).bind fun r2=>
  some ([],r2,false)
 else
  (an.f k g 1 6).bind fun r3=>
  bif (!r3) then
   (aF.f k a).bind fun r4=>
   some ([],r4,false)
  else
   (an.f k i 0 20).bind fun r5=>
   bif (!r5) then
    (aF.f k a).bind fun r6=>
    some ([],r6,false)
   else
    bif decide ((IntKind.wrap .i64 (g*i))>(a.length:Int)) then
     (aF.f k a).bind fun r7=>
     some ([],r7,false)
    else
     aC ((decide (0<=g))&&(decide (g.toNat*24<=room)))<|
     aC ((decide (0<=(IntKind.wrap .i64 (g*i))))&&(decide ((IntKind.wrap .i64 (g*i))<=(a.length:Int))))<|
     cW.l5 k g (a.take ((IntKind.wrap .i64 (g*i)).toNat)) ((a.take ((IntKind.wrap .i64 (g*i)).toNat)).length:Int) (fun x8=>
      aC ((decide (0<=(IntKind.wrap .i64 (g*i))))&&(decide ((IntKind.wrap .i64 (g*i))<=(a.length:Int))))<|
      (aF.f k (a.drop ((IntKind.wrap .i64 (g*i)).toNat))).bind fun r9=>
      some (x8,r9,true)) k 0 (List.replicate g.toNat [])
def fy.f (k:Nat) (a0 a1:Int) (a2 a3:Bool) (a4 a5:LI) (a6 a7:Int) (g:LI):Option (Int×Int×Bool×Bool×LI×LI×Int×Int×LL×LI×LI×Int×Int×Int×Bool):=
 (bN.f k a0 a1 a2 a3 a4 a5 a6 a7).bind fun r1=>
 bif (!r1) then
  some (0,0,false,false,[],[],0,0,[],[],[],0,0,0,false)
 else
  (bI.f k g).bind fun r2=>
  bif (!r2) then
   some (0,0,false,false,[],[],0,0,[],[],[],0,0,0,false)
  else
   bif ((g.length:Int) != 52) then
    some (0,0,false,false,[],[],0,0,[],[],[],0,0,0,false)
   else
    (cW.f k g a0 a1).bind fun r3=>
    (cj.f k a0 a1 a2 a3 a4 a5 a6 a7).bind fun r4=>
    aC ((decide (0<=(r3.2.1.length:Int)))&&(decide ((r3.2.1.length:Int)<=(r3.2.1.length:Int))))<|
    aC (decide (1<=(r3.2.1.length:Int)))<|
    (aF.f k ((r3.2.1.take ((r3.2.1.length:Int).toNat)).drop 1)).bind fun r5=>
    aC (decide (0<(r3.2.1.length:Int)))<|
    some (r4.1,r4.2.1,(t2 r4).1,(t3 r4).1,(t4 r4).1,(t5 r4).1,(t6 r4).1,(t7 r4),r3.1,r5,[r3.2.1.getD 0 0],0,0,0,true)
def dq.s3 {R:Type} (k:Nat) (v1:LI) (v2:Int) (e0:Int->Option R) (rec:Int->Int->Option R) (v0 v3:Int):Option R:=
 bif decide (v3<v2) then
  aC ((decide (0<=v3))&&(decide (v3<(v1.length:Int))))<|
  rec (IntKind.wrap .i64 (v0+(v1.getD v3.toNat 0))) (IntKind.wrap .i64 (v3+1))
 else
  e0 v0
def dq.l3 {R:Type} (k:Nat) (v1:LI) (v2:Int) (e0:Int->Option R) (n:Nat) (v0 v3:Int):Option R:=
 V.iter (A:=Int×Int) (fun rec a=>dq.s3 k v1 v2 e0 (fun c0 c1=>rec (c0,c1)) a.1 a.2) n (v0,v3)
theorem dq.aE {R:Type} (k:Nat) (v1:LI) (v2:Int) (e0:Int->Option R) (n:Nat) (v0 v3:Int):dq.l3 (R:=R) k v1 v2 e0 (n+1) v0 v3=dq.s3 k v1 v2 e0 (dq.l3 k v1 v2 e0 n) v0 v3:=rfl
def dq.f (k:Nat) (a:LI):Option (Int):=
 dq.l3 k a (a.length:Int) (fun x1=>
  some x1) k 0 0
def dQ.s2 {R:Type} (k:Nat) (v0 v1:Int) (v2:LI) (v3:Int) (e0 e1:Option R) (rec:Int->Option R) (v4:Int):Option R:=
 bif decide (v4<v3) then
  aC ((decide (0<=v4))&&(decide (v4<(v2.length:Int))))<|
  (an.f k (v2.getD v4.toNat 0) v0 v1).bind fun r1=>
  bif (!r1) then
   e0
  else
   rec (IntKind.wrap .i64 (v4+1))
 else
  e1
def dQ.l2 {R:Type} (k:Nat) (v0 v1:Int) (v2:LI) (v3:Int) (e0 e1:Option R) (n:Nat) (v4:Int):Option R:=
 V.iter (A:=Int) (fun rec a=>dQ.s2 k v0 v1 v2 v3 e0 e1 (fun c0=>rec c0) a) n v4
theorem dQ.fS {R:Type} (k:Nat) (v0 v1:Int) (v2:LI) (v3:Int) (e0 e1:Option R) (n:Nat) (v4:Int):dQ.l2 (R:=R) k v0 v1 v2 v3 e0 e1 (n+1) v4=dQ.s2 k v0 v1 v2 v3 e0 e1 (dQ.l2 k v0 v1 v2 v3 e0 e1 n) v4:=rfl
def dQ.f (k:Nat) (a:LI) (g i:Int):Option (Bool):=
 dQ.l2 k g i a (a.length:Int) (some false) (some true) k 0
def iT.f (k:Nat) (a:Int) (g:LI):Option (Bool):=
 (an.f k a 2 6).bind fun r1=>
 bif r1 then
  bif ((g.length:Int)==a) then
   (dQ.f k g (-1000) 1000).bind fun r2=>
   bif r2 then
    (dq.f k g).bind fun r3=>
    some (r3==0)
   else
    some false
  else
   some false
 else
  some false
def cG.s2 {R:Type} (k:Nat) (v0:Int) (v2:LL) (v3:Int) (e0 e1:Option R) (rec:Int->Option R) (v4:Int):Option R:=
 bif decide (v4<v3) then
  aC ((decide (0<=v4))&&(decide (v4<(v2.length:Int))))<|
  (iT.f k v0 (v2.getD v4.toNat [])).bind fun r1=>
  bif (!r1) then
   e0
  else
   rec (IntKind.wrap .i64 (v4+1))
 else
  e1
def cG.l2 {R:Type} (k:Nat) (v0:Int) (v2:LL) (v3:Int) (e0 e1:Option R) (n:Nat) (v4:Int):Option R:=
 V.iter (A:=Int) (fun rec a=>cG.s2 k v0 v2 v3 e0 e1 (fun c0=>rec c0) a) n v4
theorem cG.fS {R:Type} (k:Nat) (v0:Int) (v2:LL) (v3:Int) (e0 e1:Option R) (n:Nat) (v4:Int):cG.l2 (R:=R) k v0 v2 v3 e0 e1 (n+1) v4=cG.s2 k v0 v2 v3 e0 e1 (cG.l2 k v0 v2 v3 e0 e1 n) v4:=rfl
def cG.f (k:Nat) (a:Int) (g:LL):Option (Bool):=
 cG.l2 k a g (g.length:Int) (some false) ((an.f k a 2 6).bind fun r2=>
  bif r2 then
   some (decide ((g.length:Int)<=50))
  else
   some false) k 0
def aB.s4 {R:Type} (k:Nat) (v0 v1:LI) (v2:Int) (e0 e1:Option R) (rec:Int->Option R) (v3:Int):Option R:=
 bif decide (v3<v2) then
  aC ((decide (0<=v3))&&(decide (v3<(v0.length:Int))))<|
  aC ((decide (0<=v3))&&(decide (v3<(v1.length:Int))))<|
  bif ((v0.getD v3.toNat 0) != (v1.getD v3.toNat 0)) then
   e0
  else
   rec (IntKind.wrap .i64 (v3+1))
 else
  e1
def aB.l4 {R:Type} (k:Nat) (v0 v1:LI) (v2:Int) (e0 e1:Option R) (n:Nat) (v3:Int):Option R:=
 V.iter (A:=Int) (fun rec a=>aB.s4 k v0 v1 v2 e0 e1 (fun c0=>rec c0) a) n v3
theorem aB.gH {R:Type} (k:Nat) (v0 v1:LI) (v2:Int) (e0 e1:Option R) (n:Nat) (v3:Int):aB.l4 (R:=R) k v0 v1 v2 e0 e1 (n+1) v3=aB.s4 k v0 v1 v2 e0 e1 (aB.l4 k v0 v1 v2 e0 e1 n) v3:=rfl
def aB.f (k:Nat) (a g:LI):Option (Bool):=
 bif ((a.length:Int) != (g.length:Int)) then
  some false
 else
  aB.l4 k a g (a.length:Int) (some false) (some true) k 0
def cR.f (k:Nat) (a0 a1:Int) (a2 a3:Bool) (a4 a5:LI) (a6 a7 g0 g1:Int) (g2 g3:Bool) (g4 g5:LI) (g6 g7:Int):Option (Bool):=
 bif (a0==g0) then
  bif (a1==g1) then
   bif (a2==g2) then
    bif (a3==g3) then
     bif (a6==g6) then
      bif (a7==g7) then
       (aB.f k a4 g4).bind fun r1=>
       bif r1 then
        (aB.f k a5 g5).bind fun r2=>
        some r2
       else
        some false
      else
       some false
     else
      some false
    else
     some false
   else
    some false
  else
   some false
 else
  some false
def br.s4 {R:Type} (k:Nat) (v0 v1:LL) (v2:Int) (e0 e1:Option R) (rec:Int->Option R) (v3:Int):Option R:=
 bif decide (v3<v2) then
  aC ((decide (0<=v3))&&(decide (v3<(v0.length:Int))))<|
  aC ((decide (0<=v3))&&(decide (v3<(v1.length:Int))))<|
  (aB.f k (v0.getD v3.toNat []) (v1.getD v3.toNat [])).bind fun r1=>
  bif (!r1) then
   e0
  else
   rec (IntKind.wrap .i64 (v3+1))
 else
  e1
def br.l4 {R:Type} (k:Nat) (v0 v1:LL) (v2:Int) (e0 e1:Option R) (n:Nat) (v3:Int):Option R:=
 V.iter (A:=Int) (fun rec a=>br.s4 k v0 v1 v2 e0 e1 (fun c0=>rec c0) a) n v3
theorem br.gH {R:Type} (k:Nat) (v0 v1:LL) (v2:Int) (e0 e1:Option R) (n:Nat) (v3:Int):br.l4 (R:=R) k v0 v1 v2 e0 e1 (n+1) v3=br.s4 k v0 v1 v2 e0 e1 (br.l4 k v0 v1 v2 e0 e1 n) v3:=rfl
def br.f (k:Nat) (a g:LL):Option (Bool):=
 bif ((a.length:Int) != (g.length:Int)) then
  some false
 else
  br.l4 k a g (a.length:Int) (some false) (some true) k 0
def cC.f (k:Nat) (a0 a1:Int) (a2 a3:Bool) (a4 a5:LI) (a6 a7:Int) (a8:LL) (a9 dX:LI) (cV a12 dU g0 g1:Int) (g2 g3:Bool) (g4 g5:LI) (g6 g7:Int) (g8:LL) (g9 g10:LI) (g11 g12 g13:Int):Option (Bool):=
 (cR.f k a0 a1 a2 a3 a4 a5 a6 a7 g0 g1 g2 g3 g4 g5 g6 g7).bind fun r1=>
 bif r1 then
  (br.f k a8 g8).bind fun r2=>
  bif r2 then
   (aB.f k a9 g9).bind fun r3=>
   bif r3 then
    (aB.f k dX g10).bind fun r4=>
    bif r4 then
     bif (cV==g11) then
      bif (a12==g12) then
       some (dU==g13)
      else
       some false
     else
      some false
    else
     some false
   else
    some false
  else
   some false
 else
  some false
def cq.s3 {R:Type} (k:Nat) (v0:LL) (v1:Int) (e0:LI->Option R) (rec:Int->LI->Option R) (v2:Int) (v3:LI):Option R:=
 bif decide (v2<v1) then
  aC ((decide (0<=v2))&&(decide (v2<(v0.length:Int))))<|
  aC (decide ((v3.length+((v0.getD v2.toNat []).length))*8<=room))<|
  rec (IntKind.wrap .i64 (v2+1)) (v3++(v0.getD v2.toNat []))
 else
  e0 v3
def cq.l3 {R:Type} (k:Nat) (v0:LL) (v1:Int) (e0:LI->Option R) (n:Nat) (v2:Int) (v3:LI):Option R:=
 V.iter (A:=Int×LI) (fun rec a=>cq.s3 k v0 v1 e0 (fun c0 c1=>rec (c0,c1)) a.1 a.2) n (v2,v3)
theorem cq.aE {R:Type} (k:Nat) (v0:LL) (v1:Int) (e0:LI->Option R) (n:Nat) (v2:Int) (v3:LI):cq.l3 (R:=R) k v0 v1 e0 (n+1) v2 v3=cq.s3 k v0 v1 e0 (cq.l3 k v0 v1 e0 n) v2 v3:=rfl
def cq.f (k:Nat) (a:LL):Option (Bool):=
 cq.l3 k a (a.length:Int) (fun x1=>
  (bI.f k x1).bind fun r2=>
  some r2) k 0 []
def bF.s3 {R:Type} (k:Nat) (v1:LL) (v2:Int) (e0:Int->Option R) (rec:Int->Int->Option R) (v0 v3:Int):Option R:=
 bif decide (v3<v2) then
  aC ((decide (0<=v3))&&(decide (v3<(v1.length:Int))))<|
  rec (IntKind.wrap .i64 (v0+((v1.getD v3.toNat []).length:Int))) (IntKind.wrap .i64 (v3+1))
 else
  e0 v0
def bF.l3 {R:Type} (k:Nat) (v1:LL) (v2:Int) (e0:Int->Option R) (n:Nat) (v0 v3:Int):Option R:=
 V.iter (A:=Int×Int) (fun rec a=>bF.s3 k v1 v2 e0 (fun c0 c1=>rec (c0,c1)) a.1 a.2) n (v0,v3)
theorem bF.aE {R:Type} (k:Nat) (v1:LL) (v2:Int) (e0:Int->Option R) (n:Nat) (v0 v3:Int):bF.l3 (R:=R) k v1 v2 e0 (n+1) v0 v3=bF.s3 k v1 v2 e0 (bF.l3 k v1 v2 e0 n) v0 v3:=rfl
def bF.f (k:Nat) (a:LL):Option (Int):=
 bF.l3 k a (a.length:Int) (fun x1=>
  some x1) k 0 0
def iU.f (k:Nat) (a:LL):Option (Bool):=
 (cq.f k a).bind fun r1=>
 bif r1 then
  (bF.f k a).bind fun r2=>
  some (r2==52)
 else
  some false
def cT.f (k:Nat) (a0 a1:Int) (a2 a3:Bool) (a4 a5:LI) (a6 a7:Int) (a8:LL) (a9 dX:LI) (cV a12 dU:Int):Option (Bool):=
 (bN.f k a0 a1 a2 a3 a4 a5 a6 a7).bind fun r1=>
 bif r1 then
  bif ((a8.length:Int)==a0) then
   (bo.f k a8).bind fun r2=>
   aC (decide ((r2.length+2)*24<=room))<|
   (iU.f k (r2++[a9,dX])).bind fun r3=>
   bif r3 then
    bif decide ((dX.length:Int)>0) then
     (an.f k cV 0 (IntKind.wrap .i64 ((a8.length:Int)-1))).bind fun r4=>
     bif r4 then
      (an.f k a12 0 a7).bind fun r5=>
      bif r5 then
       (an.f k dU 0 a12).bind fun r6=>
       some r6
      else
       some false
     else
      some false
    else
     some false
   else
    some false
  else
   some false
 else
  some false
def bY.s4 {R:Type} (k:Nat) (v0:LL) (v1:Int) (e0:Int->Option R) (e1:Option R) (rec:Int->Option R) (v2:Int):Option R:=
 bif decide (v2<v1) then
  aC ((decide (0<=v2))&&(decide (v2<(v0.length:Int))))<|
  bif (((v0.getD v2.toNat []).length:Int)==0) then
   e0 v2
  else
   rec (IntKind.wrap .i64 (v2+1))
 else
  e1
def bY.l4 {R:Type} (k:Nat) (v0:LL) (v1:Int) (e0:Int->Option R) (e1:Option R) (n:Nat) (v2:Int):Option R:=
 V.iter (A:=Int) (fun rec a=>bY.s4 k v0 v1 e0 e1 (fun c0=>rec c0) a) n v2
theorem bY.gH {R:Type} (k:Nat) (v0:LL) (v1:Int) (e0:Int->Option R) (e1:Option R) (n:Nat) (v2:Int):bY.l4 (R:=R) k v0 v1 e0 e1 (n+1) v2=bY.s4 k v0 v1 e0 e1 (bY.l4 k v0 v1 e0 e1 n) v2:=rfl
def bY.f (k:Nat) (a0 a1:Int) (a2 a3:Bool) (a4 a5:LI) (a6 a7:Int) (a8:LL) (a9 dX:LI) (cV a12 dU:Int):Option (Int):=
 (cT.f k a0 a1 a2 a3 a4 a5 a6 a7 a8 a9 dX cV a12 dU).bind fun r1=>
 bif (!r1) then
  some (-1)
 else
  bY.l4 k a8 (a8.length:Int) (fun x2=>
   some x2) (some (-1)) k 0
def eh.f (k:Nat) (a0 a1:Int) (a2 a3:Bool) (a4 a5:LI) (a6 a7:Int) (a8:LL) (a9 dX:LI) (cV a12 dU:Int):Option (Bool):=
 (cT.f k a0 a1 a2 a3 a4 a5 a6 a7 a8 a9 dX cV a12 dU).bind fun r1=>
 bif r1 then
  (bY.f k a0 a1 a2 a3 a4 a5 a6 a7 a8 a9 dX cV a12 dU).bind fun r2=>
  bif decide (r2>=0) then
   some true
  else
   bif (a12==a7) then
    some true
   else
    some (decide (dU>=a0))
 else
  some false
def bx.s6 {R:Type} (k:Nat) (v1 fq:Int) (e0:Int->LL->LI->LI->Option R) (rec:Int->Int->LL->LI->LI->Option R) (v0 v2:Int) (v37:LL) (fA ld:LI):Option R:=
 bif decide (v2<v1) then
  bif ((fA.length:Int)==0) then
   aC ((decide (0<=(IntKind.wrap .i64 ((ld.length:Int)-1))))&&(decide ((IntKind.wrap .i64 ((ld.length:Int)-1))<=(ld.length:Int))))<|
   aC (decide (0<=(IntKind.wrap .i64 ((ld.length:Int)-1))))<|
   (aF.f k ((ld.take ((IntKind.wrap .i64 ((ld.length:Int)-1)).toNat)).drop 0)).bind fun r4=>
   aC ((decide (0<=(ld.length:Int)))&&(decide ((ld.length:Int)<=(ld.length:Int))))<|
   aC ((decide (0<=(IntKind.wrap .i64 ((ld.length:Int)-1))))&&(decide ((IntKind.wrap .i64 ((ld.length:Int)-1))<=(ld.length:Int))))<|
   (aF.f k ((ld.take ((ld.length:Int).toNat)).drop ((IntKind.wrap .i64 ((ld.length:Int)-1)).toNat))).bind fun r5=>
   bif ((r4.length:Int)==0) then
    e0 v0 v37 r4 r5
   else
    aC ((decide (0<=fq))&&(decide (fq<(v37.length:Int))))<|
    aC (decide (0<(r4.length:Int)))<|
    aC (decide ((((v37.getD fq.toNat []).length)+1)*8<=room))<|
    aC ((decide (0<=fq))&&(decide (fq<(v37.length:Int))))<|
    aC (fq.toNat==fq.toNat)<|
    aC ((decide (0<=(r4.length:Int)))&&(decide ((r4.length:Int)<=(r4.length:Int))))<|
    aC (decide (1<=(r4.length:Int)))<|
    (aF.f k ((r4.take ((r4.length:Int).toNat)).drop 1)).bind fun r6=>
    rec (IntKind.wrap .i64 (v0+1)) (IntKind.wrap .i64 (v2+1)) (v37.set fq.toNat ((v37.getD fq.toNat [])++[r4.getD 0 0])) r6 r5
  else
   bif ((fA.length:Int)==0) then
    e0 v0 v37 fA ld
   else
    aC ((decide (0<=fq))&&(decide (fq<(v37.length:Int))))<|
    aC (decide (0<(fA.length:Int)))<|
    aC (decide ((((v37.getD fq.toNat []).length)+1)*8<=room))<|
    aC ((decide (0<=fq))&&(decide (fq<(v37.length:Int))))<|
    aC (fq.toNat==fq.toNat)<|
    aC ((decide (0<=(fA.length:Int)))&&(decide ((fA.length:Int)<=(fA.length:Int))))<|
    aC (decide (1<=(fA.length:Int)))<|
    (aF.f k ((fA.take ((fA.length:Int).toNat)).drop 1)).bind fun r7=>
    rec (IntKind.wrap .i64 (v0+1)) (IntKind.wrap .i64 (v2+1)) (v37.set fq.toNat ((v37.getD fq.toNat [])++[fA.getD 0 0])) r7 ld
 else
  e0 v0 v37 fA ld
def bx.l6 {R:Type} (k:Nat) (v1 fq:Int) (e0:Int->LL->LI->LI->Option R) (n:Nat) (v0 v2:Int) (v37:LL) (fA ld:LI):Option R:=
 V.iter (A:=Int×Int×LL×LI×LI) (fun rec a=>bx.s6 k v1 fq e0 (fun c0 c1 c2 c3 c4=>rec (c0,c1,c2,c3,c4)) a.1 a.2.1 (t2 a).1 (t3 a).1 (t4 a)) n (v0,v2,v37,fA,ld)
theorem bx.gO {R:Type} (k:Nat) (v1 fq:Int) (e0:Int->LL->LI->LI->Option R) (n:Nat) (v0 v2:Int) (v37:LL) (fA ld:LI):bx.l6 (R:=R) k v1 fq e0 (n+1) v0 v2 v37 fA ld=bx.s6 k v1 fq e0 (bx.l6 k v1 fq e0 n) v0 v2 v37 fA ld:=rfl
def bx.f (k:Nat) (a0 a1:Int) (a2 a3:Bool) (a4 a5:LI) (a6 a7:Int) (a8:LL) (a9 dX:LI) (cV a12 dU:Int):Option (Int×Int×Bool×Bool×LI×LI×Int×Int×LL×LI×LI×Int×Int×Int×Bool):=
 (bS.f k a0 a1 a2 a3 a4 a5 a6 a7 a8 a9 dX cV a12 dU).bind fun r1=>
 (cT.f k a0 a1 a2 a3 a4 a5 a6 a7 a8 a9 dX cV a12 dU).bind fun r2=>
 bif (!r2) then
  some (r1.1,r1.2.1,(t2 r1).1,(t3 r1).1,(t4 r1).1,(t5 r1).1,(t6 r1).1,(t7 r1).1,(t8 r1).1,(t9 r1).1,(t9 r1.2).1,(t9 (t2 r1)).1,(t9 (t3 r1)).1,(t9 (t4 r1)),false)
 else
  (eh.f k a0 a1 a2 a3 a4 a5 a6 a7 a8 a9 dX cV a12 dU).bind fun r3=>
  bif r3 then
   some (r1.1,r1.2.1,(t2 r1).1,(t3 r1).1,(t4 r1).1,(t5 r1).1,(t6 r1).1,(t7 r1).1,(t8 r1).1,(t9 r1).1,(t9 r1.2).1,(t9 (t2 r1)).1,(t9 (t3 r1)).1,(t9 (t4 r1)),false)
  else
   bx.l6 k a6 cV (fun x8 x9 FK FN=>
    bif decide (x8>0) then
     aC (!(decide ((a8.length:Int)=0)))<|
     some (r1.1,r1.2.1,(t2 r1).1,(t3 r1).1,(t4 r1).1,(t5 r1).1,(t6 r1).1,(t7 r1).1,x9,FK,FN,(IntKind.wrap .i64 (cV+1)).tmod (a8.length:Int),IntKind.wrap .i64 ((t9 (t3 r1)).1+1),0,true)
    else
     aC (!(decide ((a8.length:Int)=0)))<|
     some (r1.1,r1.2.1,(t2 r1).1,(t3 r1).1,(t4 r1).1,(t5 r1).1,(t6 r1).1,(t7 r1).1,x9,FK,FN,(IntKind.wrap .i64 (cV+1)).tmod (a8.length:Int),IntKind.wrap .i64 ((t9 (t3 r1)).1+1),IntKind.wrap .i64 ((t9 (t4 r1))+1),true)) k 0 0 (t8 r1).1 (t9 r1).1 (t9 r1.2).1
def bi.s6 {R:Type} (k:Nat) (v0:Int) (v5:LI) (e0 rec:Int->Option R) (v1:Int):Option R:=
 bif decide (v1>0) then
  aC ((decide (0<=(IntKind.wrap .i64 (v1-1))))&&(decide ((IntKind.wrap .i64 (v1-1))<(v5.length:Int))))<|
  bif decide ((v5.getD ((IntKind.wrap .i64 (v1-1)).toNat) 0)>v0) then
   rec (IntKind.wrap .i64 (v1-1))
  else
   e0 v1
 else
  e0 v1
def bi.l6 {R:Type} (k:Nat) (v0:Int) (v5:LI) (e0:Int->Option R) (n:Nat) (v1:Int):Option R:=
 V.iter (A:=Int) (fun rec a=>bi.s6 k v0 v5 e0 (fun c0=>rec c0) a) n v1
theorem bi.gO {R:Type} (k:Nat) (v0:Int) (v5:LI) (e0:Int->Option R) (n:Nat) (v1:Int):bi.l6 (R:=R) k v0 v5 e0 (n+1) v1=bi.s6 k v0 v5 e0 (bi.l6 k v0 v5 e0 n) v1:=rfl
def bi.s3 {R:Type} (k:Nat) (v0:LI) (v1:Int) (e0:LI->Option R) (rec:Int->LI->Option R) (v2:Int) (v3:LI):Option R:=
 bif decide (v2<v1) then
  aC ((decide (0<=v2))&&(decide (v2<(v0.length:Int))))<|
  bi.l6 k (v0.getD v2.toNat 0) v3 (fun x1=>
   aC (decide ((v3.length+1)*8<=room))<|
   aC ((decide (0<=((v3++[0]).length:Int)))&&(decide (((v3++[0]).length:Int)<=((v3++[0]).length:Int))))<|
   aC ((decide (0<=(IntKind.wrap .i64 (x1+1))))&&(decide ((IntKind.wrap .i64 (x1+1))<=((v3++[0]).length:Int))))<|
   aC ((decide (0<=((v3++[0]).length:Int)))&&(decide (((v3++[0]).length:Int)<=((v3++[0]).length:Int))))<|
   aC ((decide (0<=x1))&&(decide (x1<=((v3++[0]).length:Int))))<|
   aC ((decide (0<=x1))&&(decide (x1<((((v3++[0]).take ((IntKind.wrap .i64 (x1+1)).toNat))++(((((v3++[0]).take (((v3++[0]).length:Int).toNat)).drop x1.toNat).take ((((v3++[0]).length:Int).toNat)-((IntKind.wrap .i64 (x1+1)).toNat)))++((v3++[0]).drop (((IntKind.wrap .i64 (x1+1)).toNat)+(min ((((v3++[0]).length:Int).toNat)-x1.toNat) ((((v3++[0]).length:Int).toNat)-((IntKind.wrap .i64 (x1+1)).toNat))))))).length:Int))))<|
   rec (IntKind.wrap .i64 (v2+1)) ((((v3++[0]).take ((IntKind.wrap .i64 (x1+1)).toNat))++(((((v3++[0]).take (((v3++[0]).length:Int).toNat)).drop x1.toNat).take ((((v3++[0]).length:Int).toNat)-((IntKind.wrap .i64 (x1+1)).toNat)))++((v3++[0]).drop (((IntKind.wrap .i64 (x1+1)).toNat)+(min ((((v3++[0]).length:Int).toNat)-x1.toNat) ((((v3++[0]).length:Int).toNat)-((IntKind.wrap .i64 (x1+1)).toNat))))))).set x1.toNat (v0.getD v2.toNat 0))) k (v3.length:Int)
 else
  e0 v3
def bi.l3 {R:Type} (k:Nat) (v0:LI) (v1:Int) (e0:LI->Option R) (n:Nat) (v2:Int) (v3:LI):Option R:=
 V.iter (A:=Int×LI) (fun rec a=>bi.s3 k v0 v1 e0 (fun c0 c1=>rec (c0,c1)) a.1 a.2) n (v2,v3)
theorem bi.aE {R:Type} (k:Nat) (v0:LI) (v1:Int) (e0:LI->Option R) (n:Nat) (v2:Int) (v3:LI):bi.l3 (R:=R) k v0 v1 e0 (n+1) v2 v3=bi.s3 k v0 v1 e0 (bi.l3 k v0 v1 e0 n) v2 v3:=rfl
def bi.f (k:Nat) (a:LI):Option (LI):=
 bi.l3 k a (a.length:Int) (fun x2=>
  some x2) k 0 []
def dP.f (k:Nat) (a:Int):Option (Int):=
 (bX.f k a).bind fun r1=>
 bif (!r1) then
  some (-1)
 else
  some (IntKind.wrap .i64 (a.tdiv 13))
def dz.f (k:Nat) (a:Int):Option (Int):=
 (bX.f k a).bind fun r1=>
 bif (!r1) then
  some (-1)
 else
  some (a.tmod 13)
def kw.f (k:Nat) (a:Int):Option (Bool):=
 (dP.f k a).bind fun r1=>
 bif (r1==1) then
  some true
 else
  (dP.f k a).bind fun r2=>
  some (r2==2)
def kF.f (k:Nat) (a g:Int):Option (Bool):=
 bif (a==400) then
  (kw.f k g).bind fun r1=>
  some r1
 else
  bif decide (a>=300) then
   (dz.f k g).bind fun r2=>
   some (decide (r2>=(IntKind.wrap .i64 (a-300))))
  else
   bif decide (a>=200) then
    (dz.f k g).bind fun r3=>
    some (r3==(IntKind.wrap .i64 (a-200)))
   else
    (dP.f k g).bind fun r4=>
    some (r4==(IntKind.wrap .i64 (a-100)))
def bB.s5 {R:Type} (k:Nat) (v0:Int) (v1:LI) (v2:Int) (e0:List Bool->Option R) (rec:Int->List Bool->Option R) (v3:Int) (v4:List Bool):Option R:=
 bif decide (v3<v2) then
  aC ((decide (0<=v3))&&(decide (v3<(v1.length:Int))))<|
  bif ((v1.getD v3.toNat 0)==(-1)) then
   aC ((decide (0<=(IntKind.wrap .i64 ((v4.length:Int)-1))))&&(decide ((IntKind.wrap .i64 ((v4.length:Int)-1))<(v4.length:Int))))<|
   aC ((decide (0<=(IntKind.wrap .i64 ((v4.length:Int)-1))))&&(decide ((IntKind.wrap .i64 ((v4.length:Int)-1))<(v4.length:Int))))<|
   rec (IntKind.wrap .i64 (v3+1)) (v4.set ((IntKind.wrap .i64 ((v4.length:Int)-1)).toNat) (!(v4.getD ((IntKind.wrap .i64 ((v4.length:Int)-1)).toNat) false)))
  else
   bif ((v1.getD v3.toNat 0)==(-2)) then
    aC ((decide (0<=(IntKind.wrap .i64 ((v4.length:Int)-2))))&&(decide ((IntKind.wrap .i64 ((v4.length:Int)-2))<=(v4.length:Int))))<|
    aC (decide (0<=(IntKind.wrap .i64 ((v4.length:Int)-2))))<|
    aC ((decide (0<=(IntKind.wrap .i64 ((v4.length:Int)-2))))&&(decide ((IntKind.wrap .i64 ((v4.length:Int)-2))<(v4.length:Int))))<|
    bif (v4.getD ((IntKind.wrap .i64 ((v4.length:Int)-2)).toNat) false) then
     aC ((decide (0<=(IntKind.wrap .i64 ((v4.length:Int)-1))))&&(decide ((IntKind.wrap .i64 ((v4.length:Int)-1))<(v4.length:Int))))<|
     aC (decide ((((v4.take ((IntKind.wrap .i64 ((v4.length:Int)-2)).toNat)).length)+1)*1<=room))<|
     rec (IntKind.wrap .i64 (v3+1)) ((v4.take ((IntKind.wrap .i64 ((v4.length:Int)-2)).toNat))++[v4.getD ((IntKind.wrap .i64 ((v4.length:Int)-1)).toNat) false])
    else
     aC (decide ((((v4.take ((IntKind.wrap .i64 ((v4.length:Int)-2)).toNat)).length)+1)*1<=room))<|
     rec (IntKind.wrap .i64 (v3+1)) ((v4.take ((IntKind.wrap .i64 ((v4.length:Int)-2)).toNat))++[false])
   else
    bif ((v1.getD v3.toNat 0)==(-3)) then
     aC ((decide (0<=(IntKind.wrap .i64 ((v4.length:Int)-2))))&&(decide ((IntKind.wrap .i64 ((v4.length:Int)-2))<=(v4.length:Int))))<|
     aC (decide (0<=(IntKind.wrap .i64 ((v4.length:Int)-2))))<|
     aC ((decide (0<=(IntKind.wrap .i64 ((v4.length:Int)-2))))&&(decide ((IntKind.wrap .i64 ((v4.length:Int)-2))<(v4.length:Int))))<|
     bif (v4.getD ((IntKind.wrap .i64 ((v4.length:Int)-2)).toNat) false) then
      aC (decide ((((v4.take ((IntKind.wrap .i64 ((v4.length:Int)-2)).toNat)).length)+1)*1<=room))<|
      rec (IntKind.wrap .i64 (v3+1)) ((v4.take ((IntKind.wrap .i64 ((v4.length:Int)-2)).toNat))++[true])
     else
      aC ((decide (0<=(IntKind.wrap .i64 ((v4.length:Int)-1))))&&(decide ((IntKind.wrap .i64 ((v4.length:Int)-1))<(v4.length:Int))))<|
      aC (decide ((((v4.take ((IntKind.wrap .i64 ((v4.length:Int)-2)).toNat)).length)+1)*1<=room))<|
      rec (IntKind.wrap .i64 (v3+1)) ((v4.take ((IntKind.wrap .i64 ((v4.length:Int)-2)).toNat))++[v4.getD ((IntKind.wrap .i64 ((v4.length:Int)-1)).toNat) false])
    else
     (kF.f k (v1.getD v3.toNat 0) v0).bind fun r3=>
     aC (decide ((v4.length+1)*1<=room))<|
     rec (IntKind.wrap .i64 (v3+1)) (v4++[r3])
 else
  e0 v4
def bB.l5 {R:Type} (k:Nat) (v0:Int) (v1:LI) (v2:Int) (e0:List Bool->Option R) (n:Nat) (v3:Int) (v4:List Bool):Option R:=
 V.iter (A:=Int×List Bool) (fun rec a=>bB.s5 k v0 v1 v2 e0 (fun c0 c1=>rec (c0,c1)) a.1 a.2) n (v3,v4)
theorem bB.de {R:Type} (k:Nat) (v0:Int) (v1:LI) (v2:Int) (e0:List Bool->Option R) (n:Nat) (v3:Int) (v4:List Bool):bB.l5 (R:=R) k v0 v1 v2 e0 (n+1) v3 v4=bB.s5 k v0 v1 v2 e0 (bB.l5 k v0 v1 v2 e0 n) v3 v4:=rfl
def bB.f (k:Nat) (a:LI) (g:Int):Option (Bool):=
 (bb.f k a).bind fun r1=>
 bif (!r1) then
  some false
 else
  (bX.f k g).bind fun r2=>
  bif (!r2) then
   some false
  else
   bB.l5 k g a (a.length:Int) (fun x4=>
    aC (decide (0<(x4.length:Int)))<|
    some (x4.getD 0 false)) k 0 []
def jr.f (k:Nat) (a0 a1:Int) (a2 a3:Bool) (a4 a5:LI) (a6 a7 g i:Int):Option (Bool):=
 (bN.f k a0 a1 a2 a3 a4 a5 a6 a7).bind fun r1=>
 bif (!r1) then
  some false
 else
  (bX.f k g).bind fun r2=>
  bif (!r2) then
   some false
  else
   (bX.f k i).bind fun r3=>
   bif (!r3) then
    some false
   else
    bif a2 then
     (dP.f k i).bind fun r4=>
     (dP.f k g).bind fun r5=>
     bif (r4==r5) then
      some true
     else
      bif a3 then
       (dz.f k i).bind fun r6=>
       (dz.f k g).bind fun r7=>
       bif (r6==r7) then
        some true
       else
        (bB.f k a4 i).bind fun r8=>
        some r8
      else
       (bB.f k a4 i).bind fun r9=>
       some r9
    else
     bif a3 then
      (dz.f k i).bind fun fW=>
      (dz.f k g).bind fun gN=>
      bif (fW==gN) then
       some true
      else
       (bB.f k a4 i).bind fun iS=>
       some iS
     else
      (bB.f k a4 i).bind fun ye=>
      some ye
def cr.s5 {R:Type} (k:Nat) (v0 v2 v3:Int) (v4 v5:Bool) (v6 v7:LI) (v8 v9:Int) (v12 gu:LI) (e0:LI->Option R) (rec:Int->LI->Option R) (v1:Int) (fc:LI):Option R:=
 bif decide (v1<v0) then
  aC ((decide (0<=v1))&&(decide (v1<(gu.length:Int))))<|
  aC ((decide (0<=(IntKind.wrap .i64 ((v12.length:Int)-1))))&&(decide ((IntKind.wrap .i64 ((v12.length:Int)-1))<(v12.length:Int))))<|
  (jr.f k v2 v3 v4 v5 v6 v7 v8 v9 (v12.getD ((IntKind.wrap .i64 ((v12.length:Int)-1)).toNat) 0) (gu.getD v1.toNat 0)).bind fun r4=>
  bif r4 then
   aC (decide ((fc.length+1)*8<=room))<|
   rec (IntKind.wrap .i64 (v1+1)) (fc++[gu.getD v1.toNat 0])
  else
   rec (IntKind.wrap .i64 (v1+1)) fc
 else
  e0 fc
def cr.l5 {R:Type} (k:Nat) (v0 v2 v3:Int) (v4 v5:Bool) (v6 v7:LI) (v8 v9:Int) (v12 gu:LI) (e0:LI->Option R) (n:Nat) (v1:Int) (fc:LI):Option R:=
 V.iter (A:=Int×LI) (fun rec a=>cr.s5 k v0 v2 v3 v4 v5 v6 v7 v8 v9 v12 gu e0 (fun c0 c1=>rec (c0,c1)) a.1 a.2) n (v1,fc)
theorem cr.de {R:Type} (k:Nat) (v0 v2 v3:Int) (v4 v5:Bool) (v6 v7:LI) (v8 v9:Int) (v12 gu:LI) (e0:LI->Option R) (n:Nat) (v1:Int) (fc:LI):cr.l5 (R:=R) k v0 v2 v3 v4 v5 v6 v7 v8 v9 v12 gu e0 (n+1) v1 fc=cr.s5 k v0 v2 v3 v4 v5 v6 v7 v8 v9 v12 gu e0 (cr.l5 k v0 v2 v3 v4 v5 v6 v7 v8 v9 v12 gu e0 n) v1 fc:=rfl
def cr.f (k:Nat) (a0 a1:Int) (a2 a3:Bool) (a4 a5:LI) (a6 a7:Int) (a8:LL) (a9 dX:LI) (cV a12 dU:Int):Option (LI):=
 (cT.f k a0 a1 a2 a3 a4 a5 a6 a7 a8 a9 dX cV a12 dU).bind fun r1=>
 bif (!r1) then
  some ([])
 else
  (eh.f k a0 a1 a2 a3 a4 a5 a6 a7 a8 a9 dX cV a12 dU).bind fun r2=>
  bif r2 then
   some ([])
  else
   aC ((decide (0<=cV))&&(decide (cV<(a8.length:Int))))<|
   (bi.f k (a8.getD cV.toNat [])).bind fun r3=>
   cr.l5 k (r3.length:Int) a0 a1 a2 a3 a4 a5 a6 a7 dX r3 (fun x5=>
    some x5) k 0 []
def df.s2 {R:Type} (k:Nat) (v0:Int) (v1:LI) (v2:Int) (e0:Int->Option R) (e1:Option R) (rec:Int->Option R) (v3:Int):Option R:=
 bif decide (v3<v2) then
  aC ((decide (0<=v3))&&(decide (v3<(v1.length:Int))))<|
  bif ((v1.getD v3.toNat 0)==v0) then
   e0 v3
  else
   rec (IntKind.wrap .i64 (v3+1))
 else
  e1
def df.l2 {R:Type} (k:Nat) (v0:Int) (v1:LI) (v2:Int) (e0:Int->Option R) (e1:Option R) (n:Nat) (v3:Int):Option R:=
 V.iter (A:=Int) (fun rec a=>df.s2 k v0 v1 v2 e0 e1 (fun c0=>rec c0) a) n v3
theorem df.fS {R:Type} (k:Nat) (v0:Int) (v1:LI) (v2:Int) (e0:Int->Option R) (e1:Option R) (n:Nat) (v3:Int):df.l2 (R:=R) k v0 v1 v2 e0 e1 (n+1) v3=df.s2 k v0 v1 v2 e0 e1 (df.l2 k v0 v1 v2 e0 e1 n) v3:=rfl
def df.f (k:Nat) (a:LI) (g:Int):Option (Int):=
 df.l2 k g a (a.length:Int) (fun x1=>
  some x1) (some (-1)) k 0
def fB.f (k:Nat) (a:LI) (g:Int):Option (Bool):=
 (df.f k a g).bind fun r1=>
 some (decide (r1>=0))
def cH.s3 {R:Type} (k:Nat) (v0:Int) (v1:LI) (v2:Int) (e0:LI->Option R) (rec:Int->LI->Option R) (v3:Int) (v4:LI):Option R:=
 bif decide (v3<v2) then
  aC ((decide (0<=v3))&&(decide (v3<(v1.length:Int))))<|
  bif ((v1.getD v3.toNat 0) != v0) then
   aC (decide ((v4.length+1)*8<=room))<|
   rec (IntKind.wrap .i64 (v3+1)) (v4++[v1.getD v3.toNat 0])
  else
   rec (IntKind.wrap .i64 (v3+1)) v4
 else
  e0 v4
def cH.l3 {R:Type} (k:Nat) (v0:Int) (v1:LI) (v2:Int) (e0:LI->Option R) (n:Nat) (v3:Int) (v4:LI):Option R:=
 V.iter (A:=Int×LI) (fun rec a=>cH.s3 k v0 v1 v2 e0 (fun c0 c1=>rec (c0,c1)) a.1 a.2) n (v3,v4)
theorem cH.aE {R:Type} (k:Nat) (v0:Int) (v1:LI) (v2:Int) (e0:LI->Option R) (n:Nat) (v3:Int) (v4:LI):cH.l3 (R:=R) k v0 v1 v2 e0 (n+1) v3 v4=cH.s3 k v0 v1 v2 e0 (cH.l3 k v0 v1 v2 e0 n) v3 v4:=rfl
def cH.f (k:Nat) (a:LI) (g:Int):Option (LI):=
 cH.l3 k g a (a.length:Int) (fun x1=>
  some x1) k 0 []
def hD.f (k:Nat) (a0 a1:Int) (a2 a3:Bool) (a4 a5:LI) (a6 a7 g:Int):Option (Bool):=
 (bN.f k a0 a1 a2 a3 a4 a5 a6 a7).bind fun r1=>
 bif r1 then
  (bB.f k a5 g).bind fun r2=>
  some r2
 else
  some false
def js.f (k:Nat) (a0 a1:Int) (a2 a3:Bool) (a4 a5:LI) (a6 a7:Int) (a8:LL) (a9 dX:LI) (cV a12 dU g:Int):Option (Int×Int×Bool×Bool×LI×LI×Int×Int×LL×LI×LI×Int×Int×Int×Bool):=
 (bS.f k a0 a1 a2 a3 a4 a5 a6 a7 a8 a9 dX cV a12 dU).bind fun r1=>
 (cr.f k a0 a1 a2 a3 a4 a5 a6 a7 a8 a9 dX cV a12 dU).bind fun r2=>
 (fB.f k r2 g).bind fun r3=>
 bif (!r3) then
  some (r1.1,r1.2.1,(t2 r1).1,(t3 r1).1,(t4 r1).1,(t5 r1).1,(t6 r1).1,(t7 r1).1,(t8 r1).1,(t9 r1).1,(t9 r1.2).1,(t9 (t2 r1)).1,(t9 (t3 r1)).1,(t9 (t4 r1)),false)
 else
  aC ((decide (0<=cV))&&(decide (cV<((t8 r1).1.length:Int))))<|
  (cH.f k ((t8 r1).1.getD cV.toNat []) g).bind fun r4=>
  aC ((decide (0<=cV))&&(decide (cV<((t8 r1).1.length:Int))))<|
  aC (decide (((t9 r1.2).1.length+1)*8<=room))<|
  (hD.f k a0 a1 a2 a3 a4 a5 a6 a7 g).bind fun r5=>
  bif r5 then
   aC (!(decide ((a8.length:Int)=0)))<|
   some (r1.1,r1.2.1,(t2 r1).1,(t3 r1).1,(t4 r1).1,(t5 r1).1,(t6 r1).1,(t7 r1).1,(t8 r1).1.set cV.toNat r4,(t9 r1).1,(t9 r1.2).1++[g],(IntKind.wrap .i64 (cV+2)).tmod (a8.length:Int),IntKind.wrap .i64 ((t9 (t3 r1)).1+1),0,true)
  else
   aC (!(decide ((a8.length:Int)=0)))<|
   some (r1.1,r1.2.1,(t2 r1).1,(t3 r1).1,(t4 r1).1,(t5 r1).1,(t6 r1).1,(t7 r1).1,(t8 r1).1.set cV.toNat r4,(t9 r1).1,(t9 r1.2).1++[g],(IntKind.wrap .i64 (cV+1)).tmod (a8.length:Int),IntKind.wrap .i64 ((t9 (t3 r1)).1+1),0,true)
def ec.f (k:Nat) (a0 a1:Int) (a2 a3:Bool) (a4 a5:LI) (a6 a7:Int) (a8:LL) (a9 dX:LI) (cV a12 dU g:Int):Option (Int×Int×Bool×Bool×LI×LI×Int×Int×LL×LI×LI×Int×Int×Int×Bool):=
 bif (g==(-1)) then
  (bx.f k a0 a1 a2 a3 a4 a5 a6 a7 a8 a9 dX cV a12 dU).bind fun r1=>
  some r1
 else
  (js.f k a0 a1 a2 a3 a4 a5 a6 a7 a8 a9 dX cV a12 dU g).bind fun r2=>
  some r2
def bT.s3 {R:Type} (k:Nat) (v1:LI) (v2:Int) (e0:Int->Int->Int->Bool->Bool->Int->Int->Int->Int->Int->LI->LI->LL->LI->LI->Option R) (e1:Int->Int->Bool->Bool->Int->Int->Int->Int->Int->LI->LI->LL->LI->LI->Option R) (rec:Int->Int->Int->Bool->Bool->Int->Int->Int->Int->Int->LI->LI->LL->LI->LI->Option R) (v3 fu fq:Int) (eR fc:Bool) (gu kx jI v20 v21:Int) (iL gL:LI) (v24:LL) (jY jZ:LI):Option R:=
 bif decide (v3<v2) then
  aC ((decide (0<=v3))&&(decide (v3<(v1.length:Int))))<|
  (ec.f k fu fq eR fc iL gL gu kx v24 jY jZ jI v20 v21 (v1.getD v3.toNat 0)).bind fun r2=>
  bif (!(t9 (t5 r2))) then
   e0 v3 fu fq eR fc gu kx jI v20 v21 iL gL v24 jY jZ
  else
   rec (IntKind.wrap .i64 (v3+1)) r2.1 r2.2.1 (t2 r2).1 (t3 r2).1 (t6 r2).1 (t7 r2).1 (t9 (t2 r2)).1 (t9 (t3 r2)).1 (t9 (t4 r2)).1 (t4 r2).1 (t5 r2).1 (t8 r2).1 (t9 r2).1 (t9 r2.2).1
 else
  e1 fu fq eR fc gu kx jI v20 v21 iL gL v24 jY jZ
def bT.l3 {R:Type} (k:Nat) (v1:LI) (v2:Int) (e0:Int->Int->Int->Bool->Bool->Int->Int->Int->Int->Int->LI->LI->LL->LI->LI->Option R) (e1:Int->Int->Bool->Bool->Int->Int->Int->Int->Int->LI->LI->LL->LI->LI->Option R) (n:Nat) (v3 fu fq:Int) (eR fc:Bool) (gu kx jI v20 v21:Int) (iL gL:LI) (v24:LL) (jY jZ:LI):Option R:=
 V.iter (A:=Int×Int×Int×Bool×Bool×Int×Int×Int×Int×Int×LI×LI×LL×LI×LI) (fun rec a=>bT.s3 k v1 v2 e0 e1 (fun c0 c1 c2 c3 c4 c5 c6 c7 c8 c9 Mt Mu c12 Mv Mw=>rec (c0,c1,c2,c3,c4,c5,c6,c7,c8,c9,Mt,Mu,c12,Mv,Mw)) a.1 a.2.1 (t2 a).1 (t3 a).1 (t4 a).1 (t5 a).1 (t6 a).1 (t7 a).1 (t8 a).1 (t9 a).1 (t9 a.2).1 (t9 (t2 a)).1 (t9 (t3 a)).1 (t9 (t4 a)).1 (t9 (t5 a))) n (v3,fu,fq,eR,fc,gu,kx,jI,v20,v21,iL,gL,v24,jY,jZ)
theorem bT.aE {R:Type} (k:Nat) (v1:LI) (v2:Int) (e0:Int->Int->Int->Bool->Bool->Int->Int->Int->Int->Int->LI->LI->LL->LI->LI->Option R) (e1:Int->Int->Bool->Bool->Int->Int->Int->Int->Int->LI->LI->LL->LI->LI->Option R) (n:Nat) (v3 fu fq:Int) (eR fc:Bool) (gu kx jI v20 v21:Int) (iL gL:LI) (v24:LL) (jY jZ:LI):bT.l3 (R:=R) k v1 v2 e0 e1 (n+1) v3 fu fq eR fc gu kx jI v20 v21 iL gL v24 jY jZ=bT.s3 k v1 v2 e0 e1 (bT.l3 k v1 v2 e0 e1 n) v3 fu fq eR fc gu kx jI v20 v21 iL gL v24 jY jZ:=rfl
def bT.f (k:Nat) (a0 a1:Int) (a2 a3:Bool) (a4 a5:LI) (a6 a7:Int) (a8:LL) (a9 dX:LI) (cV a12 dU:Int) (g:LI):Option (Int×Int×Bool×Bool×LI×LI×Int×Int×LL×LI×LI×Int×Int×Int×Int):=
 (bS.f k a0 a1 a2 a3 a4 a5 a6 a7 a8 a9 dX cV a12 dU).bind fun r1=>
 bT.l3 k g (g.length:Int) (fun x3 x4 x5 x6 x7 x8 x9 FK FN Ig Ih Ii FO FQ FR=>
  some (x4,x5,x6,x7,Ih,Ii,x8,x9,FO,FQ,FR,FK,FN,Ig,x3)) (fun FU FV FW FX FY FZ F5 F6 F7 F8 F9 F_ Ga Gb=>
  some (FU,FV,FW,FX,F8,F9,FY,FZ,F_,Ga,Gb,F5,F6,F7,(g.length:Int))) k 0 r1.1 r1.2.1 (t2 r1).1 (t3 r1).1 (t6 r1).1 (t7 r1).1 (t9 (t2 r1)).1 (t9 (t3 r1)).1 (t9 (t4 r1)) (t4 r1).1 (t5 r1).1 (t8 r1).1 (t9 r1).1 (t9 r1.2).1
def cc.f (k:Nat) (a0 a1:Int) (a2 a3:Bool) (a4 a5:LI) (a6 a7:Int) (a8:LI) (a9:Bool) (dX:LI) (cV a12:Int) (dU iD:Bool) (iE iF:LI) (iG iH:Int) (iI:LL) (a20 a21:LI) (iJ iK a24:Int) (jh:LI) (jq:LL):Option (Bool):=
 (bN.f k a0 a1 a2 a3 a4 a5 a6 a7).bind fun r1=>
 bif (!r1) then
  some false
 else
  bif decide ((a8.length:Int)>a0) then
   some false
  else
   (cG.f k a0 jq).bind fun r2=>
   bif (!r2) then
    some false
   else
    bif (!a9) then
     bif ((dX.length:Int)==0) then
      bif ((jh.length:Int)==0) then
       (cC.f k cV a12 dU iD iE iF iG iH iI a20 a21 iJ iK a24 0 0 false false [] [] 0 0 [] [] [] 0 0 0).bind fun r3=>
       some r3
      else
       some false
     else
      some false
    else
     (fy.f k a0 a1 a2 a3 a4 a5 a6 a7 dX).bind fun r4=>
     bif (!(t9 (t5 r4))) then
      some false
     else
      bif ((a8.length:Int) != a0) then
       some false
      else
       (bT.f k r4.1 r4.2.1 (t2 r4).1 (t3 r4).1 (t4 r4).1 (t5 r4).1 (t6 r4).1 (t7 r4).1 (t8 r4).1 (t9 r4).1 (t9 r4.2).1 (t9 (t2 r4)).1 (t9 (t3 r4)).1 (t9 (t4 r4)).1 jh).bind fun r5=>
       bif ((t9 (t5 r5))==(jh.length:Int)) then
        (cC.f k r5.1 r5.2.1 (t2 r5).1 (t3 r5).1 (t4 r5).1 (t5 r5).1 (t6 r5).1 (t7 r5).1 (t8 r5).1 (t9 r5).1 (t9 r5.2).1 (t9 (t2 r5)).1 (t9 (t3 r5)).1 (t9 (t4 r5)).1 cV a12 dU iD iE iF iG iH iI a20 a21 iJ iK a24).bind fun r6=>
        some r6
       else
        some false
def au.f (k:Nat) (a0 a1:Int) (a2 a3:Bool) (a4 a5:LI) (a6 a7:Int) (a8:LI) (a9:Bool) (dX:LI) (cV a12:Int) (dU iD:Bool) (iE iF:LI) (iG iH:Int) (iI:LL) (a20 a21:LI) (iJ iK a24:Int) (jh:LI) (jq:LL) (g0 g1:Int) (g2 g3:Bool) (g4 g5:LI) (g6 g7:Int) (g8:LI) (g9:Bool) (g10:LI) (g11 g12:Int) (g13 g14:Bool) (g15 g16:LI) (g17 g18:Int) (g19:LL) (g20 g21:LI) (g22 g23 g24:Int) (Kq:LI) (Kr:LL) (i:Bool):Option (Int×Int×Bool×Bool×LI×LI×Int×Int×LI×Bool×LI×Int×Int×Bool×Bool×LI×LI×Int×Int×LL×LI×LI×Int×Int×Int×LI×LL×Bool):=
 bif (!i) then
  (aD.f k a0 a1 a2 a3 a4 a5 a6 a7 a8 a9 dX cV a12 dU iD iE iF iG iH iI a20 a21 iJ iK a24 jh jq).bind fun r1=>
  some (r1.1,r1.2.1,(t2 r1).1,(t3 r1).1,(t4 r1).1,(t5 r1).1,(t6 r1).1,(t7 r1).1,(t8 r1).1,(t9 r1).1,(t9 r1.2).1,(t9 (t2 r1)).1,(t9 (t3 r1)).1,(t9 (t4 r1)).1,(t9 (t5 r1)).1,(t9 (t6 r1)).1,(t9 (t7 r1)).1,(t9 (t8 r1)).1,(t9 (t9 r1)).1,(t9 (t9 r1.2)).1,(t9 (t9 (t2 r1))).1,(t9 (t9 (t3 r1))).1,(t9 (t9 (t4 r1))).1,(t9 (t9 (t5 r1))).1,(t9 (t9 (t6 r1))).1,(t9 (t9 (t7 r1))).1,(t9 (t9 (t8 r1))),false)
 else
  (cc.f k a0 a1 a2 a3 a4 a5 a6 a7 a8 a9 dX cV a12 dU iD iE iF iG iH iI a20 a21 iJ iK a24 jh jq).bind fun r2=>
  bif (!r2) then
   (aD.f k a0 a1 a2 a3 a4 a5 a6 a7 a8 a9 dX cV a12 dU iD iE iF iG iH iI a20 a21 iJ iK a24 jh jq).bind fun r3=>
   some (r3.1,r3.2.1,(t2 r3).1,(t3 r3).1,(t4 r3).1,(t5 r3).1,(t6 r3).1,(t7 r3).1,(t8 r3).1,(t9 r3).1,(t9 r3.2).1,(t9 (t2 r3)).1,(t9 (t3 r3)).1,(t9 (t4 r3)).1,(t9 (t5 r3)).1,(t9 (t6 r3)).1,(t9 (t7 r3)).1,(t9 (t8 r3)).1,(t9 (t9 r3)).1,(t9 (t9 r3.2)).1,(t9 (t9 (t2 r3))).1,(t9 (t9 (t3 r3))).1,(t9 (t9 (t4 r3))).1,(t9 (t9 (t5 r3))).1,(t9 (t9 (t6 r3))).1,(t9 (t9 (t7 r3))).1,(t9 (t9 (t8 r3))),false)
  else
   (cc.f k g0 g1 g2 g3 g4 g5 g6 g7 g8 g9 g10 g11 g12 g13 g14 g15 g16 g17 g18 g19 g20 g21 g22 g23 g24 Kq Kr).bind fun r4=>
   bif (!r4) then
    (aD.f k a0 a1 a2 a3 a4 a5 a6 a7 a8 a9 dX cV a12 dU iD iE iF iG iH iI a20 a21 iJ iK a24 jh jq).bind fun r5=>
    some (r5.1,r5.2.1,(t2 r5).1,(t3 r5).1,(t4 r5).1,(t5 r5).1,(t6 r5).1,(t7 r5).1,(t8 r5).1,(t9 r5).1,(t9 r5.2).1,(t9 (t2 r5)).1,(t9 (t3 r5)).1,(t9 (t4 r5)).1,(t9 (t5 r5)).1,(t9 (t6 r5)).1,(t9 (t7 r5)).1,(t9 (t8 r5)).1,(t9 (t9 r5)).1,(t9 (t9 r5.2)).1,(t9 (t9 (t2 r5))).1,(t9 (t9 (t3 r5))).1,(t9 (t9 (t4 r5))).1,(t9 (t9 (t5 r5))).1,(t9 (t9 (t6 r5))).1,(t9 (t9 (t7 r5))).1,(t9 (t9 (t8 r5))),false)
   else
    some (g0,g1,g2,g3,g4,g5,g6,g7,g8,g9,g10,g11,g12,g13,g14,g15,g16,g17,g18,g19,g20,g21,g22,g23,g24,Kq,Kr,true)
def fL.f (k:Nat) (a0 a1:Int) (a2 a3:Bool) (a4 a5:LI) (a6 a7:Int) (a8:LI) (a9:Bool) (dX:LI) (cV a12:Int) (dU iD:Bool) (iE iF:LI) (iG iH:Int) (iI:LL) (a20 a21:LI) (iJ iK a24:Int) (jh:LI) (jq:LL) (g:ByteArray):Option (Int×Int×Bool×Bool×LI×LI×Int×Int×LI×Bool×LI×Int×Int×Bool×Bool×LI×LI×Int×Int×LL×LI×LI×Int×Int×Int×LI×LL×Bool):=
 (aD.f k a0 a1 a2 a3 a4 a5 a6 a7 a8 a9 dX cV a12 dU iD iE iF iG iH iI a20 a21 iJ iK a24 jh jq).bind fun r1=>
 (bg.f k g).bind fun r2=>
 bif (r2.1 != a0) then
  bif (t8 r2) then
   (au.f k a0 a1 a2 a3 a4 a5 a6 a7 a8 a9 dX cV a12 dU iD iE iF iG iH iI a20 a21 iJ iK a24 jh jq r2.1 r2.2.1 (t2 r2).1 (t3 r2).1 (t4 r2).1 (t5 r2).1 (t6 r2).1 (t7 r2).1 [] (t9 r1).1 (t9 r1.2).1 (t9 (t2 r1)).1 (t9 (t3 r1)).1 (t9 (t4 r1)).1 (t9 (t5 r1)).1 (t9 (t6 r1)).1 (t9 (t7 r1)).1 (t9 (t8 r1)).1 (t9 (t9 r1)).1 (t9 (t9 r1.2)).1 (t9 (t9 (t2 r1))).1 (t9 (t9 (t3 r1))).1 (t9 (t9 (t4 r1))).1 (t9 (t9 (t5 r1))).1 (t9 (t9 (t6 r1))).1 (t9 (t9 (t7 r1))).1 [] (!a9)).bind fun r3=>
   some r3
  else
   (au.f k a0 a1 a2 a3 a4 a5 a6 a7 a8 a9 dX cV a12 dU iD iE iF iG iH iI a20 a21 iJ iK a24 jh jq r2.1 r2.2.1 (t2 r2).1 (t3 r2).1 (t4 r2).1 (t5 r2).1 (t6 r2).1 (t7 r2).1 [] (t9 r1).1 (t9 r1.2).1 (t9 (t2 r1)).1 (t9 (t3 r1)).1 (t9 (t4 r1)).1 (t9 (t5 r1)).1 (t9 (t6 r1)).1 (t9 (t7 r1)).1 (t9 (t8 r1)).1 (t9 (t9 r1)).1 (t9 (t9 r1.2)).1 (t9 (t9 (t2 r1))).1 (t9 (t9 (t3 r1))).1 (t9 (t9 (t4 r1))).1 (t9 (t9 (t5 r1))).1 (t9 (t9 (t6 r1))).1 (t9 (t9 (t7 r1))).1 [] false).bind fun r4=>
   some r4
 else
  bif (t8 r2) then
   (au.f k a0 a1 a2 a3 a4 a5 a6 a7 a8 a9 dX cV a12 dU iD iE iF iG iH iI a20 a21 iJ iK a24 jh jq r2.1 r2.2.1 (t2 r2).1 (t3 r2).1 (t4 r2).1 (t5 r2).1 (t6 r2).1 (t7 r2).1 (t8 r1).1 (t9 r1).1 (t9 r1.2).1 (t9 (t2 r1)).1 (t9 (t3 r1)).1 (t9 (t4 r1)).1 (t9 (t5 r1)).1 (t9 (t6 r1)).1 (t9 (t7 r1)).1 (t9 (t8 r1)).1 (t9 (t9 r1)).1 (t9 (t9 r1.2)).1 (t9 (t9 (t2 r1))).1 (t9 (t9 (t3 r1))).1 (t9 (t9 (t4 r1))).1 (t9 (t9 (t5 r1))).1 (t9 (t9 (t6 r1))).1 (t9 (t9 (t7 r1))).1 (t9 (t9 (t8 r1))) (!a9)).bind fun r5=>
   some r5
  else
   (au.f k a0 a1 a2 a3 a4 a5 a6 a7 a8 a9 dX cV a12 dU iD iE iF iG iH iI a20 a21 iJ iK a24 jh jq r2.1 r2.2.1 (t2 r2).1 (t3 r2).1 (t4 r2).1 (t5 r2).1 (t6 r2).1 (t7 r2).1 (t8 r1).1 (t9 r1).1 (t9 r1.2).1 (t9 (t2 r1)).1 (t9 (t3 r1)).1 (t9 (t4 r1)).1 (t9 (t5 r1)).1 (t9 (t6 r1)).1 (t9 (t7 r1)).1 (t9 (t8 r1)).1 (t9 (t9 r1)).1 (t9 (t9 r1.2)).1 (t9 (t9 (t2 r1))).1 (t9 (t9 (t3 r1))).1 (t9 (t9 (t4 r1))).1 (t9 (t9 (t5 r1))).1 (t9 (t9 (t6 r1))).1 (t9 (t9 (t7 r1))).1 (t9 (t9 (t8 r1))) false).bind fun r6=>
   some r6
def tZ.f (k:Nat) (a:LI):Option (Bool):=
 some (decide ((a.length:Int)>1048576))
def bw.s3 {R:Type} (k:Nat) (v0:LI) (e0:Int->Option R) (rec:Int->Int->Option R) (v1 v2:Int):Option R:=
 bif decide (v2<(v0.length:Int)) then
  bif decide (v2<4000) then
   aC ((decide (0<=v2))&&(decide (v2<(v0.length:Int))))<|
   rec (sC .and .i64 (IntKind.wrap .i64 ((IntKind.wrap .i64 ((IntKind.wrap .i64 (v1*137))+(IntKind.wrap .i64 (v0.getD v2.toNat 0))))+11)) 1073741823) (IntKind.wrap .i64 (v2+1))
  else
   e0 v1
 else
  e0 v1
def bw.l3 {R:Type} (k:Nat) (v0:LI) (e0:Int->Option R) (n:Nat) (v1 v2:Int):Option R:=
 V.iter (A:=Int×Int) (fun rec a=>bw.s3 k v0 e0 (fun c0 c1=>rec (c0,c1)) a.1 a.2) n (v1,v2)
theorem bw.aE {R:Type} (k:Nat) (v0:LI) (e0:Int->Option R) (n:Nat) (v1 v2:Int):bw.l3 (R:=R) k v0 e0 (n+1) v1 v2=bw.s3 k v0 e0 (bw.l3 k v0 e0 n) v1 v2:=rfl
def bw.f (k:Nat) (a:LI):Option (LI×Int×Int):=
 bw.l3 k a (fun x1=>
  some (a,0,x1)) k (IntKind.wrap .i64 (193017+(a.length:Int))) 0
def eO.f (k:Nat) (a0:LI) (a1 a2:Int):Option (Int×LI×Int×Int):=
 bif decide (a1<(a0.length:Int)) then
  aC ((decide (0<=a1))&&(decide (a1<(a0.length:Int))))<|
  some (sC .and .i64 (IntKind.wrap .i64 ((sC .and .i64 (sC .xor .i64 ((IntKind.wrap .i64 ((IntKind.wrap .i64 (a2*6364136223846793005))+1442695040888963407)).fdiv (2^(min 33 (IntKind.bits .i64)))) ((IntKind.wrap .i64 ((IntKind.wrap .i64 (a2*6364136223846793005))+1442695040888963407)).fdiv (2^(min 47 (IntKind.bits .i64))))) 255)+(IntKind.wrap .i64 (a0.getD a1.toNat 0)))) 255,a0,IntKind.wrap .i64 (a1+1),IntKind.wrap .i64 ((IntKind.wrap .i64 (a2*6364136223846793005))+1442695040888963407))
 else
  some (sC .and .i64 (sC .xor .i64 ((IntKind.wrap .i64 ((IntKind.wrap .i64 (a2*6364136223846793005))+1442695040888963407)).fdiv (2^(min 33 (IntKind.bits .i64)))) ((IntKind.wrap .i64 ((IntKind.wrap .i64 (a2*6364136223846793005))+1442695040888963407)).fdiv (2^(min 47 (IntKind.bits .i64))))) 255,a0,a1,IntKind.wrap .i64 ((IntKind.wrap .i64 (a2*6364136223846793005))+1442695040888963407))
def ao.f (k:Nat) (a0:LI) (a1 a2 g:Int):Option (Int×LI×Int×Int):=
 bif decide (g<=0) then
  some (0,a0,a1,a2)
 else
  bif decide (g<=256) then
   (eO.f k a0 a1 a2).bind fun r1=>
   aC (!(decide (g=0)))<|
   some (r1.1.tmod g,r1.2)
  else
   (eO.f k a0 a1 a2).bind fun r2=>
   (eO.f k r2.2.1 (t2 r2).1 (t3 r2)).bind fun r3=>
   (eO.f k r3.2.1 (t2 r3).1 (t3 r3)).bind fun r4=>
   aC (!(decide (g=0)))<|
   some ((IntKind.wrap .i64 ((IntKind.wrap .i64 ((IntKind.wrap .i64 (r2.1*65536))+(IntKind.wrap .i64 (r3.1*256))))+r4.1)).tmod g,r4.2)
def dh.f (k:Nat) (a0 a1:Int) (a2 a3:Bool) (a4 a5:LI) (a6 a7:Int):Option (Int×Int×Bool×Bool×LI×LI×Int×Int):=
 aC (decide ((0+a4.length)*8<=room))<|
 aC (decide ((0+a5.length)*8<=room))<|
 some (a0,a1,a2,a3,[]++a4,[]++a5,a6,a7)
def aG.f (k:Nat) (a g i:Int):Option (Bool):=
 bif decide (a>=g) then
  some (decide (a<=i))
 else
  some false
def iO.f (k:Nat) (a:Int):Option (Bool):=
 (aG.f k a 100 103).bind fun r1=>
 bif r1 then
  some true
 else
  (aG.f k a 200 212).bind fun r2=>
  bif r2 then
   some true
  else
   (aG.f k a 300 312).bind fun r3=>
   bif r3 then
    some true
   else
    some (a==400)
def be.s3 {R:Type} (k:Nat) (v0:LI) (e0 e1:Int->Option R) (rec:Int->Int->Option R) (v1 v2:Int):Option R:=
 bif decide (v2<(v0.length:Int)) then
  aC ((decide (0<=v2))&&(decide (v2<(v0.length:Int))))<|
  (iO.f k (v0.getD v2.toNat 0)).bind fun r1=>
  bif r1 then
   rec (IntKind.wrap .i64 (v1+1)) (IntKind.wrap .i64 (v2+1))
  else
   aC ((decide (0<=v2))&&(decide (v2<(v0.length:Int))))<|
   bif ((v0.getD v2.toNat 0)==(-1)) then
    bif decide (v1>=1) then
     rec v1 (IntKind.wrap .i64 (v2+1))
    else
     aC ((decide (0<=v2))&&(decide (v2<(v0.length:Int))))<|
     bif ((v0.getD v2.toNat 0)==(-2)) then
      bif decide (v1>=2) then
       rec (IntKind.wrap .i64 (v1-1)) (IntKind.wrap .i64 (v2+1))
      else
       e0 v1
     else
      aC ((decide (0<=v2))&&(decide (v2<(v0.length:Int))))<|
      bif ((v0.getD v2.toNat 0)==(-3)) then
       bif decide (v1>=2) then
        rec (IntKind.wrap .i64 (v1-1)) (IntKind.wrap .i64 (v2+1))
       else
        e0 v1
      else
       e0 v1
   else
    aC ((decide (0<=v2))&&(decide (v2<(v0.length:Int))))<|
    bif ((v0.getD v2.toNat 0)==(-2)) then
     bif decide (v1>=2) then
      rec (IntKind.wrap .i64 (v1-1)) (IntKind.wrap .i64 (v2+1))
     else
      e0 v1
    else
     aC ((decide (0<=v2))&&(decide (v2<(v0.length:Int))))<|
     bif ((v0.getD v2.toNat 0)==(-3)) then
      bif decide (v1>=2) then
       rec (IntKind.wrap .i64 (v1-1)) (IntKind.wrap .i64 (v2+1))
      else
       e0 v1
     else
      e0 v1
 else
  e1 v1
def be.l3 {R:Type} (k:Nat) (v0:LI) (e0 e1:Int->Option R) (n:Nat) (v1 v2:Int):Option R:=
 V.iter (A:=Int×Int) (fun rec a=>be.s3 k v0 e0 e1 (fun c0 c1=>rec (c0,c1)) a.1 a.2) n (v1,v2)
theorem be.aE {R:Type} (k:Nat) (v0:LI) (e0 e1:Int->Option R) (n:Nat) (v1 v2:Int):be.l3 (R:=R) k v0 e0 e1 (n+1) v1 v2=be.s3 k v0 e0 e1 (be.l3 k v0 e0 e1 n) v1 v2:=rfl
def be.f (k:Nat) (a:LI):Option (Bool):=
 be.l3 k a (fun x2=>
  some false) (fun x3=>
  bif (x3==1) then
   some (decide ((a.length:Int)<=20))
  else
   some false) k 0 0
def dp.f (k:Nat) (a:LI):Option (Bool):=
 bif ((a.length:Int)==0) then
  some true
 else
  (be.f k a).bind fun r1=>
  some r1
def bV.f (k:Nat) (a0 a1:Int) (a2 a3:Bool) (a4 a5:LI) (a6 a7:Int):Option (Bool):=
 (aG.f k a0 2 6).bind fun r1=>
 bif r1 then
  (aG.f k a1 1 8).bind fun r2=>
  bif r2 then
   bif a2 then
    (dp.f k a4).bind fun r3=>
    bif r3 then
     (dp.f k a5).bind fun r4=>
     bif r4 then
      (aG.f k a6 1 4).bind fun r5=>
      bif r5 then
       (aG.f k a7 1 400).bind fun r6=>
       some r6
      else
       some false
     else
      some false
    else
     some false
   else
    bif a3 then
     (dp.f k a4).bind fun r7=>
     bif r7 then
      (dp.f k a5).bind fun r8=>
      bif r8 then
       (aG.f k a6 1 4).bind fun r9=>
       bif r9 then
        (aG.f k a7 1 400).bind fun fW=>
        some fW
       else
        some false
      else
       some false
     else
      some false
    else
     some false
  else
   some false
 else
  some false
def ed.f (k:Nat) (a0 a1:Int) (a2 a3:Bool) (a4 a5:LI) (a6 a7:Int):Option (Int×Int×Bool×Bool×LI×LI×Int×Int×LI×Bool×LI×Int×Int×Bool×Bool×LI×LI×Int×Int×LL×LI×LI×Int×Int×Int×LI×LL×Bool):=
 (bV.f k a0 a1 a2 a3 a4 a5 a6 a7).bind fun r1=>
 bif (!r1) then
  some (0,0,false,false,[],[],0,0,[],false,[],0,0,false,false,[],[],0,0,[],[],[],0,0,0,[],[],false)
 else
  (dh.f k a0 a1 a2 a3 a4 a5 a6 a7).bind fun r2=>
  some (r2.1,r2.2.1,(t2 r2).1,(t3 r2).1,(t4 r2).1,(t5 r2).1,(t6 r2).1,(t7 r2),[],false,[],0,0,false,false,[],[],0,0,[],[],[],0,0,0,[],[],true)
def aI.f (k:Nat) (a0:LI) (a1 a2 g:Int):Option (Bool×LI×Int×Int):=
 (ao.f k a0 a1 a2 g).bind fun r1=>
 some (r1.1==0,r1.2)
def cv.f (k:Nat) (a0:LI) (a1 a2:Int) (g:LI):Option (Int×LI×Int×Int):=
 (ao.f k a0 a1 a2 (g.length:Int)).bind fun r1=>
 aC ((decide (0<=r1.1))&&(decide (r1.1<(g.length:Int))))<|
 some (g.getD r1.1.toNat 0,r1.2)
def eI.f (k:Nat) (a0:LI) (a1 a2:Int):Option (Int×LI×Int×Int):=
 (ao.f k a0 a1 a2 4).bind fun r1=>
 (ao.f k r1.2.1 (t2 r1).1 (t3 r1) 13).bind fun r2=>
 (ao.f k r2.2.1 (t2 r2).1 (t3 r2) 13).bind fun r3=>
 (cv.f k r3.2.1 (t2 r3).1 (t3 r3) [IntKind.wrap .i64 (100+r1.1),IntKind.wrap .i64 (200+r2.1),IntKind.wrap .i64 (300+r3.1),400]).bind fun r4=>
 some r4
def aV.b (k:Nat) (self:LI->Int->Int->Int->Option (LI×LI×Int×Int)) (a0:LI) (a1 a2 g:Int):Option (LI×LI×Int×Int):=
 bif (g==0) then
  (eI.f k a0 a1 a2).bind fun r1=>
  some ([r1.1],r1.2)
 else
  (aI.f k a0 a1 a2 4).bind fun r2=>
  bif r2.1 then
   (eI.f k r2.2.1 (t2 r2).1 (t3 r2)).bind fun r3=>
   some ([r3.1],r3.2)
  else
   (aI.f k r2.2.1 (t2 r2).1 (t3 r2) 4).bind fun r4=>
   bif r4.1 then
    (self r4.2.1 (t2 r4).1 (t3 r4) (IntKind.wrap .i64 (g-1))).bind fun r5=>
    aC (decide ((r5.1.length+1)*8<=room))<|
    some (r5.1++[(-1)],r5.2)
   else
    (self r4.2.1 (t2 r4).1 (t3 r4) (IntKind.wrap .i64 (g-1))).bind fun r6=>
    (self r6.2.1 (t2 r6).1 (t3 r6) (IntKind.wrap .i64 (g-1))).bind fun r7=>
    aC (decide ((r6.1.length+r7.1.length)*8<=room))<|
    (ao.f k r7.2.1 (t2 r7).1 (t3 r7) 2).bind fun r8=>
    aC (decide ((((r6.1++r7.1).length)+1)*8<=room))<|
    some ((r6.1++r7.1)++[IntKind.wrap .i64 ((-2)-r8.1)],r8.2)
def aV.g (k:Nat):Nat->LI->Int->Int->Int->Option (LI×LI×Int×Int)
 |0=>fun _ _ _ _=>none
 |n+1=>aV.b k (aV.g k n)
def aV.f (k:Nat):LI->Int->Int->Int->Option (LI×LI×Int×Int):=aV.g k k
def di.f (k:Nat) (a0:LI) (a1 a2:Int):Option (Int×Int×Bool×Bool×LI×LI×Int×Int×LI×Int×Int):=
 (ao.f k a0 a1 a2 4).bind fun r1=>
 (ao.f k r1.2.1 (t2 r1).1 (t3 r1) 6).bind fun r2=>
 (aI.f k r2.2.1 (t2 r2).1 (t3 r2) 2).bind fun r3=>
 (ao.f k r3.2.1 (t2 r3).1 (t3 r3) 2).bind fun r4=>
 (ao.f k r4.2.1 (t2 r4).1 (t3 r4) 60).bind fun r5=>
 (aI.f k r5.2.1 (t2 r5).1 (t3 r5) 2).bind fun r6=>
 bif r6.1 then
  (aV.f k r6.2.1 (t2 r6).1 (t3 r6) 1).bind fun r7=>
  (aI.f k r7.2.1 (t2 r7).1 (t3 r7) 2).bind fun r8=>
  bif r8.1 then
   (aV.f k r8.2.1 (t2 r8).1 (t3 r8) 1).bind fun r9=>
   some (IntKind.wrap .i64 (2+r1.1),IntKind.wrap .i64 (1+r2.1),r3.1,true,r7.1,r9.1,IntKind.wrap .i64 (1+r4.1),IntKind.wrap .i64 (20+r5.1),r9.2)
  else
   some (IntKind.wrap .i64 (2+r1.1),IntKind.wrap .i64 (1+r2.1),r3.1,true,r7.1,[],IntKind.wrap .i64 (1+r4.1),IntKind.wrap .i64 (20+r5.1),r8.2)
 else
  (aI.f k r6.2.1 (t2 r6).1 (t3 r6) 2).bind fun fW=>
  bif fW.1 then
   (aV.f k fW.2.1 (t2 fW).1 (t3 fW) 1).bind fun gN=>
   some (IntKind.wrap .i64 (2+r1.1),IntKind.wrap .i64 (1+r2.1),r3.1,true,[],gN.1,IntKind.wrap .i64 (1+r4.1),IntKind.wrap .i64 (20+r5.1),gN.2)
  else
   some (IntKind.wrap .i64 (2+r1.1),IntKind.wrap .i64 (1+r2.1),r3.1,true,[],[],IntKind.wrap .i64 (1+r4.1),IntKind.wrap .i64 (20+r5.1),fW.2)
def cd.s3 {R:Type} (k:Nat) (v0:LL) (e0:LL->Option R) (rec:Int->LL->Option R) (v1:Int) (v2:LL):Option R:=
 bif decide (v1<(v0.length:Int)) then
  aC ((decide (0<=v1))&&(decide (v1<(v0.length:Int))))<|
  aC (decide ((0+((v0.getD v1.toNat []).length))*8<=room))<|
  aC (decide ((v2.length+1)*24<=room))<|
  rec (IntKind.wrap .i64 (v1+1)) (v2++([[]++(v0.getD v1.toNat [])]))
 else
  e0 v2
def cd.l3 {R:Type} (k:Nat) (v0:LL) (e0:LL->Option R) (n:Nat) (v1:Int) (v2:LL):Option R:=
 V.iter (A:=Int×LL) (fun rec a=>cd.s3 k v0 e0 (fun c0 c1=>rec (c0,c1)) a.1 a.2) n (v1,v2)
theorem cd.aE {R:Type} (k:Nat) (v0:LL) (e0:LL->Option R) (n:Nat) (v1:Int) (v2:LL):cd.l3 (R:=R) k v0 e0 (n+1) v1 v2=cd.s3 k v0 e0 (cd.l3 k v0 e0 n) v1 v2:=rfl
def cd.f (k:Nat) (a:LL):Option (LL):=
 cd.l3 k a (fun x1=>
  some x1) k 0 []
def dk.f (k:Nat) (a0 a1:Int) (a2 a3:Bool) (a4 a5:LI) (a6 a7:Int) (a8:LL) (a9 dX:LI) (cV a12 dU:Int):Option (Int×Int×Bool×Bool×LI×LI×Int×Int×LL×LI×LI×Int×Int×Int):=
 (dh.f k a0 a1 a2 a3 a4 a5 a6 a7).bind fun r1=>
 (cd.f k a8).bind fun r2=>
 aC (decide ((0+a9.length)*8<=room))<|
 aC (decide ((0+dX.length)*8<=room))<|
 some (r1.1,r1.2.1,(t2 r1).1,(t3 r1).1,(t4 r1).1,(t5 r1).1,(t6 r1).1,(t7 r1),r2,[]++a9,[]++dX,cV,a12,dU)
def bq.f (k:Nat) (a0 a1:Int) (a2 a3:Bool) (a4 a5:LI) (a6 a7:Int) (a8:LI) (a9:Bool) (dX:LI) (cV a12:Int) (dU iD:Bool) (iE iF:LI) (iG iH:Int) (iI:LL) (a20 a21:LI) (iJ iK a24:Int) (jh:LI) (jq:LL):Option (Int×Int×Bool×Bool×LI×LI×Int×Int×LI×Bool×LI×Int×Int×Bool×Bool×LI×LI×Int×Int×LL×LI×LI×Int×Int×Int×LI×LL):=
 (dh.f k a0 a1 a2 a3 a4 a5 a6 a7).bind fun r1=>
 aC (decide ((0+a8.length)*8<=room))<|
 aC (decide ((0+dX.length)*8<=room))<|
 (dk.f k cV a12 dU iD iE iF iG iH iI a20 a21 iJ iK a24).bind fun r2=>
 aC (decide ((0+jh.length)*8<=room))<|
 (cd.f k jq).bind fun r3=>
 some (r1.1,r1.2.1,(t2 r1).1,(t3 r1).1,(t4 r1).1,(t5 r1).1,(t6 r1).1,(t7 r1),[]++a8,a9,[]++dX,r2.1,r2.2.1,(t2 r2).1,(t3 r2).1,(t4 r2).1,(t5 r2).1,(t6 r2).1,(t7 r2).1,(t8 r2).1,(t9 r2).1,(t9 r2.2).1,(t9 (t2 r2)).1,(t9 (t3 r2)).1,(t9 (t4 r2)),[]++jh,r3)
def cI.s3 {R:Type} (k:Nat) (v1:LI) (e0 e1:Int->Option R) (rec:Int->Int->Option R) (v2 v3:Int):Option R:=
 bif decide (v3<(v1.length:Int)) then
  aC ((decide (0<=v3))&&(decide (v3<(v1.length:Int))))<|
  (aG.f k (v1.getD v3.toNat 0) (-1000) 1000).bind fun r1=>
  bif (!r1) then
   e0 v2
  else
   aC ((decide (0<=v3))&&(decide (v3<(v1.length:Int))))<|
   rec (IntKind.wrap .i64 (v2+(v1.getD v3.toNat 0))) (IntKind.wrap .i64 (v3+1))
 else
  e1 v2
def cI.l3 {R:Type} (k:Nat) (v1:LI) (e0 e1:Int->Option R) (n:Nat) (v2 v3:Int):Option R:=
 V.iter (A:=Int×Int) (fun rec a=>cI.s3 k v1 e0 e1 (fun c0 c1=>rec (c0,c1)) a.1 a.2) n (v2,v3)
theorem cI.aE {R:Type} (k:Nat) (v1:LI) (e0 e1:Int->Option R) (n:Nat) (v2 v3:Int):cI.l3 (R:=R) k v1 e0 e1 (n+1) v2 v3=cI.s3 k v1 e0 e1 (cI.l3 k v1 e0 e1 n) v2 v3:=rfl
def cI.f (k:Nat) (a:Int) (g:LI):Option (Bool):=
 cI.l3 k g (fun x2=>
  some false) (fun x3=>
  (aG.f k a 2 6).bind fun r4=>
  bif r4 then
   bif ((g.length:Int)==a) then
    some (x3==0)
   else
    some false
  else
   some false) k 0 0
def cJ.s2 {R:Type} (k:Nat) (v0:Int) (v1:LL) (e0 e1:Option R) (rec:Int->Option R) (v2:Int):Option R:=
 bif decide (v2<(v1.length:Int)) then
  aC ((decide (0<=v2))&&(decide (v2<(v1.length:Int))))<|
  (cI.f k v0 (v1.getD v2.toNat [])).bind fun r1=>
  bif (!r1) then
   e0
  else
   rec (IntKind.wrap .i64 (v2+1))
 else
  e1
def cJ.l2 {R:Type} (k:Nat) (v0:Int) (v1:LL) (e0 e1:Option R) (n:Nat) (v2:Int):Option R:=
 V.iter (A:=Int) (fun rec a=>cJ.s2 k v0 v1 e0 e1 (fun c0=>rec c0) a) n v2
theorem cJ.fS {R:Type} (k:Nat) (v0:Int) (v1:LL) (e0 e1:Option R) (n:Nat) (v2:Int):cJ.l2 (R:=R) k v0 v1 e0 e1 (n+1) v2=cJ.s2 k v0 v1 e0 e1 (cJ.l2 k v0 v1 e0 e1 n) v2:=rfl
def cJ.f (k:Nat) (a:Int) (g:LL):Option (Bool):=
 cJ.l2 k a g (some false) ((aG.f k a 2 6).bind fun r2=>
  bif r2 then
   some (decide ((g.length:Int)<=50))
  else
   some false) k 0
def aL.s4 {R:Type} (k:Nat) (v0 v1:LI) (e0 e1:Option R) (rec:Int->Option R) (v2:Int):Option R:=
 bif decide (v2<(v0.length:Int)) then
  aC ((decide (0<=v2))&&(decide (v2<(v0.length:Int))))<|
  aC ((decide (0<=v2))&&(decide (v2<(v1.length:Int))))<|
  bif ((v0.getD v2.toNat 0) != (v1.getD v2.toNat 0)) then
   e0
  else
   rec (IntKind.wrap .i64 (v2+1))
 else
  e1
def aL.l4 {R:Type} (k:Nat) (v0 v1:LI) (e0 e1:Option R) (n:Nat) (v2:Int):Option R:=
 V.iter (A:=Int) (fun rec a=>aL.s4 k v0 v1 e0 e1 (fun c0=>rec c0) a) n v2
theorem aL.gH {R:Type} (k:Nat) (v0 v1:LI) (e0 e1:Option R) (n:Nat) (v2:Int):aL.l4 (R:=R) k v0 v1 e0 e1 (n+1) v2=aL.s4 k v0 v1 e0 e1 (aL.l4 k v0 v1 e0 e1 n) v2:=rfl
def aL.f (k:Nat) (a g:LI):Option (Bool):=
 bif ((a.length:Int) != (g.length:Int)) then
  some false
 else
  aL.l4 k a g (some false) (some true) k 0
def ee.f (k:Nat) (a0 a1:Int) (a2 a3:Bool) (a4 a5:LI) (a6 a7 g0 g1:Int) (g2 g3:Bool) (g4 g5:LI) (g6 g7:Int):Option (Bool):=
 bif (a0==g0) then
  bif (a1==g1) then
   bif (a2==g2) then
    bif (a3==g3) then
     (aL.f k a4 g4).bind fun r1=>
     bif r1 then
      (aL.f k a5 g5).bind fun r2=>
      bif r2 then
       bif (a6==g6) then
        some (a7==g7)
       else
        some false
      else
       some false
     else
      some false
    else
     some false
   else
    some false
  else
   some false
 else
  some false
def aU.s4 {R:Type} (k:Nat) (v9 gL:LL) (e0 e1:Option R) (rec:Int->Option R) (v0:Int):Option R:=
 bif decide (v0<(v9.length:Int)) then
  aC ((decide (0<=v0))&&(decide (v0<(v9.length:Int))))<|
  aC ((decide (0<=v0))&&(decide (v0<(gL.length:Int))))<|
  (aL.f k (v9.getD v0.toNat []) (gL.getD v0.toNat [])).bind fun r1=>
  bif (!r1) then
   e0
  else
   rec (IntKind.wrap .i64 (v0+1))
 else
  e1
def aU.l4 {R:Type} (k:Nat) (v9 gL:LL) (e0 e1:Option R) (n:Nat) (v0:Int):Option R:=
 V.iter (A:=Int) (fun rec a=>aU.s4 k v9 gL e0 e1 (fun c0=>rec c0) a) n v0
theorem aU.gH {R:Type} (k:Nat) (v9 gL:LL) (e0 e1:Option R) (n:Nat) (v0:Int):aU.l4 (R:=R) k v9 gL e0 e1 (n+1) v0=aU.s4 k v9 gL e0 e1 (aU.l4 k v9 gL e0 e1 n) v0:=rfl
def aU.f (k:Nat) (a0 a1:Int) (a2 a3:Bool) (a4 a5:LI) (a6 a7:Int) (a8:LL) (a9 dX:LI) (cV a12 dU g0 g1:Int) (g2 g3:Bool) (g4 g5:LI) (g6 g7:Int) (g8:LL) (g9 g10:LI) (g11 g12 g13:Int):Option (Bool):=
 bif ((a8.length:Int) != (g8.length:Int)) then
  some false
 else
  aU.l4 k a8 g8 (some false) ((ee.f k a0 a1 a2 a3 a4 a5 a6 a7 g0 g1 g2 g3 g4 g5 g6 g7).bind fun r2=>
   bif r2 then
    (aL.f k a9 g9).bind fun r3=>
    bif r3 then
     (aL.f k dX g10).bind fun r4=>
     bif r4 then
      bif (cV==g11) then
       bif (a12==g12) then
        some (dU==g13)
       else
        some false
      else
       some false
     else
      some false
    else
     some false
   else
    some false) k 0
def bZ.f (k:Nat) (a:Int):Option (Bool):=
 (aG.f k a 0 51).bind fun r1=>
 some r1
def bC.s2 {R:Type} (k:Nat) (v0:LI) (v1:Int) (e0 e1:Option R) (rec:Int->Option R) (v2:Int):Option R:=
 bif decide (v2<(v0.length:Int)) then
  aC ((decide (0<=v2))&&(decide (v2<(v0.length:Int))))<|
  bif ((v0.getD v2.toNat 0)==v1) then
   e0
  else
   rec (IntKind.wrap .i64 (v2+1))
 else
  e1
def bC.l2 {R:Type} (k:Nat) (v0:LI) (v1:Int) (e0 e1:Option R) (n:Nat) (v2:Int):Option R:=
 V.iter (A:=Int) (fun rec a=>bC.s2 k v0 v1 e0 e1 (fun c0=>rec c0) a) n v2
theorem bC.fS {R:Type} (k:Nat) (v0:LI) (v1:Int) (e0 e1:Option R) (n:Nat) (v2:Int):bC.l2 (R:=R) k v0 v1 e0 e1 (n+1) v2=bC.s2 k v0 v1 e0 e1 (bC.l2 k v0 v1 e0 e1 n) v2:=rfl
def bC.f (k:Nat) (a:LI) (g:Int):Option (Bool):=
 bC.l2 k a g (some true) (some false) k 0
def bz.s2 {R:Type} (k:Nat) (v0:LI) (e0 e1:Option R) (rec:Int->Option R) (v1:Int):Option R:=
 bif decide (v1<(v0.length:Int)) then
  aC ((decide (0<=v1))&&(decide (v1<(v0.length:Int))))<|
  (bZ.f k (v0.getD v1.toNat 0)).bind fun r1=>
  bif (!r1) then
   e0
  else
   aC ((decide (0<=v1))&&(decide (v1<=(v0.length:Int))))<|
   aC ((decide (0<=v1))&&(decide (v1<(v0.length:Int))))<|
   (bC.f k (v0.take v1.toNat) (v0.getD v1.toNat 0)).bind fun r2=>
   bif r2 then
    e0
   else
    rec (IntKind.wrap .i64 (v1+1))
 else
  e1
def bz.l2 {R:Type} (k:Nat) (v0:LI) (e0 e1:Option R) (n:Nat) (v1:Int):Option R:=
 V.iter (A:=Int) (fun rec a=>bz.s2 k v0 e0 e1 (fun c0=>rec c0) a) n v1
theorem bz.fS {R:Type} (k:Nat) (v0:LI) (e0 e1:Option R) (n:Nat) (v1:Int):bz.l2 (R:=R) k v0 e0 e1 (n+1) v1=bz.s2 k v0 e0 e1 (bz.l2 k v0 e0 e1 n) v1:=rfl
def bz.f (k:Nat) (a:LI):Option (Bool):=
 bz.l2 k a (some false) (some true) k 0
def bu.s9 {R:Type} (k:Nat) (v0:LI) (v1 v2 v3:Int) (e0:LI->Option R) (rec:Int->LI->Option R) (v4:Int) (v6:LI):Option R:=
 bif decide (v4<v2) then
  aC ((decide (0<=(IntKind.wrap .i64 ((IntKind.wrap .i64 (v4*v1))+v3))))&&(decide ((IntKind.wrap .i64 ((IntKind.wrap .i64 (v4*v1))+v3))<(v0.length:Int))))<|
  aC (decide ((v6.length+1)*8<=room))<|
  rec (IntKind.wrap .i64 (v4+1)) (v6++[v0.getD ((IntKind.wrap .i64 ((IntKind.wrap .i64 (v4*v1))+v3)).toNat) 0])
 else
  e0 v6
def bu.l9 {R:Type} (k:Nat) (v0:LI) (v1 v2 v3:Int) (e0:LI->Option R) (n:Nat) (v4:Int) (v6:LI):Option R:=
 V.iter (A:=Int×LI) (fun rec a=>bu.s9 k v0 v1 v2 v3 e0 (fun c0 c1=>rec (c0,c1)) a.1 a.2) n (v4,v6)
theorem bu.Ij {R:Type} (k:Nat) (v0:LI) (v1 v2 v3:Int) (e0:LI->Option R) (n:Nat) (v4:Int) (v6:LI):bu.l9 (R:=R) k v0 v1 v2 v3 e0 (n+1) v4 v6=bu.s9 k v0 v1 v2 v3 e0 (bu.l9 k v0 v1 v2 v3 e0 n) v4 v6:=rfl
def bu.s5 {R:Type} (k:Nat) (v0:LI) (v1 v2:Int) (e0:LL->Option R) (rec:Int->LL->Option R) (v3:Int) (v4:LL):Option R:=
 bif decide (v3<v1) then
  bu.l9 k v0 v1 v2 v3 (fun x4=>
   aC (decide ((v4.length+1)*24<=room))<|
   rec (IntKind.wrap .i64 (v3+1)) (v4++[x4])) k 0 []
 else
  e0 v4
def bu.l5 {R:Type} (k:Nat) (v0:LI) (v1 v2:Int) (e0:LL->Option R) (n:Nat) (v3:Int) (v4:LL):Option R:=
 V.iter (A:=Int×LL) (fun rec a=>bu.s5 k v0 v1 v2 e0 (fun c0 c1=>rec (c0,c1)) a.1 a.2) n (v3,v4)
theorem bu.de {R:Type} (k:Nat) (v0:LI) (v1 v2:Int) (e0:LL->Option R) (n:Nat) (v3:Int) (v4:LL):bu.l5 (R:=R) k v0 v1 v2 e0 (n+1) v3 v4=bu.s5 k v0 v1 v2 e0 (bu.l5 k v0 v1 v2 e0 n) v3 v4:=rfl
def bu.f (k:Nat) (a:LI) (g i:Int):Option (LL×LI×Bool):=
 (bz.f k a).bind fun r1=>
 bif (!r1) then
  aC (decide ((0+a.length)*8<=room))<|
  some ([],[]++a,false)
 else
  (aG.f k g 1 6).bind fun r2=>
  bif (!r2) then
   aC (decide ((0+a.length)*8<=room))<|
   some ([],[]++a,false)
  else
   (aG.f k i 0 20).bind fun r3=>
   bif (!r3) then
    aC (decide ((0+a.length)*8<=room))<|
    some ([],[]++a,false)
   else
    bif decide ((IntKind.wrap .i64 (g*i))>(a.length:Int)) then
     aC (decide ((0+a.length)*8<=room))<|
     some ([],[]++a,false)
    else
     bu.l5 k a g i (fun x5=>
      aC ((decide (0<=(IntKind.wrap .i64 (g*i))))&&(decide ((IntKind.wrap .i64 (g*i))<=(a.length:Int))))<|
      aC (decide ((0+((a.drop ((IntKind.wrap .i64 (g*i)).toNat)).length))*8<=room))<|
      some (x5,[]++(a.drop ((IntKind.wrap .i64 (g*i)).toNat)),true)) k 0 []
def fC.f (k:Nat) (a0 a1:Int) (a2 a3:Bool) (a4 a5:LI) (a6 a7:Int) (g:LI):Option (Int×Int×Bool×Bool×LI×LI×Int×Int×LL×LI×LI×Int×Int×Int×Bool):=
 (bV.f k a0 a1 a2 a3 a4 a5 a6 a7).bind fun r1=>
 bif (!r1) then
  some (0,0,false,false,[],[],0,0,[],[],[],0,0,0,false)
 else
  (bz.f k g).bind fun r2=>
  bif (!r2) then
   some (0,0,false,false,[],[],0,0,[],[],[],0,0,0,false)
  else
   bif ((g.length:Int) != 52) then
    some (0,0,false,false,[],[],0,0,[],[],[],0,0,0,false)
   else
    (bu.f k g a0 a1).bind fun r3=>
    (dh.f k a0 a1 a2 a3 a4 a5 a6 a7).bind fun r4=>
    aC (decide (1<=(r3.2.1.length:Int)))<|
    aC (decide ((0+(((r3.2.1.take 1).drop 0).length))*8<=room))<|
    aC ((decide (0<=(r3.2.1.length:Int)))&&(decide ((r3.2.1.length:Int)<=(r3.2.1.length:Int))))<|
    aC (decide (1<=(r3.2.1.length:Int)))<|
    aC (decide ((0+(((r3.2.1.take ((r3.2.1.length:Int).toNat)).drop 1).length))*8<=room))<|
    some (r4.1,r4.2.1,(t2 r4).1,(t3 r4).1,(t4 r4).1,(t5 r4).1,(t6 r4).1,(t7 r4),r3.1,[]++((r3.2.1.take ((r3.2.1.length:Int).toNat)).drop 1),[]++((r3.2.1.take 1).drop 0),0,0,0,true)
def aW.s5 {R:Type} (k:Nat) (v9:LL) (e0:LI->Option R) (rec:Int->LI->Option R) (v0:Int) (eR:LI):Option R:=
 bif decide (v0<(v9.length:Int)) then
  aC ((decide (0<=v0))&&(decide (v0<(v9.length:Int))))<|
  aC (decide ((eR.length+((v9.getD v0.toNat []).length))*8<=room))<|
  rec (IntKind.wrap .i64 (v0+1)) (eR++(v9.getD v0.toNat []))
 else
  e0 eR
def aW.l5 {R:Type} (k:Nat) (v9:LL) (e0:LI->Option R) (n:Nat) (v0:Int) (eR:LI):Option R:=
 V.iter (A:=Int×LI) (fun rec a=>aW.s5 k v9 e0 (fun c0 c1=>rec (c0,c1)) a.1 a.2) n (v0,eR)
theorem aW.de {R:Type} (k:Nat) (v9:LL) (e0:LI->Option R) (n:Nat) (v0:Int) (eR:LI):aW.l5 (R:=R) k v9 e0 (n+1) v0 eR=aW.s5 k v9 e0 (aW.l5 k v9 e0 n) v0 eR:=rfl
def aW.f (k:Nat) (a0 a1:Int) (a2 a3:Bool) (a4 a5:LI) (a6 a7:Int) (a8:LL) (a9 dX:LI) (cV a12 dU:Int):Option (Bool):=
 (bV.f k a0 a1 a2 a3 a4 a5 a6 a7).bind fun r1=>
 bif (!r1) then
  some false
 else
  bif ((a8.length:Int) != a0) then
   some false
  else
   bif ((dX.length:Int)==0) then
    some false
   else
    (aG.f k cV 0 (IntKind.wrap .i64 (a0-1))).bind fun r2=>
    bif (!r2) then
     some false
    else
     (aG.f k a12 0 a7).bind fun r3=>
     bif (!r3) then
      some false
     else
      (aG.f k dU 0 a12).bind fun r4=>
      bif (!r4) then
       some false
      else
       aC (decide ((0+a9.length)*8<=room))<|
       aC (decide (((([]++a9).length)+dX.length)*8<=room))<|
       aW.l5 k a8 (fun x5=>
        bif ((x5.length:Int)==52) then
         (bz.f k x5).bind fun r6=>
         some r6
        else
         some false) k 0 (([]++a9)++dX)
def bK.s2 {R:Type} (k:Nat) (v9:LL) (e0:Int->Option R) (e1:Option R) (rec:Int->Option R) (v0:Int):Option R:=
 bif decide (v0<(v9.length:Int)) then
  aC ((decide (0<=v0))&&(decide (v0<(v9.length:Int))))<|
  bif (((v9.getD v0.toNat []).length:Int)==0) then
   e0 v0
  else
   rec (IntKind.wrap .i64 (v0+1))
 else
  e1
def bK.l2 {R:Type} (k:Nat) (v9:LL) (e0:Int->Option R) (e1:Option R) (n:Nat) (v0:Int):Option R:=
 V.iter (A:=Int) (fun rec a=>bK.s2 k v9 e0 e1 (fun c0=>rec c0) a) n v0
theorem bK.fS {R:Type} (k:Nat) (v9:LL) (e0:Int->Option R) (e1:Option R) (n:Nat) (v0:Int):bK.l2 (R:=R) k v9 e0 e1 (n+1) v0=bK.s2 k v9 e0 e1 (bK.l2 k v9 e0 e1 n) v0:=rfl
def bK.f (k:Nat) (a0 a1:Int) (a2 a3:Bool) (a4 a5:LI) (a6 a7:Int) (a8:LL) (a9 dX:LI) (cV a12 dU:Int):Option (Int):=
 bK.l2 k a8 (fun x1=>
  some x1) (some (-1)) k 0
def ek.f (k:Nat) (a0 a1:Int) (a2 a3:Bool) (a4 a5:LI) (a6 a7:Int) (a8:LL) (a9 dX:LI) (cV a12 dU:Int):Option (Bool):=
 (bK.f k a0 a1 a2 a3 a4 a5 a6 a7 a8 a9 dX cV a12 dU).bind fun r1=>
 bif decide (r1>=0) then
  some true
 else
  bif (a12==a7) then
   some true
  else
   some (decide (dU>=a0))
def bA.s6 {R:Type} (k:Nat) (v8 fu:Int) (e0:Int->LL->LI->LI->Option R) (rec:Int->Int->LL->LI->LI->Option R) (v0 v1:Int) (kR:LL) (v37 fA:LI):Option R:=
 bif decide (v1<v8) then
  bif ((v37.length:Int)==0) then
   aC ((decide (0<=(IntKind.wrap .i64 ((fA.length:Int)-1))))&&(decide ((IntKind.wrap .i64 ((fA.length:Int)-1))<=(fA.length:Int))))<|
   aC (decide (0<=(IntKind.wrap .i64 ((fA.length:Int)-1))))<|
   aC (decide ((0+(((fA.take ((IntKind.wrap .i64 ((fA.length:Int)-1)).toNat)).drop 0).length))*8<=room))<|
   aC ((decide (0<=(fA.length:Int)))&&(decide ((fA.length:Int)<=(fA.length:Int))))<|
   aC ((decide (0<=(IntKind.wrap .i64 ((fA.length:Int)-1))))&&(decide ((IntKind.wrap .i64 ((fA.length:Int)-1))<=(fA.length:Int))))<|
   aC (decide ((0+(((fA.take ((fA.length:Int).toNat)).drop ((IntKind.wrap .i64 ((fA.length:Int)-1)).toNat)).length))*8<=room))<|
   bif ((([]++((fA.take ((IntKind.wrap .i64 ((fA.length:Int)-1)).toNat)).drop 0)).length:Int)==0) then
    e0 v0 kR ([]++((fA.take ((IntKind.wrap .i64 ((fA.length:Int)-1)).toNat)).drop 0)) ([]++((fA.take ((fA.length:Int).toNat)).drop ((IntKind.wrap .i64 ((fA.length:Int)-1)).toNat)))
   else
    aC ((decide (0<=fu))&&(decide (fu<(kR.length:Int))))<|
    aC (decide (0<(([]++((fA.take ((IntKind.wrap .i64 ((fA.length:Int)-1)).toNat)).drop 0)).length:Int)))<|
    aC (decide ((((kR.getD fu.toNat []).length)+1)*8<=room))<|
    aC ((decide (0<=fu))&&(decide (fu<(kR.length:Int))))<|
    aC (fu.toNat==fu.toNat)<|
    aC ((decide (0<=(([]++((fA.take ((IntKind.wrap .i64 ((fA.length:Int)-1)).toNat)).drop 0)).length:Int)))&&(decide ((([]++((fA.take ((IntKind.wrap .i64 ((fA.length:Int)-1)).toNat)).drop 0)).length:Int)<=(([]++((fA.take ((IntKind.wrap .i64 ((fA.length:Int)-1)).toNat)).drop 0)).length:Int))))<|
    aC (decide (1<=(([]++((fA.take ((IntKind.wrap .i64 ((fA.length:Int)-1)).toNat)).drop 0)).length:Int)))<|
    aC (decide ((0+(((([]++((fA.take ((IntKind.wrap .i64 ((fA.length:Int)-1)).toNat)).drop 0)).take ((([]++((fA.take ((IntKind.wrap .i64 ((fA.length:Int)-1)).toNat)).drop 0)).length:Int).toNat)).drop 1).length))*8<=room))<|
    rec (IntKind.wrap .i64 (v0+1)) (IntKind.wrap .i64 (v1+1)) (kR.set fu.toNat ((kR.getD fu.toNat [])++([([]++((fA.take ((IntKind.wrap .i64 ((fA.length:Int)-1)).toNat)).drop 0)).getD 0 0]))) ([]++((([]++((fA.take ((IntKind.wrap .i64 ((fA.length:Int)-1)).toNat)).drop 0)).take ((([]++((fA.take ((IntKind.wrap .i64 ((fA.length:Int)-1)).toNat)).drop 0)).length:Int).toNat)).drop 1)) ([]++((fA.take ((fA.length:Int).toNat)).drop ((IntKind.wrap .i64 ((fA.length:Int)-1)).toNat)))
  else
   bif ((v37.length:Int)==0) then
    e0 v0 kR v37 fA
   else
    aC ((decide (0<=fu))&&(decide (fu<(kR.length:Int))))<|
    aC (decide (0<(v37.length:Int)))<|
    aC (decide ((((kR.getD fu.toNat []).length)+1)*8<=room))<|
    aC ((decide (0<=fu))&&(decide (fu<(kR.length:Int))))<|
    aC (fu.toNat==fu.toNat)<|
    aC ((decide (0<=(v37.length:Int)))&&(decide ((v37.length:Int)<=(v37.length:Int))))<|
    aC (decide (1<=(v37.length:Int)))<|
    aC (decide ((0+(((v37.take ((v37.length:Int).toNat)).drop 1).length))*8<=room))<|
    rec (IntKind.wrap .i64 (v0+1)) (IntKind.wrap .i64 (v1+1)) (kR.set fu.toNat ((kR.getD fu.toNat [])++[v37.getD 0 0])) ([]++((v37.take ((v37.length:Int).toNat)).drop 1)) fA
 else
  e0 v0 kR v37 fA
def bA.l6 {R:Type} (k:Nat) (v8 fu:Int) (e0:Int->LL->LI->LI->Option R) (n:Nat) (v0 v1:Int) (kR:LL) (v37 fA:LI):Option R:=
 V.iter (A:=Int×Int×LL×LI×LI) (fun rec a=>bA.s6 k v8 fu e0 (fun c0 c1 c2 c3 c4=>rec (c0,c1,c2,c3,c4)) a.1 a.2.1 (t2 a).1 (t3 a).1 (t4 a)) n (v0,v1,kR,v37,fA)
theorem bA.gO {R:Type} (k:Nat) (v8 fu:Int) (e0:Int->LL->LI->LI->Option R) (n:Nat) (v0 v1:Int) (kR:LL) (v37 fA:LI):bA.l6 (R:=R) k v8 fu e0 (n+1) v0 v1 kR v37 fA=bA.s6 k v8 fu e0 (bA.l6 k v8 fu e0 n) v0 v1 kR v37 fA:=rfl
def bA.f (k:Nat) (a0 a1:Int) (a2 a3:Bool) (a4 a5:LI) (a6 a7:Int) (a8:LL) (a9 dX:LI) (cV a12 dU:Int):Option (Int×Int×Bool×Bool×LI×LI×Int×Int×LL×LI×LI×Int×Int×Int×Bool):=
 (dk.f k a0 a1 a2 a3 a4 a5 a6 a7 a8 a9 dX cV a12 dU).bind fun r1=>
 (aW.f k a0 a1 a2 a3 a4 a5 a6 a7 a8 a9 dX cV a12 dU).bind fun r2=>
 bif (!r2) then
  some (r1.1,r1.2.1,(t2 r1).1,(t3 r1).1,(t4 r1).1,(t5 r1).1,(t6 r1).1,(t7 r1).1,(t8 r1).1,(t9 r1).1,(t9 r1.2).1,(t9 (t2 r1)).1,(t9 (t3 r1)).1,(t9 (t4 r1)),false)
 else
  (ek.f k a0 a1 a2 a3 a4 a5 a6 a7 a8 a9 dX cV a12 dU).bind fun r3=>
  bif r3 then
   some (r1.1,r1.2.1,(t2 r1).1,(t3 r1).1,(t4 r1).1,(t5 r1).1,(t6 r1).1,(t7 r1).1,(t8 r1).1,(t9 r1).1,(t9 r1.2).1,(t9 (t2 r1)).1,(t9 (t3 r1)).1,(t9 (t4 r1)),false)
  else
   bA.l6 k a6 cV (fun x4 x5 x6 x7=>
    bif (x4==0) then
     aC (!(decide (a0=0)))<|
     some (r1.1,r1.2.1,(t2 r1).1,(t3 r1).1,(t4 r1).1,(t5 r1).1,(t6 r1).1,(t7 r1).1,x5,x6,x7,(IntKind.wrap .i64 (cV+1)).tmod a0,IntKind.wrap .i64 (a12+1),IntKind.wrap .i64 (dU+1),true)
    else
     aC (!(decide (a0=0)))<|
     some (r1.1,r1.2.1,(t2 r1).1,(t3 r1).1,(t4 r1).1,(t5 r1).1,(t6 r1).1,(t7 r1).1,x5,x6,x7,(IntKind.wrap .i64 (cV+1)).tmod a0,IntKind.wrap .i64 (a12+1),0,true)) k 0 0 (t8 r1).1 (t9 r1).1 (t9 r1.2).1
def bj.s6 {R:Type} (k:Nat) (v0:LI) (v1:Int) (v3:LI) (e0 rec:Int->Option R) (v2:Int):Option R:=
 bif decide (v2>0) then
  aC ((decide (0<=(IntKind.wrap .i64 (v2-1))))&&(decide ((IntKind.wrap .i64 (v2-1))<(v3.length:Int))))<|
  aC ((decide (0<=v1))&&(decide (v1<(v0.length:Int))))<|
  bif decide ((v3.getD ((IntKind.wrap .i64 (v2-1)).toNat) 0)>(v0.getD v1.toNat 0)) then
   rec (IntKind.wrap .i64 (v2-1))
  else
   e0 v2
 else
  e0 v2
def bj.l6 {R:Type} (k:Nat) (v0:LI) (v1:Int) (v3:LI) (e0:Int->Option R) (n:Nat) (v2:Int):Option R:=
 V.iter (A:=Int) (fun rec a=>bj.s6 k v0 v1 v3 e0 (fun c0=>rec c0) a) n v2
theorem bj.gO {R:Type} (k:Nat) (v0:LI) (v1:Int) (v3:LI) (e0:Int->Option R) (n:Nat) (v2:Int):bj.l6 (R:=R) k v0 v1 v3 e0 (n+1) v2=bj.s6 k v0 v1 v3 e0 (bj.l6 k v0 v1 v3 e0 n) v2:=rfl
def bj.s3 {R:Type} (k:Nat) (v0:LI) (e0:LI->Option R) (rec:Int->LI->Option R) (v1:Int) (v2:LI):Option R:=
 bif decide (v1<(v0.length:Int)) then
  bj.l6 k v0 v1 v2 (fun x1=>
   aC ((decide (0<=x1))&&(decide (x1<=(v2.length:Int))))<|
   aC (decide (0<=x1))<|
   aC (decide ((0+(((v2.take x1.toNat).drop 0).length))*8<=room))<|
   aC ((decide (0<=v1))&&(decide (v1<(v0.length:Int))))<|
   aC (decide (((([]++((v2.take x1.toNat).drop 0)).length)+1)*8<=room))<|
   aC ((decide (0<=(v2.length:Int)))&&(decide ((v2.length:Int)<=(v2.length:Int))))<|
   aC ((decide (0<=x1))&&(decide (x1<=(v2.length:Int))))<|
   aC (decide ((((([]++((v2.take x1.toNat).drop 0))++[v0.getD v1.toNat 0]).length)+(((v2.take ((v2.length:Int).toNat)).drop x1.toNat).length))*8<=room))<|
   rec (IntKind.wrap .i64 (v1+1)) ((([]++((v2.take x1.toNat).drop 0))++[v0.getD v1.toNat 0])++((v2.take ((v2.length:Int).toNat)).drop x1.toNat))) k (v2.length:Int)
 else
  e0 v2
def bj.l3 {R:Type} (k:Nat) (v0:LI) (e0:LI->Option R) (n:Nat) (v1:Int) (v2:LI):Option R:=
 V.iter (A:=Int×LI) (fun rec a=>bj.s3 k v0 e0 (fun c0 c1=>rec (c0,c1)) a.1 a.2) n (v1,v2)
theorem bj.aE {R:Type} (k:Nat) (v0:LI) (e0:LI->Option R) (n:Nat) (v1:Int) (v2:LI):bj.l3 (R:=R) k v0 e0 (n+1) v1 v2=bj.s3 k v0 e0 (bj.l3 k v0 e0 n) v1 v2:=rfl
def bj.f (k:Nat) (a:LI):Option (LI):=
 bj.l3 k a (fun x2=>
  some x2) k 0 []
def eB.f (k:Nat) (a:Int):Option (Int):=
 (bZ.f k a).bind fun r1=>
 bif (!r1) then
  some (-1)
 else
  some (IntKind.wrap .i64 (a.tdiv 13))
def dA.f (k:Nat) (a:Int):Option (Int):=
 (bZ.f k a).bind fun r1=>
 bif (!r1) then
  some (-1)
 else
  some (a.tmod 13)
def ky.f (k:Nat) (a:Int):Option (Bool):=
 (eB.f k a).bind fun r1=>
 (aG.f k r1 1 2).bind fun r2=>
 some r2
def gP.f (k:Nat) (a g:Int):Option (Bool):=
 bif (a==400) then
  (ky.f k g).bind fun r1=>
  some r1
 else
  bif decide (a>=300) then
   (dA.f k g).bind fun r2=>
   some (decide (r2>=(IntKind.wrap .i64 (a-300))))
  else
   bif decide (a>=200) then
    (dA.f k g).bind fun r3=>
    some (r3==(IntKind.wrap .i64 (a-200)))
   else
    (eB.f k g).bind fun r4=>
    some (r4==(IntKind.wrap .i64 (a-100)))
def bD.s5 {R:Type} (k:Nat) (v0:LI) (v1:Int) (e0:List Bool->Option R) (rec:Int->List Bool->Option R) (v2:Int) (v3:List Bool):Option R:=
 bif decide (v2<(v0.length:Int)) then
  aC ((decide (0<=v2))&&(decide (v2<(v0.length:Int))))<|
  bif ((v0.getD v2.toNat 0)==(-1)) then
   aC ((decide (0<=(IntKind.wrap .i64 ((v3.length:Int)-1))))&&(decide ((IntKind.wrap .i64 ((v3.length:Int)-1))<(v3.length:Int))))<|
   aC ((decide (0<=(IntKind.wrap .i64 ((v3.length:Int)-1))))&&(decide ((IntKind.wrap .i64 ((v3.length:Int)-1))<(v3.length:Int))))<|
   rec (IntKind.wrap .i64 (v2+1)) (v3.set ((IntKind.wrap .i64 ((v3.length:Int)-1)).toNat) (!(v3.getD ((IntKind.wrap .i64 ((v3.length:Int)-1)).toNat) false)))
  else
   bif ((v0.getD v2.toNat 0)==(-2)) then
    aC ((decide (0<=(IntKind.wrap .i64 ((v3.length:Int)-2))))&&(decide ((IntKind.wrap .i64 ((v3.length:Int)-2))<=(v3.length:Int))))<|
    aC (decide (0<=(IntKind.wrap .i64 ((v3.length:Int)-2))))<|
    aC ((decide (0<=(IntKind.wrap .i64 ((v3.length:Int)-2))))&&(decide ((IntKind.wrap .i64 ((v3.length:Int)-2))<(v3.length:Int))))<|
    bif (v3.getD ((IntKind.wrap .i64 ((v3.length:Int)-2)).toNat) false) then
     aC ((decide (0<=(IntKind.wrap .i64 ((v3.length:Int)-1))))&&(decide ((IntKind.wrap .i64 ((v3.length:Int)-1))<(v3.length:Int))))<|
     aC (decide ((((v3.take ((IntKind.wrap .i64 ((v3.length:Int)-2)).toNat)).length)+1)*1<=room))<|
     rec (IntKind.wrap .i64 (v2+1)) ((v3.take ((IntKind.wrap .i64 ((v3.length:Int)-2)).toNat))++[v3.getD ((IntKind.wrap .i64 ((v3.length:Int)-1)).toNat) false])
    else
     aC (decide ((((v3.take ((IntKind.wrap .i64 ((v3.length:Int)-2)).toNat)).length)+1)*1<=room))<|
     rec (IntKind.wrap .i64 (v2+1)) ((v3.take ((IntKind.wrap .i64 ((v3.length:Int)-2)).toNat))++[false])
   else
    bif ((v0.getD v2.toNat 0)==(-3)) then
     aC ((decide (0<=(IntKind.wrap .i64 ((v3.length:Int)-2))))&&(decide ((IntKind.wrap .i64 ((v3.length:Int)-2))<=(v3.length:Int))))<|
     aC (decide (0<=(IntKind.wrap .i64 ((v3.length:Int)-2))))<|
     aC ((decide (0<=(IntKind.wrap .i64 ((v3.length:Int)-2))))&&(decide ((IntKind.wrap .i64 ((v3.length:Int)-2))<(v3.length:Int))))<|
     bif (v3.getD ((IntKind.wrap .i64 ((v3.length:Int)-2)).toNat) false) then
      aC (decide ((((v3.take ((IntKind.wrap .i64 ((v3.length:Int)-2)).toNat)).length)+1)*1<=room))<|
      rec (IntKind.wrap .i64 (v2+1)) ((v3.take ((IntKind.wrap .i64 ((v3.length:Int)-2)).toNat))++[true])
     else
      aC ((decide (0<=(IntKind.wrap .i64 ((v3.length:Int)-1))))&&(decide ((IntKind.wrap .i64 ((v3.length:Int)-1))<(v3.length:Int))))<|
      aC (decide ((((v3.take ((IntKind.wrap .i64 ((v3.length:Int)-2)).toNat)).length)+1)*1<=room))<|
      rec (IntKind.wrap .i64 (v2+1)) ((v3.take ((IntKind.wrap .i64 ((v3.length:Int)-2)).toNat))++[v3.getD ((IntKind.wrap .i64 ((v3.length:Int)-1)).toNat) false])
    else
     aC ((decide (0<=v2))&&(decide (v2<(v0.length:Int))))<|
     (gP.f k (v0.getD v2.toNat 0) v1).bind fun r3=>
     aC (decide ((v3.length+1)*1<=room))<|
     rec (IntKind.wrap .i64 (v2+1)) (v3++[r3])
 else
  e0 v3
def bD.l5 {R:Type} (k:Nat) (v0:LI) (v1:Int) (e0:List Bool->Option R) (n:Nat) (v2:Int) (v3:List Bool):Option R:=
 V.iter (A:=Int×List Bool) (fun rec a=>bD.s5 k v0 v1 e0 (fun c0 c1=>rec (c0,c1)) a.1 a.2) n (v2,v3)
theorem bD.de {R:Type} (k:Nat) (v0:LI) (v1:Int) (e0:List Bool->Option R) (n:Nat) (v2:Int) (v3:List Bool):bD.l5 (R:=R) k v0 v1 e0 (n+1) v2 v3=bD.s5 k v0 v1 e0 (bD.l5 k v0 v1 e0 n) v2 v3:=rfl
def bD.f (k:Nat) (a:LI) (g:Int):Option (Bool):=
 (be.f k a).bind fun r1=>
 bif (!r1) then
  some false
 else
  (bZ.f k g).bind fun r2=>
  bif (!r2) then
   some false
  else
   bD.l5 k a g (fun x4=>
    aC (decide (0<(x4.length:Int)))<|
    some (x4.getD 0 false)) k 0 []
def jt.f (k:Nat) (a0 a1:Int) (a2 a3:Bool) (a4 a5:LI) (a6 a7 g i:Int):Option (Bool):=
 (bV.f k a0 a1 a2 a3 a4 a5 a6 a7).bind fun r1=>
 bif (!r1) then
  some false
 else
  (bZ.f k g).bind fun r2=>
  bif (!r2) then
   some false
  else
   (bZ.f k i).bind fun r3=>
   bif (!r3) then
    some false
   else
    bif a2 then
     (eB.f k i).bind fun r4=>
     (eB.f k g).bind fun r5=>
     bif (r4==r5) then
      some true
     else
      bif a3 then
       (dA.f k i).bind fun r6=>
       (dA.f k g).bind fun r7=>
       bif (r6==r7) then
        some true
       else
        (bD.f k a4 i).bind fun r8=>
        some r8
      else
       (bD.f k a4 i).bind fun r9=>
       some r9
    else
     bif a3 then
      (dA.f k i).bind fun fW=>
      (dA.f k g).bind fun gN=>
      bif (fW==gN) then
       some true
      else
       (bD.f k a4 i).bind fun iS=>
       some iS
     else
      (bD.f k a4 i).bind fun ye=>
      some ye
def bp.s6 {R:Type} (k:Nat) (v1 v2:Int) (v3 v4:Bool) (v5 v6:LI) (v7 v8:Int) (v11 fc:LI) (e0:LI->Option R) (rec:Int->LI->Option R) (v0:Int) (eR:LI):Option R:=
 bif decide (v0<(fc.length:Int)) then
  aC ((decide (0<=(IntKind.wrap .i64 ((v11.length:Int)-1))))&&(decide ((IntKind.wrap .i64 ((v11.length:Int)-1))<(v11.length:Int))))<|
  aC ((decide (0<=v0))&&(decide (v0<(fc.length:Int))))<|
  (jt.f k v1 v2 v3 v4 v5 v6 v7 v8 (v11.getD ((IntKind.wrap .i64 ((v11.length:Int)-1)).toNat) 0) (fc.getD v0.toNat 0)).bind fun r4=>
  bif r4 then
   aC ((decide (0<=v0))&&(decide (v0<(fc.length:Int))))<|
   aC (decide ((eR.length+1)*8<=room))<|
   rec (IntKind.wrap .i64 (v0+1)) (eR++[fc.getD v0.toNat 0])
  else
   rec (IntKind.wrap .i64 (v0+1)) eR
 else
  e0 eR
def bp.l6 {R:Type} (k:Nat) (v1 v2:Int) (v3 v4:Bool) (v5 v6:LI) (v7 v8:Int) (v11 fc:LI) (e0:LI->Option R) (n:Nat) (v0:Int) (eR:LI):Option R:=
 V.iter (A:=Int×LI) (fun rec a=>bp.s6 k v1 v2 v3 v4 v5 v6 v7 v8 v11 fc e0 (fun c0 c1=>rec (c0,c1)) a.1 a.2) n (v0,eR)
theorem bp.gO {R:Type} (k:Nat) (v1 v2:Int) (v3 v4:Bool) (v5 v6:LI) (v7 v8:Int) (v11 fc:LI) (e0:LI->Option R) (n:Nat) (v0:Int) (eR:LI):bp.l6 (R:=R) k v1 v2 v3 v4 v5 v6 v7 v8 v11 fc e0 (n+1) v0 eR=bp.s6 k v1 v2 v3 v4 v5 v6 v7 v8 v11 fc e0 (bp.l6 k v1 v2 v3 v4 v5 v6 v7 v8 v11 fc e0 n) v0 eR:=rfl
def bp.f (k:Nat) (a0 a1:Int) (a2 a3:Bool) (a4 a5:LI) (a6 a7:Int) (a8:LL) (a9 dX:LI) (cV a12 dU:Int):Option (LI):=
 (aW.f k a0 a1 a2 a3 a4 a5 a6 a7 a8 a9 dX cV a12 dU).bind fun r1=>
 bif (!r1) then
  some ([])
 else
  (ek.f k a0 a1 a2 a3 a4 a5 a6 a7 a8 a9 dX cV a12 dU).bind fun r2=>
  bif r2 then
   some ([])
  else
   aC ((decide (0<=cV))&&(decide (cV<(a8.length:Int))))<|
   (bj.f k (a8.getD cV.toNat [])).bind fun r3=>
   bp.l6 k a0 a1 a2 a3 a4 a5 a6 a7 dX r3 (fun x5=>
    some x5) k 0 []
def cK.s3 {R:Type} (k:Nat) (v0:LI) (v1:Int) (e0:LI->Option R) (rec:Int->LI->Option R) (v2:Int) (v3:LI):Option R:=
 bif decide (v2<(v0.length:Int)) then
  aC ((decide (0<=v2))&&(decide (v2<(v0.length:Int))))<|
  bif ((v0.getD v2.toNat 0) != v1) then
   aC ((decide (0<=v2))&&(decide (v2<(v0.length:Int))))<|
   aC (decide ((v3.length+1)*8<=room))<|
   rec (IntKind.wrap .i64 (v2+1)) (v3++[v0.getD v2.toNat 0])
  else
   rec (IntKind.wrap .i64 (v2+1)) v3
 else
  e0 v3
def cK.l3 {R:Type} (k:Nat) (v0:LI) (v1:Int) (e0:LI->Option R) (n:Nat) (v2:Int) (v3:LI):Option R:=
 V.iter (A:=Int×LI) (fun rec a=>cK.s3 k v0 v1 e0 (fun c0 c1=>rec (c0,c1)) a.1 a.2) n (v2,v3)
theorem cK.aE {R:Type} (k:Nat) (v0:LI) (v1:Int) (e0:LI->Option R) (n:Nat) (v2:Int) (v3:LI):cK.l3 (R:=R) k v0 v1 e0 (n+1) v2 v3=cK.s3 k v0 v1 e0 (cK.l3 k v0 v1 e0 n) v2 v3:=rfl
def cK.f (k:Nat) (a:LI) (g:Int):Option (LI):=
 cK.l3 k a g (fun x1=>
  some x1) k 0 []
def hJ.f (k:Nat) (a0 a1:Int) (a2 a3:Bool) (a4 a5:LI) (a6 a7 g:Int):Option (Bool):=
 (bV.f k a0 a1 a2 a3 a4 a5 a6 a7).bind fun r1=>
 bif r1 then
  (bD.f k a5 g).bind fun r2=>
  some r2
 else
  some false
def ju.f (k:Nat) (a0 a1:Int) (a2 a3:Bool) (a4 a5:LI) (a6 a7:Int) (a8:LL) (a9 dX:LI) (cV a12 dU g:Int):Option (Int×Int×Bool×Bool×LI×LI×Int×Int×LL×LI×LI×Int×Int×Int×Bool):=
 (dk.f k a0 a1 a2 a3 a4 a5 a6 a7 a8 a9 dX cV a12 dU).bind fun r1=>
 (bp.f k a0 a1 a2 a3 a4 a5 a6 a7 a8 a9 dX cV a12 dU).bind fun r2=>
 (bC.f k r2 g).bind fun r3=>
 bif (!r3) then
  some (r1.1,r1.2.1,(t2 r1).1,(t3 r1).1,(t4 r1).1,(t5 r1).1,(t6 r1).1,(t7 r1).1,(t8 r1).1,(t9 r1).1,(t9 r1.2).1,(t9 (t2 r1)).1,(t9 (t3 r1)).1,(t9 (t4 r1)),false)
 else
  aC ((decide (0<=cV))&&(decide (cV<(a8.length:Int))))<|
  (cK.f k (a8.getD cV.toNat []) g).bind fun r4=>
  aC ((decide (0<=cV))&&(decide (cV<((t8 r1).1.length:Int))))<|
  aC (decide (((t9 r1.2).1.length+1)*8<=room))<|
  (hJ.f k a0 a1 a2 a3 a4 a5 a6 a7 g).bind fun r5=>
  bif r5 then
   aC (!(decide (a0=0)))<|
   some (r1.1,r1.2.1,(t2 r1).1,(t3 r1).1,(t4 r1).1,(t5 r1).1,(t6 r1).1,(t7 r1).1,(t8 r1).1.set cV.toNat r4,(t9 r1).1,(t9 r1.2).1++[g],(IntKind.wrap .i64 (cV+2)).tmod a0,IntKind.wrap .i64 (a12+1),0,true)
  else
   aC (!(decide (a0=0)))<|
   some (r1.1,r1.2.1,(t2 r1).1,(t3 r1).1,(t4 r1).1,(t5 r1).1,(t6 r1).1,(t7 r1).1,(t8 r1).1.set cV.toNat r4,(t9 r1).1,(t9 r1.2).1++[g],(IntKind.wrap .i64 (cV+1)).tmod a0,IntKind.wrap .i64 (a12+1),0,true)
def ef.f (k:Nat) (a0 a1:Int) (a2 a3:Bool) (a4 a5:LI) (a6 a7:Int) (a8:LL) (a9 dX:LI) (cV a12 dU g:Int):Option (Int×Int×Bool×Bool×LI×LI×Int×Int×LL×LI×LI×Int×Int×Int×Bool):=
 bif (g==(-1)) then
  (bA.f k a0 a1 a2 a3 a4 a5 a6 a7 a8 a9 dX cV a12 dU).bind fun r1=>
  some r1
 else
  (ju.f k a0 a1 a2 a3 a4 a5 a6 a7 a8 a9 dX cV a12 dU g).bind fun r2=>
  some r2
def bU.s3 {R:Type} (k:Nat) (v0:LI) (e0:Int->Int->Int->Bool->Bool->Int->Int->Int->Int->Int->LI->LI->LL->LI->LI->Option R) (e1:Int->Int->Bool->Bool->Int->Int->Int->Int->Int->LI->LI->LL->LI->LI->Option R) (rec:Int->Int->Int->Bool->Bool->Int->Int->Int->Int->Int->LI->LI->LL->LI->LI->Option R) (v1 v11 v12:Int) (fu fq:Bool) (eR fc gu kx jI:Int) (v20 v21:LI) (iL:LL) (gL v24:LI):Option R:=
 bif decide (v1<(v0.length:Int)) then
  aC ((decide (0<=v1))&&(decide (v1<(v0.length:Int))))<|
  (ef.f k v11 v12 fu fq v20 v21 eR fc iL gL v24 gu kx jI (v0.getD v1.toNat 0)).bind fun r2=>
  bif (!(t9 (t5 r2))) then
   e0 v1 v11 v12 fu fq eR fc gu kx jI v20 v21 iL gL v24
  else
   rec (IntKind.wrap .i64 (v1+1)) r2.1 r2.2.1 (t2 r2).1 (t3 r2).1 (t6 r2).1 (t7 r2).1 (t9 (t2 r2)).1 (t9 (t3 r2)).1 (t9 (t4 r2)).1 (t4 r2).1 (t5 r2).1 (t8 r2).1 (t9 r2).1 (t9 r2.2).1
 else
  e1 v11 v12 fu fq eR fc gu kx jI v20 v21 iL gL v24
def bU.l3 {R:Type} (k:Nat) (v0:LI) (e0:Int->Int->Int->Bool->Bool->Int->Int->Int->Int->Int->LI->LI->LL->LI->LI->Option R) (e1:Int->Int->Bool->Bool->Int->Int->Int->Int->Int->LI->LI->LL->LI->LI->Option R) (n:Nat) (v1 v11 v12:Int) (fu fq:Bool) (eR fc gu kx jI:Int) (v20 v21:LI) (iL:LL) (gL v24:LI):Option R:=
 V.iter (A:=Int×Int×Int×Bool×Bool×Int×Int×Int×Int×Int×LI×LI×LL×LI×LI) (fun rec a=>bU.s3 k v0 e0 e1 (fun c0 c1 c2 c3 c4 c5 c6 c7 c8 c9 Mt Mu c12 Mv Mw=>rec (c0,c1,c2,c3,c4,c5,c6,c7,c8,c9,Mt,Mu,c12,Mv,Mw)) a.1 a.2.1 (t2 a).1 (t3 a).1 (t4 a).1 (t5 a).1 (t6 a).1 (t7 a).1 (t8 a).1 (t9 a).1 (t9 a.2).1 (t9 (t2 a)).1 (t9 (t3 a)).1 (t9 (t4 a)).1 (t9 (t5 a))) n (v1,v11,v12,fu,fq,eR,fc,gu,kx,jI,v20,v21,iL,gL,v24)
theorem bU.aE {R:Type} (k:Nat) (v0:LI) (e0:Int->Int->Int->Bool->Bool->Int->Int->Int->Int->Int->LI->LI->LL->LI->LI->Option R) (e1:Int->Int->Bool->Bool->Int->Int->Int->Int->Int->LI->LI->LL->LI->LI->Option R) (n:Nat) (v1 v11 v12:Int) (fu fq:Bool) (eR fc gu kx jI:Int) (v20 v21:LI) (iL:LL) (gL v24:LI):bU.l3 (R:=R) k v0 e0 e1 (n+1) v1 v11 v12 fu fq eR fc gu kx jI v20 v21 iL gL v24=bU.s3 k v0 e0 e1 (bU.l3 k v0 e0 e1 n) v1 v11 v12 fu fq eR fc gu kx jI v20 v21 iL gL v24:=rfl
def bU.f (k:Nat) (a0 a1:Int) (a2 a3:Bool) (a4 a5:LI) (a6 a7:Int) (a8:LL) (a9 dX:LI) (cV a12 dU:Int) (g:LI):Option (Int×Int×Bool×Bool×LI×LI×Int×Int×LL×LI×LI×Int×Int×Int×Int):=
 (dk.f k a0 a1 a2 a3 a4 a5 a6 a7 a8 a9 dX cV a12 dU).bind fun r1=>
 bU.l3 k g (fun x3 x4 x5 x6 x7 x8 x9 FK FN Ig Ih Ii FO FQ FR=>
  some (x4,x5,x6,x7,Ih,Ii,x8,x9,FO,FQ,FR,FK,FN,Ig,x3)) (fun FU FV FW FX FY FZ F5 F6 F7 F8 F9 F_ Ga Gb=>
  some (FU,FV,FW,FX,F8,F9,FY,FZ,F_,Ga,Gb,F5,F6,F7,(g.length:Int))) k 0 r1.1 r1.2.1 (t2 r1).1 (t3 r1).1 (t6 r1).1 (t7 r1).1 (t9 (t2 r1)).1 (t9 (t3 r1)).1 (t9 (t4 r1)) (t4 r1).1 (t5 r1).1 (t8 r1).1 (t9 r1).1 (t9 r1.2).1
def fX.f (k:Nat) (a0 a1:Int) (a2 a3:Bool) (a4 a5:LI) (a6 a7:Int) (a8:LI) (a9:Bool) (dX:LI) (cV a12:Int) (dU iD:Bool) (iE iF:LI) (iG iH:Int) (iI:LL) (a20 a21:LI) (iJ iK a24:Int) (jh:LI) (jq:LL):Option (Bool):=
 (bV.f k a0 a1 a2 a3 a4 a5 a6 a7).bind fun r1=>
 bif (!r1) then
  some false
 else
  bif decide ((a8.length:Int)>a0) then
   some false
  else
   (cJ.f k a0 jq).bind fun r2=>
   bif (!r2) then
    some false
   else
    bif (!a9) then
     bif ((dX.length:Int)==0) then
      bif ((jh.length:Int)==0) then
       (aU.f k cV a12 dU iD iE iF iG iH iI a20 a21 iJ iK a24 0 0 false false [] [] 0 0 [] [] [] 0 0 0).bind fun r3=>
       some r3
      else
       some false
     else
      some false
    else
     (fC.f k a0 a1 a2 a3 a4 a5 a6 a7 dX).bind fun r4=>
     (bU.f k r4.1 r4.2.1 (t2 r4).1 (t3 r4).1 (t4 r4).1 (t5 r4).1 (t6 r4).1 (t7 r4).1 (t8 r4).1 (t9 r4).1 (t9 r4.2).1 (t9 (t2 r4)).1 (t9 (t3 r4)).1 (t9 (t4 r4)).1 jh).bind fun r5=>
     bif (t9 (t5 r4)) then
      bif ((a8.length:Int)==a0) then
       bif ((t9 (t5 r5))==(jh.length:Int)) then
        (aU.f k r5.1 r5.2.1 (t2 r5).1 (t3 r5).1 (t4 r5).1 (t5 r5).1 (t6 r5).1 (t7 r5).1 (t8 r5).1 (t9 r5).1 (t9 r5.2).1 (t9 (t2 r5)).1 (t9 (t3 r5)).1 (t9 (t4 r5)).1 cV a12 dU iD iE iF iG iH iI a20 a21 iJ iK a24).bind fun r6=>
        some r6
       else
        some false
      else
       some false
     else
      some false
def bW.f (k:Nat) (a0 a1:Int) (a2 a3:Bool) (a4 a5:LI) (a6 a7:Int) (a8:LI) (a9:Bool) (dX:LI) (cV a12:Int) (dU iD:Bool) (iE iF:LI) (iG iH:Int) (iI:LL) (a20 a21:LI) (iJ iK a24:Int) (jh:LI) (jq:LL) (g0 g1:Int) (g2 g3:Bool) (g4 g5:LI) (g6 g7:Int) (g8:LI) (g9:Bool) (g10:LI) (g11 g12:Int) (g13 g14:Bool) (g15 g16:LI) (g17 g18:Int) (g19:LL) (g20 g21:LI) (g22 g23 g24:Int) (Kq:LI) (Kr:LL) (i:Bool):Option (Int×Int×Bool×Bool×LI×LI×Int×Int×LI×Bool×LI×Int×Int×Bool×Bool×LI×LI×Int×Int×LL×LI×LI×Int×Int×Int×LI×LL×Bool):=
 bif (!i) then
  (bq.f k a0 a1 a2 a3 a4 a5 a6 a7 a8 a9 dX cV a12 dU iD iE iF iG iH iI a20 a21 iJ iK a24 jh jq).bind fun r1=>
  some (r1.1,r1.2.1,(t2 r1).1,(t3 r1).1,(t4 r1).1,(t5 r1).1,(t6 r1).1,(t7 r1).1,(t8 r1).1,(t9 r1).1,(t9 r1.2).1,(t9 (t2 r1)).1,(t9 (t3 r1)).1,(t9 (t4 r1)).1,(t9 (t5 r1)).1,(t9 (t6 r1)).1,(t9 (t7 r1)).1,(t9 (t8 r1)).1,(t9 (t9 r1)).1,(t9 (t9 r1.2)).1,(t9 (t9 (t2 r1))).1,(t9 (t9 (t3 r1))).1,(t9 (t9 (t4 r1))).1,(t9 (t9 (t5 r1))).1,(t9 (t9 (t6 r1))).1,(t9 (t9 (t7 r1))).1,(t9 (t9 (t8 r1))),false)
 else
  (fX.f k a0 a1 a2 a3 a4 a5 a6 a7 a8 a9 dX cV a12 dU iD iE iF iG iH iI a20 a21 iJ iK a24 jh jq).bind fun r2=>
  bif (!r2) then
   (bq.f k a0 a1 a2 a3 a4 a5 a6 a7 a8 a9 dX cV a12 dU iD iE iF iG iH iI a20 a21 iJ iK a24 jh jq).bind fun r3=>
   some (r3.1,r3.2.1,(t2 r3).1,(t3 r3).1,(t4 r3).1,(t5 r3).1,(t6 r3).1,(t7 r3).1,(t8 r3).1,(t9 r3).1,(t9 r3.2).1,(t9 (t2 r3)).1,(t9 (t3 r3)).1,(t9 (t4 r3)).1,(t9 (t5 r3)).1,(t9 (t6 r3)).1,(t9 (t7 r3)).1,(t9 (t8 r3)).1,(t9 (t9 r3)).1,(t9 (t9 r3.2)).1,(t9 (t9 (t2 r3))).1,(t9 (t9 (t3 r3))).1,(t9 (t9 (t4 r3))).1,(t9 (t9 (t5 r3))).1,(t9 (t9 (t6 r3))).1,(t9 (t9 (t7 r3))).1,(t9 (t9 (t8 r3))),false)
  else
   (fX.f k g0 g1 g2 g3 g4 g5 g6 g7 g8 g9 g10 g11 g12 g13 g14 g15 g16 g17 g18 g19 g20 g21 g22 g23 g24 Kq Kr).bind fun r4=>
   bif (!r4) then
    (bq.f k a0 a1 a2 a3 a4 a5 a6 a7 a8 a9 dX cV a12 dU iD iE iF iG iH iI a20 a21 iJ iK a24 jh jq).bind fun r5=>
    some (r5.1,r5.2.1,(t2 r5).1,(t3 r5).1,(t4 r5).1,(t5 r5).1,(t6 r5).1,(t7 r5).1,(t8 r5).1,(t9 r5).1,(t9 r5.2).1,(t9 (t2 r5)).1,(t9 (t3 r5)).1,(t9 (t4 r5)).1,(t9 (t5 r5)).1,(t9 (t6 r5)).1,(t9 (t7 r5)).1,(t9 (t8 r5)).1,(t9 (t9 r5)).1,(t9 (t9 r5.2)).1,(t9 (t9 (t2 r5))).1,(t9 (t9 (t3 r5))).1,(t9 (t9 (t4 r5))).1,(t9 (t9 (t5 r5))).1,(t9 (t9 (t6 r5))).1,(t9 (t9 (t7 r5))).1,(t9 (t9 (t8 r5))),false)
   else
    some (g0,g1,g2,g3,g4,g5,g6,g7,g8,g9,g10,g11,g12,g13,g14,g15,g16,g17,g18,g19,g20,g21,g22,g23,g24,Kq,Kr,true)
def cX.f (k:Nat) (a0 a1:Int) (a2 a3:Bool) (a4 a5:LI) (a6 a7:Int) (a8:LI) (a9:Bool) (dX:LI) (cV a12:Int) (dU iD:Bool) (iE iF:LI) (iG iH:Int) (iI:LL) (a20 a21:LI) (iJ iK a24:Int) (jh:LI) (jq:LL) (g:Int):Option (Int×Int×Bool×Bool×LI×LI×Int×Int×LI×Bool×LI×Int×Int×Bool×Bool×LI×LI×Int×Int×LL×LI×LI×Int×Int×Int×LI×LL×Bool):=
 (bq.f k a0 a1 a2 a3 a4 a5 a6 a7 a8 a9 dX cV a12 dU iD iE iF iG iH iI a20 a21 iJ iK a24 jh jq).bind fun r1=>
 aC (decide (((t8 r1).1.length+1)*8<=room))<|
 (bW.f k a0 a1 a2 a3 a4 a5 a6 a7 a8 a9 dX cV a12 dU iD iE iF iG iH iI a20 a21 iJ iK a24 jh jq r1.1 r1.2.1 (t2 r1).1 (t3 r1).1 (t4 r1).1 (t5 r1).1 (t6 r1).1 (t7 r1).1 ((t8 r1).1++[g]) (t9 r1).1 (t9 r1.2).1 (t9 (t2 r1)).1 (t9 (t3 r1)).1 (t9 (t4 r1)).1 (t9 (t5 r1)).1 (t9 (t6 r1)).1 (t9 (t7 r1)).1 (t9 (t8 r1)).1 (t9 (t9 r1)).1 (t9 (t9 r1.2)).1 (t9 (t9 (t2 r1))).1 (t9 (t9 (t3 r1))).1 (t9 (t9 (t4 r1))).1 (t9 (t9 (t5 r1))).1 (t9 (t9 (t6 r1))).1 (t9 (t9 (t7 r1))).1 (t9 (t9 (t8 r1))) (!a9)).bind fun r2=>
 some r2
def gw.f (k:Nat) (a g:Int):Option (Int):=
 (aG.f k g 1 1000000000000).bind fun r1=>
 bif (!r1) then
  some 0
 else
  aC (!(decide (g=0)))<|
  aC (!(decide (g=0)))<|
  some ((IntKind.wrap .i64 ((a.tmod g)+g)).tmod g)
def dK.s3 {R:Type} (k:Nat) (v0:LI) (e0:Int->Option R) (rec:Int->Int->Option R) (v1 v2:Int):Option R:=
 bif decide (v2<(v0.length:Int)) then
  aC ((decide (0<=v2))&&(decide (v2<(v0.length:Int))))<|
  (gw.f k (v0.getD v2.toNat 0) 2147483647).bind fun r1=>
  rec ((IntKind.wrap .i64 ((IntKind.wrap .i64 ((IntKind.wrap .i64 (v1*1000003))+r1))+13)).tmod 2147483647) (IntKind.wrap .i64 (v2+1))
 else
  e0 v1
def dK.l3 {R:Type} (k:Nat) (v0:LI) (e0:Int->Option R) (n:Nat) (v1 v2:Int):Option R:=
 V.iter (A:=Int×Int) (fun rec a=>dK.s3 k v0 e0 (fun c0 c1=>rec (c0,c1)) a.1 a.2) n (v1,v2)
theorem dK.aE {R:Type} (k:Nat) (v0:LI) (e0:Int->Option R) (n:Nat) (v1 v2:Int):dK.l3 (R:=R) k v0 e0 (n+1) v1 v2=dK.s3 k v0 e0 (dK.l3 k v0 e0 n) v1 v2:=rfl
def dK.f (k:Nat) (a:LI):Option (Int):=
 dK.l3 k a (fun x2=>
  some x2) k 11 0
def cu.f (k:Nat) (a g i:Int):Option (Int):=
 (dK.f k [a,g,i]).bind fun r1=>
 some r1
def iV.f (k:Nat) (a0 a1:Int) (a2 a3:Bool) (a4 a5:LI) (a6 a7:Int) (a8:LL) (a9 dX:LI) (cV a12 dU:Int):Option (Bool):=
 (aW.f k a0 a1 a2 a3 a4 a5 a6 a7 a8 a9 dX cV a12 dU).bind fun r1=>
 bif r1 then
  (ek.f k a0 a1 a2 a3 a4 a5 a6 a7 a8 a9 dX cV a12 dU).bind fun r2=>
  some r2
 else
  some false
def iW.f (k:Nat) (a:Int):Option (Int):=
 (dA.f k a).bind fun r1=>
 bif decide (r1<0) then
  some 0
 else
  bif decide (r1<=8) then
   some (IntKind.wrap .i64 (r1+2))
  else
   bif (r1==12) then
    some 1
   else
    some 10
def da.s3 {R:Type} (k:Nat) (v0:LI) (e0:Int->Option R) (rec:Int->Int->Option R) (v1 v2:Int):Option R:=
 bif decide (v2<(v0.length:Int)) then
  aC ((decide (0<=v2))&&(decide (v2<(v0.length:Int))))<|
  (iW.f k (v0.getD v2.toNat 0)).bind fun r1=>
  rec (IntKind.wrap .i64 (v1+r1)) (IntKind.wrap .i64 (v2+1))
 else
  e0 v1
def da.l3 {R:Type} (k:Nat) (v0:LI) (e0:Int->Option R) (n:Nat) (v1 v2:Int):Option R:=
 V.iter (A:=Int×Int) (fun rec a=>da.s3 k v0 e0 (fun c0 c1=>rec (c0,c1)) a.1 a.2) n (v1,v2)
theorem da.aE {R:Type} (k:Nat) (v0:LI) (e0:Int->Option R) (n:Nat) (v1 v2:Int):da.l3 (R:=R) k v0 e0 (n+1) v1 v2=da.s3 k v0 e0 (da.l3 k v0 e0 n) v1 v2:=rfl
def da.f (k:Nat) (a:LI):Option (Int):=
 da.l3 k a (fun x2=>
  some x2) k 0 0
def bG.s3 {R:Type} (k:Nat) (v9:LL) (e0:LI->Option R) (rec:Int->LI->Option R) (v0:Int) (eR:LI):Option R:=
 bif decide (v0<(v9.length:Int)) then
  aC ((decide (0<=v0))&&(decide (v0<(v9.length:Int))))<|
  (da.f k (v9.getD v0.toNat [])).bind fun r1=>
  aC (decide ((eR.length+1)*8<=room))<|
  rec (IntKind.wrap .i64 (v0+1)) (eR++[r1])
 else
  e0 eR
def bG.l3 {R:Type} (k:Nat) (v9:LL) (e0:LI->Option R) (n:Nat) (v0:Int) (eR:LI):Option R:=
 V.iter (A:=Int×LI) (fun rec a=>bG.s3 k v9 e0 (fun c0 c1=>rec (c0,c1)) a.1 a.2) n (v0,eR)
theorem bG.aE {R:Type} (k:Nat) (v9:LL) (e0:LI->Option R) (n:Nat) (v0:Int) (eR:LI):bG.l3 (R:=R) k v9 e0 (n+1) v0 eR=bG.s3 k v9 e0 (bG.l3 k v9 e0 n) v0 eR:=rfl
def bG.f (k:Nat) (a0 a1:Int) (a2 a3:Bool) (a4 a5:LI) (a6 a7:Int) (a8:LL) (a9 dX:LI) (cV a12 dU:Int):Option (LI):=
 bG.l3 k a8 (fun x2=>
  some x2) k 0 []
def jv.f (k:Nat) (a0 a1:Int) (a2 a3:Bool) (a4 a5:LI) (a6 a7:Int) (a8:LL) (a9 dX:LI) (cV a12 dU:Int):Option (Int):=
 (aW.f k a0 a1 a2 a3 a4 a5 a6 a7 a8 a9 dX cV a12 dU).bind fun r1=>
 bif (!r1) then
  some (-1)
 else
  (bK.f k a0 a1 a2 a3 a4 a5 a6 a7 a8 a9 dX cV a12 dU).bind fun r2=>
  some r2
def aK.U_ {R:Type} (k:Nat) (jI:LI) (e0:Int->Option R) (rec:Int->Int->Option R) (v2 v3:Int):Option R:=
 bif decide (v3<(jI.length:Int)) then
  aC ((decide (0<=v3))&&(decide (v3<(jI.length:Int))))<|
  rec (IntKind.wrap .i64 (v2+(jI.getD v3.toNat 0))) (IntKind.wrap .i64 (v3+1))
 else
  e0 v2
def aK.PZ {R:Type} (k:Nat) (jI:LI) (e0:Int->Option R) (n:Nat) (v2 v3:Int):Option R:=
 V.iter (A:=Int×Int) (fun rec a=>aK.U_ k jI e0 (fun c0 c1=>rec (c0,c1)) a.1 a.2) n (v2,v3)
theorem aK.DS {R:Type} (k:Nat) (jI:LI) (e0:Int->Option R) (n:Nat) (v2 v3:Int):aK.PZ (R:=R) k jI e0 (n+1) v2 v3=aK.U_ k jI e0 (aK.PZ k jI e0 n) v2 v3:=rfl
def aK.s5 {R:Type} (k:Nat) (v0 v2 v3:Int) (v4 v5:Bool) (v6 v7:LI) (v8 v9:Int) (v10:LL) (v11 v12:LI) (fu fq eR:Int) (gu:LI) (e0:LI->Option R) (rec:Int->LI->Option R) (v1:Int) (fc:LI):Option R:=
 bif decide (v1<(gu.length:Int)) then
  (aW.f k v2 v3 v4 v5 v6 v7 v8 v9 v10 v11 v12 fu fq eR).bind fun r3=>
  bif r3 then
   bif decide (v0<0) then
    aC (decide ((fc.length+1)*8<=room))<|
    rec (IntKind.wrap .i64 (v1+1)) (fc++[0])
   else
    bif (v1==v0) then
     aK.PZ k gu (fun x4=>
      aC (decide ((fc.length+1)*8<=room))<|
      rec (IntKind.wrap .i64 (v1+1)) (fc++[x4])) k 0 0
    else
     aC ((decide (0<=v1))&&(decide (v1<(gu.length:Int))))<|
     aC (decide ((fc.length+1)*8<=room))<|
     rec (IntKind.wrap .i64 (v1+1)) (fc++[IntKind.wrap .i64 (0-(gu.getD v1.toNat 0))])
  else
   e0 fc
 else
  e0 fc
def aK.l5 {R:Type} (k:Nat) (v0 v2 v3:Int) (v4 v5:Bool) (v6 v7:LI) (v8 v9:Int) (v10:LL) (v11 v12:LI) (fu fq eR:Int) (gu:LI) (e0:LI->Option R) (n:Nat) (v1:Int) (fc:LI):Option R:=
 V.iter (A:=Int×LI) (fun rec a=>aK.s5 k v0 v2 v3 v4 v5 v6 v7 v8 v9 v10 v11 v12 fu fq eR gu e0 (fun c0 c1=>rec (c0,c1)) a.1 a.2) n (v1,fc)
theorem aK.de {R:Type} (k:Nat) (v0 v2 v3:Int) (v4 v5:Bool) (v6 v7:LI) (v8 v9:Int) (v10:LL) (v11 v12:LI) (fu fq eR:Int) (gu:LI) (e0:LI->Option R) (n:Nat) (v1:Int) (fc:LI):aK.l5 (R:=R) k v0 v2 v3 v4 v5 v6 v7 v8 v9 v10 v11 v12 fu fq eR gu e0 (n+1) v1 fc=aK.s5 k v0 v2 v3 v4 v5 v6 v7 v8 v9 v10 v11 v12 fu fq eR gu e0 (aK.l5 k v0 v2 v3 v4 v5 v6 v7 v8 v9 v10 v11 v12 fu fq eR gu e0 n) v1 fc:=rfl
def aK.f (k:Nat) (a0 a1:Int) (a2 a3:Bool) (a4 a5:LI) (a6 a7:Int) (a8:LL) (a9 dX:LI) (cV a12 dU:Int):Option (LI):=
 (bG.f k a0 a1 a2 a3 a4 a5 a6 a7 a8 a9 dX cV a12 dU).bind fun r1=>
 (jv.f k a0 a1 a2 a3 a4 a5 a6 a7 a8 a9 dX cV a12 dU).bind fun r2=>
 aK.l5 k r2 a0 a1 a2 a3 a4 a5 a6 a7 a8 a9 dX cV a12 dU r1 (fun x5=>
  some x5) k 0 []
def eL.f (k:Nat) (a0 a1:Int) (a2 a3:Bool) (a4 a5:LI) (a6 a7:Int) (a8:LI) (a9:Bool) (dX:LI) (cV a12:Int) (dU iD:Bool) (iE iF:LI) (iG iH:Int) (iI:LL) (a20 a21:LI) (iJ iK a24:Int) (jh:LI) (jq:LL):Option (Int×Int×Bool×Bool×LI×LI×Int×Int×LI×Bool×LI×Int×Int×Bool×Bool×LI×LI×Int×Int×LL×LI×LI×Int×Int×Int×LI×LL×Bool):=
 (bq.f k a0 a1 a2 a3 a4 a5 a6 a7 a8 a9 dX cV a12 dU iD iE iF iG iH iI a20 a21 iJ iK a24 jh jq).bind fun r1=>
 bif (!a9) then
  some (r1.1,r1.2.1,(t2 r1).1,(t3 r1).1,(t4 r1).1,(t5 r1).1,(t6 r1).1,(t7 r1).1,(t8 r1).1,(t9 r1).1,(t9 r1.2).1,(t9 (t2 r1)).1,(t9 (t3 r1)).1,(t9 (t4 r1)).1,(t9 (t5 r1)).1,(t9 (t6 r1)).1,(t9 (t7 r1)).1,(t9 (t8 r1)).1,(t9 (t9 r1)).1,(t9 (t9 r1.2)).1,(t9 (t9 (t2 r1))).1,(t9 (t9 (t3 r1))).1,(t9 (t9 (t4 r1))).1,(t9 (t9 (t5 r1))).1,(t9 (t9 (t6 r1))).1,(t9 (t9 (t7 r1))).1,(t9 (t9 (t8 r1))),false)
 else
  (iV.f k cV a12 dU iD iE iF iG iH iI a20 a21 iJ iK a24).bind fun r2=>
  bif (!r2) then
   some (r1.1,r1.2.1,(t2 r1).1,(t3 r1).1,(t4 r1).1,(t5 r1).1,(t6 r1).1,(t7 r1).1,(t8 r1).1,(t9 r1).1,(t9 r1.2).1,(t9 (t2 r1)).1,(t9 (t3 r1)).1,(t9 (t4 r1)).1,(t9 (t5 r1)).1,(t9 (t6 r1)).1,(t9 (t7 r1)).1,(t9 (t8 r1)).1,(t9 (t9 r1)).1,(t9 (t9 r1.2)).1,(t9 (t9 (t2 r1))).1,(t9 (t9 (t3 r1))).1,(t9 (t9 (t4 r1))).1,(t9 (t9 (t5 r1))).1,(t9 (t9 (t6 r1))).1,(t9 (t9 (t7 r1))).1,(t9 (t9 (t8 r1))),false)
  else
   (aK.f k cV a12 dU iD iE iF iG iH iI a20 a21 iJ iK a24).bind fun r3=>
   aC (decide (((t9 (t9 (t8 r1))).length+1)*24<=room))<|
   (bW.f k a0 a1 a2 a3 a4 a5 a6 a7 a8 a9 dX cV a12 dU iD iE iF iG iH iI a20 a21 iJ iK a24 jh jq r1.1 r1.2.1 (t2 r1).1 (t3 r1).1 (t4 r1).1 (t5 r1).1 (t6 r1).1 (t7 r1).1 [] false [] 0 0 false false [] [] 0 0 [] [] [] 0 0 0 [] ((t9 (t9 (t8 r1)))++[r3]) true).bind fun r4=>
   some r4
def hO.f (k:Nat) (a g i j:Int):Option (Bool):=
 (aG.f k g 0 1000000).bind fun r1=>
 bif r1 then
  (aG.f k i 0 1000000).bind fun r2=>
  bif r2 then
   (cu.f k a g i).bind fun r3=>
   some (r3==j)
  else
   some false
 else
  some false
def bO.s4 {R:Type} (k:Nat) (v0 v1 v2:LI) (e0 e1:Option R) (rec:Int->Option R) (v3:Int):Option R:=
 bif decide (v3<(v0.length:Int)) then
  aC ((decide (0<=v3))&&(decide (v3<(v1.length:Int))))<|
  aC ((decide (0<=v3))&&(decide (v3<(v2.length:Int))))<|
  aC ((decide (0<=v3))&&(decide (v3<(v0.length:Int))))<|
  (hO.f k v3 (v1.getD v3.toNat 0) (v2.getD v3.toNat 0) (v0.getD v3.toNat 0)).bind fun r2=>
  bif (!r2) then
   e0
  else
   rec (IntKind.wrap .i64 (v3+1))
 else
  e1
def bO.l4 {R:Type} (k:Nat) (v0 v1 v2:LI) (e0 e1:Option R) (n:Nat) (v3:Int):Option R:=
 V.iter (A:=Int) (fun rec a=>bO.s4 k v0 v1 v2 e0 e1 (fun c0=>rec c0) a) n v3
theorem bO.gH {R:Type} (k:Nat) (v0 v1 v2:LI) (e0 e1:Option R) (n:Nat) (v3:Int):bO.l4 (R:=R) k v0 v1 v2 e0 e1 (n+1) v3=bO.s4 k v0 v1 v2 e0 e1 (bO.l4 k v0 v1 v2 e0 e1 n) v3:=rfl
def bO.f (k:Nat) (a g i:LI):Option (Bool):=
 (aG.f k (a.length:Int) 1 6).bind fun r1=>
 bif (!r1) then
  some false
 else
  bif ((g.length:Int) != (a.length:Int)) then
   some false
  else
   bif ((i.length:Int) != (a.length:Int)) then
    some false
   else
    bO.l4 k a g i (some false) (some true) k 0
def bL.s3 {R:Type} (k:Nat) (v0:Int) (e0:LI->Option R) (rec:Int->LI->Option R) (v1:Int) (v2:LI):Option R:=
 bif decide (v1>0) then
  (dK.f k [v0,v1]).bind fun r1=>
  (gw.f k r1 (IntKind.wrap .i64 (v1+1))).bind fun r2=>
  aC ((decide (0<=v1))&&(decide (v1<(v2.length:Int))))<|
  aC ((decide (0<=r2))&&(decide (r2<(v2.length:Int))))<|
  aC ((decide (0<=v1))&&(decide (v1<(v2.length:Int))))<|
  aC ((decide (0<=r2))&&(decide (r2<((v2.set v1.toNat (v2.getD r2.toNat 0)).length:Int))))<|
  rec (IntKind.wrap .i64 (v1-1)) ((v2.set v1.toNat (v2.getD r2.toNat 0)).set r2.toNat (v2.getD v1.toNat 0))
 else
  e0 v2
def bL.l3 {R:Type} (k:Nat) (v0:Int) (e0:LI->Option R) (n:Nat) (v1:Int) (v2:LI):Option R:=
 V.iter (A:=Int×LI) (fun rec a=>bL.s3 k v0 e0 (fun c0 c1=>rec (c0,c1)) a.1 a.2) n (v1,v2)
theorem bL.aE {R:Type} (k:Nat) (v0:Int) (e0:LI->Option R) (n:Nat) (v1:Int) (v2:LI):bL.l3 (R:=R) k v0 e0 (n+1) v1 v2=bL.s3 k v0 e0 (bL.l3 k v0 e0 n) v1 v2:=rfl
def bL.f (k:Nat) (a:LI) (g:Int):Option (LI):=
 aC (decide ((0+a.length)*8<=room))<|
 bL.l3 k g (fun x3=>
  some x3) k (IntKind.wrap .i64 ((([]++a).length:Int)-1)) ([]++a)
def cL.s3 {R:Type} (k:Nat) (v0:LI) (e0:LI->Option R) (rec:Int->LI->Option R) (v1:Int) (v2:LI):Option R:=
 bif decide (v1<52) then
  (bC.f k v0 v1).bind fun r1=>
  bif (!r1) then
   aC (decide ((v2.length+1)*8<=room))<|
   rec (IntKind.wrap .i64 (v1+1)) (v2++[v1])
  else
   rec (IntKind.wrap .i64 (v1+1)) v2
 else
  e0 v2
def cL.l3 {R:Type} (k:Nat) (v0:LI) (e0:LI->Option R) (n:Nat) (v1:Int) (v2:LI):Option R:=
 V.iter (A:=Int×LI) (fun rec a=>cL.s3 k v0 e0 (fun c0 c1=>rec (c0,c1)) a.1 a.2) n (v1,v2)
theorem cL.aE {R:Type} (k:Nat) (v0:LI) (e0:LI->Option R) (n:Nat) (v1:Int) (v2:LI):cL.l3 (R:=R) k v0 e0 (n+1) v1 v2=cL.s3 k v0 e0 (cL.l3 k v0 e0 n) v1 v2:=rfl
def cL.f (k:Nat) (a:LI):Option (LI):=
 cL.l3 k a (fun x2=>
  some x2) k 0 []
def hR.f (k:Nat):Option (LI):=
 (cL.f k []).bind fun r1=>
 some r1
def bP.s3 {R:Type} (k:Nat) (v0:LI) (e0:Int->Option R) (rec:Int->Int->Option R) (v1 v2:Int):Option R:=
 bif decide (v2<(v0.length:Int)) then
  aC ((decide (0<=v2))&&(decide (v2<(v0.length:Int))))<|
  (gw.f k (v0.getD v2.toNat 0) 1000001).bind fun r1=>
  rec ((IntKind.wrap .i64 (v1+r1)).tmod 1000001) (IntKind.wrap .i64 (v2+1))
 else
  e0 v1
def bP.l3 {R:Type} (k:Nat) (v0:LI) (e0:Int->Option R) (n:Nat) (v1 v2:Int):Option R:=
 V.iter (A:=Int×Int) (fun rec a=>bP.s3 k v0 e0 (fun c0 c1=>rec (c0,c1)) a.1 a.2) n (v1,v2)
theorem bP.aE {R:Type} (k:Nat) (v0:LI) (e0:Int->Option R) (n:Nat) (v1 v2:Int):bP.l3 (R:=R) k v0 e0 (n+1) v1 v2=bP.s3 k v0 e0 (bP.l3 k v0 e0 n) v1 v2:=rfl
def bP.f (k:Nat) (a:LI):Option (Int):=
 bP.l3 k a (fun x2=>
  some x2) k 0 0
def gx.f (k:Nat) (a g i:LI):Option (LI×Bool):=
 (bO.f k a g i).bind fun r1=>
 bif (!r1) then
  some ([],false)
 else
  (hR.f k).bind fun r2=>
  (bP.f k g).bind fun r3=>
  (bL.f k r2 r3).bind fun r4=>
  some (r4,true)
def h_.f (k:Nat) (a0 a1:Int) (a2 a3:Bool) (a4 a5:LI) (a6 a7:Int) (a8:LI) (a9:Bool) (dX:LI) (cV a12:Int) (dU iD:Bool) (iE iF:LI) (iG iH:Int) (iI:LL) (a20 a21:LI) (iJ iK a24:Int) (jh:LI) (jq:LL):Option (Bool):=
 bif ((a8.length:Int)==a0) then
  some (!a9)
 else
  some false
def ia.f (k:Nat) (a0 a1:Int) (a2 a3:Bool) (a4 a5:LI) (a6 a7:Int) (a8:LI) (a9:Bool) (dX:LI) (cV a12:Int) (dU iD:Bool) (iE iF:LI) (iG iH:Int) (iI:LL) (a20 a21:LI) (iJ iK a24:Int) (jh:LI) (jq:LL) (g i:LI):Option (Int×Int×Bool×Bool×LI×LI×Int×Int×LI×Bool×LI×Int×Int×Bool×Bool×LI×LI×Int×Int×LL×LI×LI×Int×Int×Int×LI×LL×Bool):=
 (bq.f k a0 a1 a2 a3 a4 a5 a6 a7 a8 a9 dX cV a12 dU iD iE iF iG iH iI a20 a21 iJ iK a24 jh jq).bind fun r1=>
 (gx.f k a8 g i).bind fun r2=>
 (fC.f k a0 a1 a2 a3 a4 a5 a6 a7 r2.1).bind fun r3=>
 bif r2.2 then
  bif (t9 (t5 r3)) then
   (h_.f k a0 a1 a2 a3 a4 a5 a6 a7 a8 a9 dX cV a12 dU iD iE iF iG iH iI a20 a21 iJ iK a24 jh jq).bind fun r4=>
   (bW.f k a0 a1 a2 a3 a4 a5 a6 a7 a8 a9 dX cV a12 dU iD iE iF iG iH iI a20 a21 iJ iK a24 jh jq r1.1 r1.2.1 (t2 r1).1 (t3 r1).1 (t4 r1).1 (t5 r1).1 (t6 r1).1 (t7 r1).1 (t8 r1).1 true r2.1 r3.1 r3.2.1 (t2 r3).1 (t3 r3).1 (t4 r3).1 (t5 r3).1 (t6 r3).1 (t7 r3).1 (t8 r3).1 (t9 r3).1 (t9 r3.2).1 (t9 (t2 r3)).1 (t9 (t3 r3)).1 (t9 (t4 r3)).1 (t9 (t9 (t7 r1))).1 (t9 (t9 (t8 r1))) r4).bind fun r5=>
   some r5
  else
   (bW.f k a0 a1 a2 a3 a4 a5 a6 a7 a8 a9 dX cV a12 dU iD iE iF iG iH iI a20 a21 iJ iK a24 jh jq r1.1 r1.2.1 (t2 r1).1 (t3 r1).1 (t4 r1).1 (t5 r1).1 (t6 r1).1 (t7 r1).1 (t8 r1).1 true r2.1 r3.1 r3.2.1 (t2 r3).1 (t3 r3).1 (t4 r3).1 (t5 r3).1 (t6 r3).1 (t7 r3).1 (t8 r3).1 (t9 r3).1 (t9 r3.2).1 (t9 (t2 r3)).1 (t9 (t3 r3)).1 (t9 (t4 r3)).1 (t9 (t9 (t7 r1))).1 (t9 (t9 (t8 r1))) false).bind fun r6=>
   some r6
 else
  (bW.f k a0 a1 a2 a3 a4 a5 a6 a7 a8 a9 dX cV a12 dU iD iE iF iG iH iI a20 a21 iJ iK a24 jh jq r1.1 r1.2.1 (t2 r1).1 (t3 r1).1 (t4 r1).1 (t5 r1).1 (t6 r1).1 (t7 r1).1 (t8 r1).1 true r2.1 r3.1 r3.2.1 (t2 r3).1 (t3 r3).1 (t4 r3).1 (t5 r3).1 (t6 r3).1 (t7 r3).1 (t8 r3).1 (t9 r3).1 (t9 r3.2).1 (t9 (t2 r3)).1 (t9 (t3 r3)).1 (t9 (t4 r3)).1 (t9 (t9 (t7 r1))).1 (t9 (t9 (t8 r1))) false).bind fun r7=>
  some r7
def bm.s4 {R:Type} (k:Nat) (v0:Int) (e0:Int->Int->Bool->Bool->LI->LI->Int->Int->LI->Bool->LI->Int->Int->Bool->Bool->LI->LI->Int->Int->LL->LI->LI->Int->Int->Int->LI->LL->LI->LI->Option R) (rec:Int->Int->Int->Bool->Bool->LI->LI->Int->Int->LI->Bool->LI->Int->Int->Bool->Bool->LI->LI->Int->Int->LL->LI->LI->Int->Int->Int->LI->LL->LI->LI->Option R) (v1 v2 v3:Int) (v4 v5:Bool) (v6 v7:LI) (v8 v9:Int) (v10:LI) (v11:Bool) (v12:LI) (fu fq:Int) (eR fc:Bool) (gu kx:LI) (jI v20:Int) (v21:LL) (iL gL:LI) (v24 jY jZ:Int) (lM:LI) (v28:LL) (oe v46:LI):Option R:=
 bif decide (v1<v2) then
  (cu.f k v1 (IntKind.wrap .i64 (v0+v1)) 5).bind fun r1=>
  (cX.f k v2 v3 v4 v5 v6 v7 v8 v9 v10 v11 v12 fu fq eR fc gu kx jI v20 v21 iL gL v24 jY jZ lM v28 r1).bind fun r2=>
  aC (decide ((oe.length+1)*8<=room))<|
  aC (decide ((v46.length+1)*8<=room))<|
  rec (IntKind.wrap .i64 (v1+1)) r2.1 r2.2.1 (t2 r2).1 (t3 r2).1 (t4 r2).1 (t5 r2).1 (t6 r2).1 (t7 r2).1 (t8 r2).1 (t9 r2).1 (t9 r2.2).1 (t9 (t2 r2)).1 (t9 (t3 r2)).1 (t9 (t4 r2)).1 (t9 (t5 r2)).1 (t9 (t6 r2)).1 (t9 (t7 r2)).1 (t9 (t8 r2)).1 (t9 (t9 r2)).1 (t9 (t9 r2.2)).1 (t9 (t9 (t2 r2))).1 (t9 (t9 (t3 r2))).1 (t9 (t9 (t4 r2))).1 (t9 (t9 (t5 r2))).1 (t9 (t9 (t6 r2))).1 (t9 (t9 (t7 r2))).1 (t9 (t9 (t8 r2))).1 (oe++[IntKind.wrap .i64 (v0+v1)]) (v46++[5])
 else
  e0 v2 v3 v4 v5 v6 v7 v8 v9 v10 v11 v12 fu fq eR fc gu kx jI v20 v21 iL gL v24 jY jZ lM v28 oe v46
def bm.l4 {R:Type} (k:Nat) (v0:Int) (e0:Int->Int->Bool->Bool->LI->LI->Int->Int->LI->Bool->LI->Int->Int->Bool->Bool->LI->LI->Int->Int->LL->LI->LI->Int->Int->Int->LI->LL->LI->LI->Option R) (n:Nat) (v1 v2 v3:Int) (v4 v5:Bool) (v6 v7:LI) (v8 v9:Int) (v10:LI) (v11:Bool) (v12:LI) (fu fq:Int) (eR fc:Bool) (gu kx:LI) (jI v20:Int) (v21:LL) (iL gL:LI) (v24 jY jZ:Int) (lM:LI) (v28:LL) (oe v46:LI):Option R:=
 V.iter (A:=Int×Int×Int×Bool×Bool×LI×LI×Int×Int×LI×Bool×LI×Int×Int×Bool×Bool×LI×LI×Int×Int×LL×LI×LI×Int×Int×Int×LI×LL×LI×LI) (fun rec a=>bm.s4 k v0 e0 (fun c0 c1 c2 c3 c4 c5 c6 c7 c8 c9 Mt Mu c12 Mv Mw Qt Qu Mx Qv Qw c20 c21 Qx Qy c24 Qz QA QB c28 QC=>rec (c0,c1,c2,c3,c4,c5,c6,c7,c8,c9,Mt,Mu,c12,Mv,Mw,Qt,Qu,Mx,Qv,Qw,c20,c21,Qx,Qy,c24,Qz,QA,QB,c28,QC)) a.1 a.2.1 (t2 a).1 (t3 a).1 (t4 a).1 (t5 a).1 (t6 a).1 (t7 a).1 (t8 a).1 (t9 a).1 (t9 a.2).1 (t9 (t2 a)).1 (t9 (t3 a)).1 (t9 (t4 a)).1 (t9 (t5 a)).1 (t9 (t6 a)).1 (t9 (t7 a)).1 (t9 (t8 a)).1 (t9 (t9 a)).1 (t9 (t9 a.2)).1 (t9 (t9 (t2 a))).1 (t9 (t9 (t3 a))).1 (t9 (t9 (t4 a))).1 (t9 (t9 (t5 a))).1 (t9 (t9 (t6 a))).1 (t9 (t9 (t7 a))).1 (t9 (t9 (t8 a))).1 (t9 (t9 (t9 a))).1 (t9 (t9 (t9 a.2))).1 (t9 (t9 (t9 (t2 a))))) n (v1,v2,v3,v4,v5,v6,v7,v8,v9,v10,v11,v12,fu,fq,eR,fc,gu,kx,jI,v20,v21,iL,gL,v24,jY,jZ,lM,v28,oe,v46)
theorem bm.gH {R:Type} (k:Nat) (v0:Int) (e0:Int->Int->Bool->Bool->LI->LI->Int->Int->LI->Bool->LI->Int->Int->Bool->Bool->LI->LI->Int->Int->LL->LI->LI->Int->Int->Int->LI->LL->LI->LI->Option R) (n:Nat) (v1 v2 v3:Int) (v4 v5:Bool) (v6 v7:LI) (v8 v9:Int) (v10:LI) (v11:Bool) (v12:LI) (fu fq:Int) (eR fc:Bool) (gu kx:LI) (jI v20:Int) (v21:LL) (iL gL:LI) (v24 jY jZ:Int) (lM:LI) (v28:LL) (oe v46:LI):bm.l4 (R:=R) k v0 e0 (n+1) v1 v2 v3 v4 v5 v6 v7 v8 v9 v10 v11 v12 fu fq eR fc gu kx jI v20 v21 iL gL v24 jY jZ lM v28 oe v46=bm.s4 k v0 e0 (bm.l4 k v0 e0 n) v1 v2 v3 v4 v5 v6 v7 v8 v9 v10 v11 v12 fu fq eR fc gu kx jI v20 v21 iL gL v24 jY jZ lM v28 oe v46:=rfl
def bm.f (k:Nat) (a0 a1:Int) (a2 a3:Bool) (a4 a5:LI) (a6 a7:Int) (a8:LI) (a9:Bool) (dX:LI) (cV a12:Int) (dU iD:Bool) (iE iF:LI) (iG iH:Int) (iI:LL) (a20 a21:LI) (iJ iK a24:Int) (jh:LI) (jq:LL) (g:Int):Option (Int×Int×Bool×Bool×LI×LI×Int×Int×LI×Bool×LI×Int×Int×Bool×Bool×LI×LI×Int×Int×LL×LI×LI×Int×Int×Int×LI×LL):=
 bm.l4 k g (fun x3 x4 x5 x6 x7 x8 x9 FK FN Ig Ih Ii FO FQ FR FU FV FW FX FY FZ F5 F6 F7 F8 F9 F_ Ga Gb=>
  (ia.f k x3 x4 x5 x6 x7 x8 x9 FK FN Ig Ih Ii FO FQ FR FU FV FW FX FY FZ F5 F6 F7 F8 F9 F_ Ga Gb).bind fun vt=>
  some (vt.1,vt.2.1,(t2 vt).1,(t3 vt).1,(t4 vt).1,(t5 vt).1,(t6 vt).1,(t7 vt).1,(t8 vt).1,(t9 vt).1,(t9 vt.2).1,(t9 (t2 vt)).1,(t9 (t3 vt)).1,(t9 (t4 vt)).1,(t9 (t5 vt)).1,(t9 (t6 vt)).1,(t9 (t7 vt)).1,(t9 (t8 vt)).1,(t9 (t9 vt)).1,(t9 (t9 vt.2)).1,(t9 (t9 (t2 vt))).1,(t9 (t9 (t3 vt))).1,(t9 (t9 (t4 vt))).1,(t9 (t9 (t5 vt))).1,(t9 (t9 (t6 vt))).1,(t9 (t9 (t7 vt))).1,(t9 (t9 (t8 vt))).1)) k 0 a0 a1 a2 a3 a4 a5 a6 a7 a8 a9 dX cV a12 dU iD iE iF iG iH iI a20 a21 iJ iK a24 jh jq [] []
def fD.f (k:Nat) (a0 a1:Int) (a2 a3:Bool) (a4 a5:LI) (a6 a7:Int) (a8:LI) (a9:Bool) (dX:LI) (cV a12:Int) (dU iD:Bool) (iE iF:LI) (iG iH:Int) (iI:LL) (a20 a21:LI) (iJ iK a24:Int) (jh:LI) (jq:LL) (g:Int):Option (Int×Int×Bool×Bool×LI×LI×Int×Int×LI×Bool×LI×Int×Int×Bool×Bool×LI×LI×Int×Int×LL×LI×LI×Int×Int×Int×LI×LL×Bool):=
 (bq.f k a0 a1 a2 a3 a4 a5 a6 a7 a8 a9 dX cV a12 dU iD iE iF iG iH iI a20 a21 iJ iK a24 jh jq).bind fun r1=>
 (ef.f k cV a12 dU iD iE iF iG iH iI a20 a21 iJ iK a24 g).bind fun r2=>
 aC (decide (((t9 (t9 (t7 r1))).1.length+1)*8<=room))<|
 bif (t9 (t5 r2)) then
  (bW.f k a0 a1 a2 a3 a4 a5 a6 a7 a8 a9 dX cV a12 dU iD iE iF iG iH iI a20 a21 iJ iK a24 jh jq r1.1 r1.2.1 (t2 r1).1 (t3 r1).1 (t4 r1).1 (t5 r1).1 (t6 r1).1 (t7 r1).1 (t8 r1).1 (t9 r1).1 (t9 r1.2).1 r2.1 r2.2.1 (t2 r2).1 (t3 r2).1 (t4 r2).1 (t5 r2).1 (t6 r2).1 (t7 r2).1 (t8 r2).1 (t9 r2).1 (t9 r2.2).1 (t9 (t2 r2)).1 (t9 (t3 r2)).1 (t9 (t4 r2)).1 ((t9 (t9 (t7 r1))).1++[g]) (t9 (t9 (t8 r1))) a9).bind fun r3=>
  some r3
 else
  (bW.f k a0 a1 a2 a3 a4 a5 a6 a7 a8 a9 dX cV a12 dU iD iE iF iG iH iI a20 a21 iJ iK a24 jh jq r1.1 r1.2.1 (t2 r1).1 (t3 r1).1 (t4 r1).1 (t5 r1).1 (t6 r1).1 (t7 r1).1 (t8 r1).1 (t9 r1).1 (t9 r1.2).1 r2.1 r2.2.1 (t2 r2).1 (t3 r2).1 (t4 r2).1 (t5 r2).1 (t6 r2).1 (t7 r2).1 (t8 r2).1 (t9 r2).1 (t9 r2.2).1 (t9 (t2 r2)).1 (t9 (t3 r2)).1 (t9 (t4 r2)).1 ((t9 (t9 (t7 r1))).1++[g]) (t9 (t9 (t8 r1))) false).bind fun r4=>
  some r4
def ib.f (k:Nat) (a0 a1:Int) (a2 a3:Bool) (a4 a5:LI) (a6 a7:Int) (a8:LI) (a9:Bool) (dX:LI) (cV a12:Int) (dU iD:Bool) (iE iF:LI) (iG iH:Int) (iI:LL) (a20 a21:LI) (iJ iK a24:Int) (jh:LI) (jq:LL) (g:Int):Option (Int×Int×Bool×Bool×LI×LI×Int×Int×LI×Bool×LI×Int×Int×Bool×Bool×LI×LI×Int×Int×LL×LI×LI×Int×Int×Int×LI×LL×Bool):=
 (bZ.f k g).bind fun r1=>
 bif (!r1) then
  (bq.f k a0 a1 a2 a3 a4 a5 a6 a7 a8 a9 dX cV a12 dU iD iE iF iG iH iI a20 a21 iJ iK a24 jh jq).bind fun r2=>
  some (r2.1,r2.2.1,(t2 r2).1,(t3 r2).1,(t4 r2).1,(t5 r2).1,(t6 r2).1,(t7 r2).1,(t8 r2).1,(t9 r2).1,(t9 r2.2).1,(t9 (t2 r2)).1,(t9 (t3 r2)).1,(t9 (t4 r2)).1,(t9 (t5 r2)).1,(t9 (t6 r2)).1,(t9 (t7 r2)).1,(t9 (t8 r2)).1,(t9 (t9 r2)).1,(t9 (t9 r2.2)).1,(t9 (t9 (t2 r2))).1,(t9 (t9 (t3 r2))).1,(t9 (t9 (t4 r2))).1,(t9 (t9 (t5 r2))).1,(t9 (t9 (t6 r2))).1,(t9 (t9 (t7 r2))).1,(t9 (t9 (t8 r2))),false)
 else
  (fD.f k a0 a1 a2 a3 a4 a5 a6 a7 a8 a9 dX cV a12 dU iD iE iF iG iH iI a20 a21 iJ iK a24 jh jq g).bind fun r3=>
  some r3
def f_.f (k:Nat) (a0 a1:Int) (a2 a3:Bool) (a4 a5:LI) (a6 a7:Int) (a8:LI) (a9:Bool) (dX:LI) (cV a12:Int) (dU iD:Bool) (iE iF:LI) (iG iH:Int) (iI:LL) (a20 a21:LI) (iJ iK a24:Int) (jh:LI) (jq:LL):Option (Int×Int×Bool×Bool×LI×LI×Int×Int×LI×Bool×LI×Int×Int×Bool×Bool×LI×LI×Int×Int×LL×LI×LI×Int×Int×Int×LI×LL×Bool):=
 (fD.f k a0 a1 a2 a3 a4 a5 a6 a7 a8 a9 dX cV a12 dU iD iE iF iG iH iI a20 a21 iJ iK a24 jh jq (-1)).bind fun r1=>
 some r1
def ic.f (k:Nat) (a0:LI) (a1 a2 g0 g1:Int) (g2 g3:Bool) (g4 g5:LI) (g6 g7:Int) (g8:LI) (g9:Bool) (g10:LI) (g11 g12:Int) (g13 g14:Bool) (g15 g16:LI) (g17 g18:Int) (g19:LL) (g20 g21:LI) (g22 g23 g24:Int) (Kq:LI) (Kr:LL):Option (Int×Int×Bool×Bool×LI×LI×Int×Int×LI×Bool×LI×Int×Int×Bool×Bool×LI×LI×Int×Int×LL×LI×LI×Int×Int×Int×LI×LL×LI×Int×Int):=
 (bp.f k g11 g12 g13 g14 g15 g16 g17 g18 g19 g20 g21 g22 g23 g24).bind fun r1=>
 bif decide ((r1.length:Int)>0) then
  (aI.f k a0 a1 a2 4).bind fun r2=>
  bif (!r2.1) then
   (ao.f k r2.2.1 (t2 r2).1 (t3 r2) (r1.length:Int)).bind fun r3=>
   aC ((decide (0<=r3.1))&&(decide (r3.1<(r1.length:Int))))<|
   (ib.f k g0 g1 g2 g3 g4 g5 g6 g7 g8 g9 g10 g11 g12 g13 g14 g15 g16 g17 g18 g19 g20 g21 g22 g23 g24 Kq Kr (r1.getD r3.1.toNat 0)).bind fun r4=>
   some (r4.1,r4.2.1,(t2 r4).1,(t3 r4).1,(t4 r4).1,(t5 r4).1,(t6 r4).1,(t7 r4).1,(t8 r4).1,(t9 r4).1,(t9 r4.2).1,(t9 (t2 r4)).1,(t9 (t3 r4)).1,(t9 (t4 r4)).1,(t9 (t5 r4)).1,(t9 (t6 r4)).1,(t9 (t7 r4)).1,(t9 (t8 r4)).1,(t9 (t9 r4)).1,(t9 (t9 r4.2)).1,(t9 (t9 (t2 r4))).1,(t9 (t9 (t3 r4))).1,(t9 (t9 (t4 r4))).1,(t9 (t9 (t5 r4))).1,(t9 (t9 (t6 r4))).1,(t9 (t9 (t7 r4))).1,(t9 (t9 (t8 r4))).1,r3.2)
  else
   (f_.f k g0 g1 g2 g3 g4 g5 g6 g7 g8 g9 g10 g11 g12 g13 g14 g15 g16 g17 g18 g19 g20 g21 g22 g23 g24 Kq Kr).bind fun r5=>
   some (r5.1,r5.2.1,(t2 r5).1,(t3 r5).1,(t4 r5).1,(t5 r5).1,(t6 r5).1,(t7 r5).1,(t8 r5).1,(t9 r5).1,(t9 r5.2).1,(t9 (t2 r5)).1,(t9 (t3 r5)).1,(t9 (t4 r5)).1,(t9 (t5 r5)).1,(t9 (t6 r5)).1,(t9 (t7 r5)).1,(t9 (t8 r5)).1,(t9 (t9 r5)).1,(t9 (t9 r5.2)).1,(t9 (t9 (t2 r5))).1,(t9 (t9 (t3 r5))).1,(t9 (t9 (t4 r5))).1,(t9 (t9 (t5 r5))).1,(t9 (t9 (t6 r5))).1,(t9 (t9 (t7 r5))).1,(t9 (t9 (t8 r5))).1,r2.2)
 else
  (f_.f k g0 g1 g2 g3 g4 g5 g6 g7 g8 g9 g10 g11 g12 g13 g14 g15 g16 g17 g18 g19 g20 g21 g22 g23 g24 Kq Kr).bind fun r6=>
  some (r6.1,r6.2.1,(t2 r6).1,(t3 r6).1,(t4 r6).1,(t5 r6).1,(t6 r6).1,(t7 r6).1,(t8 r6).1,(t9 r6).1,(t9 r6.2).1,(t9 (t2 r6)).1,(t9 (t3 r6)).1,(t9 (t4 r6)).1,(t9 (t5 r6)).1,(t9 (t6 r6)).1,(t9 (t7 r6)).1,(t9 (t8 r6)).1,(t9 (t9 r6)).1,(t9 (t9 r6.2)).1,(t9 (t9 (t2 r6))).1,(t9 (t9 (t3 r6))).1,(t9 (t9 (t4 r6))).1,(t9 (t9 (t5 r6))).1,(t9 (t9 (t6 r6))).1,(t9 (t9 (t7 r6))).1,(t9 (t9 (t8 r6))).1,a0,a1,a2)
def aT.Va {R:Type} (k:Nat) (e0:LI->Int->Int->Int->Int->Bool->Bool->Int->Int->Bool->Int->Int->Bool->Bool->Int->Int->Int->Int->Int->LI->LI->LI->LI->LI->LI->LL->LI->LI->LI->LL->Option R) (rec:Int->LI->Int->Int->Int->Int->Bool->Bool->Int->Int->Bool->Int->Int->Bool->Bool->Int->Int->Int->Int->Int->LI->LI->LI->LI->LI->LI->LL->LI->LI->LI->LL->Option R) (v0:Int) (v1:LI) (v2 v3 v20 v21:Int) (iL gL:Bool) (v24 jY:Int) (jZ:Bool) (lM v28:Int) (oR v30:Bool) (v31 pN oS oT pO:Int) (kR v37 fA ld v40 sY:LI) (sZ:LL) (s_ ta oe:LI) (v46:LL):Option R:=
 bif decide (v0>0) then
  (ic.f k v1 v2 v3 v20 v21 iL gL kR v37 v24 jY fA jZ ld lM v28 oR v30 v40 sY v31 pN sZ s_ ta oS oT pO oe v46).bind fun gN=>
  rec (IntKind.wrap .i64 (v0-1)) (t9 (t9 (t9 gN))).1 (t9 (t9 (t9 gN.2))).1 (t9 (t9 (t9 (t2 gN)))) gN.1 gN.2.1 (t2 gN).1 (t3 gN).1 (t6 gN).1 (t7 gN).1 (t9 gN).1 (t9 (t2 gN)).1 (t9 (t3 gN)).1 (t9 (t4 gN)).1 (t9 (t5 gN)).1 (t9 (t8 gN)).1 (t9 (t9 gN)).1 (t9 (t9 (t4 gN))).1 (t9 (t9 (t5 gN))).1 (t9 (t9 (t6 gN))).1 (t4 gN).1 (t5 gN).1 (t8 gN).1 (t9 gN.2).1 (t9 (t6 gN)).1 (t9 (t7 gN)).1 (t9 (t9 gN.2)).1 (t9 (t9 (t2 gN))).1 (t9 (t9 (t3 gN))).1 (t9 (t9 (t7 gN))).1 (t9 (t9 (t8 gN))).1
 else
  e0 v1 v2 v3 v20 v21 iL gL v24 jY jZ lM v28 oR v30 v31 pN oS oT pO kR v37 fA ld v40 sY sZ s_ ta oe v46
def aT.l10 {R:Type} (k:Nat) (e0:LI->Int->Int->Int->Int->Bool->Bool->Int->Int->Bool->Int->Int->Bool->Bool->Int->Int->Int->Int->Int->LI->LI->LI->LI->LI->LI->LL->LI->LI->LI->LL->Option R) (n:Nat) (v0:Int) (v1:LI) (v2 v3 v20 v21:Int) (iL gL:Bool) (v24 jY:Int) (jZ:Bool) (lM v28:Int) (oR v30:Bool) (v31 pN oS oT pO:Int) (kR v37 fA ld v40 sY:LI) (sZ:LL) (s_ ta oe:LI) (v46:LL):Option R:=
 V.iter (A:=Int×LI×Int×Int×Int×Int×Bool×Bool×Int×Int×Bool×Int×Int×Bool×Bool×Int×Int×Int×Int×Int×LI×LI×LI×LI×LI×LI×LL×LI×LI×LI×LL) (fun rec a=>aT.Va k e0 (fun c0 c1 c2 c3 c4 c5 c6 c7 c8 c9 Mt Mu c12 Mv Mw Qt Qu Mx Qv Qw c20 c21 Qx Qy c24 Qz QA QB c28 QC V2=>rec (c0,c1,c2,c3,c4,c5,c6,c7,c8,c9,Mt,Mu,c12,Mv,Mw,Qt,Qu,Mx,Qv,Qw,c20,c21,Qx,Qy,c24,Qz,QA,QB,c28,QC,V2)) a.1 a.2.1 (t2 a).1 (t3 a).1 (t4 a).1 (t5 a).1 (t6 a).1 (t7 a).1 (t8 a).1 (t9 a).1 (t9 a.2).1 (t9 (t2 a)).1 (t9 (t3 a)).1 (t9 (t4 a)).1 (t9 (t5 a)).1 (t9 (t6 a)).1 (t9 (t7 a)).1 (t9 (t8 a)).1 (t9 (t9 a)).1 (t9 (t9 a.2)).1 (t9 (t9 (t2 a))).1 (t9 (t9 (t3 a))).1 (t9 (t9 (t4 a))).1 (t9 (t9 (t5 a))).1 (t9 (t9 (t6 a))).1 (t9 (t9 (t7 a))).1 (t9 (t9 (t8 a))).1 (t9 (t9 (t9 a))).1 (t9 (t9 (t9 a.2))).1 (t9 (t9 (t9 (t2 a)))).1 (t9 (t9 (t9 (t3 a))))) n (v0,v1,v2,v3,v20,v21,iL,gL,v24,jY,jZ,lM,v28,oR,v30,v31,pN,oS,oT,pO,kR,v37,fA,ld,v40,sY,sZ,s_,ta,oe,v46)
theorem aT.DT {R:Type} (k:Nat) (e0:LI->Int->Int->Int->Int->Bool->Bool->Int->Int->Bool->Int->Int->Bool->Bool->Int->Int->Int->Int->Int->LI->LI->LI->LI->LI->LI->LL->LI->LI->LI->LL->Option R) (n:Nat) (v0:Int) (v1:LI) (v2 v3 v20 v21:Int) (iL gL:Bool) (v24 jY:Int) (jZ:Bool) (lM v28:Int) (oR v30:Bool) (v31 pN oS oT pO:Int) (kR v37 fA ld v40 sY:LI) (sZ:LL) (s_ ta oe:LI) (v46:LL):aT.l10 (R:=R) k e0 (n+1) v0 v1 v2 v3 v20 v21 iL gL v24 jY jZ lM v28 oR v30 v31 pN oS oT pO kR v37 fA ld v40 sY sZ s_ ta oe v46=aT.Va k e0 (aT.l10 k e0 n) v0 v1 v2 v3 v20 v21 iL gL v24 jY jZ lM v28 oR v30 v31 pN oS oT pO kR v37 fA ld v40 sY sZ s_ ta oe v46:=rfl
def aT.f (k:Nat) (a0:LI) (a1 a2:Int):Option (Int×Int×Bool×Bool×LI×LI×Int×Int×LI×Bool×LI×Int×Int×Bool×Bool×LI×LI×Int×Int×LL×LI×LI×Int×Int×Int×LI×LL×LI×Int×Int):=
 (di.f k a0 a1 a2).bind fun r1=>
 (aI.f k (t8 r1).1 (t9 r1).1 (t9 r1.2) 2).bind fun r2=>
 bif r2.1 then
  (ao.f k r2.2.1 (t2 r2).1 (t3 r2) 6).bind fun r3=>
  (ed.f k r1.1 r1.2.1 (t2 r1).1 (t3 r1).1 (t4 r1).1 (t5 r1).1 (t6 r1).1 (IntKind.wrap .i64 (1+r3.1))).bind fun r4=>
  (aI.f k r3.2.1 (t2 r3).1 (t3 r3) 6).bind fun r5=>
  bif r5.1 then
   (cu.f k 0 3 5).bind fun r6=>
   (cX.f k r4.1 r4.2.1 (t2 r4).1 (t3 r4).1 (t4 r4).1 (t5 r4).1 (t6 r4).1 (t7 r4).1 (t8 r4).1 (t9 r4).1 (t9 r4.2).1 (t9 (t2 r4)).1 (t9 (t3 r4)).1 (t9 (t4 r4)).1 (t9 (t5 r4)).1 (t9 (t6 r4)).1 (t9 (t7 r4)).1 (t9 (t8 r4)).1 (t9 (t9 r4)).1 (t9 (t9 r4.2)).1 (t9 (t9 (t2 r4))).1 (t9 (t9 (t3 r4))).1 (t9 (t9 (t4 r4))).1 (t9 (t9 (t5 r4))).1 (t9 (t9 (t6 r4))).1 (t9 (t9 (t7 r4))).1 (t9 (t9 (t8 r4))).1 r6).bind fun r7=>
   some (r7.1,r7.2.1,(t2 r7).1,(t3 r7).1,(t4 r7).1,(t5 r7).1,(t6 r7).1,(t7 r7).1,(t8 r7).1,(t9 r7).1,(t9 r7.2).1,(t9 (t2 r7)).1,(t9 (t3 r7)).1,(t9 (t4 r7)).1,(t9 (t5 r7)).1,(t9 (t6 r7)).1,(t9 (t7 r7)).1,(t9 (t8 r7)).1,(t9 (t9 r7)).1,(t9 (t9 r7.2)).1,(t9 (t9 (t2 r7))).1,(t9 (t9 (t3 r7))).1,(t9 (t9 (t4 r7))).1,(t9 (t9 (t5 r7))).1,(t9 (t9 (t6 r7))).1,(t9 (t9 (t7 r7))).1,(t9 (t9 (t8 r7))).1,r5.2)
  else
   (ao.f k r5.2.1 (t2 r5).1 (t3 r5) 900).bind fun r8=>
   (bm.f k r4.1 r4.2.1 (t2 r4).1 (t3 r4).1 (t4 r4).1 (t5 r4).1 (t6 r4).1 (t7 r4).1 (t8 r4).1 (t9 r4).1 (t9 r4.2).1 (t9 (t2 r4)).1 (t9 (t3 r4)).1 (t9 (t4 r4)).1 (t9 (t5 r4)).1 (t9 (t6 r4)).1 (t9 (t7 r4)).1 (t9 (t8 r4)).1 (t9 (t9 r4)).1 (t9 (t9 r4.2)).1 (t9 (t9 (t2 r4))).1 (t9 (t9 (t3 r4))).1 (t9 (t9 (t4 r4))).1 (t9 (t9 (t5 r4))).1 (t9 (t9 (t6 r4))).1 (t9 (t9 (t7 r4))).1 (t9 (t9 (t8 r4))).1 r8.1).bind fun r9=>
   (ao.f k r8.2.1 (t2 r8).1 (t3 r8) 10).bind fun fW=>
   aT.l10 k (fun Ig Ih Ii FO FQ FR FU FV FW FX FY FZ F5 F6 F7 F8 F9 F_ Ga Gb QD P1 QE Vb Vc Vd Ve Vf Vg Vh=>
    (aI.f k Ig Ih Ii 2).bind fun TN=>
    bif TN.1 then
     (eL.f k FO FQ FR FU Gb QD FV FW P1 FX QE FY FZ F5 F6 Vb Vc F7 F8 Vd Ve Vf F9 F_ Ga Vg Vh).bind fun vu=>
     some (vu.1,vu.2.1,(t2 vu).1,(t3 vu).1,(t4 vu).1,(t5 vu).1,(t6 vu).1,(t7 vu).1,(t8 vu).1,(t9 vu).1,(t9 vu.2).1,(t9 (t2 vu)).1,(t9 (t3 vu)).1,(t9 (t4 vu)).1,(t9 (t5 vu)).1,(t9 (t6 vu)).1,(t9 (t7 vu)).1,(t9 (t8 vu)).1,(t9 (t9 vu)).1,(t9 (t9 vu.2)).1,(t9 (t9 (t2 vu))).1,(t9 (t9 (t3 vu))).1,(t9 (t9 (t4 vu))).1,(t9 (t9 (t5 vu))).1,(t9 (t9 (t6 vu))).1,(t9 (t9 (t7 vu))).1,(t9 (t9 (t8 vu))).1,TN.2)
    else
     some (FO,FQ,FR,FU,Gb,QD,FV,FW,P1,FX,QE,FY,FZ,F5,F6,Vb,Vc,F7,F8,Vd,Ve,Vf,F9,F_,Ga,Vg,Vh,TN.2)) k fW.1 fW.2.1 (t2 fW).1 (t3 fW) r9.1 r9.2.1 (t2 r9).1 (t3 r9).1 (t6 r9).1 (t7 r9).1 (t9 r9).1 (t9 (t2 r9)).1 (t9 (t3 r9)).1 (t9 (t4 r9)).1 (t9 (t5 r9)).1 (t9 (t8 r9)).1 (t9 (t9 r9)).1 (t9 (t9 (t4 r9))).1 (t9 (t9 (t5 r9))).1 (t9 (t9 (t6 r9))).1 (t4 r9).1 (t5 r9).1 (t8 r9).1 (t9 r9.2).1 (t9 (t6 r9)).1 (t9 (t7 r9)).1 (t9 (t9 r9.2)).1 (t9 (t9 (t2 r9))).1 (t9 (t9 (t3 r9))).1 (t9 (t9 (t7 r9))).1 (t9 (t9 (t8 r9)))
 else
  (ed.f k r1.1 r1.2.1 (t2 r1).1 (t3 r1).1 (t4 r1).1 (t5 r1).1 (t6 r1).1 (t7 r1).1).bind fun fE=>
  (aI.f k r2.2.1 (t2 r2).1 (t3 r2) 6).bind fun I3=>
  bif I3.1 then
   (cu.f k 0 3 5).bind fun TO=>
   (cX.f k fE.1 fE.2.1 (t2 fE).1 (t3 fE).1 (t4 fE).1 (t5 fE).1 (t6 fE).1 (t7 fE).1 (t8 fE).1 (t9 fE).1 (t9 fE.2).1 (t9 (t2 fE)).1 (t9 (t3 fE)).1 (t9 (t4 fE)).1 (t9 (t5 fE)).1 (t9 (t6 fE)).1 (t9 (t7 fE)).1 (t9 (t8 fE)).1 (t9 (t9 fE)).1 (t9 (t9 fE.2)).1 (t9 (t9 (t2 fE))).1 (t9 (t9 (t3 fE))).1 (t9 (t9 (t4 fE))).1 (t9 (t9 (t5 fE))).1 (t9 (t9 (t6 fE))).1 (t9 (t9 (t7 fE))).1 (t9 (t9 (t8 fE))).1 TO).bind fun li=>
   some (li.1,li.2.1,(t2 li).1,(t3 li).1,(t4 li).1,(t5 li).1,(t6 li).1,(t7 li).1,(t8 li).1,(t9 li).1,(t9 li.2).1,(t9 (t2 li)).1,(t9 (t3 li)).1,(t9 (t4 li)).1,(t9 (t5 li)).1,(t9 (t6 li)).1,(t9 (t7 li)).1,(t9 (t8 li)).1,(t9 (t9 li)).1,(t9 (t9 li.2)).1,(t9 (t9 (t2 li))).1,(t9 (t9 (t3 li))).1,(t9 (t9 (t4 li))).1,(t9 (t9 (t5 li))).1,(t9 (t9 (t6 li))).1,(t9 (t9 (t7 li))).1,(t9 (t9 (t8 li))).1,I3.2)
  else
   (ao.f k I3.2.1 (t2 I3).1 (t3 I3) 900).bind fun My=>
   (bm.f k fE.1 fE.2.1 (t2 fE).1 (t3 fE).1 (t4 fE).1 (t5 fE).1 (t6 fE).1 (t7 fE).1 (t8 fE).1 (t9 fE).1 (t9 fE.2).1 (t9 (t2 fE)).1 (t9 (t3 fE)).1 (t9 (t4 fE)).1 (t9 (t5 fE)).1 (t9 (t6 fE)).1 (t9 (t7 fE)).1 (t9 (t8 fE)).1 (t9 (t9 fE)).1 (t9 (t9 fE.2)).1 (t9 (t9 (t2 fE))).1 (t9 (t9 (t3 fE))).1 (t9 (t9 (t4 fE))).1 (t9 (t9 (t5 fE))).1 (t9 (t9 (t6 fE))).1 (t9 (t9 (t7 fE))).1 (t9 (t9 (t8 fE))).1 My.1).bind fun lj=>
   (ao.f k My.2.1 (t2 My).1 (t3 My) 10).bind fun Mz=>
   aT.l10 k (fun TP TQ TR QF QG QH QI QJ QK QL QM QN QO QP QQ QR QS QT QU QV QW QX QY QZ Q0 Q1 Q2 Q3 Q4 Q5=>
    (aI.f k TP TQ TR 2).bind fun Ks=>
    bif Ks.1 then
     (eL.f k QF QG QH QI QV QW QJ QK QX QL QY QM QN QO QP QZ Q0 QQ QR Q1 Q2 Q3 QS QT QU Q4 Q5).bind fun ll=>
     some (ll.1,ll.2.1,(t2 ll).1,(t3 ll).1,(t4 ll).1,(t5 ll).1,(t6 ll).1,(t7 ll).1,(t8 ll).1,(t9 ll).1,(t9 ll.2).1,(t9 (t2 ll)).1,(t9 (t3 ll)).1,(t9 (t4 ll)).1,(t9 (t5 ll)).1,(t9 (t6 ll)).1,(t9 (t7 ll)).1,(t9 (t8 ll)).1,(t9 (t9 ll)).1,(t9 (t9 ll.2)).1,(t9 (t9 (t2 ll))).1,(t9 (t9 (t3 ll))).1,(t9 (t9 (t4 ll))).1,(t9 (t9 (t5 ll))).1,(t9 (t9 (t6 ll))).1,(t9 (t9 (t7 ll))).1,(t9 (t9 (t8 ll))).1,Ks.2)
    else
     some (QF,QG,QH,QI,QV,QW,QJ,QK,QX,QL,QY,QM,QN,QO,QP,QZ,Q0,QQ,QR,Q1,Q2,Q3,QS,QT,QU,Q4,Q5,Ks.2)) k Mz.1 Mz.2.1 (t2 Mz).1 (t3 Mz) lj.1 lj.2.1 (t2 lj).1 (t3 lj).1 (t6 lj).1 (t7 lj).1 (t9 lj).1 (t9 (t2 lj)).1 (t9 (t3 lj)).1 (t9 (t4 lj)).1 (t9 (t5 lj)).1 (t9 (t8 lj)).1 (t9 (t9 lj)).1 (t9 (t9 (t4 lj))).1 (t9 (t9 (t5 lj))).1 (t9 (t9 (t6 lj))).1 (t4 lj).1 (t5 lj).1 (t8 lj).1 (t9 lj.2).1 (t9 (t6 lj)).1 (t9 (t7 lj)).1 (t9 (t9 lj.2)).1 (t9 (t9 (t2 lj))).1 (t9 (t9 (t3 lj))).1 (t9 (t9 (t7 lj))).1 (t9 (t9 (t8 lj)))
def eX.f (k:Nat) (a:LI):Option (Int×Int×Bool×Bool×LI×LI×Int×Int×LI×Bool×LI×Int×Int×Bool×Bool×LI×LI×Int×Int×LL×LI×LI×Int×Int×Int×LI×LL×Int):=
 (bw.f k a).bind fun r1=>
 (aT.f k r1.1 r1.2.1 (t2 r1)).bind fun r2=>
 (ao.f k (t9 (t9 (t9 r2))).1 (t9 (t9 (t9 r2.2))).1 (t9 (t9 (t9 (t2 r2)))) 99).bind fun r3=>
 some (r2.1,r2.2.1,(t2 r2).1,(t3 r2).1,(t4 r2).1,(t5 r2).1,(t6 r2).1,(t7 r2).1,(t8 r2).1,(t9 r2).1,(t9 r2.2).1,(t9 (t2 r2)).1,(t9 (t3 r2)).1,(t9 (t4 r2)).1,(t9 (t5 r2)).1,(t9 (t6 r2)).1,(t9 (t7 r2)).1,(t9 (t8 r2)).1,(t9 (t9 r2)).1,(t9 (t9 r2.2)).1,(t9 (t9 (t2 r2))).1,(t9 (t9 (t3 r2))).1,(t9 (t9 (t4 r2))).1,(t9 (t9 (t5 r2))).1,(t9 (t9 (t6 r2))).1,(t9 (t9 (t7 r2))).1,(t9 (t9 (t8 r2))).1,r3.1)
def ga.f (k:Nat) (a0 a1:Int) (a2 a3:Bool) (a4 a5:LI) (a6 a7:Int) (a8:LI) (a9:Bool) (dX:LI) (cV a12:Int) (dU iD:Bool) (iE iF:LI) (iG iH:Int) (iI:LL) (a20 a21:LI) (iJ iK a24:Int) (jh:LI) (jq:LL) (g:Int):Option (Int×Int×Bool×Bool×LI×LI×Int×Int×LI×Bool×LI×Int×Int×Bool×Bool×LI×LI×Int×Int×LL×LI×LI×Int×Int×Int×LI×LL×Bool):=
 (aD.f k a0 a1 a2 a3 a4 a5 a6 a7 a8 a9 dX cV a12 dU iD iE iF iG iH iI a20 a21 iJ iK a24 jh jq).bind fun r1=>
 aC (decide (((t8 r1).1.length+1)*8<=room))<|
 bif (!a9) then
  (au.f k a0 a1 a2 a3 a4 a5 a6 a7 a8 a9 dX cV a12 dU iD iE iF iG iH iI a20 a21 iJ iK a24 jh jq r1.1 r1.2.1 (t2 r1).1 (t3 r1).1 (t4 r1).1 (t5 r1).1 (t6 r1).1 (t7 r1).1 ((t8 r1).1++[g]) (t9 r1).1 (t9 r1.2).1 (t9 (t2 r1)).1 (t9 (t3 r1)).1 (t9 (t4 r1)).1 (t9 (t5 r1)).1 (t9 (t6 r1)).1 (t9 (t7 r1)).1 (t9 (t8 r1)).1 (t9 (t9 r1)).1 (t9 (t9 r1.2)).1 (t9 (t9 (t2 r1))).1 (t9 (t9 (t3 r1))).1 (t9 (t9 (t4 r1))).1 (t9 (t9 (t5 r1))).1 (t9 (t9 (t6 r1))).1 (t9 (t9 (t7 r1))).1 (t9 (t9 (t8 r1))) (decide ((a8.length:Int)<a0))).bind fun r2=>
  some r2
 else
  (au.f k a0 a1 a2 a3 a4 a5 a6 a7 a8 a9 dX cV a12 dU iD iE iF iG iH iI a20 a21 iJ iK a24 jh jq r1.1 r1.2.1 (t2 r1).1 (t3 r1).1 (t4 r1).1 (t5 r1).1 (t6 r1).1 (t7 r1).1 ((t8 r1).1++[g]) (t9 r1).1 (t9 r1.2).1 (t9 (t2 r1)).1 (t9 (t3 r1)).1 (t9 (t4 r1)).1 (t9 (t5 r1)).1 (t9 (t6 r1)).1 (t9 (t7 r1)).1 (t9 (t8 r1)).1 (t9 (t9 r1)).1 (t9 (t9 r1.2)).1 (t9 (t9 (t2 r1))).1 (t9 (t9 (t3 r1))).1 (t9 (t9 (t4 r1))).1 (t9 (t9 (t5 r1))).1 (t9 (t9 (t6 r1))).1 (t9 (t9 (t7 r1))).1 (t9 (t9 (t8 r1))) false).bind fun r3=>
  some r3
def aO.s6 {R:Type} (k:Nat) (e0:Int->Int->Bool->Bool->Int->Int->Bool->Int->Int->Bool->Bool->Int->Int->Int->Int->Int->LI->LI->LI->LI->LI->LI->LL->LI->LI->LI->LL->LI->LI->Option R) (rec:Int->Int->Int->Bool->Bool->Int->Int->Bool->Int->Int->Bool->Bool->Int->Int->Int->Int->Int->LI->LI->LI->LI->LI->LI->LL->LI->LI->LI->LL->LI->LI->Option R) (v0 v20 v21:Int) (iL gL:Bool) (v24 jY:Int) (jZ:Bool) (lM v28:Int) (oR v30:Bool) (v31 pN oS oT pO:Int) (kR v37 fA ld v40 sY:LI) (sZ:LL) (s_ ta oe:LI) (v46:LL) (Gc Gd:LI):Option R:=
 bif decide (v0<v20) then
  (cu.f k v0 (IntKind.wrap .i64 (7*v0)) 5).bind fun r4=>
  (cX.f k v20 v21 iL gL kR v37 v24 jY fA jZ ld lM v28 oR v30 v40 sY v31 pN sZ s_ ta oS oT pO oe v46 r4).bind fun r5=>
  aC (decide ((Gc.length+1)*8<=room))<|
  aC (decide ((Gd.length+1)*8<=room))<|
  rec (IntKind.wrap .i64 (v0+1)) r5.1 r5.2.1 (t2 r5).1 (t3 r5).1 (t6 r5).1 (t7 r5).1 (t9 r5).1 (t9 (t2 r5)).1 (t9 (t3 r5)).1 (t9 (t4 r5)).1 (t9 (t5 r5)).1 (t9 (t8 r5)).1 (t9 (t9 r5)).1 (t9 (t9 (t4 r5))).1 (t9 (t9 (t5 r5))).1 (t9 (t9 (t6 r5))).1 (t4 r5).1 (t5 r5).1 (t8 r5).1 (t9 r5.2).1 (t9 (t6 r5)).1 (t9 (t7 r5)).1 (t9 (t9 r5.2)).1 (t9 (t9 (t2 r5))).1 (t9 (t9 (t3 r5))).1 (t9 (t9 (t7 r5))).1 (t9 (t9 (t8 r5))).1 (Gc++[IntKind.wrap .i64 (7*v0)]) (Gd++[5])
 else
  e0 v20 v21 iL gL v24 jY jZ lM v28 oR v30 v31 pN oS oT pO kR v37 fA ld v40 sY sZ s_ ta oe v46 Gc Gd
def aO.l6 {R:Type} (k:Nat) (e0:Int->Int->Bool->Bool->Int->Int->Bool->Int->Int->Bool->Bool->Int->Int->Int->Int->Int->LI->LI->LI->LI->LI->LI->LL->LI->LI->LI->LL->LI->LI->Option R) (n:Nat) (v0 v20 v21:Int) (iL gL:Bool) (v24 jY:Int) (jZ:Bool) (lM v28:Int) (oR v30:Bool) (v31 pN oS oT pO:Int) (kR v37 fA ld v40 sY:LI) (sZ:LL) (s_ ta oe:LI) (v46:LL) (Gc Gd:LI):Option R:=
 V.iter (A:=Int×Int×Int×Bool×Bool×Int×Int×Bool×Int×Int×Bool×Bool×Int×Int×Int×Int×Int×LI×LI×LI×LI×LI×LI×LL×LI×LI×LI×LL×LI×LI) (fun rec a=>aO.s6 k e0 (fun c0 c1 c2 c3 c4 c5 c6 c7 c8 c9 Mt Mu c12 Mv Mw Qt Qu Mx Qv Qw c20 c21 Qx Qy c24 Qz QA QB c28 QC=>rec (c0,c1,c2,c3,c4,c5,c6,c7,c8,c9,Mt,Mu,c12,Mv,Mw,Qt,Qu,Mx,Qv,Qw,c20,c21,Qx,Qy,c24,Qz,QA,QB,c28,QC)) a.1 a.2.1 (t2 a).1 (t3 a).1 (t4 a).1 (t5 a).1 (t6 a).1 (t7 a).1 (t8 a).1 (t9 a).1 (t9 a.2).1 (t9 (t2 a)).1 (t9 (t3 a)).1 (t9 (t4 a)).1 (t9 (t5 a)).1 (t9 (t6 a)).1 (t9 (t7 a)).1 (t9 (t8 a)).1 (t9 (t9 a)).1 (t9 (t9 a.2)).1 (t9 (t9 (t2 a))).1 (t9 (t9 (t3 a))).1 (t9 (t9 (t4 a))).1 (t9 (t9 (t5 a))).1 (t9 (t9 (t6 a))).1 (t9 (t9 (t7 a))).1 (t9 (t9 (t8 a))).1 (t9 (t9 (t9 a))).1 (t9 (t9 (t9 a.2))).1 (t9 (t9 (t9 (t2 a))))) n (v0,v20,v21,iL,gL,v24,jY,jZ,lM,v28,oR,v30,v31,pN,oS,oT,pO,kR,v37,fA,ld,v40,sY,sZ,s_,ta,oe,v46,Gc,Gd)
theorem aO.gO {R:Type} (k:Nat) (e0:Int->Int->Bool->Bool->Int->Int->Bool->Int->Int->Bool->Bool->Int->Int->Int->Int->Int->LI->LI->LI->LI->LI->LI->LL->LI->LI->LI->LL->LI->LI->Option R) (n:Nat) (v0 v20 v21:Int) (iL gL:Bool) (v24 jY:Int) (jZ:Bool) (lM v28:Int) (oR v30:Bool) (v31 pN oS oT pO:Int) (kR v37 fA ld v40 sY:LI) (sZ:LL) (s_ ta oe:LI) (v46:LL) (Gc Gd:LI):aO.l6 (R:=R) k e0 (n+1) v0 v20 v21 iL gL v24 jY jZ lM v28 oR v30 v31 pN oS oT pO kR v37 fA ld v40 sY sZ s_ ta oe v46 Gc Gd=aO.s6 k e0 (aO.l6 k e0 n) v0 v20 v21 iL gL v24 jY jZ lM v28 oR v30 v31 pN oS oT pO kR v37 fA ld v40 sY sZ s_ ta oe v46 Gc Gd:=rfl
def aO.f (k:Nat) (a:LI):Option (Int×Int×Bool×Bool×LI×LI×Int×Int×LI×Bool×LI×Int×Int×Bool×Bool×LI×LI×Int×Int×LL×LI×LI×Int×Int×Int×LI×LL×LI×LI):=
 (bw.f k a).bind fun r1=>
 (di.f k r1.1 r1.2.1 (t2 r1)).bind fun r2=>
 (ed.f k r2.1 r2.2.1 (t2 r2).1 (t3 r2).1 (t4 r2).1 (t5 r2).1 (t6 r2).1 (t7 r2).1).bind fun r3=>
 aO.l6 k (fun x6 x7 x8 x9 FK FN Ig Ih Ii FO FQ FR FU FV FW FX FY FZ F5 F6 F7 F8 F9 F_ Ga Gb QD P1 QE=>
  (aI.f k (t8 r2).1 (t9 r2).1 (t9 r2.2) 3).bind fun SQ=>
  bif SQ.1 then
   (cv.f k SQ.2.1 (t2 SQ).1 (t3 SQ) [1,(-1),1000001]).bind fun V3=>
   aC (decide (0<(P1.length:Int)))<|
   some (x6,x7,x8,x9,FY,FZ,FK,FN,F5,Ig,F6,Ih,Ii,FO,FQ,F7,F8,FR,FU,F9,F_,Ga,FV,FW,FX,Gb,QD,P1.set 0 V3.1,QE)
  else
   some (x6,x7,x8,x9,FY,FZ,FK,FN,F5,Ig,F6,Ih,Ii,FO,FQ,F7,F8,FR,FU,F9,F_,Ga,FV,FW,FX,Gb,QD,P1,QE)) k 0 r3.1 r3.2.1 (t2 r3).1 (t3 r3).1 (t6 r3).1 (t7 r3).1 (t9 r3).1 (t9 (t2 r3)).1 (t9 (t3 r3)).1 (t9 (t4 r3)).1 (t9 (t5 r3)).1 (t9 (t8 r3)).1 (t9 (t9 r3)).1 (t9 (t9 (t4 r3))).1 (t9 (t9 (t5 r3))).1 (t9 (t9 (t6 r3))).1 (t4 r3).1 (t5 r3).1 (t8 r3).1 (t9 r3.2).1 (t9 (t6 r3)).1 (t9 (t7 r3)).1 (t9 (t9 r3.2)).1 (t9 (t9 (t2 r3))).1 (t9 (t9 (t3 r3))).1 (t9 (t9 (t7 r3))).1 (t9 (t9 (t8 r3))).1 [] []
def gy.f (k:Nat) (a g:Int):Option (Int):=
 (an.f k g 1 1000000000000).bind fun r1=>
 bif (!r1) then
  some 0
 else
  aC (!(decide (g=0)))<|
  aC (!(decide (g=0)))<|
  some ((IntKind.wrap .i64 ((a.tmod g)+g)).tmod g)
def dM.s3 {R:Type} (k:Nat) (v1:LI) (v2:Int) (e0:Int->Option R) (rec:Int->Int->Option R) (v0 v3:Int):Option R:=
 bif decide (v3<v2) then
  aC ((decide (0<=v3))&&(decide (v3<(v1.length:Int))))<|
  (gy.f k (v1.getD v3.toNat 0) 2147483647).bind fun r1=>
  rec ((IntKind.wrap .i64 ((IntKind.wrap .i64 ((IntKind.wrap .i64 (v0*1000003))+r1))+13)).tmod 2147483647) (IntKind.wrap .i64 (v3+1))
 else
  e0 v0
def dM.l3 {R:Type} (k:Nat) (v1:LI) (v2:Int) (e0:Int->Option R) (n:Nat) (v0 v3:Int):Option R:=
 V.iter (A:=Int×Int) (fun rec a=>dM.s3 k v1 v2 e0 (fun c0 c1=>rec (c0,c1)) a.1 a.2) n (v0,v3)
theorem dM.aE {R:Type} (k:Nat) (v1:LI) (v2:Int) (e0:Int->Option R) (n:Nat) (v0 v3:Int):dM.l3 (R:=R) k v1 v2 e0 (n+1) v0 v3=dM.s3 k v1 v2 e0 (dM.l3 k v1 v2 e0 n) v0 v3:=rfl
def dM.f (k:Nat) (a:LI):Option (Int):=
 dM.l3 k a (a.length:Int) (fun x2=>
  some x2) k 11 0
def ig.f (k:Nat) (a g i:Int):Option (Int):=
 (dM.f k [a,g,i]).bind fun r1=>
 some r1
def ij.f (k:Nat) (a g i j:Int):Option (Bool):=
 (an.f k g 0 1000000).bind fun r1=>
 bif r1 then
  (an.f k i 0 1000000).bind fun r2=>
  bif r2 then
   (ig.f k a g i).bind fun r3=>
   some (r3==j)
  else
   some false
 else
  some false
def bQ.s5 {R:Type} (k:Nat) (v0 v1 v2:LI) (v3:Int) (e0 e1:Option R) (rec:Int->Option R) (v4:Int):Option R:=
 bif decide (v4<v3) then
  aC ((decide (0<=v4))&&(decide (v4<(v1.length:Int))))<|
  aC ((decide (0<=v4))&&(decide (v4<(v2.length:Int))))<|
  aC ((decide (0<=v4))&&(decide (v4<(v0.length:Int))))<|
  (ij.f k v4 (v1.getD v4.toNat 0) (v2.getD v4.toNat 0) (v0.getD v4.toNat 0)).bind fun r2=>
  bif (!r2) then
   e0
  else
   rec (IntKind.wrap .i64 (v4+1))
 else
  e1
def bQ.l5 {R:Type} (k:Nat) (v0 v1 v2:LI) (v3:Int) (e0 e1:Option R) (n:Nat) (v4:Int):Option R:=
 V.iter (A:=Int) (fun rec a=>bQ.s5 k v0 v1 v2 v3 e0 e1 (fun c0=>rec c0) a) n v4
theorem bQ.de {R:Type} (k:Nat) (v0 v1 v2:LI) (v3:Int) (e0 e1:Option R) (n:Nat) (v4:Int):bQ.l5 (R:=R) k v0 v1 v2 v3 e0 e1 (n+1) v4=bQ.s5 k v0 v1 v2 v3 e0 e1 (bQ.l5 k v0 v1 v2 v3 e0 e1 n) v4:=rfl
def bQ.f (k:Nat) (a g i:LI):Option (Bool):=
 (an.f k (a.length:Int) 1 6).bind fun r1=>
 bif (!r1) then
  some false
 else
  bif ((g.length:Int) != (a.length:Int)) then
   some false
  else
   bif ((i.length:Int) != (a.length:Int)) then
    some false
   else
    bQ.l5 k a g i (a.length:Int) (some false) (some true) k 0
def bM.s3 {R:Type} (k:Nat) (v0:Int) (e0:LI->Option R) (rec:Int->LI->Option R) (v1:Int) (v2:LI):Option R:=
 bif decide (v1>=1) then
  (dM.f k [v0,v1]).bind fun r2=>
  (gy.f k r2 (IntKind.wrap .i64 (v1+1))).bind fun r3=>
  aC ((decide (0<=r3))&&(decide (r3<(v2.length:Int))))<|
  aC ((decide (0<=v1))&&(decide (v1<(v2.length:Int))))<|
  aC ((decide (0<=v1))&&(decide (v1<(v2.length:Int))))<|
  aC ((decide (0<=r3))&&(decide (r3<((v2.set v1.toNat (v2.getD r3.toNat 0)).length:Int))))<|
  rec (IntKind.wrap .i64 (v1-1)) ((v2.set v1.toNat (v2.getD r3.toNat 0)).set r3.toNat (v2.getD v1.toNat 0))
 else
  e0 v2
def bM.l3 {R:Type} (k:Nat) (v0:Int) (e0:LI->Option R) (n:Nat) (v1:Int) (v2:LI):Option R:=
 V.iter (A:=Int×LI) (fun rec a=>bM.s3 k v0 e0 (fun c0 c1=>rec (c0,c1)) a.1 a.2) n (v1,v2)
theorem bM.aE {R:Type} (k:Nat) (v0:Int) (e0:LI->Option R) (n:Nat) (v1:Int) (v2:LI):bM.l3 (R:=R) k v0 e0 (n+1) v1 v2=bM.s3 k v0 e0 (bM.l3 k v0 e0 n) v1 v2:=rfl
def bM.f (k:Nat) (a:LI) (g:Int):Option (LI):=
 (aF.f k a).bind fun r1=>
 bM.l3 k g (fun x4=>
  some x4) k (IntKind.wrap .i64 ((r1.length:Int)-1)) r1
def cM.s3 {R:Type} (k:Nat) (v0:LI) (e0:LI->Option R) (rec:Int->LI->Option R) (v1:Int) (v2:LI):Option R:=
 bif decide (v1<52) then
  (fB.f k v0 v1).bind fun r1=>
  bif (!r1) then
   aC (decide ((v2.length+1)*8<=room))<|
   rec (IntKind.wrap .i64 (v1+1)) (v2++[v1])
  else
   rec (IntKind.wrap .i64 (v1+1)) v2
 else
  e0 v2
def cM.l3 {R:Type} (k:Nat) (v0:LI) (e0:LI->Option R) (n:Nat) (v1:Int) (v2:LI):Option R:=
 V.iter (A:=Int×LI) (fun rec a=>cM.s3 k v0 e0 (fun c0 c1=>rec (c0,c1)) a.1 a.2) n (v1,v2)
theorem cM.aE {R:Type} (k:Nat) (v0:LI) (e0:LI->Option R) (n:Nat) (v1:Int) (v2:LI):cM.l3 (R:=R) k v0 e0 (n+1) v1 v2=cM.s3 k v0 e0 (cM.l3 k v0 e0 n) v1 v2:=rfl
def cM.f (k:Nat) (a:LI):Option (LI):=
 cM.l3 k a (fun x2=>
  some x2) k 0 []
def ik.f (k:Nat):Option (LI):=
 (cM.f k []).bind fun r1=>
 some r1
def bR.s3 {R:Type} (k:Nat) (v1:LI) (v2:Int) (e0:Int->Option R) (rec:Int->Int->Option R) (v0 v3:Int):Option R:=
 bif decide (v3<v2) then
  aC ((decide (0<=v3))&&(decide (v3<(v1.length:Int))))<|
  (gy.f k (v1.getD v3.toNat 0) 1000001).bind fun r1=>
  rec ((IntKind.wrap .i64 (v0+r1)).tmod 1000001) (IntKind.wrap .i64 (v3+1))
 else
  e0 v0
def bR.l3 {R:Type} (k:Nat) (v1:LI) (v2:Int) (e0:Int->Option R) (n:Nat) (v0 v3:Int):Option R:=
 V.iter (A:=Int×Int) (fun rec a=>bR.s3 k v1 v2 e0 (fun c0 c1=>rec (c0,c1)) a.1 a.2) n (v0,v3)
theorem bR.aE {R:Type} (k:Nat) (v1:LI) (v2:Int) (e0:Int->Option R) (n:Nat) (v0 v3:Int):bR.l3 (R:=R) k v1 v2 e0 (n+1) v0 v3=bR.s3 k v1 v2 e0 (bR.l3 k v1 v2 e0 n) v0 v3:=rfl
def bR.f (k:Nat) (a:LI):Option (Int):=
 bR.l3 k a (a.length:Int) (fun x2=>
  some x2) k 0 0
def gz.f (k:Nat) (a g i:LI):Option (LI×Bool):=
 (bQ.f k a g i).bind fun r1=>
 bif (!r1) then
  some ([],false)
 else
  (ik.f k).bind fun r2=>
  (bR.f k g).bind fun r3=>
  (bM.f k r2 r3).bind fun r4=>
  some (r4,true)
def il.f (k:Nat) (a0 a1:Int) (a2 a3:Bool) (a4 a5:LI) (a6 a7:Int) (a8:LI) (a9:Bool) (dX:LI) (cV a12:Int) (dU iD:Bool) (iE iF:LI) (iG iH:Int) (iI:LL) (a20 a21:LI) (iJ iK a24:Int) (jh:LI) (jq:LL):Option (Bool):=
 bif ((a8.length:Int)==a0) then
  some (!a9)
 else
  some false
def gb.f (k:Nat) (a0 a1:Int) (a2 a3:Bool) (a4 a5:LI) (a6 a7:Int) (a8:LI) (a9:Bool) (dX:LI) (cV a12:Int) (dU iD:Bool) (iE iF:LI) (iG iH:Int) (iI:LL) (a20 a21:LI) (iJ iK a24:Int) (jh:LI) (jq:LL) (g i:LI):Option (Int×Int×Bool×Bool×LI×LI×Int×Int×LI×Bool×LI×Int×Int×Bool×Bool×LI×LI×Int×Int×LL×LI×LI×Int×Int×Int×LI×LL×Bool):=
 (aD.f k a0 a1 a2 a3 a4 a5 a6 a7 a8 a9 dX cV a12 dU iD iE iF iG iH iI a20 a21 iJ iK a24 jh jq).bind fun r1=>
 (gz.f k a8 g i).bind fun r2=>
 (fy.f k a0 a1 a2 a3 a4 a5 a6 a7 r2.1).bind fun r3=>
 (il.f k a0 a1 a2 a3 a4 a5 a6 a7 a8 a9 dX cV a12 dU iD iE iF iG iH iI a20 a21 iJ iK a24 jh jq).bind fun r4=>
 bif r4 then
  bif r2.2 then
   (au.f k a0 a1 a2 a3 a4 a5 a6 a7 a8 a9 dX cV a12 dU iD iE iF iG iH iI a20 a21 iJ iK a24 jh jq r1.1 r1.2.1 (t2 r1).1 (t3 r1).1 (t4 r1).1 (t5 r1).1 (t6 r1).1 (t7 r1).1 (t8 r1).1 true r2.1 r3.1 r3.2.1 (t2 r3).1 (t3 r3).1 (t4 r3).1 (t5 r3).1 (t6 r3).1 (t7 r3).1 (t8 r3).1 (t9 r3).1 (t9 r3.2).1 (t9 (t2 r3)).1 (t9 (t3 r3)).1 (t9 (t4 r3)).1 [] (t9 (t9 (t8 r1))) (t9 (t5 r3))).bind fun r5=>
   some r5
  else
   (au.f k a0 a1 a2 a3 a4 a5 a6 a7 a8 a9 dX cV a12 dU iD iE iF iG iH iI a20 a21 iJ iK a24 jh jq r1.1 r1.2.1 (t2 r1).1 (t3 r1).1 (t4 r1).1 (t5 r1).1 (t6 r1).1 (t7 r1).1 (t8 r1).1 true r2.1 r3.1 r3.2.1 (t2 r3).1 (t3 r3).1 (t4 r3).1 (t5 r3).1 (t6 r3).1 (t7 r3).1 (t8 r3).1 (t9 r3).1 (t9 r3.2).1 (t9 (t2 r3)).1 (t9 (t3 r3)).1 (t9 (t4 r3)).1 [] (t9 (t9 (t8 r1))) false).bind fun r6=>
   some r6
 else
  (au.f k a0 a1 a2 a3 a4 a5 a6 a7 a8 a9 dX cV a12 dU iD iE iF iG iH iI a20 a21 iJ iK a24 jh jq r1.1 r1.2.1 (t2 r1).1 (t3 r1).1 (t4 r1).1 (t5 r1).1 (t6 r1).1 (t7 r1).1 (t8 r1).1 true r2.1 r3.1 r3.2.1 (t2 r3).1 (t3 r3).1 (t4 r3).1 (t5 r3).1 (t6 r3).1 (t7 r3).1 (t8 r3).1 (t9 r3).1 (t9 r3.2).1 (t9 (t2 r3)).1 (t9 (t3 r3)).1 (t9 (t4 r3)).1 [] (t9 (t9 (t8 r1))) false).bind fun r7=>
  some r7
def gQ.f (k:Nat) (a0:LI) (a1 a2:Int):Option (Int×LI×Int×Int):=
 (ao.f k a0 a1 a2 52).bind fun r1=>
 (ao.f k r1.2.1 (t2 r1).1 (t3 r1) 52).bind fun r2=>
 (ao.f k r2.2.1 (t2 r2).1 (t3 r2) 52).bind fun r3=>
 (cv.f k r3.2.1 (t2 r3).1 (t3 r3) [r1.1,r2.1,r3.1,0,51,52,(-1),9223372036854775807]).bind fun r4=>
 some r4
def eC.f (k:Nat) (a:LI):Option (Int×Int×Bool×Bool×LI×LI×Int×Int×LI×Bool×LI×Int×Int×Bool×Bool×LI×LI×Int×Int×LL×LI×LI×Int×Int×Int×LI×LL×Int):=
 (bw.f k a).bind fun r1=>
 (aT.f k r1.1 r1.2.1 (t2 r1)).bind fun r2=>
 (bp.f k (t9 (t2 r2)).1 (t9 (t3 r2)).1 (t9 (t4 r2)).1 (t9 (t5 r2)).1 (t9 (t6 r2)).1 (t9 (t7 r2)).1 (t9 (t8 r2)).1 (t9 (t9 r2)).1 (t9 (t9 r2.2)).1 (t9 (t9 (t2 r2))).1 (t9 (t9 (t3 r2))).1 (t9 (t9 (t4 r2))).1 (t9 (t9 (t5 r2))).1 (t9 (t9 (t6 r2))).1).bind fun r3=>
 bif decide ((r3.length:Int)>0) then
  (aI.f k (t9 (t9 (t9 r2))).1 (t9 (t9 (t9 r2.2))).1 (t9 (t9 (t9 (t2 r2)))) 4).bind fun r4=>
  bif (!r4.1) then
   aC (decide (0<(r3.length:Int)))<|
   some (r2.1,r2.2.1,(t2 r2).1,(t3 r2).1,(t4 r2).1,(t5 r2).1,(t6 r2).1,(t7 r2).1,(t8 r2).1,(t9 r2).1,(t9 r2.2).1,(t9 (t2 r2)).1,(t9 (t3 r2)).1,(t9 (t4 r2)).1,(t9 (t5 r2)).1,(t9 (t6 r2)).1,(t9 (t7 r2)).1,(t9 (t8 r2)).1,(t9 (t9 r2)).1,(t9 (t9 r2.2)).1,(t9 (t9 (t2 r2))).1,(t9 (t9 (t3 r2))).1,(t9 (t9 (t4 r2))).1,(t9 (t9 (t5 r2))).1,(t9 (t9 (t6 r2))).1,(t9 (t9 (t7 r2))).1,(t9 (t9 (t8 r2))).1,r3.getD 0 0)
  else
   (gQ.f k r4.2.1 (t2 r4).1 (t3 r4)).bind fun r5=>
   some (r2.1,r2.2.1,(t2 r2).1,(t3 r2).1,(t4 r2).1,(t5 r2).1,(t6 r2).1,(t7 r2).1,(t8 r2).1,(t9 r2).1,(t9 r2.2).1,(t9 (t2 r2)).1,(t9 (t3 r2)).1,(t9 (t4 r2)).1,(t9 (t5 r2)).1,(t9 (t6 r2)).1,(t9 (t7 r2)).1,(t9 (t8 r2)).1,(t9 (t9 r2)).1,(t9 (t9 r2.2)).1,(t9 (t9 (t2 r2))).1,(t9 (t9 (t3 r2))).1,(t9 (t9 (t4 r2))).1,(t9 (t9 (t5 r2))).1,(t9 (t9 (t6 r2))).1,(t9 (t9 (t7 r2))).1,(t9 (t9 (t8 r2))).1,r5.1)
 else
  (gQ.f k (t9 (t9 (t9 r2))).1 (t9 (t9 (t9 r2.2))).1 (t9 (t9 (t9 (t2 r2))))).bind fun r6=>
  some (r2.1,r2.2.1,(t2 r2).1,(t3 r2).1,(t4 r2).1,(t5 r2).1,(t6 r2).1,(t7 r2).1,(t8 r2).1,(t9 r2).1,(t9 r2.2).1,(t9 (t2 r2)).1,(t9 (t3 r2)).1,(t9 (t4 r2)).1,(t9 (t5 r2)).1,(t9 (t6 r2)).1,(t9 (t7 r2)).1,(t9 (t8 r2)).1,(t9 (t9 r2)).1,(t9 (t9 r2.2)).1,(t9 (t9 (t2 r2))).1,(t9 (t9 (t3 r2))).1,(t9 (t9 (t4 r2))).1,(t9 (t9 (t5 r2))).1,(t9 (t9 (t6 r2))).1,(t9 (t9 (t7 r2))).1,(t9 (t9 (t8 r2))).1,r6.1)
def eW.f (k:Nat) (a0 a1:Int) (a2 a3:Bool) (a4 a5:LI) (a6 a7:Int) (a8:LI) (a9:Bool) (dX:LI) (cV a12:Int) (dU iD:Bool) (iE iF:LI) (iG iH:Int) (iI:LL) (a20 a21:LI) (iJ iK a24:Int) (jh:LI) (jq:LL) (g:Int):Option (Int×Int×Bool×Bool×LI×LI×Int×Int×LI×Bool×LI×Int×Int×Bool×Bool×LI×LI×Int×Int×LL×LI×LI×Int×Int×Int×LI×LL×Bool):=
 (aD.f k a0 a1 a2 a3 a4 a5 a6 a7 a8 a9 dX cV a12 dU iD iE iF iG iH iI a20 a21 iJ iK a24 jh jq).bind fun r1=>
 (ec.f k cV a12 dU iD iE iF iG iH iI a20 a21 iJ iK a24 g).bind fun r2=>
 aC (decide (((t9 (t9 (t7 r1))).1.length+1)*8<=room))<|
 bif a9 then
  (au.f k a0 a1 a2 a3 a4 a5 a6 a7 a8 a9 dX cV a12 dU iD iE iF iG iH iI a20 a21 iJ iK a24 jh jq r1.1 r1.2.1 (t2 r1).1 (t3 r1).1 (t4 r1).1 (t5 r1).1 (t6 r1).1 (t7 r1).1 (t8 r1).1 (t9 r1).1 (t9 r1.2).1 r2.1 r2.2.1 (t2 r2).1 (t3 r2).1 (t4 r2).1 (t5 r2).1 (t6 r2).1 (t7 r2).1 (t8 r2).1 (t9 r2).1 (t9 r2.2).1 (t9 (t2 r2)).1 (t9 (t3 r2)).1 (t9 (t4 r2)).1 ((t9 (t9 (t7 r1))).1++[g]) (t9 (t9 (t8 r1))) (t9 (t5 r2))).bind fun r3=>
  some r3
 else
  (au.f k a0 a1 a2 a3 a4 a5 a6 a7 a8 a9 dX cV a12 dU iD iE iF iG iH iI a20 a21 iJ iK a24 jh jq r1.1 r1.2.1 (t2 r1).1 (t3 r1).1 (t4 r1).1 (t5 r1).1 (t6 r1).1 (t7 r1).1 (t8 r1).1 (t9 r1).1 (t9 r1.2).1 r2.1 r2.2.1 (t2 r2).1 (t3 r2).1 (t4 r2).1 (t5 r2).1 (t6 r2).1 (t7 r2).1 (t8 r2).1 (t9 r2).1 (t9 r2.2).1 (t9 (t2 r2)).1 (t9 (t3 r2)).1 (t9 (t4 r2)).1 ((t9 (t9 (t7 r1))).1++[g]) (t9 (t9 (t8 r1))) false).bind fun r4=>
  some r4
def gd.f (k:Nat) (a0 a1:Int) (a2 a3:Bool) (a4 a5:LI) (a6 a7:Int) (a8:LI) (a9:Bool) (dX:LI) (cV a12:Int) (dU iD:Bool) (iE iF:LI) (iG iH:Int) (iI:LL) (a20 a21:LI) (iJ iK a24:Int) (jh:LI) (jq:LL) (g:Int):Option (Int×Int×Bool×Bool×LI×LI×Int×Int×LI×Bool×LI×Int×Int×Bool×Bool×LI×LI×Int×Int×LL×LI×LI×Int×Int×Int×LI×LL×Bool):=
 (bX.f k g).bind fun r1=>
 bif (!r1) then
  (aD.f k a0 a1 a2 a3 a4 a5 a6 a7 a8 a9 dX cV a12 dU iD iE iF iG iH iI a20 a21 iJ iK a24 jh jq).bind fun r2=>
  some (r2.1,r2.2.1,(t2 r2).1,(t3 r2).1,(t4 r2).1,(t5 r2).1,(t6 r2).1,(t7 r2).1,(t8 r2).1,(t9 r2).1,(t9 r2.2).1,(t9 (t2 r2)).1,(t9 (t3 r2)).1,(t9 (t4 r2)).1,(t9 (t5 r2)).1,(t9 (t6 r2)).1,(t9 (t7 r2)).1,(t9 (t8 r2)).1,(t9 (t9 r2)).1,(t9 (t9 r2.2)).1,(t9 (t9 (t2 r2))).1,(t9 (t9 (t3 r2))).1,(t9 (t9 (t4 r2))).1,(t9 (t9 (t5 r2))).1,(t9 (t9 (t6 r2))).1,(t9 (t9 (t7 r2))).1,(t9 (t9 (t8 r2))),false)
 else
  (eW.f k a0 a1 a2 a3 a4 a5 a6 a7 a8 a9 dX cV a12 dU iD iE iF iG iH iI a20 a21 iJ iK a24 jh jq g).bind fun r3=>
  some r3
def dx.f (k:Nat) (a:LI):Option (Int×Int×Bool×Bool×LI×LI×Int×Int×LI×Bool×LI×Int×Int×Bool×Bool×LI×LI×Int×Int×LL×LI×LI×Int×Int×Int×LI×LL):=
 (bw.f k a).bind fun r1=>
 (aT.f k r1.1 r1.2.1 (t2 r1)).bind fun r2=>
 some (r2.1,r2.2.1,(t2 r2).1,(t3 r2).1,(t4 r2).1,(t5 r2).1,(t6 r2).1,(t7 r2).1,(t8 r2).1,(t9 r2).1,(t9 r2.2).1,(t9 (t2 r2)).1,(t9 (t3 r2)).1,(t9 (t4 r2)).1,(t9 (t5 r2)).1,(t9 (t6 r2)).1,(t9 (t7 r2)).1,(t9 (t8 r2)).1,(t9 (t9 r2)).1,(t9 (t9 r2.2)).1,(t9 (t9 (t2 r2))).1,(t9 (t9 (t3 r2))).1,(t9 (t9 (t4 r2))).1,(t9 (t9 (t5 r2))).1,(t9 (t9 (t6 r2))).1,(t9 (t9 (t7 r2))).1,(t9 (t9 (t8 r2))).1)
def gf.f (k:Nat) (a0 a1:Int) (a2 a3:Bool) (a4 a5:LI) (a6 a7:Int) (a8:LI) (a9:Bool) (dX:LI) (cV a12:Int) (dU iD:Bool) (iE iF:LI) (iG iH:Int) (iI:LL) (a20 a21:LI) (iJ iK a24:Int) (jh:LI) (jq:LL):Option (Int×Int×Bool×Bool×LI×LI×Int×Int×LI×Bool×LI×Int×Int×Bool×Bool×LI×LI×Int×Int×LL×LI×LI×Int×Int×Int×LI×LL×Bool):=
 (eW.f k a0 a1 a2 a3 a4 a5 a6 a7 a8 a9 dX cV a12 dU iD iE iF iG iH iI a20 a21 iJ iK a24 jh jq (-1)).bind fun r1=>
 some r1
def ey.f (k:Nat) (a:LI):Option (Int×Int×Bool×Bool×LI×LI×Int×Int×LI×Bool×LI×Int×Int×Bool×Bool×LI×LI×Int×Int×LL×LI×LI×Int×Int×Int×LI×LL):=
 (dx.f k a).bind fun r1=>
 some r1
def iX.f (k:Nat) (a:Int):Option (Int):=
 (dz.f k a).bind fun r1=>
 bif decide (r1<0) then
  some 0
 else
  bif decide (r1<=8) then
   some (IntKind.wrap .i64 (r1+2))
  else
   bif (r1==12) then
    some 1
   else
    some 10
def db.s3 {R:Type} (k:Nat) (v1:LI) (v2:Int) (e0:Int->Option R) (rec:Int->Int->Option R) (v0 v3:Int):Option R:=
 bif decide (v3<v2) then
  aC ((decide (0<=v3))&&(decide (v3<(v1.length:Int))))<|
  (iX.f k (v1.getD v3.toNat 0)).bind fun r1=>
  rec (IntKind.wrap .i64 (v0+r1)) (IntKind.wrap .i64 (v3+1))
 else
  e0 v0
def db.l3 {R:Type} (k:Nat) (v1:LI) (v2:Int) (e0:Int->Option R) (n:Nat) (v0 v3:Int):Option R:=
 V.iter (A:=Int×Int) (fun rec a=>db.s3 k v1 v2 e0 (fun c0 c1=>rec (c0,c1)) a.1 a.2) n (v0,v3)
theorem db.aE {R:Type} (k:Nat) (v1:LI) (v2:Int) (e0:Int->Option R) (n:Nat) (v0 v3:Int):db.l3 (R:=R) k v1 v2 e0 (n+1) v0 v3=db.s3 k v1 v2 e0 (db.l3 k v1 v2 e0 n) v0 v3:=rfl
def db.f (k:Nat) (a:LI):Option (Int):=
 db.l3 k a (a.length:Int) (fun x2=>
  some x2) k 0 0
def bH.s3 {R:Type} (k:Nat) (v0:LL) (v1:Int) (e0:LI->Option R) (rec:Int->LI->Option R) (v2:Int) (v3:LI):Option R:=
 bif decide (v2<v1) then
  aC ((decide (0<=v2))&&(decide (v2<(v0.length:Int))))<|
  (db.f k (v0.getD v2.toNat [])).bind fun r1=>
  aC (decide ((v3.length+1)*8<=room))<|
  rec (IntKind.wrap .i64 (v2+1)) (v3++[r1])
 else
  e0 v3
def bH.l3 {R:Type} (k:Nat) (v0:LL) (v1:Int) (e0:LI->Option R) (n:Nat) (v2:Int) (v3:LI):Option R:=
 V.iter (A:=Int×LI) (fun rec a=>bH.s3 k v0 v1 e0 (fun c0 c1=>rec (c0,c1)) a.1 a.2) n (v2,v3)
theorem bH.aE {R:Type} (k:Nat) (v0:LL) (v1:Int) (e0:LI->Option R) (n:Nat) (v2:Int) (v3:LI):bH.l3 (R:=R) k v0 v1 e0 (n+1) v2 v3=bH.s3 k v0 v1 e0 (bH.l3 k v0 v1 e0 n) v2 v3:=rfl
def bH.f (k:Nat) (a0 a1:Int) (a2 a3:Bool) (a4 a5:LI) (a6 a7:Int) (a8:LL) (a9 dX:LI) (cV a12 dU:Int):Option (LI):=
 bH.l3 k a8 (a8.length:Int) (fun x2=>
  some x2) k 0 []
def ck.s8 {R:Type} (k:Nat) (v1:Int) (v3:LI) (e0:LI->Option R) (rec:Int->LI->Option R) (v2:Int) (v4:LI):Option R:=
 bif decide (v2<v1) then
  aC ((decide (0<=v2))&&(decide (v2<(v3.length:Int))))<|
  aC ((decide (0<=v2))&&(decide (v2<(v4.length:Int))))<|
  rec (IntKind.wrap .i64 (v2+1)) (v4.set v2.toNat (IntKind.wrap .i64 (0-(v3.getD v2.toNat 0))))
 else
  e0 v4
def ck.l8 {R:Type} (k:Nat) (v1:Int) (v3:LI) (e0:LI->Option R) (n:Nat) (v2:Int) (v4:LI):Option R:=
 V.iter (A:=Int×LI) (fun rec a=>ck.s8 k v1 v3 e0 (fun c0 c1=>rec (c0,c1)) a.1 a.2) n (v2,v4)
theorem ck.Ik {R:Type} (k:Nat) (v1:Int) (v3:LI) (e0:LI->Option R) (n:Nat) (v2:Int) (v4:LI):ck.l8 (R:=R) k v1 v3 e0 (n+1) v2 v4=ck.s8 k v1 v3 e0 (ck.l8 k v1 v3 e0 n) v2 v4:=rfl
def ck.f (k:Nat) (a0 a1:Int) (a2 a3:Bool) (a4 a5:LI) (a6 a7:Int) (a8:LL) (a9 dX:LI) (cV a12 dU:Int):Option (LI):=
 (cT.f k a0 a1 a2 a3 a4 a5 a6 a7 a8 a9 dX cV a12 dU).bind fun r1=>
 bif (!r1) then
  some ([])
 else
  (bY.f k a0 a1 a2 a3 a4 a5 a6 a7 a8 a9 dX cV a12 dU).bind fun r2=>
  (bH.f k a0 a1 a2 a3 a4 a5 a6 a7 a8 a9 dX cV a12 dU).bind fun r3=>
  aC ((decide (0<=(r3.length:Int)))&&(decide (((r3.length:Int).toNat)*8<=room)))<|
  bif decide (r2<0) then
   some (List.replicate ((r3.length:Int).toNat) 0)
  else
   ck.l8 k (r3.length:Int) r3 (fun x4=>
    (dq.f k r3).bind fun r5=>
    aC ((decide (0<=r2))&&(decide (r2<(x4.length:Int))))<|
    some (x4.set r2.toNat r5)) k 0 (List.replicate ((r3.length:Int).toNat) 0)
def fg.f (k:Nat) (a0 a1:Int) (a2 a3:Bool) (a4 a5:LI) (a6 a7:Int) (a8:LI) (a9:Bool) (dX:LI) (cV a12:Int) (dU iD:Bool) (iE iF:LI) (iG iH:Int) (iI:LL) (a20 a21:LI) (iJ iK a24:Int) (jh:LI) (jq:LL):Option (Int×Int×Bool×Bool×LI×LI×Int×Int×LI×Bool×LI×Int×Int×Bool×Bool×LI×LI×Int×Int×LL×LI×LI×Int×Int×Int×LI×LL×Bool):=
 (aD.f k a0 a1 a2 a3 a4 a5 a6 a7 a8 a9 dX cV a12 dU iD iE iF iG iH iI a20 a21 iJ iK a24 jh jq).bind fun r1=>
 (ck.f k cV a12 dU iD iE iF iG iH iI a20 a21 iJ iK a24).bind fun r2=>
 aC (decide (((t9 (t9 (t8 r1))).length+1)*24<=room))<|
 bif a9 then
  (eh.f k cV a12 dU iD iE iF iG iH iI a20 a21 iJ iK a24).bind fun r3=>
  (au.f k a0 a1 a2 a3 a4 a5 a6 a7 a8 a9 dX cV a12 dU iD iE iF iG iH iI a20 a21 iJ iK a24 jh jq r1.1 r1.2.1 (t2 r1).1 (t3 r1).1 (t4 r1).1 (t5 r1).1 (t6 r1).1 (t7 r1).1 [] false [] 0 0 false false [] [] 0 0 [] [] [] 0 0 0 [] ((t9 (t9 (t8 r1)))++[r2]) r3).bind fun r4=>
  some r4
 else
  (au.f k a0 a1 a2 a3 a4 a5 a6 a7 a8 a9 dX cV a12 dU iD iE iF iG iH iI a20 a21 iJ iK a24 jh jq r1.1 r1.2.1 (t2 r1).1 (t3 r1).1 (t4 r1).1 (t5 r1).1 (t6 r1).1 (t7 r1).1 [] false [] 0 0 false false [] [] 0 0 [] [] [] 0 0 0 [] ((t9 (t9 (t8 r1)))++[r2]) false).bind fun r5=>
  some r5
def aN.s5 {R:Type} (k:Nat) (e0:ByteArray->Option R) (rec:ByteArray->Int->Option R) (v1:ByteArray) (v2:Int):Option R:=
 bif (v2 != 0) then
  bif decide ((v2.tmod 10)<0) then
   aC (decide ((strOf [IntKind.wrap .u8 (IntKind.wrap .i64 (48+(IntKind.wrap .i64 (0-(v2.tmod 10)))))]).size+v1.size<=eo))<|
   rec ((strOf [IntKind.wrap .u8 (IntKind.wrap .i64 (48+(IntKind.wrap .i64 (0-(v2.tmod 10)))))])++v1) (IntKind.wrap .i64 (v2.tdiv 10))
  else
   aC (decide ((strOf [IntKind.wrap .u8 (IntKind.wrap .i64 (48+(v2.tmod 10)))]).size+v1.size<=eo))<|
   rec ((strOf [IntKind.wrap .u8 (IntKind.wrap .i64 (48+(v2.tmod 10)))])++v1) (IntKind.wrap .i64 (v2.tdiv 10))
 else
  e0 v1
def aN.l5 {R:Type} (k:Nat) (e0:ByteArray->Option R) (n:Nat) (v1:ByteArray) (v2:Int):Option R:=
 V.iter (A:=ByteArray×Int) (fun rec a=>aN.s5 k e0 (fun c0 c1=>rec (c0,c1)) a.1 a.2) n (v1,v2)
theorem aN.de {R:Type} (k:Nat) (e0:ByteArray->Option R) (n:Nat) (v1:ByteArray) (v2:Int):aN.l5 (R:=R) k e0 (n+1) v1 v2=aN.s5 k e0 (aN.l5 k e0 n) v1 v2:=rfl
def aN.f (k:Nat) (a:Int):Option (ByteArray):=
 bif (a==0) then
  some (⟨#[48]⟩:ByteArray)
 else
  aN.l5 k (fun x1=>
   bif decide (a<0) then
    aC (decide ((⟨#[45]⟩:ByteArray).size+x1.size<=eo))<|
    some ((⟨#[45]⟩:ByteArray)++x1)
   else
    some x1) k ByteArray.empty a
def gA.f (k:Nat) (a0 a1:Int) (a2 a3:Bool) (a4 a5:LI) (a6 a7:Int):Option (ByteArray):=
 bif a2 then
  bif a3 then
   some (⟨#[98,111,116,104]⟩:ByteArray)
  else
   bif a2 then
    some (⟨#[115,117,105,116]⟩:ByteArray)
   else
    bif a3 then
     some (⟨#[114,97,110,107]⟩:ByteArray)
    else
     some ByteArray.empty
 else
  bif a2 then
   some (⟨#[115,117,105,116]⟩:ByteArray)
  else
   bif a3 then
    some (⟨#[114,97,110,107]⟩:ByteArray)
   else
    some ByteArray.empty
def gg.f (k:Nat) (a:Int):Option (ByteArray):=
 aC ((decide (0<=(IntKind.wrap .i64 (a+1))))&&(decide ((IntKind.wrap .i64 (a+1))<=13)))<|
 aC ((decide (0<=a))&&(decide (a<=(IntKind.wrap .i64 (a+1)))))<|
 some ((⟨#[50,51,52,53,54,55,56,57,84,74,81,75,65]⟩:ByteArray).extract a.toNat ((IntKind.wrap .i64 (a+1)).toNat))
def iP.f (k:Nat) (a:Int):Option (ByteArray):=
 bif (a==400) then
  some (⟨#[114]⟩:ByteArray)
 else
  bif decide (a>=300) then
   (gg.f k (IntKind.wrap .i64 (a-300))).bind fun r1=>
   aC (decide (r1.size+(⟨#[43]⟩:ByteArray).size<=eo))<|
   some (r1++(⟨#[43]⟩:ByteArray))
  else
   bif decide (a>=200) then
    (gg.f k (IntKind.wrap .i64 (a-200))).bind fun r2=>
    some r2
   else
    aC ((decide (0<=(IntKind.wrap .i64 ((IntKind.wrap .i64 (a-100))+1))))&&(decide ((IntKind.wrap .i64 ((IntKind.wrap .i64 (a-100))+1))<=4)))<|
    aC ((decide (0<=(IntKind.wrap .i64 (a-100))))&&(decide ((IntKind.wrap .i64 (a-100))<=(IntKind.wrap .i64 ((IntKind.wrap .i64 (a-100))+1)))))<|
    some ((⟨#[99,100,104,115]⟩:ByteArray).extract ((IntKind.wrap .i64 (a-100)).toNat) ((IntKind.wrap .i64 ((IntKind.wrap .i64 (a-100))+1)).toNat))
def aS.s5 {R:Type} (k:Nat) (v0:LI) (e0:List ByteArray->Option R) (rec:Int->List ByteArray->Option R) (v1:Int) (v2:List ByteArray):Option R:=
 bif decide (v1<(v0.length:Int)) then
  aC ((decide (0<=v1))&&(decide (v1<(v0.length:Int))))<|
  bif ((v0.getD v1.toNat 0)==(-1)) then
   aC ((decide (0<=(IntKind.wrap .i64 ((v2.length:Int)-1))))&&(decide ((IntKind.wrap .i64 ((v2.length:Int)-1))<(v2.length:Int))))<|
   aC (decide ((⟨#[33]⟩:ByteArray).size+(v2.getD ((IntKind.wrap .i64 ((v2.length:Int)-1)).toNat) ByteArray.empty).size<=eo))<|
   aC ((decide (0<=(IntKind.wrap .i64 ((v2.length:Int)-1))))&&(decide ((IntKind.wrap .i64 ((v2.length:Int)-1))<(v2.length:Int))))<|
   rec (IntKind.wrap .i64 (v1+1)) (v2.set ((IntKind.wrap .i64 ((v2.length:Int)-1)).toNat) ((⟨#[33]⟩:ByteArray)++(v2.getD ((IntKind.wrap .i64 ((v2.length:Int)-1)).toNat) ByteArray.empty)))
  else
   bif ((v0.getD v1.toNat 0)==(-2)) then
    aC ((decide (0<=(IntKind.wrap .i64 ((v2.length:Int)-2))))&&(decide ((IntKind.wrap .i64 ((v2.length:Int)-2))<=(v2.length:Int))))<|
    aC (decide (0<=(IntKind.wrap .i64 ((v2.length:Int)-2))))<|
    aC ((decide (0<=(IntKind.wrap .i64 ((v2.length:Int)-2))))&&(decide ((IntKind.wrap .i64 ((v2.length:Int)-2))<(v2.length:Int))))<|
    aC (decide ((⟨#[40]⟩:ByteArray).size+(v2.getD ((IntKind.wrap .i64 ((v2.length:Int)-2)).toNat) ByteArray.empty).size<=eo))<|
    aC (decide (((⟨#[40]⟩:ByteArray)++(v2.getD ((IntKind.wrap .i64 ((v2.length:Int)-2)).toNat) ByteArray.empty)).size+(⟨#[38]⟩:ByteArray).size<=eo))<|
    aC ((decide (0<=(IntKind.wrap .i64 ((v2.length:Int)-1))))&&(decide ((IntKind.wrap .i64 ((v2.length:Int)-1))<(v2.length:Int))))<|
    aC (decide ((((⟨#[40]⟩:ByteArray)++(v2.getD ((IntKind.wrap .i64 ((v2.length:Int)-2)).toNat) ByteArray.empty))++(⟨#[38]⟩:ByteArray)).size+(v2.getD ((IntKind.wrap .i64 ((v2.length:Int)-1)).toNat) ByteArray.empty).size<=eo))<|
    aC (decide (((((⟨#[40]⟩:ByteArray)++(v2.getD ((IntKind.wrap .i64 ((v2.length:Int)-2)).toNat) ByteArray.empty))++(⟨#[38]⟩:ByteArray))++(v2.getD ((IntKind.wrap .i64 ((v2.length:Int)-1)).toNat) ByteArray.empty)).size+(⟨#[41]⟩:ByteArray).size<=eo))<|
    aC (decide ((((v2.take ((IntKind.wrap .i64 ((v2.length:Int)-2)).toNat)).length)+1)*16<=room))<|
    rec (IntKind.wrap .i64 (v1+1)) ((v2.take ((IntKind.wrap .i64 ((v2.length:Int)-2)).toNat))++([((((⟨#[40]⟩:ByteArray)++(v2.getD ((IntKind.wrap .i64 ((v2.length:Int)-2)).toNat) ByteArray.empty))++(⟨#[38]⟩:ByteArray))++(v2.getD ((IntKind.wrap .i64 ((v2.length:Int)-1)).toNat) ByteArray.empty))++(⟨#[41]⟩:ByteArray)]))
   else
    bif ((v0.getD v1.toNat 0)==(-3)) then
     aC ((decide (0<=(IntKind.wrap .i64 ((v2.length:Int)-2))))&&(decide ((IntKind.wrap .i64 ((v2.length:Int)-2))<=(v2.length:Int))))<|
     aC (decide (0<=(IntKind.wrap .i64 ((v2.length:Int)-2))))<|
     aC ((decide (0<=(IntKind.wrap .i64 ((v2.length:Int)-2))))&&(decide ((IntKind.wrap .i64 ((v2.length:Int)-2))<(v2.length:Int))))<|
     aC (decide ((⟨#[40]⟩:ByteArray).size+(v2.getD ((IntKind.wrap .i64 ((v2.length:Int)-2)).toNat) ByteArray.empty).size<=eo))<|
     aC (decide (((⟨#[40]⟩:ByteArray)++(v2.getD ((IntKind.wrap .i64 ((v2.length:Int)-2)).toNat) ByteArray.empty)).size+(⟨#[124]⟩:ByteArray).size<=eo))<|
     aC ((decide (0<=(IntKind.wrap .i64 ((v2.length:Int)-1))))&&(decide ((IntKind.wrap .i64 ((v2.length:Int)-1))<(v2.length:Int))))<|
     aC (decide ((((⟨#[40]⟩:ByteArray)++(v2.getD ((IntKind.wrap .i64 ((v2.length:Int)-2)).toNat) ByteArray.empty))++(⟨#[124]⟩:ByteArray)).size+(v2.getD ((IntKind.wrap .i64 ((v2.length:Int)-1)).toNat) ByteArray.empty).size<=eo))<|
     aC (decide (((((⟨#[40]⟩:ByteArray)++(v2.getD ((IntKind.wrap .i64 ((v2.length:Int)-2)).toNat) ByteArray.empty))++(⟨#[124]⟩:ByteArray))++(v2.getD ((IntKind.wrap .i64 ((v2.length:Int)-1)).toNat) ByteArray.empty)).size+(⟨#[41]⟩:ByteArray).size<=eo))<|
     aC (decide ((((v2.take ((IntKind.wrap .i64 ((v2.length:Int)-2)).toNat)).length)+1)*16<=room))<|
     rec (IntKind.wrap .i64 (v1+1)) ((v2.take ((IntKind.wrap .i64 ((v2.length:Int)-2)).toNat))++([((((⟨#[40]⟩:ByteArray)++(v2.getD ((IntKind.wrap .i64 ((v2.length:Int)-2)).toNat) ByteArray.empty))++(⟨#[124]⟩:ByteArray))++(v2.getD ((IntKind.wrap .i64 ((v2.length:Int)-1)).toNat) ByteArray.empty))++(⟨#[41]⟩:ByteArray)]))
    else
     aC ((decide (0<=v1))&&(decide (v1<(v0.length:Int))))<|
     (iP.f k (v0.getD v1.toNat 0)).bind fun r2=>
     aC (decide ((v2.length+1)*16<=room))<|
     rec (IntKind.wrap .i64 (v1+1)) (v2++[r2])
 else
  e0 v2
def aS.l5 {R:Type} (k:Nat) (v0:LI) (e0:List ByteArray->Option R) (n:Nat) (v1:Int) (v2:List ByteArray):Option R:=
 V.iter (A:=Int×List ByteArray) (fun rec a=>aS.s5 k v0 e0 (fun c0 c1=>rec (c0,c1)) a.1 a.2) n (v1,v2)
theorem aS.de {R:Type} (k:Nat) (v0:LI) (e0:List ByteArray->Option R) (n:Nat) (v1:Int) (v2:List ByteArray):aS.l5 (R:=R) k v0 e0 (n+1) v1 v2=aS.s5 k v0 e0 (aS.l5 k v0 e0 n) v1 v2:=rfl
def aS.f (k:Nat) (a:LI):Option (ByteArray):=
 (be.f k a).bind fun r1=>
 bif (!r1) then
  some ByteArray.empty
 else
  aS.l5 k a (fun x3=>
   aC (decide (0<(x3.length:Int)))<|
   some (x3.getD 0 ByteArray.empty)) k 0 []
def eg.f (k:Nat) (a:LI):Option (ByteArray):=
 bif ((a.length:Int)==0) then
  some (⟨#[45]⟩:ByteArray)
 else
  (aS.f k a).bind fun r1=>
  some r1
def gB.f (k:Nat) (a0 a1:Int) (a2 a3:Bool) (a4 a5:LI) (a6 a7:Int):Option (ByteArray):=
 (bV.f k a0 a1 a2 a3 a4 a5 a6 a7).bind fun r1=>
 bif (!r1) then
  some ByteArray.empty
 else
  (aN.f k a0).bind fun r2=>
  aC (decide ((⟨#[112,108,97,121,101,114,115,61]⟩:ByteArray).size+r2.size<=eo))<|
  aC (decide (((⟨#[112,108,97,121,101,114,115,61]⟩:ByteArray)++r2).size+(⟨#[32,101,97,99,104,61]⟩:ByteArray).size<=eo))<|
  (aN.f k a1).bind fun r3=>
  aC (decide ((((⟨#[112,108,97,121,101,114,115,61]⟩:ByteArray)++r2)++(⟨#[32,101,97,99,104,61]⟩:ByteArray)).size+r3.size<=eo))<|
  aC (decide (((((⟨#[112,108,97,121,101,114,115,61]⟩:ByteArray)++r2)++(⟨#[32,101,97,99,104,61]⟩:ByteArray))++r3).size+(⟨#[32,109,97,116,99,104,61]⟩:ByteArray).size<=eo))<|
  (gA.f k a0 a1 a2 a3 a4 a5 a6 a7).bind fun r4=>
  aC (decide ((((((⟨#[112,108,97,121,101,114,115,61]⟩:ByteArray)++r2)++(⟨#[32,101,97,99,104,61]⟩:ByteArray))++r3)++(⟨#[32,109,97,116,99,104,61]⟩:ByteArray)).size+r4.size<=eo))<|
  aC (decide (((((((⟨#[112,108,97,121,101,114,115,61]⟩:ByteArray)++r2)++(⟨#[32,101,97,99,104,61]⟩:ByteArray))++r3)++(⟨#[32,109,97,116,99,104,61]⟩:ByteArray))++r4).size+(⟨#[32,119,105,108,100,61]⟩:ByteArray).size<=eo))<|
  (eg.f k a4).bind fun r5=>
  aC (decide ((((((((⟨#[112,108,97,121,101,114,115,61]⟩:ByteArray)++r2)++(⟨#[32,101,97,99,104,61]⟩:ByteArray))++r3)++(⟨#[32,109,97,116,99,104,61]⟩:ByteArray))++r4)++(⟨#[32,119,105,108,100,61]⟩:ByteArray)).size+r5.size<=eo))<|
  aC (decide (((((((((⟨#[112,108,97,121,101,114,115,61]⟩:ByteArray)++r2)++(⟨#[32,101,97,99,104,61]⟩:ByteArray))++r3)++(⟨#[32,109,97,116,99,104,61]⟩:ByteArray))++r4)++(⟨#[32,119,105,108,100,61]⟩:ByteArray))++r5).size+(⟨#[32,115,107,105,112,61]⟩:ByteArray).size<=eo))<|
  (eg.f k a5).bind fun r6=>
  aC (decide ((((((((((⟨#[112,108,97,121,101,114,115,61]⟩:ByteArray)++r2)++(⟨#[32,101,97,99,104,61]⟩:ByteArray))++r3)++(⟨#[32,109,97,116,99,104,61]⟩:ByteArray))++r4)++(⟨#[32,119,105,108,100,61]⟩:ByteArray))++r5)++(⟨#[32,115,107,105,112,61]⟩:ByteArray)).size+r6.size<=eo))<|
  aC (decide (((((((((((⟨#[112,108,97,121,101,114,115,61]⟩:ByteArray)++r2)++(⟨#[32,101,97,99,104,61]⟩:ByteArray))++r3)++(⟨#[32,109,97,116,99,104,61]⟩:ByteArray))++r4)++(⟨#[32,119,105,108,100,61]⟩:ByteArray))++r5)++(⟨#[32,115,107,105,112,61]⟩:ByteArray))++r6).size+(⟨#[32,116,97,107,101,61]⟩:ByteArray).size<=eo))<|
  (aN.f k a6).bind fun r7=>
  aC (decide ((((((((((((⟨#[112,108,97,121,101,114,115,61]⟩:ByteArray)++r2)++(⟨#[32,101,97,99,104,61]⟩:ByteArray))++r3)++(⟨#[32,109,97,116,99,104,61]⟩:ByteArray))++r4)++(⟨#[32,119,105,108,100,61]⟩:ByteArray))++r5)++(⟨#[32,115,107,105,112,61]⟩:ByteArray))++r6)++(⟨#[32,116,97,107,101,61]⟩:ByteArray)).size+r7.size<=eo))<|
  aC (decide (((((((((((((⟨#[112,108,97,121,101,114,115,61]⟩:ByteArray)++r2)++(⟨#[32,101,97,99,104,61]⟩:ByteArray))++r3)++(⟨#[32,109,97,116,99,104,61]⟩:ByteArray))++r4)++(⟨#[32,119,105,108,100,61]⟩:ByteArray))++r5)++(⟨#[32,115,107,105,112,61]⟩:ByteArray))++r6)++(⟨#[32,116,97,107,101,61]⟩:ByteArray))++r7).size+(⟨#[32,108,105,109,105,116,61]⟩:ByteArray).size<=eo))<|
  (aN.f k a7).bind fun r8=>
  aC (decide ((((((((((((((⟨#[112,108,97,121,101,114,115,61]⟩:ByteArray)++r2)++(⟨#[32,101,97,99,104,61]⟩:ByteArray))++r3)++(⟨#[32,109,97,116,99,104,61]⟩:ByteArray))++r4)++(⟨#[32,119,105,108,100,61]⟩:ByteArray))++r5)++(⟨#[32,115,107,105,112,61]⟩:ByteArray))++r6)++(⟨#[32,116,97,107,101,61]⟩:ByteArray))++r7)++(⟨#[32,108,105,109,105,116,61]⟩:ByteArray)).size+r8.size<=eo))<|
  some ((((((((((((((⟨#[112,108,97,121,101,114,115,61]⟩:ByteArray)++r2)++(⟨#[32,101,97,99,104,61]⟩:ByteArray))++r3)++(⟨#[32,109,97,116,99,104,61]⟩:ByteArray))++r4)++(⟨#[32,119,105,108,100,61]⟩:ByteArray))++r5)++(⟨#[32,115,107,105,112,61]⟩:ByteArray))++r6)++(⟨#[32,116,97,107,101,61]⟩:ByteArray))++r7)++(⟨#[32,108,105,109,105,116,61]⟩:ByteArray))++r8)
def kz.f (k:Nat) (a0:LI) (a1 a2:Int):Option (LI×LI×Int×Int):=
 (aV.f k a0 a1 a2 2).bind fun r1=>
 (ao.f k r1.2.1 (t2 r1).1 (t3 r1) 10).bind fun r2=>
 bif (r2.1==0) then
  (ao.f k r2.2.1 (t2 r2).1 (t3 r2) (r1.1.length:Int)).bind fun r3=>
  (cv.f k r3.2.1 (t2 r3).1 (t3 r3) [104,99,213,313,401,(-4),(-2),9223372036854775807]).bind fun r4=>
  aC ((decide (0<=r3.1))&&(decide (r3.1<(r1.1.length:Int))))<|
  some (r1.1.set r3.1.toNat r4.1,r4.2)
 else
  bif (r2.1==1) then
   aC ((decide (0<=(r1.1.length:Int)))&&(decide ((r1.1.length:Int)<=(r1.1.length:Int))))<|
   aC (decide (1<=(r1.1.length:Int)))<|
   some ((r1.1.take ((r1.1.length:Int).toNat)).drop 1,r2.2)
  else
   some (r1.1,r2.2)
def jw.f (k:Nat) (a0:LI) (a1 a2:Int):Option (Int×Int×Bool×Bool×LI×LI×Int×Int×LI×Int×Int):=
 (di.f k a0 a1 a2).bind fun r1=>
 (ao.f k (t8 r1).1 (t9 r1).1 (t9 r1.2) 14).bind fun r2=>
 bif (r2.1==0) then
  (cv.f k r2.2.1 (t2 r2).1 (t3 r2) [1,6,7]).bind fun r3=>
  some (r3.1,r1.2.1,(t2 r1).1,(t3 r1).1,(t4 r1).1,(t5 r1).1,(t6 r1).1,(t7 r1).1,r3.2)
 else
  bif (r2.1==1) then
   (cv.f k r2.2.1 (t2 r2).1 (t3 r2) [0,8,9]).bind fun r4=>
   some (r1.1,r4.1,(t2 r1).1,(t3 r1).1,(t4 r1).1,(t5 r1).1,(t6 r1).1,(t7 r1).1,r4.2)
  else
   bif (r2.1==2) then
    some (r1.1,r1.2.1,(t2 r1).1,false,(t4 r1).1,(t5 r1).1,(t6 r1).1,(t7 r1).1,r2.2)
   else
    bif (r2.1==3) then
     (kz.f k r2.2.1 (t2 r2).1 (t3 r2)).bind fun r5=>
     some (r1.1,r1.2.1,(t2 r1).1,(t3 r1).1,r5.1,(t5 r1).1,(t6 r1).1,(t7 r1).1,r5.2)
    else
     bif (r2.1==4) then
      (cv.f k r2.2.1 (t2 r2).1 (t3 r2) [0,4,5]).bind fun r6=>
      some (r1.1,r1.2.1,(t2 r1).1,(t3 r1).1,(t4 r1).1,(t5 r1).1,r6.1,(t7 r1).1,r6.2)
     else
      bif (r2.1==5) then
       (cv.f k r2.2.1 (t2 r2).1 (t3 r2) [0,400,401]).bind fun r7=>
       some (r1.1,r1.2.1,(t2 r1).1,(t3 r1).1,(t4 r1).1,(t5 r1).1,(t6 r1).1,r7)
      else
       some (r1.1,r1.2.1,(t2 r1).1,(t3 r1).1,(t4 r1).1,(t5 r1).1,(t6 r1).1,(t7 r1).1,r2.2)
def eM.f (k:Nat) (a:LI):Option (Int×Int×Bool×Bool×LI×LI×Int×Int×LI×Bool×LI×Int×Int×Bool×Bool×LI×LI×Int×Int×LL×LI×LI×Int×Int×Int×LI×LL×ByteArray):=
 (bw.f k a).bind fun r1=>
 (aT.f k r1.1 r1.2.1 (t2 r1)).bind fun r2=>
 (jw.f k (t9 (t9 (t9 r2))).1 (t9 (t9 (t9 r2.2))).1 (t9 (t9 (t9 (t2 r2))))).bind fun r3=>
 (gB.f k r3.1 r3.2.1 (t2 r3).1 (t3 r3).1 (t4 r3).1 (t5 r3).1 (t6 r3).1 (t7 r3).1).bind fun r4=>
 some (r2.1,r2.2.1,(t2 r2).1,(t3 r2).1,(t4 r2).1,(t5 r2).1,(t6 r2).1,(t7 r2).1,(t8 r2).1,(t9 r2).1,(t9 r2.2).1,(t9 (t2 r2)).1,(t9 (t3 r2)).1,(t9 (t4 r2)).1,(t9 (t5 r2)).1,(t9 (t6 r2)).1,(t9 (t7 r2)).1,(t9 (t8 r2)).1,(t9 (t9 r2)).1,(t9 (t9 r2.2)).1,(t9 (t9 (t2 r2))).1,(t9 (t9 (t3 r2))).1,(t9 (t9 (t4 r2))).1,(t9 (t9 (t5 r2))).1,(t9 (t9 (t6 r2))).1,(t9 (t9 (t7 r2))).1,(t9 (t9 (t8 r2))).1,r4)
def ca.f (k:Nat) (a0 a1:Int) (a2 a3:Bool) (a4 a5:LI) (a6 a7:Int) (a8:LI) (a9:Bool) (dX:LI) (cV a12:Int) (dU iD:Bool) (iE iF:LI) (iG iH:Int) (iI:LL) (a20 a21:LI) (iJ iK a24:Int) (jh:LI) (jq:LL) (g0 g1:Int) (g2 g3:Bool) (g4 g5:LI) (g6 g7:Int) (g8:LI) (g9:Bool) (g10:LI) (g11 g12:Int) (g13 g14:Bool) (g15 g16:LI) (g17 g18:Int) (g19:LL) (g20 g21:LI) (g22 g23 g24:Int) (Kq:LI) (Kr:LL):Option (Bool):=
 (cR.f k a0 a1 a2 a3 a4 a5 a6 a7 g0 g1 g2 g3 g4 g5 g6 g7).bind fun r1=>
 bif r1 then
  (aB.f k a8 g8).bind fun r2=>
  bif r2 then
   bif (a9==g9) then
    (aB.f k dX g10).bind fun r3=>
    bif r3 then
     (cC.f k cV a12 dU iD iE iF iG iH iI a20 a21 iJ iK a24 g11 g12 g13 g14 g15 g16 g17 g18 g19 g20 g21 g22 g23 g24).bind fun r4=>
     bif r4 then
      (aB.f k jh Kq).bind fun r5=>
      bif r5 then
       (br.f k jq Kr).bind fun r6=>
       some r6
      else
       some false
     else
      some false
    else
     some false
   else
    some false
  else
   some false
 else
  some false
def aw.q0 (k:Nat) (v5:Bool) (q7 q8:Int) (q9 q_:Bool) (ra rb:Int) (re:Bool) (rf rh:Int) (ri rj:Bool) (rm rn rp rq rr:Int) (ru rv ry rz rA rB:LI) (rC:LL) (rD rE rF:LI) (rG:LL) (rH rI:Int) (rJ rK:Bool) (rL rM:Int) (rN:Bool) (rO rP:Int) (rQ rR:Bool) (rS rT rU rV rW:Int) (rX rY rZ r_ sd sf:LI) (sh:LL) (sj sk sq:LI) (sr:LL):Option (Bool):=
 bif v5 then
  some true
 else
  (ca.f k q7 q8 q9 q_ ru rv ra rb ry re rz rf rh ri rj rA rB rm rn rC rD rE rp rq rr rF rG rH rI rJ rK rX rY rL rM rZ rN r_ rO rP rQ rR sd sf rS rT sh sj sk rU rV rW sq sr).bind fun r1=>
  some r1
def aw.q1 (k:Nat) (v4 v5:Bool) (v222 vv:Int) (vw vx:Bool) (v226 v227:Int) (v228:Bool) (v229 vy:Int) (vz v232:Bool) (v233 v234 vA v236 vB:Int) (vC vD vE vF vG vH:LI) (vI:LL) (vJ vK vM:LI) (vN:LL) (vO vP:Int) (vQ vR:Bool) (vS vU:Int) (vV:Bool) (vW vX:Int) (vY vZ:Bool) (v_ wa wb we wg:Int) (wh wi wj wk wm wo:LI) (wq:LL) (wu wv wx:LI) (wy:LL) (q7 q8:Int) (q9 q_:Bool) (ra rb:Int) (re:Bool) (rf rh:Int) (ri rj:Bool) (rm rn rp rq rr:Int) (ru rv ry rz rA rB:LI) (rC:LL) (rD rE rF:LI) (rG:LL) (rH rI:Int) (rJ rK:Bool) (rL rM:Int) (rN:Bool) (rO rP:Int) (rQ rR:Bool) (rS rT rU rV rW:Int) (rX rY rZ r_ sd sf:LI) (sh:LL) (sj sk sq:LI) (sr:LL):Option (Bool):=
 bif v4 then
  aw.q0 k v5 q7 q8 q9 q_ ra rb re rf rh ri rj rm rn rp rq rr ru rv ry rz rA rB rC rD rE rF rG rH rI rJ rK rL rM rN rO rP rQ rR rS rT rU rV rW rX rY rZ r_ sd sf sh sj sk sq sr
 else
  (ca.f k v222 vv vw vx vC vD v226 v227 vE v228 vF v229 vy vz v232 vG vH v233 v234 vI vJ vK vA v236 vB vM vN vO vP vQ vR wh wi vS vU wj vV wk vW vX vY vZ wm wo v_ wa wq wu wv wb we wg wx wy).bind fun r1=>
  bif r1 then
   aw.q0 k v5 q7 q8 q9 q_ ra rb re rf rh ri rj rm rn rp rq rr ru rv ry rz rA rB rC rD rE rF rG rH rI rJ rK rL rM rN rO rP rQ rR rS rT rU rV rW rX rY rZ r_ sd sf sh sj sk sq sr
  else
   some false
def aw.q2 (k:Nat) (v3 v4 v5:Bool) (v168 Aa:Int) (Ab v171:Bool) (Ac v173:Int) (Ad:Bool) (v175 Ae:Int) (Af Ag:Bool) (Ah Ai Aj v182 v183:Int) (Ak Al Am An Ao Ap:LI) (Aq:LL) (Ar As v193:LI) (v194:LL) (At v196:Int) (Au v198:Bool) (Av Aw:Int) (v201:Bool) (Ax v203:Int) (Ay Az:Bool) (v206 AA v208 AB v210:Int) (AD v212 AE AF AG AH:LI) (AI:LL) (v218 AJ AK:LI) (AL:LL) (v222 vv:Int) (vw vx:Bool) (v226 v227:Int) (v228:Bool) (v229 vy:Int) (vz v232:Bool) (v233 v234 vA v236 vB:Int) (vC vD vE vF vG vH:LI) (vI:LL) (vJ vK vM:LI) (vN:LL) (vO vP:Int) (vQ vR:Bool) (vS vU:Int) (vV:Bool) (vW vX:Int) (vY vZ:Bool) (v_ wa wb we wg:Int) (wh wi wj wk wm wo:LI) (wq:LL) (wu wv wx:LI) (wy:LL) (q7 q8:Int) (q9 q_:Bool) (ra rb:Int) (re:Bool) (rf rh:Int) (ri rj:Bool) (rm rn rp rq rr:Int) (ru rv ry rz rA rB:LI) (rC:LL) (rD rE rF:LI) (rG:LL) (rH rI:Int) (rJ rK:Bool) (rL rM:Int) (rN:Bool) (rO rP:Int) (rQ rR:Bool) (rS rT rU rV rW:Int) (rX rY rZ r_ sd sf:LI) (sh:LL) (sj sk sq:LI) (sr:LL):Option (Bool):=
 bif v3 then
  aw.q1 k v4 v5 v222 vv vw vx v226 v227 v228 v229 vy vz v232 v233 v234 vA v236 vB vC vD vE vF vG vH vI vJ vK vM vN vO vP vQ vR vS vU vV vW vX vY vZ v_ wa wb we wg wh wi wj wk wm wo wq wu wv wx wy q7 q8 q9 q_ ra rb re rf rh ri rj rm rn rp rq rr ru rv ry rz rA rB rC rD rE rF rG rH rI rJ rK rL rM rN rO rP rQ rR rS rT rU rV rW rX rY rZ r_ sd sf sh sj sk sq sr
 else
  (ca.f k v168 Aa Ab v171 Ak Al Ac v173 Am Ad An v175 Ae Af Ag Ao Ap Ah Ai Aq Ar As Aj v182 v183 v193 v194 At v196 Au v198 AD v212 Av Aw AE v201 AF Ax v203 Ay Az AG AH v206 AA AI v218 AJ v208 AB v210 AK AL).bind fun r1=>
  bif r1 then
   aw.q1 k v4 v5 v222 vv vw vx v226 v227 v228 v229 vy vz v232 v233 v234 vA v236 vB vC vD vE vF vG vH vI vJ vK vM vN vO vP vQ vR vS vU vV vW vX vY vZ v_ wa wb we wg wh wi wj wk wm wo wq wu wv wx wy q7 q8 q9 q_ ra rb re rf rh ri rj rm rn rp rq rr ru rv ry rz rA rB rC rD rE rF rG rH rI rJ rK rL rM rN rO rP rQ rR rS rT rU rV rW rX rY rZ r_ sd sf sh sj sk sq sr
  else
   some false
def aw.q3 (k:Nat) (v2 v3 v4 v5:Bool) (Ge Gf:Int) (Gg v117:Bool) (Gh Gi:Int) (Gj:Bool) (Gl Gn:Int) (Gp v124:Bool) (Gq Gr v127 Gt Gu:Int) (v130 v131 Gv Gw Gx Gy:LI) (Gz:LL) (GA v138 v139:LI) (GB:LL) (v141 GC:Int) (v143 GD:Bool) (v145 v146:Int) (GF:Bool) (v148 GG:Int) (GH GI:Bool) (v152 GJ v154 GK GL:Int) (v157 GM v159 v160 GN v162:LI) (GO:LL) (v164 GQ GR:LI) (v167:LL) (v168 Aa:Int) (Ab v171:Bool) (Ac v173:Int) (Ad:Bool) (v175 Ae:Int) (Af Ag:Bool) (Ah Ai Aj v182 v183:Int) (Ak Al Am An Ao Ap:LI) (Aq:LL) (Ar As v193:LI) (v194:LL) (At v196:Int) (Au v198:Bool) (Av Aw:Int) (v201:Bool) (Ax v203:Int) (Ay Az:Bool) (v206 AA v208 AB v210:Int) (AD v212 AE AF AG AH:LI) (AI:LL) (v218 AJ AK:LI) (AL:LL) (v222 vv:Int) (vw vx:Bool) (v226 v227:Int) (v228:Bool) (v229 vy:Int) (vz v232:Bool) (v233 v234 vA v236 vB:Int) (vC vD vE vF vG vH:LI) (vI:LL) (vJ vK vM:LI) (vN:LL) (vO vP:Int) (vQ vR:Bool) (vS vU:Int) (vV:Bool) (vW vX:Int) (vY vZ:Bool) (v_ wa wb we wg:Int) (wh wi wj wk wm wo:LI) (wq:LL) (wu wv wx:LI) (wy:LL) (q7 q8:Int) (q9 q_:Bool) (ra rb:Int) (re:Bool) (rf rh:Int) (ri rj:Bool) (rm rn rp rq rr:Int) (ru rv ry rz rA rB:LI) (rC:LL) (rD rE rF:LI) (rG:LL) (rH rI:Int) (rJ rK:Bool) (rL rM:Int) (rN:Bool) (rO rP:Int) (rQ rR:Bool) (rS rT rU rV rW:Int) (rX rY rZ r_ sd sf:LI) (sh:LL) (sj sk sq:LI) (sr:LL):Option (Bool):=
 bif v2 then
  aw.q2 k v3 v4 v5 v168 Aa Ab v171 Ac v173 Ad v175 Ae Af Ag Ah Ai Aj v182 v183 Ak Al Am An Ao Ap Aq Ar As v193 v194 At v196 Au v198 Av Aw v201 Ax v203 Ay Az v206 AA v208 AB v210 AD v212 AE AF AG AH AI v218 AJ AK AL v222 vv vw vx v226 v227 v228 v229 vy vz v232 v233 v234 vA v236 vB vC vD vE vF vG vH vI vJ vK vM vN vO vP vQ vR vS vU vV vW vX vY vZ v_ wa wb we wg wh wi wj wk wm wo wq wu wv wx wy q7 q8 q9 q_ ra rb re rf rh ri rj rm rn rp rq rr ru rv ry rz rA rB rC rD rE rF rG rH rI rJ rK rL rM rN rO rP rQ rR rS rT rU rV rW rX rY rZ r_ sd sf sh sj sk sq sr
 else
  (ca.f k Ge Gf Gg v117 v130 v131 Gh Gi Gv Gj Gw Gl Gn Gp v124 Gx Gy Gq Gr Gz GA v138 v127 Gt Gu v139 GB v141 GC v143 GD v157 GM v145 v146 v159 GF v160 v148 GG GH GI GN v162 v152 GJ GO v164 GQ v154 GK GL GR v167).bind fun r1=>
  bif r1 then
   aw.q2 k v3 v4 v5 v168 Aa Ab v171 Ac v173 Ad v175 Ae Af Ag Ah Ai Aj v182 v183 Ak Al Am An Ao Ap Aq Ar As v193 v194 At v196 Au v198 Av Aw v201 Ax v203 Ay Az v206 AA v208 AB v210 AD v212 AE AF AG AH AI v218 AJ AK AL v222 vv vw vx v226 v227 v228 v229 vy vz v232 v233 v234 vA v236 vB vC vD vE vF vG vH vI vJ vK vM vN vO vP vQ vR vS vU vV vW vX vY vZ v_ wa wb we wg wh wi wj wk wm wo wq wu wv wx wy q7 q8 q9 q_ ra rb re rf rh ri rj rm rn rp rq rr ru rv ry rz rA rB rC rD rE rF rG rH rI rJ rK rL rM rN rO rP rQ rR rS rT rU rV rW rX rY rZ r_ sd sf sh sj sk sq sr
  else
   some false
def aw.q4 (k:Nat) (v1 v2 v3 v4 v5:Bool) (SR SS:Int) (SU SV:Bool) (SW SX:Int) (SY:Bool) (SZ S0:Int) (S1 v70:Bool) (S2 v72 S3 S4 v75:Int) (v76 S5 S6 S7 v80 S8:LI) (S9:LL) (S_ Ta v85:LI) (Tc:LL) (v87 Td:Int) (Te Tf:Bool) (v91 Tg:Int) (v93:Bool) (Th Ti:Int) (Tj Tk:Bool) (Tl Tm MA MB MC:Int) (MD ME v105 MF v107 MG:LI) (v109:LL) (MH MI MJ:LI) (MK:LL) (Ge Gf:Int) (Gg v117:Bool) (Gh Gi:Int) (Gj:Bool) (Gl Gn:Int) (Gp v124:Bool) (Gq Gr v127 Gt Gu:Int) (v130 v131 Gv Gw Gx Gy:LI) (Gz:LL) (GA v138 v139:LI) (GB:LL) (v141 GC:Int) (v143 GD:Bool) (v145 v146:Int) (GF:Bool) (v148 GG:Int) (GH GI:Bool) (v152 GJ v154 GK GL:Int) (v157 GM v159 v160 GN v162:LI) (GO:LL) (v164 GQ GR:LI) (v167:LL) (v168 Aa:Int) (Ab v171:Bool) (Ac v173:Int) (Ad:Bool) (v175 Ae:Int) (Af Ag:Bool) (Ah Ai Aj v182 v183:Int) (Ak Al Am An Ao Ap:LI) (Aq:LL) (Ar As v193:LI) (v194:LL) (At v196:Int) (Au v198:Bool) (Av Aw:Int) (v201:Bool) (Ax v203:Int) (Ay Az:Bool) (v206 AA v208 AB v210:Int) (AD v212 AE AF AG AH:LI) (AI:LL) (v218 AJ AK:LI) (AL:LL) (v222 vv:Int) (vw vx:Bool) (v226 v227:Int) (v228:Bool) (v229 vy:Int) (vz v232:Bool) (v233 v234 vA v236 vB:Int) (vC vD vE vF vG vH:LI) (vI:LL) (vJ vK vM:LI) (vN:LL) (vO vP:Int) (vQ vR:Bool) (vS vU:Int) (vV:Bool) (vW vX:Int) (vY vZ:Bool) (v_ wa wb we wg:Int) (wh wi wj wk wm wo:LI) (wq:LL) (wu wv wx:LI) (wy:LL) (q7 q8:Int) (q9 q_:Bool) (ra rb:Int) (re:Bool) (rf rh:Int) (ri rj:Bool) (rm rn rp rq rr:Int) (ru rv ry rz rA rB:LI) (rC:LL) (rD rE rF:LI) (rG:LL) (rH rI:Int) (rJ rK:Bool) (rL rM:Int) (rN:Bool) (rO rP:Int) (rQ rR:Bool) (rS rT rU rV rW:Int) (rX rY rZ r_ sd sf:LI) (sh:LL) (sj sk sq:LI) (sr:LL):Option (Bool):=
 bif v1 then
  aw.q3 k v2 v3 v4 v5 Ge Gf Gg v117 Gh Gi Gj Gl Gn Gp v124 Gq Gr v127 Gt Gu v130 v131 Gv Gw Gx Gy Gz GA v138 v139 GB v141 GC v143 GD v145 v146 GF v148 GG GH GI v152 GJ v154 GK GL v157 GM v159 v160 GN v162 GO v164 GQ GR v167 v168 Aa Ab v171 Ac v173 Ad v175 Ae Af Ag Ah Ai Aj v182 v183 Ak Al Am An Ao Ap Aq Ar As v193 v194 At v196 Au v198 Av Aw v201 Ax v203 Ay Az v206 AA v208 AB v210 AD v212 AE AF AG AH AI v218 AJ AK AL v222 vv vw vx v226 v227 v228 v229 vy vz v232 v233 v234 vA v236 vB vC vD vE vF vG vH vI vJ vK vM vN vO vP vQ vR vS vU vV vW vX vY vZ v_ wa wb we wg wh wi wj wk wm wo wq wu wv wx wy q7 q8 q9 q_ ra rb re rf rh ri rj rm rn rp rq rr ru rv ry rz rA rB rC rD rE rF rG rH rI rJ rK rL rM rN rO rP rQ rR rS rT rU rV rW rX rY rZ r_ sd sf sh sj sk sq sr
 else
  (ca.f k SR SS SU SV v76 S5 SW SX S6 SY S7 SZ S0 S1 v70 v80 S8 S2 v72 S9 S_ Ta S3 S4 v75 v85 Tc v87 Td Te Tf MD ME v91 Tg v105 v93 MF Th Ti Tj Tk v107 MG Tl Tm v109 MH MI MA MB MC MJ MK).bind fun r1=>
  bif r1 then
   aw.q3 k v2 v3 v4 v5 Ge Gf Gg v117 Gh Gi Gj Gl Gn Gp v124 Gq Gr v127 Gt Gu v130 v131 Gv Gw Gx Gy Gz GA v138 v139 GB v141 GC v143 GD v145 v146 GF v148 GG GH GI v152 GJ v154 GK GL v157 GM v159 v160 GN v162 GO v164 GQ GR v167 v168 Aa Ab v171 Ac v173 Ad v175 Ae Af Ag Ah Ai Aj v182 v183 Ak Al Am An Ao Ap Aq Ar As v193 v194 At v196 Au v198 Av Aw v201 Ax v203 Ay Az v206 AA v208 AB v210 AD v212 AE AF AG AH AI v218 AJ AK AL v222 vv vw vx v226 v227 v228 v229 vy vz v232 v233 v234 vA v236 vB vC vD vE vF vG vH vI vJ vK vM vN vO vP vQ vR vS vU vV vW vX vY vZ v_ wa wb we wg wh wi wj wk wm wo wq wu wv wx wy q7 q8 q9 q_ ra rb re rf rh ri rj rm rn rp rq rr ru rv ry rz rA rB rC rD rE rF rG rH rI rJ rK rL rM rN rO rP rQ rR rS rT rU rV rW rX rY rZ r_ sd sf sh sj sk sq sr
  else
   some false
def aw.Mx (k:Nat) (v0 v1 v2 v3 v4 v5:Bool) (v6 v7:Int) (v8 v9:Bool) (v10 v11:Int) (v12:Bool) (fu fq:Int) (eR fc:Bool) (gu kx jI v20 v21:Int) (iL gL v24 jY jZ lM:LI) (v28:LL) (oR v30 v31:LI) (pN:LL) (oS oT:Int) (pO kR:Bool) (v37 fA:Int) (ld:Bool) (v40 sY:Int) (sZ s_:Bool) (ta oe v46 Gc Gd:Int) (v49 V4 v51 V5 v53 V6:LI) (V7:LL) (V8 V9 V_:LI) (v59:LL) (SR SS:Int) (SU SV:Bool) (SW SX:Int) (SY:Bool) (SZ S0:Int) (S1 v70:Bool) (S2 v72 S3 S4 v75:Int) (v76 S5 S6 S7 v80 S8:LI) (S9:LL) (S_ Ta v85:LI) (Tc:LL) (v87 Td:Int) (Te Tf:Bool) (v91 Tg:Int) (v93:Bool) (Th Ti:Int) (Tj Tk:Bool) (Tl Tm MA MB MC:Int) (MD ME v105 MF v107 MG:LI) (v109:LL) (MH MI MJ:LI) (MK:LL) (Ge Gf:Int) (Gg v117:Bool) (Gh Gi:Int) (Gj:Bool) (Gl Gn:Int) (Gp v124:Bool) (Gq Gr v127 Gt Gu:Int) (v130 v131 Gv Gw Gx Gy:LI) (Gz:LL) (GA v138 v139:LI) (GB:LL) (v141 GC:Int) (v143 GD:Bool) (v145 v146:Int) (GF:Bool) (v148 GG:Int) (GH GI:Bool) (v152 GJ v154 GK GL:Int) (v157 GM v159 v160 GN v162:LI) (GO:LL) (v164 GQ GR:LI) (v167:LL) (v168 Aa:Int) (Ab v171:Bool) (Ac v173:Int) (Ad:Bool) (v175 Ae:Int) (Af Ag:Bool) (Ah Ai Aj v182 v183:Int) (Ak Al Am An Ao Ap:LI) (Aq:LL) (Ar As v193:LI) (v194:LL) (At v196:Int) (Au v198:Bool) (Av Aw:Int) (v201:Bool) (Ax v203:Int) (Ay Az:Bool) (v206 AA v208 AB v210:Int) (AD v212 AE AF AG AH:LI) (AI:LL) (v218 AJ AK:LI) (AL:LL) (v222 vv:Int) (vw vx:Bool) (v226 v227:Int) (v228:Bool) (v229 vy:Int) (vz v232:Bool) (v233 v234 vA v236 vB:Int) (vC vD vE vF vG vH:LI) (vI:LL) (vJ vK vM:LI) (vN:LL) (vO vP:Int) (vQ vR:Bool) (vS vU:Int) (vV:Bool) (vW vX:Int) (vY vZ:Bool) (v_ wa wb we wg:Int) (wh wi wj wk wm wo:LI) (wq:LL) (wu wv wx:LI) (wy:LL) (q7 q8:Int) (q9 q_:Bool) (ra rb:Int) (re:Bool) (rf rh:Int) (ri rj:Bool) (rm rn rp rq rr:Int) (ru rv ry rz rA rB:LI) (rC:LL) (rD rE rF:LI) (rG:LL) (rH rI:Int) (rJ rK:Bool) (rL rM:Int) (rN:Bool) (rO rP:Int) (rQ rR:Bool) (rS rT rU rV rW:Int) (rX rY rZ r_ sd sf:LI) (sh:LL) (sj sk sq:LI) (sr:LL):Option (Bool):=
 bif v0 then
  aw.q4 k v1 v2 v3 v4 v5 SR SS SU SV SW SX SY SZ S0 S1 v70 S2 v72 S3 S4 v75 v76 S5 S6 S7 v80 S8 S9 S_ Ta v85 Tc v87 Td Te Tf v91 Tg v93 Th Ti Tj Tk Tl Tm MA MB MC MD ME v105 MF v107 MG v109 MH MI MJ MK Ge Gf Gg v117 Gh Gi Gj Gl Gn Gp v124 Gq Gr v127 Gt Gu v130 v131 Gv Gw Gx Gy Gz GA v138 v139 GB v141 GC v143 GD v145 v146 GF v148 GG GH GI v152 GJ v154 GK GL v157 GM v159 v160 GN v162 GO v164 GQ GR v167 v168 Aa Ab v171 Ac v173 Ad v175 Ae Af Ag Ah Ai Aj v182 v183 Ak Al Am An Ao Ap Aq Ar As v193 v194 At v196 Au v198 Av Aw v201 Ax v203 Ay Az v206 AA v208 AB v210 AD v212 AE AF AG AH AI v218 AJ AK AL v222 vv vw vx v226 v227 v228 v229 vy vz v232 v233 v234 vA v236 vB vC vD vE vF vG vH vI vJ vK vM vN vO vP vQ vR vS vU vV vW vX vY vZ v_ wa wb we wg wh wi wj wk wm wo wq wu wv wx wy q7 q8 q9 q_ ra rb re rf rh ri rj rm rn rp rq rr ru rv ry rz rA rB rC rD rE rF rG rH rI rJ rK rL rM rN rO rP rQ rR rS rT rU rV rW rX rY rZ r_ sd sf sh sj sk sq sr
 else
  (ca.f k v6 v7 v8 v9 iL gL v10 v11 v24 v12 jY fu fq eR fc jZ lM gu kx v28 oR v30 jI v20 v21 v31 pN oS oT pO kR v49 V4 v37 fA v51 ld V5 v40 sY sZ s_ v53 V6 ta oe V7 V8 V9 v46 Gc Gd V_ v59).bind fun r1=>
  bif r1 then
   aw.q4 k v1 v2 v3 v4 v5 SR SS SU SV SW SX SY SZ S0 S1 v70 S2 v72 S3 S4 v75 v76 S5 S6 S7 v80 S8 S9 S_ Ta v85 Tc v87 Td Te Tf v91 Tg v93 Th Ti Tj Tk Tl Tm MA MB MC MD ME v105 MF v107 MG v109 MH MI MJ MK Ge Gf Gg v117 Gh Gi Gj Gl Gn Gp v124 Gq Gr v127 Gt Gu v130 v131 Gv Gw Gx Gy Gz GA v138 v139 GB v141 GC v143 GD v145 v146 GF v148 GG GH GI v152 GJ v154 GK GL v157 GM v159 v160 GN v162 GO v164 GQ GR v167 v168 Aa Ab v171 Ac v173 Ad v175 Ae Af Ag Ah Ai Aj v182 v183 Ak Al Am An Ao Ap Aq Ar As v193 v194 At v196 Au v198 Av Aw v201 Ax v203 Ay Az v206 AA v208 AB v210 AD v212 AE AF AG AH AI v218 AJ AK AL v222 vv vw vx v226 v227 v228 v229 vy vz v232 v233 v234 vA v236 vB vC vD vE vF vG vH vI vJ vK vM vN vO vP vQ vR vS vU vV vW vX vY vZ v_ wa wb we wg wh wi wj wk wm wo wq wu wv wx wy q7 q8 q9 q_ ra rb re rf rh ri rj rm rn rp rq rr ru rv ry rz rA rB rC rD rE rF rG rH rI rJ rK rL rM rN rO rP rQ rR rS rT rU rV rW rX rY rZ r_ sd sf sh sj sk sq sr
  else
   some false
def aw.j0 (k:Nat) (r1 r2 r3 r4 r5 r6:Int×Int×Bool×Bool×LI×LI×Int×Int×LI×Bool×LI×Int×Int×Bool×Bool×LI×LI×Int×Int×LL×LI×LI×Int×Int×Int×LI×LL×Bool) (r7:Int×Int×Bool×Bool×LI×LI×Int×Int×LI×Bool×LI×Int×Int×Bool×Bool×LI×LI×Int×Int×LL×LI×LI×Int×Int×Int×LI×LL×Int) (r8:Int×Int×Bool×Bool×LI×LI×Int×Int×LI×Bool×LI×Int×Int×Bool×Bool×LI×LI×Int×Int×LL×LI×LI×Int×Int×Int×LI×LL×LI×LI) (r9:Int×Int×Bool×Bool×LI×LI×Int×Int×LI×Bool×LI×Int×Int×Bool×Bool×LI×LI×Int×Int×LL×LI×LI×Int×Int×Int×LI×LL×Int) (fW gN:Int×Int×Bool×Bool×LI×LI×Int×Int×LI×Bool×LI×Int×Int×Bool×Bool×LI×LI×Int×Int×LL×LI×LI×Int×Int×Int×LI×LL) (iS:Int×Int×Bool×Bool×LI×LI×Int×Int×LI×Bool×LI×Int×Int×Bool×Bool×LI×LI×Int×Int×LL×LI×LI×Int×Int×Int×LI×LL×ByteArray):Option (Bool):=
 aw.Mx k (t9 (t9 (t9 r1))) (t9 (t9 (t9 r2))) (t9 (t9 (t9 r3))) (t9 (t9 (t9 r4))) (t9 (t9 (t9 r5))) (t9 (t9 (t9 r6))) r7.1 r7.2.1 (t2 r7).1 (t3 r7).1 (t6 r7).1 (t7 r7).1 (t9 r7).1 (t9 (t2 r7)).1 (t9 (t3 r7)).1 (t9 (t4 r7)).1 (t9 (t5 r7)).1 (t9 (t8 r7)).1 (t9 (t9 r7)).1 (t9 (t9 (t4 r7))).1 (t9 (t9 (t5 r7))).1 (t9 (t9 (t6 r7))).1 (t4 r7).1 (t5 r7).1 (t8 r7).1 (t9 r7.2).1 (t9 (t6 r7)).1 (t9 (t7 r7)).1 (t9 (t9 r7.2)).1 (t9 (t9 (t2 r7))).1 (t9 (t9 (t3 r7))).1 (t9 (t9 (t7 r7))).1 (t9 (t9 (t8 r7))).1 r1.1 r1.2.1 (t2 r1).1 (t3 r1).1 (t6 r1).1 (t7 r1).1 (t9 r1).1 (t9 (t2 r1)).1 (t9 (t3 r1)).1 (t9 (t4 r1)).1 (t9 (t5 r1)).1 (t9 (t8 r1)).1 (t9 (t9 r1)).1 (t9 (t9 (t4 r1))).1 (t9 (t9 (t5 r1))).1 (t9 (t9 (t6 r1))).1 (t4 r1).1 (t5 r1).1 (t8 r1).1 (t9 r1.2).1 (t9 (t6 r1)).1 (t9 (t7 r1)).1 (t9 (t9 r1.2)).1 (t9 (t9 (t2 r1))).1 (t9 (t9 (t3 r1))).1 (t9 (t9 (t7 r1))).1 (t9 (t9 (t8 r1))).1 r8.1 r8.2.1 (t2 r8).1 (t3 r8).1 (t6 r8).1 (t7 r8).1 (t9 r8).1 (t9 (t2 r8)).1 (t9 (t3 r8)).1 (t9 (t4 r8)).1 (t9 (t5 r8)).1 (t9 (t8 r8)).1 (t9 (t9 r8)).1 (t9 (t9 (t4 r8))).1 (t9 (t9 (t5 r8))).1 (t9 (t9 (t6 r8))).1 (t4 r8).1 (t5 r8).1 (t8 r8).1 (t9 r8.2).1 (t9 (t6 r8)).1 (t9 (t7 r8)).1 (t9 (t9 r8.2)).1 (t9 (t9 (t2 r8))).1 (t9 (t9 (t3 r8))).1 (t9 (t9 (t7 r8))).1 (t9 (t9 (t8 r8))).1 r2.1 r2.2.1 (t2 r2).1 (t3 r2).1 (t6 r2).1 (t7 r2).1 (t9 r2).1 (t9 (t2 r2)).1 (t9 (t3 r2)).1 (t9 (t4 r2)).1 (t9 (t5 r2)).1 (t9 (t8 r2)).1 (t9 (t9 r2)).1 (t9 (t9 (t4 r2))).1 (t9 (t9 (t5 r2))).1 (t9 (t9 (t6 r2))).1 (t4 r2).1 (t5 r2).1 (t8 r2).1 (t9 r2.2).1 (t9 (t6 r2)).1 (t9 (t7 r2)).1 (t9 (t9 r2.2)).1 (t9 (t9 (t2 r2))).1 (t9 (t9 (t3 r2))).1 (t9 (t9 (t7 r2))).1 (t9 (t9 (t8 r2))).1 r9.1 r9.2.1 (t2 r9).1 (t3 r9).1 (t6 r9).1 (t7 r9).1 (t9 r9).1 (t9 (t2 r9)).1 (t9 (t3 r9)).1 (t9 (t4 r9)).1 (t9 (t5 r9)).1 (t9 (t8 r9)).1 (t9 (t9 r9)).1 (t9 (t9 (t4 r9))).1 (t9 (t9 (t5 r9))).1 (t9 (t9 (t6 r9))).1 (t4 r9).1 (t5 r9).1 (t8 r9).1 (t9 r9.2).1 (t9 (t6 r9)).1 (t9 (t7 r9)).1 (t9 (t9 r9.2)).1 (t9 (t9 (t2 r9))).1 (t9 (t9 (t3 r9))).1 (t9 (t9 (t7 r9))).1 (t9 (t9 (t8 r9))).1 r3.1 r3.2.1 (t2 r3).1 (t3 r3).1 (t6 r3).1 (t7 r3).1 (t9 r3).1 (t9 (t2 r3)).1 (t9 (t3 r3)).1 (t9 (t4 r3)).1 (t9 (t5 r3)).1 (t9 (t8 r3)).1 (t9 (t9 r3)).1 (t9 (t9 (t4 r3))).1 (t9 (t9 (t5 r3))).1 (t9 (t9 (t6 r3))).1 (t4 r3).1 (t5 r3).1 (t8 r3).1 (t9 r3.2).1 (t9 (t6 r3)).1 (t9 (t7 r3)).1 (t9 (t9 r3.2)).1 (t9 (t9 (t2 r3))).1 (t9 (t9 (t3 r3))).1 (t9 (t9 (t7 r3))).1 (t9 (t9 (t8 r3))).1 fW.1 fW.2.1 (t2 fW).1 (t3 fW).1 (t6 fW).1 (t7 fW).1 (t9 fW).1 (t9 (t2 fW)).1 (t9 (t3 fW)).1 (t9 (t4 fW)).1 (t9 (t5 fW)).1 (t9 (t8 fW)).1 (t9 (t9 fW)).1 (t9 (t9 (t4 fW))).1 (t9 (t9 (t5 fW))).1 (t9 (t9 (t6 fW))).1 (t4 fW).1 (t5 fW).1 (t8 fW).1 (t9 fW.2).1 (t9 (t6 fW)).1 (t9 (t7 fW)).1 (t9 (t9 fW.2)).1 (t9 (t9 (t2 fW))).1 (t9 (t9 (t3 fW))).1 (t9 (t9 (t7 fW))).1 (t9 (t9 (t8 fW))) r4.1 r4.2.1 (t2 r4).1 (t3 r4).1 (t6 r4).1 (t7 r4).1 (t9 r4).1 (t9 (t2 r4)).1 (t9 (t3 r4)).1 (t9 (t4 r4)).1 (t9 (t5 r4)).1 (t9 (t8 r4)).1 (t9 (t9 r4)).1 (t9 (t9 (t4 r4))).1 (t9 (t9 (t5 r4))).1 (t9 (t9 (t6 r4))).1 (t4 r4).1 (t5 r4).1 (t8 r4).1 (t9 r4.2).1 (t9 (t6 r4)).1 (t9 (t7 r4)).1 (t9 (t9 r4.2)).1 (t9 (t9 (t2 r4))).1 (t9 (t9 (t3 r4))).1 (t9 (t9 (t7 r4))).1 (t9 (t9 (t8 r4))).1 gN.1 gN.2.1 (t2 gN).1 (t3 gN).1 (t6 gN).1 (t7 gN).1 (t9 gN).1 (t9 (t2 gN)).1 (t9 (t3 gN)).1 (t9 (t4 gN)).1 (t9 (t5 gN)).1 (t9 (t8 gN)).1 (t9 (t9 gN)).1 (t9 (t9 (t4 gN))).1 (t9 (t9 (t5 gN))).1 (t9 (t9 (t6 gN))).1 (t4 gN).1 (t5 gN).1 (t8 gN).1 (t9 gN.2).1 (t9 (t6 gN)).1 (t9 (t7 gN)).1 (t9 (t9 gN.2)).1 (t9 (t9 (t2 gN))).1 (t9 (t9 (t3 gN))).1 (t9 (t9 (t7 gN))).1 (t9 (t9 (t8 gN))) r5.1 r5.2.1 (t2 r5).1 (t3 r5).1 (t6 r5).1 (t7 r5).1 (t9 r5).1 (t9 (t2 r5)).1 (t9 (t3 r5)).1 (t9 (t4 r5)).1 (t9 (t5 r5)).1 (t9 (t8 r5)).1 (t9 (t9 r5)).1 (t9 (t9 (t4 r5))).1 (t9 (t9 (t5 r5))).1 (t9 (t9 (t6 r5))).1 (t4 r5).1 (t5 r5).1 (t8 r5).1 (t9 r5.2).1 (t9 (t6 r5)).1 (t9 (t7 r5)).1 (t9 (t9 r5.2)).1 (t9 (t9 (t2 r5))).1 (t9 (t9 (t3 r5))).1 (t9 (t9 (t7 r5))).1 (t9 (t9 (t8 r5))).1 iS.1 iS.2.1 (t2 iS).1 (t3 iS).1 (t6 iS).1 (t7 iS).1 (t9 iS).1 (t9 (t2 iS)).1 (t9 (t3 iS)).1 (t9 (t4 iS)).1 (t9 (t5 iS)).1 (t9 (t8 iS)).1 (t9 (t9 iS)).1 (t9 (t9 (t4 iS))).1 (t9 (t9 (t5 iS))).1 (t9 (t9 (t6 iS))).1 (t4 iS).1 (t5 iS).1 (t8 iS).1 (t9 iS.2).1 (t9 (t6 iS)).1 (t9 (t7 iS)).1 (t9 (t9 iS.2)).1 (t9 (t9 (t2 iS))).1 (t9 (t9 (t3 iS))).1 (t9 (t9 (t7 iS))).1 (t9 (t9 (t8 iS))).1 r6.1 r6.2.1 (t2 r6).1 (t3 r6).1 (t6 r6).1 (t7 r6).1 (t9 r6).1 (t9 (t2 r6)).1 (t9 (t3 r6)).1 (t9 (t4 r6)).1 (t9 (t5 r6)).1 (t9 (t8 r6)).1 (t9 (t9 r6)).1 (t9 (t9 (t4 r6))).1 (t9 (t9 (t5 r6))).1 (t9 (t9 (t6 r6))).1 (t4 r6).1 (t5 r6).1 (t8 r6).1 (t9 r6.2).1 (t9 (t6 r6)).1 (t9 (t7 r6)).1 (t9 (t9 r6.2)).1 (t9 (t9 (t2 r6))).1 (t9 (t9 (t3 r6))).1 (t9 (t9 (t7 r6))).1 (t9 (t9 (t8 r6))).1
def aw.j1 (k:Nat) (r1:Int×Int×Bool×Bool×LI×LI×Int×Int×LI×Bool×LI×Int×Int×Bool×Bool×LI×LI×Int×Int×LL×LI×LI×Int×Int×Int×LI×LL×Bool) (r2:Int×Int×Bool×Bool×LI×LI×Int×Int×LI×Bool×LI×Int×Int×Bool×Bool×LI×LI×Int×Int×LL×LI×LI×Int×Int×Int×LI×LL×ByteArray) (r3 r4 r5 r6 r7:Int×Int×Bool×Bool×LI×LI×Int×Int×LI×Bool×LI×Int×Int×Bool×Bool×LI×LI×Int×Int×LL×LI×LI×Int×Int×Int×LI×LL×Bool) (r8:Int×Int×Bool×Bool×LI×LI×Int×Int×LI×Bool×LI×Int×Int×Bool×Bool×LI×LI×Int×Int×LL×LI×LI×Int×Int×Int×LI×LL×Int) (r9:Int×Int×Bool×Bool×LI×LI×Int×Int×LI×Bool×LI×Int×Int×Bool×Bool×LI×LI×Int×Int×LL×LI×LI×Int×Int×Int×LI×LL×LI×LI) (fW:Int×Int×Bool×Bool×LI×LI×Int×Int×LI×Bool×LI×Int×Int×Bool×Bool×LI×LI×Int×Int×LL×LI×LI×Int×Int×Int×LI×LL×Int) (gN iS:Int×Int×Bool×Bool×LI×LI×Int×Int×LI×Bool×LI×Int×Int×Bool×Bool×LI×LI×Int×Int×LL×LI×LI×Int×Int×Int×LI×LL):Option (Bool):=
 bif (t9 (t9 (t9 r1))) then
  (cc.f k r1.1 r1.2.1 (t2 r1).1 (t3 r1).1 (t4 r1).1 (t5 r1).1 (t6 r1).1 (t7 r1).1 (t8 r1).1 (t9 r1).1 (t9 r1.2).1 (t9 (t2 r1)).1 (t9 (t3 r1)).1 (t9 (t4 r1)).1 (t9 (t5 r1)).1 (t9 (t6 r1)).1 (t9 (t7 r1)).1 (t9 (t8 r1)).1 (t9 (t9 r1)).1 (t9 (t9 r1.2)).1 (t9 (t9 (t2 r1))).1 (t9 (t9 (t3 r1))).1 (t9 (t9 (t4 r1))).1 (t9 (t9 (t5 r1))).1 (t9 (t9 (t6 r1))).1 (t9 (t9 (t7 r1))).1 (t9 (t9 (t8 r1))).1).bind fun ye=>
  bif (!ye) then
   some false
  else
   (d_.f k r1.1 r1.2.1 (t2 r1).1 (t3 r1).1 (t4 r1).1 (t5 r1).1 (t6 r1).1 (t7 r1).1).bind fun Q6=>
   bif (!(Q6.toList==(t9 (t9 (t9 r2))).toList)) then
    some false
   else
    aw.j0 k r3 r4 r5 r6 r7 r1 r8 r9 fW gN iS r2
 else
  aw.j0 k r3 r4 r5 r6 r7 r1 r8 r9 fW gN iS r2
def aw.j2 (k:Nat) (r1:Int×Int×Bool×Bool×LI×LI×Int×Int×LI×Bool×LI×Int×Int×Bool×Bool×LI×LI×Int×Int×LL×LI×LI×Int×Int×Int×LI×LL×Bool) (r2:Int×Int×Bool×Bool×LI×LI×Int×Int×LI×Bool×LI×Int×Int×Bool×Bool×LI×LI×Int×Int×LL×LI×LI×Int×Int×Int×LI×LL) (r3:Int×Int×Bool×Bool×LI×LI×Int×Int×LI×Bool×LI×Int×Int×Bool×Bool×LI×LI×Int×Int×LL×LI×LI×Int×Int×Int×LI×LL×Bool) (r4:Int×Int×Bool×Bool×LI×LI×Int×Int×LI×Bool×LI×Int×Int×Bool×Bool×LI×LI×Int×Int×LL×LI×LI×Int×Int×Int×LI×LL×ByteArray) (r5 r6 r7 r8:Int×Int×Bool×Bool×LI×LI×Int×Int×LI×Bool×LI×Int×Int×Bool×Bool×LI×LI×Int×Int×LL×LI×LI×Int×Int×Int×LI×LL×Bool) (r9:Int×Int×Bool×Bool×LI×LI×Int×Int×LI×Bool×LI×Int×Int×Bool×Bool×LI×LI×Int×Int×LL×LI×LI×Int×Int×Int×LI×LL×Int) (fW:Int×Int×Bool×Bool×LI×LI×Int×Int×LI×Bool×LI×Int×Int×Bool×Bool×LI×LI×Int×Int×LL×LI×LI×Int×Int×Int×LI×LL×LI×LI) (gN:Int×Int×Bool×Bool×LI×LI×Int×Int×LI×Bool×LI×Int×Int×Bool×Bool×LI×LI×Int×Int×LL×LI×LI×Int×Int×Int×LI×LL×Int) (iS:Int×Int×Bool×Bool×LI×LI×Int×Int×LI×Bool×LI×Int×Int×Bool×Bool×LI×LI×Int×Int×LL×LI×LI×Int×Int×Int×LI×LL):Option (Bool):=
 bif (t9 (t9 (t9 r1))) then
  (cc.f k r1.1 r1.2.1 (t2 r1).1 (t3 r1).1 (t4 r1).1 (t5 r1).1 (t6 r1).1 (t7 r1).1 (t8 r1).1 (t9 r1).1 (t9 r1.2).1 (t9 (t2 r1)).1 (t9 (t3 r1)).1 (t9 (t4 r1)).1 (t9 (t5 r1)).1 (t9 (t6 r1)).1 (t9 (t7 r1)).1 (t9 (t8 r1)).1 (t9 (t9 r1)).1 (t9 (t9 r1.2)).1 (t9 (t9 (t2 r1))).1 (t9 (t9 (t3 r1))).1 (t9 (t9 (t4 r1))).1 (t9 (t9 (t5 r1))).1 (t9 (t9 (t6 r1))).1 (t9 (t9 (t7 r1))).1 (t9 (t9 (t8 r1))).1).bind fun ye=>
  bif (!ye) then
   some false
  else
   bif (t9 r1).1 then
    some false
   else
    bif (((t9 (t9 (t8 r1))).1.length:Int) != (IntKind.wrap .i64 (((t9 (t9 (t8 r2))).length:Int)+1))) then
     some false
    else
     aw.j1 k r3 r4 r5 r6 r7 r8 r1 r9 fW gN iS r2
 else
  aw.j1 k r3 r4 r5 r6 r7 r8 r1 r9 fW gN iS r2
def aw.j3 (k:Nat) (r1:Int×Int×Bool×Bool×LI×LI×Int×Int×LI×Bool×LI×Int×Int×Bool×Bool×LI×LI×Int×Int×LL×LI×LI×Int×Int×Int×LI×LL×Bool) (r2:Int×Int×Bool×Bool×LI×LI×Int×Int×LI×Bool×LI×Int×Int×Bool×Bool×LI×LI×Int×Int×LL×LI×LI×Int×Int×Int×LI×LL) (r3:Int×Int×Bool×Bool×LI×LI×Int×Int×LI×Bool×LI×Int×Int×Bool×Bool×LI×LI×Int×Int×LL×LI×LI×Int×Int×Int×LI×LL×Bool) (r4:Int×Int×Bool×Bool×LI×LI×Int×Int×LI×Bool×LI×Int×Int×Bool×Bool×LI×LI×Int×Int×LL×LI×LI×Int×Int×Int×LI×LL) (r5:Int×Int×Bool×Bool×LI×LI×Int×Int×LI×Bool×LI×Int×Int×Bool×Bool×LI×LI×Int×Int×LL×LI×LI×Int×Int×Int×LI×LL×Bool) (r6:Int×Int×Bool×Bool×LI×LI×Int×Int×LI×Bool×LI×Int×Int×Bool×Bool×LI×LI×Int×Int×LL×LI×LI×Int×Int×Int×LI×LL×ByteArray) (r7 r8 r9:Int×Int×Bool×Bool×LI×LI×Int×Int×LI×Bool×LI×Int×Int×Bool×Bool×LI×LI×Int×Int×LL×LI×LI×Int×Int×Int×LI×LL×Bool) (fW:Int×Int×Bool×Bool×LI×LI×Int×Int×LI×Bool×LI×Int×Int×Bool×Bool×LI×LI×Int×Int×LL×LI×LI×Int×Int×Int×LI×LL×Int) (gN:Int×Int×Bool×Bool×LI×LI×Int×Int×LI×Bool×LI×Int×Int×Bool×Bool×LI×LI×Int×Int×LL×LI×LI×Int×Int×Int×LI×LL×LI×LI) (iS:Int×Int×Bool×Bool×LI×LI×Int×Int×LI×Bool×LI×Int×Int×Bool×Bool×LI×LI×Int×Int×LL×LI×LI×Int×Int×Int×LI×LL×Int):Option (Bool):=
 bif (t9 (t9 (t9 r1))) then
  (cc.f k r1.1 r1.2.1 (t2 r1).1 (t3 r1).1 (t4 r1).1 (t5 r1).1 (t6 r1).1 (t7 r1).1 (t8 r1).1 (t9 r1).1 (t9 r1.2).1 (t9 (t2 r1)).1 (t9 (t3 r1)).1 (t9 (t4 r1)).1 (t9 (t5 r1)).1 (t9 (t6 r1)).1 (t9 (t7 r1)).1 (t9 (t8 r1)).1 (t9 (t9 r1)).1 (t9 (t9 r1.2)).1 (t9 (t9 (t2 r1))).1 (t9 (t9 (t3 r1))).1 (t9 (t9 (t4 r1))).1 (t9 (t9 (t5 r1))).1 (t9 (t9 (t6 r1))).1 (t9 (t9 (t7 r1))).1 (t9 (t9 (t8 r1))).1).bind fun ye=>
  bif (!ye) then
   some false
  else
   bif ((t9 (t9 (t5 r1))).1 != (IntKind.wrap .i64 ((t9 (t9 (t5 r2))).1+1))) then
    some false
   else
    aw.j2 k r3 r4 r5 r6 r7 r8 r9 r1 fW gN iS r2
 else
  aw.j2 k r3 r4 r5 r6 r7 r8 r9 r1 fW gN iS r2
def aw.j4 (k:Nat) (r1:Int×Int×Bool×Bool×LI×LI×Int×Int×LI×Bool×LI×Int×Int×Bool×Bool×LI×LI×Int×Int×LL×LI×LI×Int×Int×Int×LI×LL×Bool) (r2:Int×Int×Bool×Bool×LI×LI×Int×Int×LI×Bool×LI×Int×Int×Bool×Bool×LI×LI×Int×Int×LL×LI×LI×Int×Int×Int×LI×LL×Int) (r3:Int×Int×Bool×Bool×LI×LI×Int×Int×LI×Bool×LI×Int×Int×Bool×Bool×LI×LI×Int×Int×LL×LI×LI×Int×Int×Int×LI×LL×Bool) (r4:Int×Int×Bool×Bool×LI×LI×Int×Int×LI×Bool×LI×Int×Int×Bool×Bool×LI×LI×Int×Int×LL×LI×LI×Int×Int×Int×LI×LL) (r5:Int×Int×Bool×Bool×LI×LI×Int×Int×LI×Bool×LI×Int×Int×Bool×Bool×LI×LI×Int×Int×LL×LI×LI×Int×Int×Int×LI×LL×Bool) (r6:Int×Int×Bool×Bool×LI×LI×Int×Int×LI×Bool×LI×Int×Int×Bool×Bool×LI×LI×Int×Int×LL×LI×LI×Int×Int×Int×LI×LL) (r7:Int×Int×Bool×Bool×LI×LI×Int×Int×LI×Bool×LI×Int×Int×Bool×Bool×LI×LI×Int×Int×LL×LI×LI×Int×Int×Int×LI×LL×Bool) (r8:Int×Int×Bool×Bool×LI×LI×Int×Int×LI×Bool×LI×Int×Int×Bool×Bool×LI×LI×Int×Int×LL×LI×LI×Int×Int×Int×LI×LL×ByteArray) (r9 fW:Int×Int×Bool×Bool×LI×LI×Int×Int×LI×Bool×LI×Int×Int×Bool×Bool×LI×LI×Int×Int×LL×LI×LI×Int×Int×Int×LI×LL×Bool) (gN:Int×Int×Bool×Bool×LI×LI×Int×Int×LI×Bool×LI×Int×Int×Bool×Bool×LI×LI×Int×Int×LL×LI×LI×Int×Int×Int×LI×LL×Int) (iS:Int×Int×Bool×Bool×LI×LI×Int×Int×LI×Bool×LI×Int×Int×Bool×Bool×LI×LI×Int×Int×LL×LI×LI×Int×Int×Int×LI×LL×LI×LI):Option (Bool):=
 bif (t9 (t9 (t9 r1))) then
  (cc.f k r1.1 r1.2.1 (t2 r1).1 (t3 r1).1 (t4 r1).1 (t5 r1).1 (t6 r1).1 (t7 r1).1 (t8 r1).1 (t9 r1).1 (t9 r1.2).1 (t9 (t2 r1)).1 (t9 (t3 r1)).1 (t9 (t4 r1)).1 (t9 (t5 r1)).1 (t9 (t6 r1)).1 (t9 (t7 r1)).1 (t9 (t8 r1)).1 (t9 (t9 r1)).1 (t9 (t9 r1.2)).1 (t9 (t9 (t2 r1))).1 (t9 (t9 (t3 r1))).1 (t9 (t9 (t4 r1))).1 (t9 (t9 (t5 r1))).1 (t9 (t9 (t6 r1))).1 (t9 (t9 (t7 r1))).1 (t9 (t9 (t8 r1))).1).bind fun ye=>
  bif (!ye) then
   some false
  else
   bif (((t9 (t9 (t7 r1))).1.length:Int) != (IntKind.wrap .i64 (((t9 (t9 (t7 r2))).1.length:Int)+1))) then
    some false
   else
    aw.j3 k r3 r4 r5 r6 r7 r8 r9 fW r1 gN iS r2
 else
  aw.j3 k r3 r4 r5 r6 r7 r8 r9 fW r1 gN iS r2
def aw.j5 (k:Nat) (r1 r2:Int×Int×Bool×Bool×LI×LI×Int×Int×LI×Bool×LI×Int×Int×Bool×Bool×LI×LI×Int×Int×LL×LI×LI×Int×Int×Int×LI×LL×Bool) (r3:Int×Int×Bool×Bool×LI×LI×Int×Int×LI×Bool×LI×Int×Int×Bool×Bool×LI×LI×Int×Int×LL×LI×LI×Int×Int×Int×LI×LL×Int) (r4:Int×Int×Bool×Bool×LI×LI×Int×Int×LI×Bool×LI×Int×Int×Bool×Bool×LI×LI×Int×Int×LL×LI×LI×Int×Int×Int×LI×LL×Bool) (r5:Int×Int×Bool×Bool×LI×LI×Int×Int×LI×Bool×LI×Int×Int×Bool×Bool×LI×LI×Int×Int×LL×LI×LI×Int×Int×Int×LI×LL) (r6:Int×Int×Bool×Bool×LI×LI×Int×Int×LI×Bool×LI×Int×Int×Bool×Bool×LI×LI×Int×Int×LL×LI×LI×Int×Int×Int×LI×LL×Bool) (r7:Int×Int×Bool×Bool×LI×LI×Int×Int×LI×Bool×LI×Int×Int×Bool×Bool×LI×LI×Int×Int×LL×LI×LI×Int×Int×Int×LI×LL) (r8:Int×Int×Bool×Bool×LI×LI×Int×Int×LI×Bool×LI×Int×Int×Bool×Bool×LI×LI×Int×Int×LL×LI×LI×Int×Int×Int×LI×LL×Bool) (r9:Int×Int×Bool×Bool×LI×LI×Int×Int×LI×Bool×LI×Int×Int×Bool×Bool×LI×LI×Int×Int×LL×LI×LI×Int×Int×Int×LI×LL×ByteArray) (fW:Int×Int×Bool×Bool×LI×LI×Int×Int×LI×Bool×LI×Int×Int×Bool×Bool×LI×LI×Int×Int×LL×LI×LI×Int×Int×Int×LI×LL×Bool) (gN:Int×Int×Bool×Bool×LI×LI×Int×Int×LI×Bool×LI×Int×Int×Bool×Bool×LI×LI×Int×Int×LL×LI×LI×Int×Int×Int×LI×LL×Int) (iS:Int×Int×Bool×Bool×LI×LI×Int×Int×LI×Bool×LI×Int×Int×Bool×Bool×LI×LI×Int×Int×LL×LI×LI×Int×Int×Int×LI×LL×LI×LI):Option (Bool):=
 bif (t9 (t9 (t9 r1))) then
  (cc.f k r1.1 r1.2.1 (t2 r1).1 (t3 r1).1 (t4 r1).1 (t5 r1).1 (t6 r1).1 (t7 r1).1 (t8 r1).1 (t9 r1).1 (t9 r1.2).1 (t9 (t2 r1)).1 (t9 (t3 r1)).1 (t9 (t4 r1)).1 (t9 (t5 r1)).1 (t9 (t6 r1)).1 (t9 (t7 r1)).1 (t9 (t8 r1)).1 (t9 (t9 r1)).1 (t9 (t9 r1.2)).1 (t9 (t9 (t2 r1))).1 (t9 (t9 (t3 r1))).1 (t9 (t9 (t4 r1))).1 (t9 (t9 (t5 r1))).1 (t9 (t9 (t6 r1))).1 (t9 (t9 (t7 r1))).1 (t9 (t9 (t8 r1))).1).bind fun ye=>
  bif (!ye) then
   some false
  else
   bif (!(t9 r1).1) then
    some false
   else
    bif (((t9 (t9 (t7 r1))).1.length:Int) != 0) then
     some false
    else
     aw.j4 k r2 r3 r4 r5 r6 r7 r8 r9 fW r1 gN iS
 else
  aw.j4 k r2 r3 r4 r5 r6 r7 r8 r9 fW r1 gN iS
def aw.f (k:Nat) (a:LI):Option (Bool):=
 (tZ.f k a).bind fun r1=>
 bif r1 then
  some true
 else
  (eX.f k a).bind fun r2=>
  (ga.f k r2.1 r2.2.1 (t2 r2).1 (t3 r2).1 (t4 r2).1 (t5 r2).1 (t6 r2).1 (t7 r2).1 (t8 r2).1 (t9 r2).1 (t9 r2.2).1 (t9 (t2 r2)).1 (t9 (t3 r2)).1 (t9 (t4 r2)).1 (t9 (t5 r2)).1 (t9 (t6 r2)).1 (t9 (t7 r2)).1 (t9 (t8 r2)).1 (t9 (t9 r2)).1 (t9 (t9 r2.2)).1 (t9 (t9 (t2 r2))).1 (t9 (t9 (t3 r2))).1 (t9 (t9 (t4 r2))).1 (t9 (t9 (t5 r2))).1 (t9 (t9 (t6 r2))).1 (t9 (t9 (t7 r2))).1 (t9 (t9 (t8 r2))).1 (t9 (t9 (t9 r2)))).bind fun r3=>
  (aO.f k a).bind fun r4=>
  (gb.f k r4.1 r4.2.1 (t2 r4).1 (t3 r4).1 (t4 r4).1 (t5 r4).1 (t6 r4).1 (t7 r4).1 (t8 r4).1 (t9 r4).1 (t9 r4.2).1 (t9 (t2 r4)).1 (t9 (t3 r4)).1 (t9 (t4 r4)).1 (t9 (t5 r4)).1 (t9 (t6 r4)).1 (t9 (t7 r4)).1 (t9 (t8 r4)).1 (t9 (t9 r4)).1 (t9 (t9 r4.2)).1 (t9 (t9 (t2 r4))).1 (t9 (t9 (t3 r4))).1 (t9 (t9 (t4 r4))).1 (t9 (t9 (t5 r4))).1 (t9 (t9 (t6 r4))).1 (t9 (t9 (t7 r4))).1 (t9 (t9 (t8 r4))).1 (t9 (t9 (t9 r4))).1 (t9 (t9 (t9 r4.2)))).bind fun r5=>
  (eC.f k a).bind fun r6=>
  (gd.f k r6.1 r6.2.1 (t2 r6).1 (t3 r6).1 (t4 r6).1 (t5 r6).1 (t6 r6).1 (t7 r6).1 (t8 r6).1 (t9 r6).1 (t9 r6.2).1 (t9 (t2 r6)).1 (t9 (t3 r6)).1 (t9 (t4 r6)).1 (t9 (t5 r6)).1 (t9 (t6 r6)).1 (t9 (t7 r6)).1 (t9 (t8 r6)).1 (t9 (t9 r6)).1 (t9 (t9 r6.2)).1 (t9 (t9 (t2 r6))).1 (t9 (t9 (t3 r6))).1 (t9 (t9 (t4 r6))).1 (t9 (t9 (t5 r6))).1 (t9 (t9 (t6 r6))).1 (t9 (t9 (t7 r6))).1 (t9 (t9 (t8 r6))).1 (t9 (t9 (t9 r6)))).bind fun r7=>
  (dx.f k a).bind fun r8=>
  (gf.f k r8.1 r8.2.1 (t2 r8).1 (t3 r8).1 (t4 r8).1 (t5 r8).1 (t6 r8).1 (t7 r8).1 (t8 r8).1 (t9 r8).1 (t9 r8.2).1 (t9 (t2 r8)).1 (t9 (t3 r8)).1 (t9 (t4 r8)).1 (t9 (t5 r8)).1 (t9 (t6 r8)).1 (t9 (t7 r8)).1 (t9 (t8 r8)).1 (t9 (t9 r8)).1 (t9 (t9 r8.2)).1 (t9 (t9 (t2 r8))).1 (t9 (t9 (t3 r8))).1 (t9 (t9 (t4 r8))).1 (t9 (t9 (t5 r8))).1 (t9 (t9 (t6 r8))).1 (t9 (t9 (t7 r8))).1 (t9 (t9 (t8 r8)))).bind fun r9=>
  (ey.f k a).bind fun fW=>
  (fg.f k fW.1 fW.2.1 (t2 fW).1 (t3 fW).1 (t4 fW).1 (t5 fW).1 (t6 fW).1 (t7 fW).1 (t8 fW).1 (t9 fW).1 (t9 fW.2).1 (t9 (t2 fW)).1 (t9 (t3 fW)).1 (t9 (t4 fW)).1 (t9 (t5 fW)).1 (t9 (t6 fW)).1 (t9 (t7 fW)).1 (t9 (t8 fW)).1 (t9 (t9 fW)).1 (t9 (t9 fW.2)).1 (t9 (t9 (t2 fW))).1 (t9 (t9 (t3 fW))).1 (t9 (t9 (t4 fW))).1 (t9 (t9 (t5 fW))).1 (t9 (t9 (t6 fW))).1 (t9 (t9 (t7 fW))).1 (t9 (t9 (t8 fW)))).bind fun gN=>
  (eM.f k a).bind fun iS=>
  (fL.f k iS.1 iS.2.1 (t2 iS).1 (t3 iS).1 (t4 iS).1 (t5 iS).1 (t6 iS).1 (t7 iS).1 (t8 iS).1 (t9 iS).1 (t9 iS.2).1 (t9 (t2 iS)).1 (t9 (t3 iS)).1 (t9 (t4 iS)).1 (t9 (t5 iS)).1 (t9 (t6 iS)).1 (t9 (t7 iS)).1 (t9 (t8 iS)).1 (t9 (t9 iS)).1 (t9 (t9 iS.2)).1 (t9 (t9 (t2 iS))).1 (t9 (t9 (t3 iS))).1 (t9 (t9 (t4 iS))).1 (t9 (t9 (t5 iS))).1 (t9 (t9 (t6 iS))).1 (t9 (t9 (t7 iS))).1 (t9 (t9 (t8 iS))).1 (t9 (t9 (t9 iS)))).bind fun ye=>
  bif (t9 (t9 (t9 r3))) then
   (cc.f k r3.1 r3.2.1 (t2 r3).1 (t3 r3).1 (t4 r3).1 (t5 r3).1 (t6 r3).1 (t7 r3).1 (t8 r3).1 (t9 r3).1 (t9 r3.2).1 (t9 (t2 r3)).1 (t9 (t3 r3)).1 (t9 (t4 r3)).1 (t9 (t5 r3)).1 (t9 (t6 r3)).1 (t9 (t7 r3)).1 (t9 (t8 r3)).1 (t9 (t9 r3)).1 (t9 (t9 r3.2)).1 (t9 (t9 (t2 r3))).1 (t9 (t9 (t3 r3))).1 (t9 (t9 (t4 r3))).1 (t9 (t9 (t5 r3))).1 (t9 (t9 (t6 r3))).1 (t9 (t9 (t7 r3))).1 (t9 (t9 (t8 r3))).1).bind fun Q6=>
   bif (!Q6) then
    some false
   else
    bif (((t8 r3).1.length:Int) != (IntKind.wrap .i64 (((t8 r2).1.length:Int)+1))) then
     some false
    else
     aw.j5 k r5 r7 r6 r9 r8 gN fW ye iS r3 r2 r4
  else
   aw.j5 k r5 r7 r6 r9 r8 gN fW ye iS r3 r2 r4
end Go.Proofs.YtbmmhdmljajcfaaGreatDoor
