/- Plain Lean functions, printed by a program out of the Go functions' translation: what each computes, without program and memory. -/
import Derived.Test.YtbmmhdmljajcfaaGreatDoorVEval
import Derived.Test.YtbmmhdmljajcfaaGreatDoorNoteF
import Derived.Test.YtbmmhdmljajcfaaGreatDoorVExt
set_option linter.unusedVariables false
namespace Go.Proofs.YtbmmhdmljajcfaaGreatDoor
open Go Go.Proofs.YtbmmhdmljajcfaaGreatDoor.V
def aJ.f (k:Nat) (a:LI):Option (LI):=
 ay (decide ((0+a.length)*8<=room))<|
 some ([]++a)
def bY.f (k:Nat) (a0 a1:Int) (a2 a3:Bool) (a4 a5:LI) (a6 a7:Int):Option (Int×Int×Bool×Bool×LI×LI×Int×Int):=
 (aJ.f k a4).bind fun r1=>
 (aJ.f k a5).bind fun r2=>
 some (a0,a1,a2,a3,r1,r2,a6,a7)
def bm.s3 {R:Type} (k:Nat) (v0:LL) (v1:Int) (e0:LL->Option R) (rec:Int->LL->Option R) (v2:Int) (v3:LL):Option R:=
 bif decide (v2<v1) then
  ay ((decide (0<=v2))&&(decide (v2<(v0.length:Int))))<|
  (aJ.f k (v0.getD v2.toNat [])).bind fun r1=>
  ay (decide ((v3.length+1)*24<=room))<|
  rec (IntKind.wrap .i64 (v2+1)) (v3++[r1])
 else
  e0 v3
def bm.l3 {R:Type} (k:Nat) (v0:LL) (v1:Int) (e0:LL->Option R) (n:Nat) (v2:Int) (v3:LL):Option R:=
 V.iter (A:=Int×LL) (fun rec a=>bm.s3 k v0 v1 e0 (fun c0 c1=>rec (c0,c1)) a.1 a.2) n (v2,v3)
theorem bm.aA {R:Type} (k:Nat) (v0:LL) (v1:Int) (e0:LL->Option R) (n:Nat) (v2:Int) (v3:LL):bm.l3 (R:=R) k v0 v1 e0 (n+1) v2 v3=bm.s3 k v0 v1 e0 (bm.l3 k v0 v1 e0 n) v2 v3:=rfl
def bm.f (k:Nat) (a:LL):Option (LL):=
 bm.l3 k a (a.length:Int) (fun x2=>
  some x2) k 0 []
def cN.f (k:Nat) (a0 a1:Int) (a2 a3:Bool) (a4 a5:LI) (a6 a7:Int) (a8:LL) (a9 de:LI) (cK a12 dq:Int):Option (Int×Int×Bool×Bool×LI×LI×Int×Int×LL×LI×LI×Int×Int×Int):=
 (bY.f k a0 a1 a2 a3 a4 a5 a6 a7).bind fun r1=>
 (bm.f k a8).bind fun r2=>
 (aJ.f k a9).bind fun r3=>
 (aJ.f k de).bind fun r4=>
 some (r1.1,r1.2.1,(t2 r1).1,(t3 r1).1,(t4 r1).1,(t5 r1).1,(t6 r1).1,(t7 r1),r2,r3,r4,cK,a12,dq)
def ah.f (k:Nat) (a0 a1:Int) (a2 a3:Bool) (a4 a5:LI) (a6 a7:Int) (a8:LI) (a9:Bool) (de:LI) (cK a12:Int) (dq fW:Bool) (fX fY:LI) (fZ f_:Int) (fT:LL) (a20 a21:LI) (ga fU a24:Int) (gq:LI) (gB:LL):Option (Int×Int×Bool×Bool×LI×LI×Int×Int×LI×Bool×LI×Int×Int×Bool×Bool×LI×LI×Int×Int×LL×LI×LI×Int×Int×Int×LI×LL):=
 (bY.f k a0 a1 a2 a3 a4 a5 a6 a7).bind fun r1=>
 (aJ.f k a8).bind fun r2=>
 (aJ.f k de).bind fun r3=>
 (cN.f k cK a12 dq fW fX fY fZ f_ fT a20 a21 ga fU a24).bind fun r4=>
 (aJ.f k gq).bind fun r5=>
 (bm.f k gB).bind fun r6=>
 some (r1.1,r1.2.1,(t2 r1).1,(t3 r1).1,(t4 r1).1,(t5 r1).1,(t6 r1).1,(t7 r1),r2,a9,r3,r4.1,r4.2.1,(t2 r4).1,(t3 r4).1,(t4 r4).1,(t5 r4).1,(t6 r4).1,(t7 r4).1,(t8 r4).1,(t9 r4).1,(t9 r4.2).1,(t9 (t2 r4)).1,(t9 (t3 r4)).1,(t9 (t4 r4)),r5,r6)
def a_.s3 {R:Type} (k:Nat) (v0:ByteArray) (v1 v3:Int) (e0:Int->List ByteArray->Option R) (rec:Int->Int->List ByteArray->Option R) (v2 v4:Int) (v5:List ByteArray):Option R:=
 bif decide (v4<v3) then
  ay ((decide (0<=v4))&&(decide (v4<(v0.size:Int))))<|
  bif ((sb v0 v4.toNat)==v1) then
   ay ((decide (0<=v4))&&(decide (v4<=(v0.size:Int))))<|
   ay ((decide (0<=v2))&&(decide (v2<=v4)))<|
   ay (decide ((v5.length+1)*16<=room))<|
   rec (IntKind.wrap .i64 (v4+1)) (IntKind.wrap .i64 (v4+1)) (v5++[v0.extract v2.toNat v4.toNat])
  else
   rec v2 (IntKind.wrap .i64 (v4+1)) v5
 else
  e0 v2 v5
def a_.l3 {R:Type} (k:Nat) (v0:ByteArray) (v1 v3:Int) (e0:Int->List ByteArray->Option R) (n:Nat) (v2 v4:Int) (v5:List ByteArray):Option R:=
 V.iter (A:=Int×Int×List ByteArray) (fun rec a=>a_.s3 k v0 v1 v3 e0 (fun c0 c1 c2=>rec (c0,c1,c2)) a.1 a.2.1 (t2 a)) n (v2,v4,v5)
theorem a_.aA {R:Type} (k:Nat) (v0:ByteArray) (v1 v3:Int) (e0:Int->List ByteArray->Option R) (n:Nat) (v2 v4:Int) (v5:List ByteArray):a_.l3 (R:=R) k v0 v1 v3 e0 (n+1) v2 v4 v5=a_.s3 k v0 v1 v3 e0 (a_.l3 k v0 v1 v3 e0 n) v2 v4 v5:=rfl
def a_.f (k:Nat) (a:ByteArray) (g:Int):Option (List ByteArray):=
 a_.l3 k a g (a.size:Int) (fun x1 x2=>
  ay ((decide (0<=(a.size:Int)))&&(decide ((a.size:Int)<=(a.size:Int))))<|
  ay ((decide (0<=x1))&&(decide (x1<=(a.size:Int))))<|
  ay (decide ((x2.length+1)*16<=room))<|
  some (x2++[a.extract x1.toNat (a.size:Int).toNat])) k 0 0 []
def cD.s3 {R:Type} (k:Nat) (v0:Int) (v3:List ByteArray) (e0:List ByteArray->Option R) (rec:Int->List ByteArray->Option R) (v1:Int) (v2:List ByteArray):Option R:=
 bif decide (v1<v0) then
  ay ((decide (0<=v1))&&(decide (v1<(v3.length:Int))))<|
  bif (!((v3.getD v1.toNat ByteArray.empty).toList==ByteArray.empty.toList)) then
   ay (decide ((v2.length+1)*16<=room))<|
   rec (IntKind.wrap .i64 (v1+1)) (v2++[v3.getD v1.toNat ByteArray.empty])
  else
   rec (IntKind.wrap .i64 (v1+1)) v2
 else
  e0 v2
def cD.l3 {R:Type} (k:Nat) (v0:Int) (v3:List ByteArray) (e0:List ByteArray->Option R) (n:Nat) (v1:Int) (v2:List ByteArray):Option R:=
 V.iter (A:=Int×List ByteArray) (fun rec a=>cD.s3 k v0 v3 e0 (fun c0 c1=>rec (c0,c1)) a.1 a.2) n (v1,v2)
theorem cD.aA {R:Type} (k:Nat) (v0:Int) (v3:List ByteArray) (e0:List ByteArray->Option R) (n:Nat) (v1:Int) (v2:List ByteArray):cD.l3 (R:=R) k v0 v3 e0 (n+1) v1 v2=cD.s3 k v0 v3 e0 (cD.l3 k v0 v3 e0 n) v1 v2:=rfl
def cD.f (k:Nat) (a:ByteArray):Option (List ByteArray):=
 (a_.f k a 32).bind fun r1=>
 cD.l3 k (r1.length:Int) r1 (fun x2=>
  some x2) k 0 []
def cE.f (k:Nat) (a:ByteArray):Option (ByteArray×Bool):=
 bif (a.toList==(⟨#[110,101,119]⟩:ByteArray).toList) then
  some (ByteArray.empty,true)
 else
  bif (a.toList==(⟨#[116,97,107,101]⟩:ByteArray).toList) then
   some (ByteArray.empty,true)
  else
   bif (a.toList==(⟨#[115,101,116,116,108,101]⟩:ByteArray).toList) then
    some (ByteArray.empty,true)
   else
    bif (a.toList==(⟨#[114,117,108,101,115]⟩:ByteArray).toList) then
     some (ByteArray.empty,true)
    else
     bif (a.toList==(⟨#[116,97,98,108,101]⟩:ByteArray).toList) then
      some (ByteArray.empty,true)
     else
      bif (a.toList==(⟨#[103,97,109,101]⟩:ByteArray).toList) then
       some (ByteArray.empty,true)
      else
       bif (a.toList==(⟨#[99,97,110]⟩:ByteArray).toList) then
        some (ByteArray.empty,true)
       else
        bif (a.toList==(⟨#[114,101,99,111,114,100]⟩:ByteArray).toList) then
         some (ByteArray.empty,true)
        else
         bif (a.toList==(⟨#[115,104,101,101,116]⟩:ByteArray).toList) then
          some (ByteArray.empty,true)
         else
          bif (a.toList==(⟨#[97,117,100,105,116]⟩:ByteArray).toList) then
           some (ByteArray.empty,true)
          else
           bif (a.toList==(⟨#[98,101,103,105,110]⟩:ByteArray).toList) then
            some ((⟨#[78,78,78]⟩:ByteArray),true)
           else
            bif (a.toList==(⟨#[112,108,97,121]⟩:ByteArray).toList) then
             some ((⟨#[99]⟩:ByteArray),true)
            else
             bif (a.toList==(⟨#[97,117,116,111]⟩:ByteArray).toList) then
              some ((⟨#[78]⟩:ByteArray),true)
             else
              bif (a.toList==(⟨#[115,101,101]⟩:ByteArray).toList) then
               some ((⟨#[78]⟩:ByteArray),true)
              else
               bif (a.toList==(⟨#[109,101,108,100,115]⟩:ByteArray).toList) then
                some ((⟨#[104]⟩:ByteArray),true)
               else
                bif (a.toList==(⟨#[108,101,102,116]⟩:ByteArray).toList) then
                 some ((⟨#[104]⟩:ByteArray),true)
                else
                 bif (a.toList==(⟨#[107,105,110,100]⟩:ByteArray).toList) then
                  some ((⟨#[104]⟩:ByteArray),true)
                 else
                  bif (a.toList==(⟨#[99,111,117,110,116]⟩:ByteArray).toList) then
                   some ((⟨#[112]⟩:ByteArray),true)
                  else
                   bif (a.toList==(⟨#[119,105,110,115]⟩:ByteArray).toList) then
                    some ((⟨#[104,78]⟩:ByteArray),true)
                   else
                    some (ByteArray.empty,false)
def strconv_Itoa.f (k:Nat) (a0:Int):Option (ByteArray):=
 ay (decide ((-9223372036854775808:Int)<=a0)&&decide (a0<=9223372036854775807))<|some (gP a0)
def aF.f (k:Nat) (a:Int):Option (ByteArray):=
 (strconv_Itoa.f k a).bind fun r1=>
 some r1
def an.f (k:Nat) (a g i:Int):Option (Bool):=
 bif decide (g<=a) then
  some (decide (a<=i))
 else
  some false
def strconv_Atoi.f (k:Nat) (a0:ByteArray):Option (Int×Bool):=
 ay (Nat.ble a0.size 18)<|some (qH a0,qf a0)
def iO.f (k:Nat) (a:ByteArray):Option (Int×Bool):=
 bif decide ((a.size:Int)>13) then
  some (0,false)
 else
  (strconv_Atoi.f k a).bind fun r1=>
  bif (!r1.2) then
   some (0,false)
  else
   (an.f k r1.1 0 1000000000000).bind fun r2=>
   bif (!r2) then
    some (0,false)
   else
    (aF.f k r1.1).bind fun r3=>
    bif (!(r3.toList==a.toList)) then
     some (0,false)
    else
     some (r1.1,true)
def kh.f (k:Nat) (a:Int):Option (Bool):=
 (an.f k a 100 103).bind fun r1=>
 bif r1 then
  some true
 else
  (an.f k a 200 212).bind fun r2=>
  bif r2 then
   some true
  else
   (an.f k a 300 312).bind fun r3=>
   bif r3 then
    some true
   else
    some (a==400)
def bq.s3 {R:Type} (k:Nat) (v2:LI) (v3:Int) (e0 e1:Int->Option R) (rec:Int->Int->Option R) (v1 v4:Int):Option R:=
 bif decide (v4<v3) then
  ay ((decide (0<=v4))&&(decide (v4<(v2.length:Int))))<|
  (kh.f k (v2.getD v4.toNat 0)).bind fun r1=>
  bif r1 then
   rec (IntKind.wrap .i64 (v1+1)) (IntKind.wrap .i64 (v4+1))
  else
   bif ((v2.getD v4.toNat 0)==(-1)) then
    bif decide (v1>=1) then
     rec v1 (IntKind.wrap .i64 (v4+1))
    else
     bif ((v2.getD v4.toNat 0)==(-2)) then
      bif decide (v1>=2) then
       rec (IntKind.wrap .i64 (v1-1)) (IntKind.wrap .i64 (v4+1))
      else
       e0 v1
     else
      bif ((v2.getD v4.toNat 0)==(-3)) then
       bif decide (v1>=2) then
        rec (IntKind.wrap .i64 (v1-1)) (IntKind.wrap .i64 (v4+1))
       else
        e0 v1
      else
       e0 v1
   else
    bif ((v2.getD v4.toNat 0)==(-2)) then
     bif decide (v1>=2) then
      rec (IntKind.wrap .i64 (v1-1)) (IntKind.wrap .i64 (v4+1))
     else
      e0 v1
    else
     bif ((v2.getD v4.toNat 0)==(-3)) then
      bif decide (v1>=2) then
       rec (IntKind.wrap .i64 (v1-1)) (IntKind.wrap .i64 (v4+1))
      else
       e0 v1
     else
      e0 v1
 else
  e1 v1
def bq.l3 {R:Type} (k:Nat) (v2:LI) (v3:Int) (e0 e1:Int->Option R) (n:Nat) (v1 v4:Int):Option R:=
 V.iter (A:=Int×Int) (fun rec a=>bq.s3 k v2 v3 e0 e1 (fun c0 c1=>rec (c0,c1)) a.1 a.2) n (v1,v4)
theorem bq.aA {R:Type} (k:Nat) (v2:LI) (v3:Int) (e0 e1:Int->Option R) (n:Nat) (v1 v4:Int):bq.l3 (R:=R) k v2 v3 e0 e1 (n+1) v1 v4=bq.s3 k v2 v3 e0 e1 (bq.l3 k v2 v3 e0 e1 n) v1 v4:=rfl
def bq.f (k:Nat) (a:LI):Option (Bool):=
 bq.l3 k a (a.length:Int) (fun x2=>
  some false) (fun x3=>
  (an.f k (a.length:Int) 1 20).bind fun r4=>
  bif r4 then
   some (x3==1)
  else
   some false) k 0 0
def iP.f (k:Nat) (a:Int):Option (ByteArray):=
 bif (a==400) then
  some (⟨#[114]⟩:ByteArray)
 else
  bif decide (a>=300) then
   ay ((decide (0<=(IntKind.wrap .i64 ((IntKind.wrap .i64 (a-300))+1))))&&(decide ((IntKind.wrap .i64 ((IntKind.wrap .i64 (a-300))+1))<=13)))<|
   ay ((decide (0<=(IntKind.wrap .i64 (a-300))))&&(decide ((IntKind.wrap .i64 (a-300))<=(IntKind.wrap .i64 ((IntKind.wrap .i64 (a-300))+1)))))<|
   ay (decide (((⟨#[50,51,52,53,54,55,56,57,84,74,81,75,65]⟩:ByteArray).extract ((IntKind.wrap .i64 (a-300)).toNat) ((IntKind.wrap .i64 ((IntKind.wrap .i64 (a-300))+1)).toNat)).size+(⟨#[43]⟩:ByteArray).size<=fa))<|
   some (((⟨#[50,51,52,53,54,55,56,57,84,74,81,75,65]⟩:ByteArray).extract ((IntKind.wrap .i64 (a-300)).toNat) ((IntKind.wrap .i64 ((IntKind.wrap .i64 (a-300))+1)).toNat))++(⟨#[43]⟩:ByteArray))
  else
   bif decide (a>=200) then
    ay ((decide (0<=(IntKind.wrap .i64 ((IntKind.wrap .i64 (a-200))+1))))&&(decide ((IntKind.wrap .i64 ((IntKind.wrap .i64 (a-200))+1))<=13)))<|
    ay ((decide (0<=(IntKind.wrap .i64 (a-200))))&&(decide ((IntKind.wrap .i64 (a-200))<=(IntKind.wrap .i64 ((IntKind.wrap .i64 (a-200))+1)))))<|
    some ((⟨#[50,51,52,53,54,55,56,57,84,74,81,75,65]⟩:ByteArray).extract ((IntKind.wrap .i64 (a-200)).toNat) ((IntKind.wrap .i64 ((IntKind.wrap .i64 (a-200))+1)).toNat))
   else
    ay ((decide (0<=(IntKind.wrap .i64 ((IntKind.wrap .i64 (a-100))+1))))&&(decide ((IntKind.wrap .i64 ((IntKind.wrap .i64 (a-100))+1))<=4)))<|
    ay ((decide (0<=(IntKind.wrap .i64 (a-100))))&&(decide ((IntKind.wrap .i64 (a-100))<=(IntKind.wrap .i64 ((IntKind.wrap .i64 (a-100))+1)))))<|
    some ((⟨#[99,100,104,115]⟩:ByteArray).extract ((IntKind.wrap .i64 (a-100)).toNat) ((IntKind.wrap .i64 ((IntKind.wrap .i64 (a-100))+1)).toNat))
def aR.s5 {R:Type} (k:Nat) (v0:LI) (v1:Int) (e0:List ByteArray->Option R) (rec:Int->List ByteArray->Option R) (v2:Int) (v3:List ByteArray):Option R:=
 bif decide (v2<v1) then
  ay ((decide (0<=v2))&&(decide (v2<(v0.length:Int))))<|
  bif ((v0.getD v2.toNat 0)==(-1)) then
   ay ((decide (0<=(IntKind.wrap .i64 ((v3.length:Int)-1))))&&(decide ((IntKind.wrap .i64 ((v3.length:Int)-1))<(v3.length:Int))))<|
   ay (decide ((⟨#[33]⟩:ByteArray).size+(v3.getD ((IntKind.wrap .i64 ((v3.length:Int)-1)).toNat) ByteArray.empty).size<=fa))<|
   ay ((decide (0<=(IntKind.wrap .i64 ((v3.length:Int)-1))))&&(decide ((IntKind.wrap .i64 ((v3.length:Int)-1))<(v3.length:Int))))<|
   rec (IntKind.wrap .i64 (v2+1)) (v3.set ((IntKind.wrap .i64 ((v3.length:Int)-1)).toNat) ((⟨#[33]⟩:ByteArray)++(v3.getD ((IntKind.wrap .i64 ((v3.length:Int)-1)).toNat) ByteArray.empty)))
  else
   bif ((v0.getD v2.toNat 0)==(-2)) then
    ay ((decide (0<=(IntKind.wrap .i64 ((v3.length:Int)-2))))&&(decide ((IntKind.wrap .i64 ((v3.length:Int)-2))<=(v3.length:Int))))<|
    ay (decide (0<=(IntKind.wrap .i64 ((v3.length:Int)-2))))<|
    ay ((decide (0<=(IntKind.wrap .i64 ((v3.length:Int)-2))))&&(decide ((IntKind.wrap .i64 ((v3.length:Int)-2))<(v3.length:Int))))<|
    ay (decide ((⟨#[40]⟩:ByteArray).size+(v3.getD ((IntKind.wrap .i64 ((v3.length:Int)-2)).toNat) ByteArray.empty).size<=fa))<|
    ay (decide (((⟨#[40]⟩:ByteArray)++(v3.getD ((IntKind.wrap .i64 ((v3.length:Int)-2)).toNat) ByteArray.empty)).size+(⟨#[38]⟩:ByteArray).size<=fa))<|
    ay ((decide (0<=(IntKind.wrap .i64 ((v3.length:Int)-1))))&&(decide ((IntKind.wrap .i64 ((v3.length:Int)-1))<(v3.length:Int))))<|
    ay (decide ((((⟨#[40]⟩:ByteArray)++(v3.getD ((IntKind.wrap .i64 ((v3.length:Int)-2)).toNat) ByteArray.empty))++(⟨#[38]⟩:ByteArray)).size+(v3.getD ((IntKind.wrap .i64 ((v3.length:Int)-1)).toNat) ByteArray.empty).size<=fa))<|
    ay (decide (((((⟨#[40]⟩:ByteArray)++(v3.getD ((IntKind.wrap .i64 ((v3.length:Int)-2)).toNat) ByteArray.empty))++(⟨#[38]⟩:ByteArray))++(v3.getD ((IntKind.wrap .i64 ((v3.length:Int)-1)).toNat) ByteArray.empty)).size+(⟨#[41]⟩:ByteArray).size<=fa))<|
    ay (decide ((((v3.take ((IntKind.wrap .i64 ((v3.length:Int)-2)).toNat)).length)+1)*16<=room))<|
    rec (IntKind.wrap .i64 (v2+1)) ((v3.take ((IntKind.wrap .i64 ((v3.length:Int)-2)).toNat))++([((((⟨#[40]⟩:ByteArray)++(v3.getD ((IntKind.wrap .i64 ((v3.length:Int)-2)).toNat) ByteArray.empty))++(⟨#[38]⟩:ByteArray))++(v3.getD ((IntKind.wrap .i64 ((v3.length:Int)-1)).toNat) ByteArray.empty))++(⟨#[41]⟩:ByteArray)]))
   else
    bif ((v0.getD v2.toNat 0)==(-3)) then
     ay ((decide (0<=(IntKind.wrap .i64 ((v3.length:Int)-2))))&&(decide ((IntKind.wrap .i64 ((v3.length:Int)-2))<=(v3.length:Int))))<|
     ay (decide (0<=(IntKind.wrap .i64 ((v3.length:Int)-2))))<|
     ay ((decide (0<=(IntKind.wrap .i64 ((v3.length:Int)-2))))&&(decide ((IntKind.wrap .i64 ((v3.length:Int)-2))<(v3.length:Int))))<|
     ay (decide ((⟨#[40]⟩:ByteArray).size+(v3.getD ((IntKind.wrap .i64 ((v3.length:Int)-2)).toNat) ByteArray.empty).size<=fa))<|
     ay (decide (((⟨#[40]⟩:ByteArray)++(v3.getD ((IntKind.wrap .i64 ((v3.length:Int)-2)).toNat) ByteArray.empty)).size+(⟨#[124]⟩:ByteArray).size<=fa))<|
     ay ((decide (0<=(IntKind.wrap .i64 ((v3.length:Int)-1))))&&(decide ((IntKind.wrap .i64 ((v3.length:Int)-1))<(v3.length:Int))))<|
     ay (decide ((((⟨#[40]⟩:ByteArray)++(v3.getD ((IntKind.wrap .i64 ((v3.length:Int)-2)).toNat) ByteArray.empty))++(⟨#[124]⟩:ByteArray)).size+(v3.getD ((IntKind.wrap .i64 ((v3.length:Int)-1)).toNat) ByteArray.empty).size<=fa))<|
     ay (decide (((((⟨#[40]⟩:ByteArray)++(v3.getD ((IntKind.wrap .i64 ((v3.length:Int)-2)).toNat) ByteArray.empty))++(⟨#[124]⟩:ByteArray))++(v3.getD ((IntKind.wrap .i64 ((v3.length:Int)-1)).toNat) ByteArray.empty)).size+(⟨#[41]⟩:ByteArray).size<=fa))<|
     ay (decide ((((v3.take ((IntKind.wrap .i64 ((v3.length:Int)-2)).toNat)).length)+1)*16<=room))<|
     rec (IntKind.wrap .i64 (v2+1)) ((v3.take ((IntKind.wrap .i64 ((v3.length:Int)-2)).toNat))++([((((⟨#[40]⟩:ByteArray)++(v3.getD ((IntKind.wrap .i64 ((v3.length:Int)-2)).toNat) ByteArray.empty))++(⟨#[124]⟩:ByteArray))++(v3.getD ((IntKind.wrap .i64 ((v3.length:Int)-1)).toNat) ByteArray.empty))++(⟨#[41]⟩:ByteArray)]))
    else
     (iP.f k (v0.getD v2.toNat 0)).bind fun r2=>
     ay (decide ((v3.length+1)*16<=room))<|
     rec (IntKind.wrap .i64 (v2+1)) (v3++[r2])
 else
  e0 v3
def aR.l5 {R:Type} (k:Nat) (v0:LI) (v1:Int) (e0:List ByteArray->Option R) (n:Nat) (v2:Int) (v3:List ByteArray):Option R:=
 V.iter (A:=Int×List ByteArray) (fun rec a=>aR.s5 k v0 v1 e0 (fun c0 c1=>rec (c0,c1)) a.1 a.2) n (v2,v3)
theorem aR.bp {R:Type} (k:Nat) (v0:LI) (v1:Int) (e0:List ByteArray->Option R) (n:Nat) (v2:Int) (v3:List ByteArray):aR.l5 (R:=R) k v0 v1 e0 (n+1) v2 v3=aR.s5 k v0 v1 e0 (aR.l5 k v0 v1 e0 n) v2 v3:=rfl
def aR.f (k:Nat) (a:LI):Option (ByteArray):=
 (bq.f k a).bind fun r1=>
 bif (!r1) then
  some ByteArray.empty
 else
  aR.l5 k a (a.length:Int) (fun x3=>
   ay (decide (0<(x3.length:Int)))<|
   some (x3.getD 0 ByteArray.empty)) k 0 []
def gJ.f (k:Nat) (a0:ByteArray):Option (List Int×Bool):=
 yl.Bb (aR.f k) a0
def strings_IndexByte.f (k:Nat) (a0:ByteArray) (a1:Int):Option (Int):=
 some (oX a0 a1)
def dZ.f (k:Nat) (a:ByteArray):Option (Int):=
 bif ((a.size:Int) != 2) then
  some (-1)
 else
  ay (decide (0<(a.size:Int)))<|
  (strings_IndexByte.f k (⟨#[50,51,52,53,54,55,56,57,84,74,81,75,65]⟩:ByteArray) (sb a 0)).bind fun r1=>
  ay (decide (1<(a.size:Int)))<|
  (strings_IndexByte.f k (⟨#[99,100,104,115]⟩:ByteArray) (sb a 1)).bind fun r2=>
  bif decide (r1<0) then
   some (-1)
  else
   bif decide (r2<0) then
    some (-1)
   else
    some (IntKind.wrap .i64 ((IntKind.wrap .i64 (r2*13))+r1))
def aT.f (k:Nat) (a:Int):Option (Bool):=
 (an.f k a 0 51).bind fun r1=>
 some r1
def aB.s3 {R:Type} (k:Nat) (v0:LI) (v1:Int) (e0 e1:Option R) (rec:Int->List Bool->Option R) (v2:Int) (v3:List Bool):Option R:=
 bif decide (v2<v1) then
  ay ((decide (0<=v2))&&(decide (v2<(v0.length:Int))))<|
  (aT.f k (v0.getD v2.toNat 0)).bind fun r1=>
  bif (!r1) then
   e0
  else
   ay ((decide (0<=(v0.getD v2.toNat 0)))&&(decide ((v0.getD v2.toNat 0)<52)))<|
   bif (v3.getD ((v0.getD v2.toNat 0).toNat) false) then
    e0
   else
    ay ((decide (0<=(v0.getD v2.toNat 0)))&&(decide ((v0.getD v2.toNat 0)<52)))<|
    rec (IntKind.wrap .i64 (v2+1)) (v3.set ((v0.getD v2.toNat 0).toNat) true)
 else
  e1
def aB.l3 {R:Type} (k:Nat) (v0:LI) (v1:Int) (e0 e1:Option R) (n:Nat) (v2:Int) (v3:List Bool):Option R:=
 V.iter (A:=Int×List Bool) (fun rec a=>aB.s3 k v0 v1 e0 e1 (fun c0 c1=>rec (c0,c1)) a.1 a.2) n (v2,v3)
theorem aB.aA {R:Type} (k:Nat) (v0:LI) (v1:Int) (e0 e1:Option R) (n:Nat) (v2:Int) (v3:List Bool):aB.l3 (R:=R) k v0 v1 e0 e1 (n+1) v2 v3=aB.s3 k v0 v1 e0 e1 (aB.l3 k v0 v1 e0 e1 n) v2 v3:=rfl
def aB.f (k:Nat) (a:LI):Option (Bool):=
 aB.l3 k a (a.length:Int) (some false) (some true) k 0 [false,false,false,false,false,false,false,false,false,false,false,false,false,false,false,false,false,false,false,false,false,false,false,false,false,false,false,false,false,false,false,false,false,false,false,false,false,false,false,false,false,false,false,false,false,false,false,false,false,false,false,false]
def bI.s7 {R:Type} (k:Nat) (v0:ByteArray) (e0:LI->Option R) (rec:Int->LI->Option R) (v1:Int) (v2:LI):Option R:=
 bif decide (v1<(v0.size:Int)) then
  ay ((decide (0<=(IntKind.wrap .i64 (v1+2))))&&(decide ((IntKind.wrap .i64 (v1+2))<=(v0.size:Int))))<|
  ay ((decide (0<=v1))&&(decide (v1<=(IntKind.wrap .i64 (v1+2)))))<|
  (dZ.f k (v0.extract v1.toNat ((IntKind.wrap .i64 (v1+2)).toNat))).bind fun r1=>
  ay (decide ((v2.length+1)*8<=room))<|
  rec (IntKind.wrap .i64 (v1+2)) (v2++[r1])
 else
  e0 v2
def bI.l7 {R:Type} (k:Nat) (v0:ByteArray) (e0:LI->Option R) (n:Nat) (v1:Int) (v2:LI):Option R:=
 V.iter (A:=Int×LI) (fun rec a=>bI.s7 k v0 e0 (fun c0 c1=>rec (c0,c1)) a.1 a.2) n (v1,v2)
theorem bI.EN {R:Type} (k:Nat) (v0:ByteArray) (e0:LI->Option R) (n:Nat) (v1:Int) (v2:LI):bI.l7 (R:=R) k v0 e0 (n+1) v1 v2=bI.s7 k v0 e0 (bI.l7 k v0 e0 n) v1 v2:=rfl
def bI.f (k:Nat) (a:ByteArray):Option (LI×Bool):=
 bif (a.toList==(⟨#[45]⟩:ByteArray).toList) then
  some ([],true)
 else
  bif (a.toList==ByteArray.empty.toList) then
   some ([],false)
  else
   bif (((a.size:Int).tmod 2) != 0) then
    some ([],false)
   else
    bif decide ((a.size:Int)>104) then
     some ([],false)
    else
     bI.l7 k a (fun x2=>
      (aB.f k x2).bind fun r3=>
      bif (!r3) then
       some ([],false)
      else
       some (x2,true)) k 0 []
def cS.s5 {R:Type} (k:Nat) (v0:ByteArray) (v1:List ByteArray) (v2:Int) (e0 e1:LI->LI->Option R) (rec:Int->LI->LI->Option R) (v3:Int) (v4 v5:LI):Option R:=
 bif decide (v3<v2) then
  ay ((decide (0<=v3))&&(decide (v3<(v1.length:Int))))<|
  ay ((decide (0<=v3))&&(decide (v3<(v0.size:Int))))<|
  bif ((sb v0 v3.toNat)==78) then
   (iO.f k (v1.getD v3.toNat ByteArray.empty)).bind fun r1=>
   ay (decide ((v4.length+1)*8<=room))<|
   bif (!r1.2) then
    e0 (v4++[r1.1]) v5
   else
    rec (IntKind.wrap .i64 (v3+1)) (v4++[r1.1]) v5
  else
   bif ((sb v0 v3.toNat)==99) then
    (dZ.f k (v1.getD v3.toNat ByteArray.empty)).bind fun r2=>
    ay (decide ((v4.length+1)*8<=room))<|
    bif (!(decide (r2>=0))) then
     e0 (v4++[r2]) v5
    else
     rec (IntKind.wrap .i64 (v3+1)) (v4++[r2]) v5
   else
    bif ((sb v0 v3.toNat)==104) then
     (bI.f k (v1.getD v3.toNat ByteArray.empty)).bind fun r3=>
     bif (!r3.2) then
      e0 v4 r3.1
     else
      rec (IntKind.wrap .i64 (v3+1)) v4 r3.1
    else
     (gJ.f k (v1.getD v3.toNat ByteArray.empty)).bind fun r4=>
     bif (!r4.2) then
      e0 v4 r4.1
     else
      rec (IntKind.wrap .i64 (v3+1)) v4 r4.1
 else
  e1 v4 v5
def cS.l5 {R:Type} (k:Nat) (v0:ByteArray) (v1:List ByteArray) (v2:Int) (e0 e1:LI->LI->Option R) (n:Nat) (v3:Int) (v4 v5:LI):Option R:=
 V.iter (A:=Int×LI×LI) (fun rec a=>cS.s5 k v0 v1 v2 e0 e1 (fun c0 c1 c2=>rec (c0,c1,c2)) a.1 a.2.1 (t2 a)) n (v3,v4,v5)
theorem cS.bp {R:Type} (k:Nat) (v0:ByteArray) (v1:List ByteArray) (v2:Int) (e0 e1:LI->LI->Option R) (n:Nat) (v3:Int) (v4 v5:LI):cS.l5 (R:=R) k v0 v1 v2 e0 e1 (n+1) v3 v4 v5=cS.s5 k v0 v1 v2 e0 e1 (cS.l5 k v0 v1 v2 e0 e1 n) v3 v4 v5:=rfl
def cS.f (k:Nat) (a:ByteArray) (g:List ByteArray):Option (LI×LI×Bool):=
 bif ((g.length:Int) != (a.size:Int)) then
  some ([],[],false)
 else
  cS.l5 k a g (g.length:Int) (fun x5 x6=>
   some ([],[],false)) (fun x7 x8=>
   some (x7,x8,true)) k 0 [] []
def gj.f (k:Nat) (a:LI):Option (Bool):=
 bif ((a.length:Int)==0) then
  some true
 else
  (bq.f k a).bind fun r1=>
  some r1
def cd.f (k:Nat) (a0 a1:Int) (a2 a3:Bool) (a4 a5:LI) (a6 a7:Int):Option (Bool):=
 (an.f k a0 2 6).bind fun r1=>
 bif r1 then
  (an.f k a1 1 8).bind fun r2=>
  bif r2 then
   bif a2 then
    (gj.f k a4).bind fun r3=>
    bif r3 then
     (gj.f k a5).bind fun r4=>
     bif r4 then
      (an.f k a6 1 4).bind fun r5=>
      bif r5 then
       (an.f k a7 1 400).bind fun r6=>
       some r6
      else
       some false
     else
      some false
    else
     some false
   else
    bif a3 then
     (gj.f k a4).bind fun r7=>
     bif r7 then
      (gj.f k a5).bind fun r8=>
      bif r8 then
       (an.f k a6 1 4).bind fun r9=>
       bif r9 then
        (an.f k a7 1 400).bind fun mO=>
        some mO
       else
        some false
      else
       some false
     else
      some false
    else
     some false
  else
   some false
 else
  some false
def ea.s5 {R:Type} (k:Nat) (v1:Int) (v3:LI) (v4:Int) (e0:LL->Option R) (rec:Int->LL->Option R) (v5:Int) (v6:LL):Option R:=
 bif decide (v5<v4) then
  ay ((decide (0<=v5))&&(decide (v5<(v3.length:Int))))<|
  ay (!(decide (v1=0)))<|
  ay (!(decide (v1=0)))<|
  ay ((decide (0<=(v5.tmod v1)))&&(decide ((v5.tmod v1)<(v6.length:Int))))<|
  ay (decide ((((v6.getD ((v5.tmod v1).toNat) []).length)+1)*8<=room))<|
  ay ((decide (0<=(v5.tmod v1)))&&(decide ((v5.tmod v1)<(v6.length:Int))))<|
  ay (((v5.tmod v1).toNat)==((v5.tmod v1).toNat))<|
  rec (IntKind.wrap .i64 (v5+1)) (v6.set ((v5.tmod v1).toNat) ((v6.getD ((v5.tmod v1).toNat) [])++[v3.getD v5.toNat 0]))
 else
  e0 v6
def ea.l5 {R:Type} (k:Nat) (v1:Int) (v3:LI) (v4:Int) (e0:LL->Option R) (n:Nat) (v5:Int) (v6:LL):Option R:=
 V.iter (A:=Int×LL) (fun rec a=>ea.s5 k v1 v3 v4 e0 (fun c0 c1=>rec (c0,c1)) a.1 a.2) n (v5,v6)
theorem ea.bp {R:Type} (k:Nat) (v1:Int) (v3:LI) (v4:Int) (e0:LL->Option R) (n:Nat) (v5:Int) (v6:LL):ea.l5 (R:=R) k v1 v3 v4 e0 (n+1) v5 v6=ea.s5 k v1 v3 v4 e0 (ea.l5 k v1 v3 v4 e0 n) v5 v6:=rfl
def ea.f (k:Nat) (a:LI) (g i:Int):Option (LL×LI×Bool):=
 (aB.f k a).bind fun r1=>
 bif (!r1) then
  (aJ.f k a).bind fun r2=>
  some ([],r2,false)
 else
  (an.f k g 1 6).bind fun r3=>
  bif (!r3) then
   (aJ.f k a).bind fun r4=>
   some ([],r4,false)
  else
   (an.f k i 0 20).bind fun r5=>
   bif (!r5) then
    (aJ.f k a).bind fun r6=>
    some ([],r6,false)
   else
    bif decide ((IntKind.wrap .i64 (g*i))>(a.length:Int)) then
     (aJ.f k a).bind fun r7=>
     some ([],r7,false)
    else
     ay ((decide (0<=g))&&(decide (g.toNat*24<=room)))<|
     ay ((decide (0<=(IntKind.wrap .i64 (g*i))))&&(decide ((IntKind.wrap .i64 (g*i))<=(a.length:Int))))<|
     ea.l5 k g (a.take ((IntKind.wrap .i64 (g*i)).toNat)) ((a.take ((IntKind.wrap .i64 (g*i)).toNat)).length:Int) (fun x8=>
      ay ((decide (0<=(IntKind.wrap .i64 (g*i))))&&(decide ((IntKind.wrap .i64 (g*i))<=(a.length:Int))))<|
      (aJ.f k (a.drop ((IntKind.wrap .i64 (g*i)).toNat))).bind fun r9=>
      some (x8,r9,true)) k 0 (List.replicate g.toNat [])
def ia.f (k:Nat) (a0 a1:Int) (a2 a3:Bool) (a4 a5:LI) (a6 a7:Int) (g:LI):Option (Int×Int×Bool×Bool×LI×LI×Int×Int×LL×LI×LI×Int×Int×Int×Bool):=
 (cd.f k a0 a1 a2 a3 a4 a5 a6 a7).bind fun r1=>
 bif (!r1) then
  some (0,0,false,false,[],[],0,0,[],[],[],0,0,0,false)
 else
  (aB.f k g).bind fun r2=>
  bif (!r2) then
   some (0,0,false,false,[],[],0,0,[],[],[],0,0,0,false)
  else
   bif ((g.length:Int) != 52) then
    some (0,0,false,false,[],[],0,0,[],[],[],0,0,0,false)
   else
    (ea.f k g a0 a1).bind fun r3=>
    (bY.f k a0 a1 a2 a3 a4 a5 a6 a7).bind fun r4=>
    ay ((decide (0<=(r3.2.1.length:Int)))&&(decide ((r3.2.1.length:Int)<=(r3.2.1.length:Int))))<|
    ay (decide (1<=(r3.2.1.length:Int)))<|
    (aJ.f k ((r3.2.1.take ((r3.2.1.length:Int).toNat)).drop 1)).bind fun r5=>
    ay (decide (0<(r3.2.1.length:Int)))<|
    some (r4.1,r4.2.1,(t2 r4).1,(t3 r4).1,(t4 r4).1,(t5 r4).1,(t6 r4).1,(t7 r4),r3.1,r5,[r3.2.1.getD 0 0],0,0,0,true)
def eK.s3 {R:Type} (k:Nat) (v1:LI) (v2:Int) (e0:Int->Option R) (rec:Int->Int->Option R) (v0 v3:Int):Option R:=
 bif decide (v3<v2) then
  ay ((decide (0<=v3))&&(decide (v3<(v1.length:Int))))<|
  rec (IntKind.wrap .i64 (v0+(v1.getD v3.toNat 0))) (IntKind.wrap .i64 (v3+1))
 else
  e0 v0
def eK.l3 {R:Type} (k:Nat) (v1:LI) (v2:Int) (e0:Int->Option R) (n:Nat) (v0 v3:Int):Option R:=
 V.iter (A:=Int×Int) (fun rec a=>eK.s3 k v1 v2 e0 (fun c0 c1=>rec (c0,c1)) a.1 a.2) n (v0,v3)
theorem eK.aA {R:Type} (k:Nat) (v1:LI) (v2:Int) (e0:Int->Option R) (n:Nat) (v0 v3:Int):eK.l3 (R:=R) k v1 v2 e0 (n+1) v0 v3=eK.s3 k v1 v2 e0 (eK.l3 k v1 v2 e0 n) v0 v3:=rfl
def eK.f (k:Nat) (a:LI):Option (Int):=
 eK.l3 k a (a.length:Int) (fun x1=>
  some x1) k 0 0
def fe.s2 {R:Type} (k:Nat) (v0 v1:Int) (v2:LI) (v3:Int) (e0 e1:Option R) (rec:Int->Option R) (v4:Int):Option R:=
 bif decide (v4<v3) then
  ay ((decide (0<=v4))&&(decide (v4<(v2.length:Int))))<|
  (an.f k (v2.getD v4.toNat 0) v0 v1).bind fun r1=>
  bif (!r1) then
   e0
  else
   rec (IntKind.wrap .i64 (v4+1))
 else
  e1
def fe.l2 {R:Type} (k:Nat) (v0 v1:Int) (v2:LI) (v3:Int) (e0 e1:Option R) (n:Nat) (v4:Int):Option R:=
 V.iter (A:=Int) (fun rec a=>fe.s2 k v0 v1 v2 v3 e0 e1 (fun c0=>rec c0) a) n v4
theorem fe.fQ {R:Type} (k:Nat) (v0 v1:Int) (v2:LI) (v3:Int) (e0 e1:Option R) (n:Nat) (v4:Int):fe.l2 (R:=R) k v0 v1 v2 v3 e0 e1 (n+1) v4=fe.s2 k v0 v1 v2 v3 e0 e1 (fe.l2 k v0 v1 v2 v3 e0 e1 n) v4:=rfl
def fe.f (k:Nat) (a:LI) (g i:Int):Option (Bool):=
 fe.l2 k g i a (a.length:Int) (some false) (some true) k 0
def kq.f (k:Nat) (a:Int) (g:LI):Option (Bool):=
 (an.f k a 2 6).bind fun r1=>
 bif r1 then
  bif ((g.length:Int)==a) then
   (fe.f k g (-1000) 1000).bind fun r2=>
   bif r2 then
    (eK.f k g).bind fun r3=>
    some (r3==0)
   else
    some false
  else
   some false
 else
  some false
def cg.s2 {R:Type} (k:Nat) (v0:Int) (v2:LL) (v3:Int) (e0 e1:Option R) (rec:Int->Option R) (v4:Int):Option R:=
 bif decide (v4<v3) then
  ay ((decide (0<=v4))&&(decide (v4<(v2.length:Int))))<|
  (kq.f k v0 (v2.getD v4.toNat [])).bind fun r1=>
  bif (!r1) then
   e0
  else
   rec (IntKind.wrap .i64 (v4+1))
 else
  e1
def cg.l2 {R:Type} (k:Nat) (v0:Int) (v2:LL) (v3:Int) (e0 e1:Option R) (n:Nat) (v4:Int):Option R:=
 V.iter (A:=Int) (fun rec a=>cg.s2 k v0 v2 v3 e0 e1 (fun c0=>rec c0) a) n v4
theorem cg.fQ {R:Type} (k:Nat) (v0:Int) (v2:LL) (v3:Int) (e0 e1:Option R) (n:Nat) (v4:Int):cg.l2 (R:=R) k v0 v2 v3 e0 e1 (n+1) v4=cg.s2 k v0 v2 v3 e0 e1 (cg.l2 k v0 v2 v3 e0 e1 n) v4:=rfl
def cg.f (k:Nat) (a:Int) (g:LL):Option (Bool):=
 cg.l2 k a g (g.length:Int) (some false) ((an.f k a 2 6).bind fun r2=>
  bif r2 then
   some (decide ((g.length:Int)<=50))
  else
   some false) k 0
def aI.s4 {R:Type} (k:Nat) (v0 v1:LI) (v2:Int) (e0 e1:Option R) (rec:Int->Option R) (v3:Int):Option R:=
 bif decide (v3<v2) then
  ay ((decide (0<=v3))&&(decide (v3<(v0.length:Int))))<|
  ay ((decide (0<=v3))&&(decide (v3<(v1.length:Int))))<|
  bif ((v0.getD v3.toNat 0) != (v1.getD v3.toNat 0)) then
   e0
  else
   rec (IntKind.wrap .i64 (v3+1))
 else
  e1
def aI.l4 {R:Type} (k:Nat) (v0 v1:LI) (v2:Int) (e0 e1:Option R) (n:Nat) (v3:Int):Option R:=
 V.iter (A:=Int) (fun rec a=>aI.s4 k v0 v1 v2 e0 e1 (fun c0=>rec c0) a) n v3
theorem aI.hO {R:Type} (k:Nat) (v0 v1:LI) (v2:Int) (e0 e1:Option R) (n:Nat) (v3:Int):aI.l4 (R:=R) k v0 v1 v2 e0 e1 (n+1) v3=aI.s4 k v0 v1 v2 e0 e1 (aI.l4 k v0 v1 v2 e0 e1 n) v3:=rfl
def aI.f (k:Nat) (a g:LI):Option (Bool):=
 bif ((a.length:Int) != (g.length:Int)) then
  some false
 else
  aI.l4 k a g (a.length:Int) (some false) (some true) k 0
def dW.f (k:Nat) (a0 a1:Int) (a2 a3:Bool) (a4 a5:LI) (a6 a7 g0 g1:Int) (g2 g3:Bool) (g4 g5:LI) (g6 g7:Int):Option (Bool):=
 bif (a0==g0) then
  bif (a1==g1) then
   bif (a2==g2) then
    bif (a3==g3) then
     bif (a6==g6) then
      bif (a7==g7) then
       (aI.f k a4 g4).bind fun r1=>
       bif r1 then
        (aI.f k a5 g5).bind fun r2=>
        some r2
       else
        some false
      else
       some false
     else
      some false
    else
     some false
   else
    some false
  else
   some false
 else
  some false
def bQ.s4 {R:Type} (k:Nat) (v0 v1:LL) (v2:Int) (e0 e1:Option R) (rec:Int->Option R) (v3:Int):Option R:=
 bif decide (v3<v2) then
  ay ((decide (0<=v3))&&(decide (v3<(v0.length:Int))))<|
  ay ((decide (0<=v3))&&(decide (v3<(v1.length:Int))))<|
  (aI.f k (v0.getD v3.toNat []) (v1.getD v3.toNat [])).bind fun r1=>
  bif (!r1) then
   e0
  else
   rec (IntKind.wrap .i64 (v3+1))
 else
  e1
def bQ.l4 {R:Type} (k:Nat) (v0 v1:LL) (v2:Int) (e0 e1:Option R) (n:Nat) (v3:Int):Option R:=
 V.iter (A:=Int) (fun rec a=>bQ.s4 k v0 v1 v2 e0 e1 (fun c0=>rec c0) a) n v3
theorem bQ.hO {R:Type} (k:Nat) (v0 v1:LL) (v2:Int) (e0 e1:Option R) (n:Nat) (v3:Int):bQ.l4 (R:=R) k v0 v1 v2 e0 e1 (n+1) v3=bQ.s4 k v0 v1 v2 e0 e1 (bQ.l4 k v0 v1 v2 e0 e1 n) v3:=rfl
def bQ.f (k:Nat) (a g:LL):Option (Bool):=
 bif ((a.length:Int) != (g.length:Int)) then
  some false
 else
  bQ.l4 k a g (a.length:Int) (some false) (some true) k 0
def dD.f (k:Nat) (a0 a1:Int) (a2 a3:Bool) (a4 a5:LI) (a6 a7:Int) (a8:LL) (a9 de:LI) (cK a12 dq g0 g1:Int) (g2 g3:Bool) (g4 g5:LI) (g6 g7:Int) (g8:LL) (g9 g10:LI) (g11 g12 g13:Int):Option (Bool):=
 (dW.f k a0 a1 a2 a3 a4 a5 a6 a7 g0 g1 g2 g3 g4 g5 g6 g7).bind fun r1=>
 bif r1 then
  (bQ.f k a8 g8).bind fun r2=>
  bif r2 then
   (aI.f k a9 g9).bind fun r3=>
   bif r3 then
    (aI.f k de g10).bind fun r4=>
    bif r4 then
     bif (cK==g11) then
      bif (a12==g12) then
       some (dq==g13)
      else
       some false
     else
      some false
    else
     some false
   else
    some false
  else
   some false
 else
  some false
def bK.s3 {R:Type} (k:Nat) (v0:LL) (v1:Int) (e0:LI->Option R) (rec:Int->LI->Option R) (v2:Int) (v3:LI):Option R:=
 bif decide (v2<v1) then
  ay ((decide (0<=v2))&&(decide (v2<(v0.length:Int))))<|
  ay (decide ((v3.length+((v0.getD v2.toNat []).length))*8<=room))<|
  rec (IntKind.wrap .i64 (v2+1)) (v3++(v0.getD v2.toNat []))
 else
  e0 v3
def bK.l3 {R:Type} (k:Nat) (v0:LL) (v1:Int) (e0:LI->Option R) (n:Nat) (v2:Int) (v3:LI):Option R:=
 V.iter (A:=Int×LI) (fun rec a=>bK.s3 k v0 v1 e0 (fun c0 c1=>rec (c0,c1)) a.1 a.2) n (v2,v3)
theorem bK.aA {R:Type} (k:Nat) (v0:LL) (v1:Int) (e0:LI->Option R) (n:Nat) (v2:Int) (v3:LI):bK.l3 (R:=R) k v0 v1 e0 (n+1) v2 v3=bK.s3 k v0 v1 e0 (bK.l3 k v0 v1 e0 n) v2 v3:=rfl
def bK.f (k:Nat) (a:LL):Option (Bool):=
 bK.l3 k a (a.length:Int) (fun x1=>
  (aB.f k x1).bind fun r2=>
  some r2) k 0 []
def bg.s3 {R:Type} (k:Nat) (v1:LL) (v2:Int) (e0:Int->Option R) (rec:Int->Int->Option R) (v0 v3:Int):Option R:=
 bif decide (v3<v2) then
  ay ((decide (0<=v3))&&(decide (v3<(v1.length:Int))))<|
  rec (IntKind.wrap .i64 (v0+((v1.getD v3.toNat []).length:Int))) (IntKind.wrap .i64 (v3+1))
 else
  e0 v0
def bg.l3 {R:Type} (k:Nat) (v1:LL) (v2:Int) (e0:Int->Option R) (n:Nat) (v0 v3:Int):Option R:=
 V.iter (A:=Int×Int) (fun rec a=>bg.s3 k v1 v2 e0 (fun c0 c1=>rec (c0,c1)) a.1 a.2) n (v0,v3)
theorem bg.aA {R:Type} (k:Nat) (v1:LL) (v2:Int) (e0:Int->Option R) (n:Nat) (v0 v3:Int):bg.l3 (R:=R) k v1 v2 e0 (n+1) v0 v3=bg.s3 k v1 v2 e0 (bg.l3 k v1 v2 e0 n) v0 v3:=rfl
def bg.f (k:Nat) (a:LL):Option (Int):=
 bg.l3 k a (a.length:Int) (fun x1=>
  some x1) k 0 0
def mK.f (k:Nat) (a:LL):Option (Bool):=
 (bK.f k a).bind fun r1=>
 bif r1 then
  (bg.f k a).bind fun r2=>
  some (r2==52)
 else
  some false
def cQ.f (k:Nat) (a0 a1:Int) (a2 a3:Bool) (a4 a5:LI) (a6 a7:Int) (a8:LL) (a9 de:LI) (cK a12 dq:Int):Option (Bool):=
 (cd.f k a0 a1 a2 a3 a4 a5 a6 a7).bind fun r1=>
 bif r1 then
  bif ((a8.length:Int)==a0) then
   (bm.f k a8).bind fun r2=>
   ay (decide ((r2.length+2)*24<=room))<|
   (mK.f k (r2++[a9,de])).bind fun r3=>
   bif r3 then
    bif decide ((de.length:Int)>0) then
     (an.f k cK 0 (IntKind.wrap .i64 ((a8.length:Int)-1))).bind fun r4=>
     bif r4 then
      (an.f k a12 0 a7).bind fun r5=>
      bif r5 then
       (an.f k dq 0 a12).bind fun r6=>
       some r6
      else
       some false
     else
      some false
    else
     some false
   else
    some false
  else
   some false
 else
  some false
def cZ.s4 {R:Type} (k:Nat) (v0:LL) (v1:Int) (e0:Int->Option R) (e1:Option R) (rec:Int->Option R) (v2:Int):Option R:=
 bif decide (v2<v1) then
  ay ((decide (0<=v2))&&(decide (v2<(v0.length:Int))))<|
  bif (((v0.getD v2.toNat []).length:Int)==0) then
   e0 v2
  else
   rec (IntKind.wrap .i64 (v2+1))
 else
  e1
def cZ.l4 {R:Type} (k:Nat) (v0:LL) (v1:Int) (e0:Int->Option R) (e1:Option R) (n:Nat) (v2:Int):Option R:=
 V.iter (A:=Int) (fun rec a=>cZ.s4 k v0 v1 e0 e1 (fun c0=>rec c0) a) n v2
theorem cZ.hO {R:Type} (k:Nat) (v0:LL) (v1:Int) (e0:Int->Option R) (e1:Option R) (n:Nat) (v2:Int):cZ.l4 (R:=R) k v0 v1 e0 e1 (n+1) v2=cZ.s4 k v0 v1 e0 e1 (cZ.l4 k v0 v1 e0 e1 n) v2:=rfl
def cZ.f (k:Nat) (a0 a1:Int) (a2 a3:Bool) (a4 a5:LI) (a6 a7:Int) (a8:LL) (a9 de:LI) (cK a12 dq:Int):Option (Int):=
 (cQ.f k a0 a1 a2 a3 a4 a5 a6 a7 a8 a9 de cK a12 dq).bind fun r1=>
 bif (!r1) then
  some (-1)
 else
  cZ.l4 k a8 (a8.length:Int) (fun x2=>
   some x2) (some (-1)) k 0
def fJ.f (k:Nat) (a0 a1:Int) (a2 a3:Bool) (a4 a5:LI) (a6 a7:Int) (a8:LL) (a9 de:LI) (cK a12 dq:Int):Option (Bool):=
 (cQ.f k a0 a1 a2 a3 a4 a5 a6 a7 a8 a9 de cK a12 dq).bind fun r1=>
 bif r1 then
  (cZ.f k a0 a1 a2 a3 a4 a5 a6 a7 a8 a9 de cK a12 dq).bind fun r2=>
  bif decide (r2>=0) then
   some true
  else
   bif (a12==a7) then
    some true
   else
    some (decide (dq>=a0))
 else
  some false
def ca.s6 {R:Type} (k:Nat) (v1 fH:Int) (e0:Int->LL->LI->LI->Option R) (rec:Int->Int->LL->LI->LI->Option R) (v0 v2:Int) (v37:LL) (jh qG:LI):Option R:=
 bif decide (v2<v1) then
  bif ((jh.length:Int)==0) then
   ay ((decide (0<=(IntKind.wrap .i64 ((qG.length:Int)-1))))&&(decide ((IntKind.wrap .i64 ((qG.length:Int)-1))<=(qG.length:Int))))<|
   ay (decide (0<=(IntKind.wrap .i64 ((qG.length:Int)-1))))<|
   (aJ.f k ((qG.take ((IntKind.wrap .i64 ((qG.length:Int)-1)).toNat)).drop 0)).bind fun r4=>
   ay ((decide (0<=(qG.length:Int)))&&(decide ((qG.length:Int)<=(qG.length:Int))))<|
   ay ((decide (0<=(IntKind.wrap .i64 ((qG.length:Int)-1))))&&(decide ((IntKind.wrap .i64 ((qG.length:Int)-1))<=(qG.length:Int))))<|
   (aJ.f k ((qG.take ((qG.length:Int).toNat)).drop ((IntKind.wrap .i64 ((qG.length:Int)-1)).toNat))).bind fun r5=>
   bif ((r4.length:Int)==0) then
    e0 v0 v37 r4 r5
   else
    ay ((decide (0<=fH))&&(decide (fH<(v37.length:Int))))<|
    ay (decide (0<(r4.length:Int)))<|
    ay (decide ((((v37.getD fH.toNat []).length)+1)*8<=room))<|
    ay ((decide (0<=fH))&&(decide (fH<(v37.length:Int))))<|
    ay (fH.toNat==fH.toNat)<|
    ay ((decide (0<=(r4.length:Int)))&&(decide ((r4.length:Int)<=(r4.length:Int))))<|
    ay (decide (1<=(r4.length:Int)))<|
    (aJ.f k ((r4.take ((r4.length:Int).toNat)).drop 1)).bind fun r6=>
    rec (IntKind.wrap .i64 (v0+1)) (IntKind.wrap .i64 (v2+1)) (v37.set fH.toNat ((v37.getD fH.toNat [])++[r4.getD 0 0])) r6 r5
  else
   bif ((jh.length:Int)==0) then
    e0 v0 v37 jh qG
   else
    ay ((decide (0<=fH))&&(decide (fH<(v37.length:Int))))<|
    ay (decide (0<(jh.length:Int)))<|
    ay (decide ((((v37.getD fH.toNat []).length)+1)*8<=room))<|
    ay ((decide (0<=fH))&&(decide (fH<(v37.length:Int))))<|
    ay (fH.toNat==fH.toNat)<|
    ay ((decide (0<=(jh.length:Int)))&&(decide ((jh.length:Int)<=(jh.length:Int))))<|
    ay (decide (1<=(jh.length:Int)))<|
    (aJ.f k ((jh.take ((jh.length:Int).toNat)).drop 1)).bind fun r7=>
    rec (IntKind.wrap .i64 (v0+1)) (IntKind.wrap .i64 (v2+1)) (v37.set fH.toNat ((v37.getD fH.toNat [])++[jh.getD 0 0])) r7 qG
 else
  e0 v0 v37 jh qG
def ca.l6 {R:Type} (k:Nat) (v1 fH:Int) (e0:Int->LL->LI->LI->Option R) (n:Nat) (v0 v2:Int) (v37:LL) (jh qG:LI):Option R:=
 V.iter (A:=Int×Int×LL×LI×LI) (fun rec a=>ca.s6 k v1 fH e0 (fun c0 c1 c2 c3 c4=>rec (c0,c1,c2,c3,c4)) a.1 a.2.1 (t2 a).1 (t3 a).1 (t4 a)) n (v0,v2,v37,jh,qG)
theorem ca.iz {R:Type} (k:Nat) (v1 fH:Int) (e0:Int->LL->LI->LI->Option R) (n:Nat) (v0 v2:Int) (v37:LL) (jh qG:LI):ca.l6 (R:=R) k v1 fH e0 (n+1) v0 v2 v37 jh qG=ca.s6 k v1 fH e0 (ca.l6 k v1 fH e0 n) v0 v2 v37 jh qG:=rfl
def ca.f (k:Nat) (a0 a1:Int) (a2 a3:Bool) (a4 a5:LI) (a6 a7:Int) (a8:LL) (a9 de:LI) (cK a12 dq:Int):Option (Int×Int×Bool×Bool×LI×LI×Int×Int×LL×LI×LI×Int×Int×Int×Bool):=
 (cN.f k a0 a1 a2 a3 a4 a5 a6 a7 a8 a9 de cK a12 dq).bind fun r1=>
 (cQ.f k a0 a1 a2 a3 a4 a5 a6 a7 a8 a9 de cK a12 dq).bind fun r2=>
 bif (!r2) then
  some (r1.1,r1.2.1,(t2 r1).1,(t3 r1).1,(t4 r1).1,(t5 r1).1,(t6 r1).1,(t7 r1).1,(t8 r1).1,(t9 r1).1,(t9 r1.2).1,(t9 (t2 r1)).1,(t9 (t3 r1)).1,(t9 (t4 r1)),false)
 else
  (fJ.f k a0 a1 a2 a3 a4 a5 a6 a7 a8 a9 de cK a12 dq).bind fun r3=>
  bif r3 then
   some (r1.1,r1.2.1,(t2 r1).1,(t3 r1).1,(t4 r1).1,(t5 r1).1,(t6 r1).1,(t7 r1).1,(t8 r1).1,(t9 r1).1,(t9 r1.2).1,(t9 (t2 r1)).1,(t9 (t3 r1)).1,(t9 (t4 r1)),false)
  else
   ca.l6 k a6 cK (fun x8 x9 LS LU=>
    bif decide (x8>0) then
     ay (!(decide ((a8.length:Int)=0)))<|
     some (r1.1,r1.2.1,(t2 r1).1,(t3 r1).1,(t4 r1).1,(t5 r1).1,(t6 r1).1,(t7 r1).1,x9,LS,LU,(IntKind.wrap .i64 (cK+1)).tmod (a8.length:Int),IntKind.wrap .i64 ((t9 (t3 r1)).1+1),0,true)
    else
     ay (!(decide ((a8.length:Int)=0)))<|
     some (r1.1,r1.2.1,(t2 r1).1,(t3 r1).1,(t4 r1).1,(t5 r1).1,(t6 r1).1,(t7 r1).1,x9,LS,LU,(IntKind.wrap .i64 (cK+1)).tmod (a8.length:Int),IntKind.wrap .i64 ((t9 (t3 r1)).1+1),IntKind.wrap .i64 ((t9 (t4 r1))+1),true)) k 0 0 (t8 r1).1 (t9 r1).1 (t9 r1.2).1
def aX.s6 {R:Type} (k:Nat) (v0:Int) (v5:LI) (e0 rec:Int->Option R) (v1:Int):Option R:=
 bif decide (v1>0) then
  ay ((decide (0<=(IntKind.wrap .i64 (v1-1))))&&(decide ((IntKind.wrap .i64 (v1-1))<(v5.length:Int))))<|
  bif decide ((v5.getD ((IntKind.wrap .i64 (v1-1)).toNat) 0)>v0) then
   rec (IntKind.wrap .i64 (v1-1))
  else
   e0 v1
 else
  e0 v1
def aX.l6 {R:Type} (k:Nat) (v0:Int) (v5:LI) (e0:Int->Option R) (n:Nat) (v1:Int):Option R:=
 V.iter (A:=Int) (fun rec a=>aX.s6 k v0 v5 e0 (fun c0=>rec c0) a) n v1
theorem aX.iz {R:Type} (k:Nat) (v0:Int) (v5:LI) (e0:Int->Option R) (n:Nat) (v1:Int):aX.l6 (R:=R) k v0 v5 e0 (n+1) v1=aX.s6 k v0 v5 e0 (aX.l6 k v0 v5 e0 n) v1:=rfl
def aX.s3 {R:Type} (k:Nat) (v0:LI) (v1:Int) (e0:LI->Option R) (rec:Int->LI->Option R) (v2:Int) (v3:LI):Option R:=
 bif decide (v2<v1) then
  ay ((decide (0<=v2))&&(decide (v2<(v0.length:Int))))<|
  aX.l6 k (v0.getD v2.toNat 0) v3 (fun x1=>
   ay (decide ((v3.length+1)*8<=room))<|
   ay ((decide (0<=((v3++[0]).length:Int)))&&(decide (((v3++[0]).length:Int)<=((v3++[0]).length:Int))))<|
   ay ((decide (0<=(IntKind.wrap .i64 (x1+1))))&&(decide ((IntKind.wrap .i64 (x1+1))<=((v3++[0]).length:Int))))<|
   ay ((decide (0<=((v3++[0]).length:Int)))&&(decide (((v3++[0]).length:Int)<=((v3++[0]).length:Int))))<|
   ay ((decide (0<=x1))&&(decide (x1<=((v3++[0]).length:Int))))<|
   ay ((decide (0<=x1))&&(decide (x1<((((v3++[0]).take ((IntKind.wrap .i64 (x1+1)).toNat))++(((((v3++[0]).take (((v3++[0]).length:Int).toNat)).drop x1.toNat).take ((((v3++[0]).length:Int).toNat)-((IntKind.wrap .i64 (x1+1)).toNat)))++((v3++[0]).drop (((IntKind.wrap .i64 (x1+1)).toNat)+(min ((((v3++[0]).length:Int).toNat)-x1.toNat) ((((v3++[0]).length:Int).toNat)-((IntKind.wrap .i64 (x1+1)).toNat))))))).length:Int))))<|
   rec (IntKind.wrap .i64 (v2+1)) ((((v3++[0]).take ((IntKind.wrap .i64 (x1+1)).toNat))++(((((v3++[0]).take (((v3++[0]).length:Int).toNat)).drop x1.toNat).take ((((v3++[0]).length:Int).toNat)-((IntKind.wrap .i64 (x1+1)).toNat)))++((v3++[0]).drop (((IntKind.wrap .i64 (x1+1)).toNat)+(min ((((v3++[0]).length:Int).toNat)-x1.toNat) ((((v3++[0]).length:Int).toNat)-((IntKind.wrap .i64 (x1+1)).toNat))))))).set x1.toNat (v0.getD v2.toNat 0))) k (v3.length:Int)
 else
  e0 v3
def aX.l3 {R:Type} (k:Nat) (v0:LI) (v1:Int) (e0:LI->Option R) (n:Nat) (v2:Int) (v3:LI):Option R:=
 V.iter (A:=Int×LI) (fun rec a=>aX.s3 k v0 v1 e0 (fun c0 c1=>rec (c0,c1)) a.1 a.2) n (v2,v3)
theorem aX.aA {R:Type} (k:Nat) (v0:LI) (v1:Int) (e0:LI->Option R) (n:Nat) (v2:Int) (v3:LI):aX.l3 (R:=R) k v0 v1 e0 (n+1) v2 v3=aX.s3 k v0 v1 e0 (aX.l3 k v0 v1 e0 n) v2 v3:=rfl
def aX.f (k:Nat) (a:LI):Option (LI):=
 aX.l3 k a (a.length:Int) (fun x2=>
  some x2) k 0 []
def aZ.f (k:Nat) (a:Int):Option (Int):=
 (aT.f k a).bind fun r1=>
 bif (!r1) then
  some (-1)
 else
  some (IntKind.wrap .i64 (a.tdiv 13))
def bN.f (k:Nat) (a:Int):Option (Int):=
 (aT.f k a).bind fun r1=>
 bif (!r1) then
  some (-1)
 else
  some (a.tmod 13)
def mj.f (k:Nat) (a:Int):Option (Bool):=
 (aZ.f k a).bind fun r1=>
 bif (r1==1) then
  some true
 else
  (aZ.f k a).bind fun r2=>
  some (r2==2)
def my.f (k:Nat) (a g:Int):Option (Bool):=
 bif (a==400) then
  (mj.f k g).bind fun r1=>
  some r1
 else
  bif decide (a>=300) then
   (bN.f k g).bind fun r2=>
   some (decide (r2>=(IntKind.wrap .i64 (a-300))))
  else
   bif decide (a>=200) then
    (bN.f k g).bind fun r3=>
    some (r3==(IntKind.wrap .i64 (a-200)))
   else
    (aZ.f k g).bind fun r4=>
    some (r4==(IntKind.wrap .i64 (a-100)))
def bF.s5 {R:Type} (k:Nat) (v0:Int) (v1:LI) (v2:Int) (e0:List Bool->Option R) (rec:Int->List Bool->Option R) (v3:Int) (v4:List Bool):Option R:=
 bif decide (v3<v2) then
  ay ((decide (0<=v3))&&(decide (v3<(v1.length:Int))))<|
  bif ((v1.getD v3.toNat 0)==(-1)) then
   ay ((decide (0<=(IntKind.wrap .i64 ((v4.length:Int)-1))))&&(decide ((IntKind.wrap .i64 ((v4.length:Int)-1))<(v4.length:Int))))<|
   ay ((decide (0<=(IntKind.wrap .i64 ((v4.length:Int)-1))))&&(decide ((IntKind.wrap .i64 ((v4.length:Int)-1))<(v4.length:Int))))<|
   rec (IntKind.wrap .i64 (v3+1)) (v4.set ((IntKind.wrap .i64 ((v4.length:Int)-1)).toNat) (!(v4.getD ((IntKind.wrap .i64 ((v4.length:Int)-1)).toNat) false)))
  else
   bif ((v1.getD v3.toNat 0)==(-2)) then
    ay ((decide (0<=(IntKind.wrap .i64 ((v4.length:Int)-2))))&&(decide ((IntKind.wrap .i64 ((v4.length:Int)-2))<=(v4.length:Int))))<|
    ay (decide (0<=(IntKind.wrap .i64 ((v4.length:Int)-2))))<|
    ay ((decide (0<=(IntKind.wrap .i64 ((v4.length:Int)-2))))&&(decide ((IntKind.wrap .i64 ((v4.length:Int)-2))<(v4.length:Int))))<|
    bif (v4.getD ((IntKind.wrap .i64 ((v4.length:Int)-2)).toNat) false) then
     ay ((decide (0<=(IntKind.wrap .i64 ((v4.length:Int)-1))))&&(decide ((IntKind.wrap .i64 ((v4.length:Int)-1))<(v4.length:Int))))<|
     ay (decide ((((v4.take ((IntKind.wrap .i64 ((v4.length:Int)-2)).toNat)).length)+1)*1<=room))<|
     rec (IntKind.wrap .i64 (v3+1)) ((v4.take ((IntKind.wrap .i64 ((v4.length:Int)-2)).toNat))++[v4.getD ((IntKind.wrap .i64 ((v4.length:Int)-1)).toNat) false])
    else
     ay (decide ((((v4.take ((IntKind.wrap .i64 ((v4.length:Int)-2)).toNat)).length)+1)*1<=room))<|
     rec (IntKind.wrap .i64 (v3+1)) ((v4.take ((IntKind.wrap .i64 ((v4.length:Int)-2)).toNat))++[false])
   else
    bif ((v1.getD v3.toNat 0)==(-3)) then
     ay ((decide (0<=(IntKind.wrap .i64 ((v4.length:Int)-2))))&&(decide ((IntKind.wrap .i64 ((v4.length:Int)-2))<=(v4.length:Int))))<|
     ay (decide (0<=(IntKind.wrap .i64 ((v4.length:Int)-2))))<|
     ay ((decide (0<=(IntKind.wrap .i64 ((v4.length:Int)-2))))&&(decide ((IntKind.wrap .i64 ((v4.length:Int)-2))<(v4.length:Int))))<|
     bif (v4.getD ((IntKind.wrap .i64 ((v4.length:Int)-2)).toNat) false) then
      ay (decide ((((v4.take ((IntKind.wrap .i64 ((v4.length:Int)-2)).toNat)).length)+1)*1<=room))<|
      rec (IntKind.wrap .i64 (v3+1)) ((v4.take ((IntKind.wrap .i64 ((v4.length:Int)-2)).toNat))++[true])
     else
      ay ((decide (0<=(IntKind.wrap .i64 ((v4.length:Int)-1))))&&(decide ((IntKind.wrap .i64 ((v4.length:Int)-1))<(v4.length:Int))))<|
      ay (decide ((((v4.take ((IntKind.wrap .i64 ((v4.length:Int)-2)).toNat)).length)+1)*1<=room))<|
      rec (IntKind.wrap .i64 (v3+1)) ((v4.take ((IntKind.wrap .i64 ((v4.length:Int)-2)).toNat))++[v4.getD ((IntKind.wrap .i64 ((v4.length:Int)-1)).toNat) false])
    else
     (my.f k (v1.getD v3.toNat 0) v0).bind fun r3=>
     ay (decide ((v4.length+1)*1<=room))<|
     rec (IntKind.wrap .i64 (v3+1)) (v4++[r3])
 else
  e0 v4
def bF.l5 {R:Type} (k:Nat) (v0:Int) (v1:LI) (v2:Int) (e0:List Bool->Option R) (n:Nat) (v3:Int) (v4:List Bool):Option R:=
 V.iter (A:=Int×List Bool) (fun rec a=>bF.s5 k v0 v1 v2 e0 (fun c0 c1=>rec (c0,c1)) a.1 a.2) n (v3,v4)
theorem bF.bp {R:Type} (k:Nat) (v0:Int) (v1:LI) (v2:Int) (e0:List Bool->Option R) (n:Nat) (v3:Int) (v4:List Bool):bF.l5 (R:=R) k v0 v1 v2 e0 (n+1) v3 v4=bF.s5 k v0 v1 v2 e0 (bF.l5 k v0 v1 v2 e0 n) v3 v4:=rfl
def bF.f (k:Nat) (a:LI) (g:Int):Option (Bool):=
 (bq.f k a).bind fun r1=>
 bif (!r1) then
  some false
 else
  (aT.f k g).bind fun r2=>
  bif (!r2) then
   some false
  else
   bF.l5 k g a (a.length:Int) (fun x4=>
    ay (decide (0<(x4.length:Int)))<|
    some (x4.getD 0 false)) k 0 []
def kQ.f (k:Nat) (a0 a1:Int) (a2 a3:Bool) (a4 a5:LI) (a6 a7 g i:Int):Option (Bool):=
 (cd.f k a0 a1 a2 a3 a4 a5 a6 a7).bind fun r1=>
 bif (!r1) then
  some false
 else
  (aT.f k g).bind fun r2=>
  bif (!r2) then
   some false
  else
   (aT.f k i).bind fun r3=>
   bif (!r3) then
    some false
   else
    bif a2 then
     (aZ.f k i).bind fun r4=>
     (aZ.f k g).bind fun r5=>
     bif (r4==r5) then
      some true
     else
      bif a3 then
       (bN.f k i).bind fun r6=>
       (bN.f k g).bind fun r7=>
       bif (r6==r7) then
        some true
       else
        (bF.f k a4 i).bind fun r8=>
        some r8
      else
       (bF.f k a4 i).bind fun r9=>
       some r9
    else
     bif a3 then
      (bN.f k i).bind fun mO=>
      (bN.f k g).bind fun ke=>
      bif (mO==ke) then
       some true
      else
       (bF.f k a4 i).bind fun uY=>
       some uY
     else
      (bF.f k a4 i).bind fun uZ=>
      some uZ
def bL.s5 {R:Type} (k:Nat) (v0 v2 v3:Int) (v4 v5:Bool) (v6 v7:LI) (v8 v9:Int) (v12 gw:LI) (e0:LI->Option R) (rec:Int->LI->Option R) (v1:Int) (fq:LI):Option R:=
 bif decide (v1<v0) then
  ay ((decide (0<=v1))&&(decide (v1<(gw.length:Int))))<|
  ay ((decide (0<=(IntKind.wrap .i64 ((v12.length:Int)-1))))&&(decide ((IntKind.wrap .i64 ((v12.length:Int)-1))<(v12.length:Int))))<|
  (kQ.f k v2 v3 v4 v5 v6 v7 v8 v9 (v12.getD ((IntKind.wrap .i64 ((v12.length:Int)-1)).toNat) 0) (gw.getD v1.toNat 0)).bind fun r4=>
  bif r4 then
   ay (decide ((fq.length+1)*8<=room))<|
   rec (IntKind.wrap .i64 (v1+1)) (fq++[gw.getD v1.toNat 0])
  else
   rec (IntKind.wrap .i64 (v1+1)) fq
 else
  e0 fq
def bL.l5 {R:Type} (k:Nat) (v0 v2 v3:Int) (v4 v5:Bool) (v6 v7:LI) (v8 v9:Int) (v12 gw:LI) (e0:LI->Option R) (n:Nat) (v1:Int) (fq:LI):Option R:=
 V.iter (A:=Int×LI) (fun rec a=>bL.s5 k v0 v2 v3 v4 v5 v6 v7 v8 v9 v12 gw e0 (fun c0 c1=>rec (c0,c1)) a.1 a.2) n (v1,fq)
theorem bL.bp {R:Type} (k:Nat) (v0 v2 v3:Int) (v4 v5:Bool) (v6 v7:LI) (v8 v9:Int) (v12 gw:LI) (e0:LI->Option R) (n:Nat) (v1:Int) (fq:LI):bL.l5 (R:=R) k v0 v2 v3 v4 v5 v6 v7 v8 v9 v12 gw e0 (n+1) v1 fq=bL.s5 k v0 v2 v3 v4 v5 v6 v7 v8 v9 v12 gw e0 (bL.l5 k v0 v2 v3 v4 v5 v6 v7 v8 v9 v12 gw e0 n) v1 fq:=rfl
def bL.f (k:Nat) (a0 a1:Int) (a2 a3:Bool) (a4 a5:LI) (a6 a7:Int) (a8:LL) (a9 de:LI) (cK a12 dq:Int):Option (LI):=
 (cQ.f k a0 a1 a2 a3 a4 a5 a6 a7 a8 a9 de cK a12 dq).bind fun r1=>
 bif (!r1) then
  some ([])
 else
  (fJ.f k a0 a1 a2 a3 a4 a5 a6 a7 a8 a9 de cK a12 dq).bind fun r2=>
  bif r2 then
   some ([])
  else
   ay ((decide (0<=cK))&&(decide (cK<(a8.length:Int))))<|
   (aX.f k (a8.getD cK.toNat [])).bind fun r3=>
   bL.l5 k (r3.length:Int) a0 a1 a2 a3 a4 a5 a6 a7 de r3 (fun x5=>
    some x5) k 0 []
def ey.s2 {R:Type} (k:Nat) (v0:Int) (v1:LI) (v2:Int) (e0:Int->Option R) (e1:Option R) (rec:Int->Option R) (v3:Int):Option R:=
 bif decide (v3<v2) then
  ay ((decide (0<=v3))&&(decide (v3<(v1.length:Int))))<|
  bif ((v1.getD v3.toNat 0)==v0) then
   e0 v3
  else
   rec (IntKind.wrap .i64 (v3+1))
 else
  e1
def ey.l2 {R:Type} (k:Nat) (v0:Int) (v1:LI) (v2:Int) (e0:Int->Option R) (e1:Option R) (n:Nat) (v3:Int):Option R:=
 V.iter (A:=Int) (fun rec a=>ey.s2 k v0 v1 v2 e0 e1 (fun c0=>rec c0) a) n v3
theorem ey.fQ {R:Type} (k:Nat) (v0:Int) (v1:LI) (v2:Int) (e0:Int->Option R) (e1:Option R) (n:Nat) (v3:Int):ey.l2 (R:=R) k v0 v1 v2 e0 e1 (n+1) v3=ey.s2 k v0 v1 v2 e0 e1 (ey.l2 k v0 v1 v2 e0 e1 n) v3:=rfl
def ey.f (k:Nat) (a:LI) (g:Int):Option (Int):=
 ey.l2 k g a (a.length:Int) (fun x1=>
  some x1) (some (-1)) k 0
def fK.f (k:Nat) (a:LI) (g:Int):Option (Bool):=
 (ey.f k a g).bind fun r1=>
 some (decide (r1>=0))
def db.s3 {R:Type} (k:Nat) (v0:Int) (v1:LI) (v2:Int) (e0:LI->Option R) (rec:Int->LI->Option R) (v3:Int) (v4:LI):Option R:=
 bif decide (v3<v2) then
  ay ((decide (0<=v3))&&(decide (v3<(v1.length:Int))))<|
  bif ((v1.getD v3.toNat 0) != v0) then
   ay (decide ((v4.length+1)*8<=room))<|
   rec (IntKind.wrap .i64 (v3+1)) (v4++[v1.getD v3.toNat 0])
  else
   rec (IntKind.wrap .i64 (v3+1)) v4
 else
  e0 v4
def db.l3 {R:Type} (k:Nat) (v0:Int) (v1:LI) (v2:Int) (e0:LI->Option R) (n:Nat) (v3:Int) (v4:LI):Option R:=
 V.iter (A:=Int×LI) (fun rec a=>db.s3 k v0 v1 v2 e0 (fun c0 c1=>rec (c0,c1)) a.1 a.2) n (v3,v4)
theorem db.aA {R:Type} (k:Nat) (v0:Int) (v1:LI) (v2:Int) (e0:LI->Option R) (n:Nat) (v3:Int) (v4:LI):db.l3 (R:=R) k v0 v1 v2 e0 (n+1) v3 v4=db.s3 k v0 v1 v2 e0 (db.l3 k v0 v1 v2 e0 n) v3 v4:=rfl
def db.f (k:Nat) (a:LI) (g:Int):Option (LI):=
 db.l3 k g a (a.length:Int) (fun x1=>
  some x1) k 0 []
def jN.f (k:Nat) (a0 a1:Int) (a2 a3:Bool) (a4 a5:LI) (a6 a7 g:Int):Option (Bool):=
 (cd.f k a0 a1 a2 a3 a4 a5 a6 a7).bind fun r1=>
 bif r1 then
  (bF.f k a5 g).bind fun r2=>
  some r2
 else
  some false
def kR.f (k:Nat) (a0 a1:Int) (a2 a3:Bool) (a4 a5:LI) (a6 a7:Int) (a8:LL) (a9 de:LI) (cK a12 dq g:Int):Option (Int×Int×Bool×Bool×LI×LI×Int×Int×LL×LI×LI×Int×Int×Int×Bool):=
 (cN.f k a0 a1 a2 a3 a4 a5 a6 a7 a8 a9 de cK a12 dq).bind fun r1=>
 (bL.f k a0 a1 a2 a3 a4 a5 a6 a7 a8 a9 de cK a12 dq).bind fun r2=>
 (fK.f k r2 g).bind fun r3=>
 bif (!r3) then
  some (r1.1,r1.2.1,(t2 r1).1,(t3 r1).1,(t4 r1).1,(t5 r1).1,(t6 r1).1,(t7 r1).1,(t8 r1).1,(t9 r1).1,(t9 r1.2).1,(t9 (t2 r1)).1,(t9 (t3 r1)).1,(t9 (t4 r1)),false)
 else
  ay ((decide (0<=cK))&&(decide (cK<((t8 r1).1.length:Int))))<|
  (db.f k ((t8 r1).1.getD cK.toNat []) g).bind fun r4=>
  ay ((decide (0<=cK))&&(decide (cK<((t8 r1).1.length:Int))))<|
  ay (decide (((t9 r1.2).1.length+1)*8<=room))<|
  (jN.f k a0 a1 a2 a3 a4 a5 a6 a7 g).bind fun r5=>
  bif r5 then
   ay (!(decide ((a8.length:Int)=0)))<|
   some (r1.1,r1.2.1,(t2 r1).1,(t3 r1).1,(t4 r1).1,(t5 r1).1,(t6 r1).1,(t7 r1).1,(t8 r1).1.set cK.toNat r4,(t9 r1).1,(t9 r1.2).1++[g],(IntKind.wrap .i64 (cK+2)).tmod (a8.length:Int),IntKind.wrap .i64 ((t9 (t3 r1)).1+1),0,true)
  else
   ay (!(decide ((a8.length:Int)=0)))<|
   some (r1.1,r1.2.1,(t2 r1).1,(t3 r1).1,(t4 r1).1,(t5 r1).1,(t6 r1).1,(t7 r1).1,(t8 r1).1.set cK.toNat r4,(t9 r1).1,(t9 r1.2).1++[g],(IntKind.wrap .i64 (cK+1)).tmod (a8.length:Int),IntKind.wrap .i64 ((t9 (t3 r1)).1+1),0,true)
def fC.f (k:Nat) (a0 a1:Int) (a2 a3:Bool) (a4 a5:LI) (a6 a7:Int) (a8:LL) (a9 de:LI) (cK a12 dq g:Int):Option (Int×Int×Bool×Bool×LI×LI×Int×Int×LL×LI×LI×Int×Int×Int×Bool):=
 bif (g==(-1)) then
  (ca.f k a0 a1 a2 a3 a4 a5 a6 a7 a8 a9 de cK a12 dq).bind fun r1=>
  some r1
 else
  (kR.f k a0 a1 a2 a3 a4 a5 a6 a7 a8 a9 de cK a12 dq g).bind fun r2=>
  some r2
def cT.s3 {R:Type} (k:Nat) (v1:LI) (v2:Int) (e0:Int->Int->Int->Bool->Bool->Int->Int->Int->Int->Int->LI->LI->LL->LI->LI->Option R) (e1:Int->Int->Bool->Bool->Int->Int->Int->Int->Int->LI->LI->LL->LI->LI->Option R) (rec:Int->Int->Int->Bool->Bool->Int->Int->Int->Int->Int->LI->LI->LL->LI->LI->Option R) (v3 fG fH:Int) (eZ fq:Bool) (gw jF iS v20 v21:Int) (iR ij:LI) (v24:LL) (j4 j5:LI):Option R:=
 bif decide (v3<v2) then
  ay ((decide (0<=v3))&&(decide (v3<(v1.length:Int))))<|
  (fC.f k fG fH eZ fq iR ij gw jF v24 j4 j5 iS v20 v21 (v1.getD v3.toNat 0)).bind fun r2=>
  bif (!(t9 (t5 r2))) then
   e0 v3 fG fH eZ fq gw jF iS v20 v21 iR ij v24 j4 j5
  else
   rec (IntKind.wrap .i64 (v3+1)) r2.1 r2.2.1 (t2 r2).1 (t3 r2).1 (t6 r2).1 (t7 r2).1 (t9 (t2 r2)).1 (t9 (t3 r2)).1 (t9 (t4 r2)).1 (t4 r2).1 (t5 r2).1 (t8 r2).1 (t9 r2).1 (t9 r2.2).1
 else
  e1 fG fH eZ fq gw jF iS v20 v21 iR ij v24 j4 j5
def cT.l3 {R:Type} (k:Nat) (v1:LI) (v2:Int) (e0:Int->Int->Int->Bool->Bool->Int->Int->Int->Int->Int->LI->LI->LL->LI->LI->Option R) (e1:Int->Int->Bool->Bool->Int->Int->Int->Int->Int->LI->LI->LL->LI->LI->Option R) (n:Nat) (v3 fG fH:Int) (eZ fq:Bool) (gw jF iS v20 v21:Int) (iR ij:LI) (v24:LL) (j4 j5:LI):Option R:=
 V.iter (A:=Int×Int×Int×Bool×Bool×Int×Int×Int×Int×Int×LI×LI×LL×LI×LI) (fun rec a=>cT.s3 k v1 v2 e0 e1 (fun c0 c1 c2 c3 c4 c5 c6 c7 c8 c9 Om On c12 Oo Oq=>rec (c0,c1,c2,c3,c4,c5,c6,c7,c8,c9,Om,On,c12,Oo,Oq)) a.1 a.2.1 (t2 a).1 (t3 a).1 (t4 a).1 (t5 a).1 (t6 a).1 (t7 a).1 (t8 a).1 (t9 a).1 (t9 a.2).1 (t9 (t2 a)).1 (t9 (t3 a)).1 (t9 (t4 a)).1 (t9 (t5 a))) n (v3,fG,fH,eZ,fq,gw,jF,iS,v20,v21,iR,ij,v24,j4,j5)
theorem cT.aA {R:Type} (k:Nat) (v1:LI) (v2:Int) (e0:Int->Int->Int->Bool->Bool->Int->Int->Int->Int->Int->LI->LI->LL->LI->LI->Option R) (e1:Int->Int->Bool->Bool->Int->Int->Int->Int->Int->LI->LI->LL->LI->LI->Option R) (n:Nat) (v3 fG fH:Int) (eZ fq:Bool) (gw jF iS v20 v21:Int) (iR ij:LI) (v24:LL) (j4 j5:LI):cT.l3 (R:=R) k v1 v2 e0 e1 (n+1) v3 fG fH eZ fq gw jF iS v20 v21 iR ij v24 j4 j5=cT.s3 k v1 v2 e0 e1 (cT.l3 k v1 v2 e0 e1 n) v3 fG fH eZ fq gw jF iS v20 v21 iR ij v24 j4 j5:=rfl
def cT.f (k:Nat) (a0 a1:Int) (a2 a3:Bool) (a4 a5:LI) (a6 a7:Int) (a8:LL) (a9 de:LI) (cK a12 dq:Int) (g:LI):Option (Int×Int×Bool×Bool×LI×LI×Int×Int×LL×LI×LI×Int×Int×Int×Int):=
 (cN.f k a0 a1 a2 a3 a4 a5 a6 a7 a8 a9 de cK a12 dq).bind fun r1=>
 cT.l3 k g (g.length:Int) (fun x3 x4 x5 x6 x7 x8 x9 LS LU Je N2 N3 LW LX LY=>
  some (x4,x5,x6,x7,N2,N3,x8,x9,LW,LX,LY,LS,LU,Je,x3)) (fun LZ L0 L1 L2 L3 L4 L5 L6 L7 L8 L9 L_ Ma Mb=>
  some (LZ,L0,L1,L2,L8,L9,L3,L4,L_,Ma,Mb,L5,L6,L7,(g.length:Int))) k 0 r1.1 r1.2.1 (t2 r1).1 (t3 r1).1 (t6 r1).1 (t7 r1).1 (t9 (t2 r1)).1 (t9 (t3 r1)).1 (t9 (t4 r1)) (t4 r1).1 (t5 r1).1 (t8 r1).1 (t9 r1).1 (t9 r1.2).1
def gm.f (k:Nat) (a0 a1:Int) (a2 a3:Bool) (a4 a5:LI) (a6 a7:Int) (a8:LI) (a9:Bool) (de:LI) (cK a12:Int) (dq fW:Bool) (fX fY:LI) (fZ f_:Int) (fT:LL) (a20 a21:LI) (ga fU a24:Int) (gq:LI) (gB:LL):Option (Bool):=
 (cd.f k a0 a1 a2 a3 a4 a5 a6 a7).bind fun r1=>
 bif (!r1) then
  some false
 else
  bif decide ((a8.length:Int)>a0) then
   some false
  else
   (cg.f k a0 gB).bind fun r2=>
   bif (!r2) then
    some false
   else
    bif (!a9) then
     bif ((de.length:Int)==0) then
      bif ((gq.length:Int)==0) then
       (dD.f k cK a12 dq fW fX fY fZ f_ fT a20 a21 ga fU a24 0 0 false false [] [] 0 0 [] [] [] 0 0 0).bind fun r3=>
       some r3
      else
       some false
     else
      some false
    else
     (ia.f k a0 a1 a2 a3 a4 a5 a6 a7 de).bind fun r4=>
     bif (!(t9 (t5 r4))) then
      some false
     else
      bif ((a8.length:Int) != a0) then
       some false
      else
       (cT.f k r4.1 r4.2.1 (t2 r4).1 (t3 r4).1 (t4 r4).1 (t5 r4).1 (t6 r4).1 (t7 r4).1 (t8 r4).1 (t9 r4).1 (t9 r4.2).1 (t9 (t2 r4)).1 (t9 (t3 r4)).1 (t9 (t4 r4)).1 gq).bind fun r5=>
       bif ((t9 (t5 r5))==(gq.length:Int)) then
        (dD.f k r5.1 r5.2.1 (t2 r5).1 (t3 r5).1 (t4 r5).1 (t5 r5).1 (t6 r5).1 (t7 r5).1 (t8 r5).1 (t9 r5).1 (t9 r5.2).1 (t9 (t2 r5)).1 (t9 (t3 r5)).1 (t9 (t4 r5)).1 cK a12 dq fW fX fY fZ f_ fT a20 a21 ga fU a24).bind fun r6=>
        some r6
       else
        some false
def aN.f (k:Nat) (a0 a1:Int) (a2 a3:Bool) (a4 a5:LI) (a6 a7:Int) (a8:LI) (a9:Bool) (de:LI) (cK a12:Int) (dq fW:Bool) (fX fY:LI) (fZ f_:Int) (fT:LL) (a20 a21:LI) (ga fU a24:Int) (gq:LI) (gB:LL) (g0 g1:Int) (g2 g3:Bool) (g4 g5:LI) (g6 g7:Int) (g8:LI) (g9:Bool) (g10:LI) (g11 g12:Int) (g13 g14:Bool) (g15 g16:LI) (g17 g18:Int) (g19:LL) (g20 g21:LI) (g22 g23 g24:Int) (Ok:LI) (Ol:LL) (i:Bool):Option (Int×Int×Bool×Bool×LI×LI×Int×Int×LI×Bool×LI×Int×Int×Bool×Bool×LI×LI×Int×Int×LL×LI×LI×Int×Int×Int×LI×LL×Bool):=
 bif (!i) then
  (ah.f k a0 a1 a2 a3 a4 a5 a6 a7 a8 a9 de cK a12 dq fW fX fY fZ f_ fT a20 a21 ga fU a24 gq gB).bind fun r1=>
  some (r1.1,r1.2.1,(t2 r1).1,(t3 r1).1,(t4 r1).1,(t5 r1).1,(t6 r1).1,(t7 r1).1,(t8 r1).1,(t9 r1).1,(t9 r1.2).1,(t9 (t2 r1)).1,(t9 (t3 r1)).1,(t9 (t4 r1)).1,(t9 (t5 r1)).1,(t9 (t6 r1)).1,(t9 (t7 r1)).1,(t9 (t8 r1)).1,(t9 (t9 r1)).1,(t9 (t9 r1.2)).1,(t9 (t9 (t2 r1))).1,(t9 (t9 (t3 r1))).1,(t9 (t9 (t4 r1))).1,(t9 (t9 (t5 r1))).1,(t9 (t9 (t6 r1))).1,(t9 (t9 (t7 r1))).1,(t9 (t9 (t8 r1))),false)
 else
  (gm.f k a0 a1 a2 a3 a4 a5 a6 a7 a8 a9 de cK a12 dq fW fX fY fZ f_ fT a20 a21 ga fU a24 gq gB).bind fun r2=>
  bif (!r2) then
   (ah.f k a0 a1 a2 a3 a4 a5 a6 a7 a8 a9 de cK a12 dq fW fX fY fZ f_ fT a20 a21 ga fU a24 gq gB).bind fun r3=>
   some (r3.1,r3.2.1,(t2 r3).1,(t3 r3).1,(t4 r3).1,(t5 r3).1,(t6 r3).1,(t7 r3).1,(t8 r3).1,(t9 r3).1,(t9 r3.2).1,(t9 (t2 r3)).1,(t9 (t3 r3)).1,(t9 (t4 r3)).1,(t9 (t5 r3)).1,(t9 (t6 r3)).1,(t9 (t7 r3)).1,(t9 (t8 r3)).1,(t9 (t9 r3)).1,(t9 (t9 r3.2)).1,(t9 (t9 (t2 r3))).1,(t9 (t9 (t3 r3))).1,(t9 (t9 (t4 r3))).1,(t9 (t9 (t5 r3))).1,(t9 (t9 (t6 r3))).1,(t9 (t9 (t7 r3))).1,(t9 (t9 (t8 r3))),false)
  else
   (gm.f k g0 g1 g2 g3 g4 g5 g6 g7 g8 g9 g10 g11 g12 g13 g14 g15 g16 g17 g18 g19 g20 g21 g22 g23 g24 Ok Ol).bind fun r4=>
   bif (!r4) then
    (ah.f k a0 a1 a2 a3 a4 a5 a6 a7 a8 a9 de cK a12 dq fW fX fY fZ f_ fT a20 a21 ga fU a24 gq gB).bind fun r5=>
    some (r5.1,r5.2.1,(t2 r5).1,(t3 r5).1,(t4 r5).1,(t5 r5).1,(t6 r5).1,(t7 r5).1,(t8 r5).1,(t9 r5).1,(t9 r5.2).1,(t9 (t2 r5)).1,(t9 (t3 r5)).1,(t9 (t4 r5)).1,(t9 (t5 r5)).1,(t9 (t6 r5)).1,(t9 (t7 r5)).1,(t9 (t8 r5)).1,(t9 (t9 r5)).1,(t9 (t9 r5.2)).1,(t9 (t9 (t2 r5))).1,(t9 (t9 (t3 r5))).1,(t9 (t9 (t4 r5))).1,(t9 (t9 (t5 r5))).1,(t9 (t9 (t6 r5))).1,(t9 (t9 (t7 r5))).1,(t9 (t9 (t8 r5))),false)
   else
    some (g0,g1,g2,g3,g4,g5,g6,g7,g8,g9,g10,g11,g12,g13,g14,g15,g16,g17,g18,g19,g20,g21,g22,g23,g24,Ok,Ol,true)
def gG.f (k:Nat) (a0 a1:Int) (a2 a3:Bool) (a4 a5:LI) (a6 a7:Int) (a8:LI) (a9:Bool) (de:LI) (cK a12:Int) (dq fW:Bool) (fX fY:LI) (fZ f_:Int) (fT:LL) (a20 a21:LI) (ga fU a24:Int) (gq:LI) (gB:LL) (g:Int):Option (Int×Int×Bool×Bool×LI×LI×Int×Int×LI×Bool×LI×Int×Int×Bool×Bool×LI×LI×Int×Int×LL×LI×LI×Int×Int×Int×LI×LL×Bool):=
 (ah.f k a0 a1 a2 a3 a4 a5 a6 a7 a8 a9 de cK a12 dq fW fX fY fZ f_ fT a20 a21 ga fU a24 gq gB).bind fun r1=>
 (fC.f k cK a12 dq fW fX fY fZ f_ fT a20 a21 ga fU a24 g).bind fun r2=>
 ay (decide (((t9 (t9 (t7 r1))).1.length+1)*8<=room))<|
 bif a9 then
  (aN.f k a0 a1 a2 a3 a4 a5 a6 a7 a8 a9 de cK a12 dq fW fX fY fZ f_ fT a20 a21 ga fU a24 gq gB r1.1 r1.2.1 (t2 r1).1 (t3 r1).1 (t4 r1).1 (t5 r1).1 (t6 r1).1 (t7 r1).1 (t8 r1).1 (t9 r1).1 (t9 r1.2).1 r2.1 r2.2.1 (t2 r2).1 (t3 r2).1 (t4 r2).1 (t5 r2).1 (t6 r2).1 (t7 r2).1 (t8 r2).1 (t9 r2).1 (t9 r2.2).1 (t9 (t2 r2)).1 (t9 (t3 r2)).1 (t9 (t4 r2)).1 ((t9 (t9 (t7 r1))).1++[g]) (t9 (t9 (t8 r1))) (t9 (t5 r2))).bind fun r3=>
  some r3
 else
  (aN.f k a0 a1 a2 a3 a4 a5 a6 a7 a8 a9 de cK a12 dq fW fX fY fZ f_ fT a20 a21 ga fU a24 gq gB r1.1 r1.2.1 (t2 r1).1 (t3 r1).1 (t4 r1).1 (t5 r1).1 (t6 r1).1 (t7 r1).1 (t8 r1).1 (t9 r1).1 (t9 r1.2).1 r2.1 r2.2.1 (t2 r2).1 (t3 r2).1 (t4 r2).1 (t5 r2).1 (t6 r2).1 (t7 r2).1 (t8 r2).1 (t9 r2).1 (t9 r2.2).1 (t9 (t2 r2)).1 (t9 (t3 r2)).1 (t9 (t4 r2)).1 ((t9 (t9 (t7 r1))).1++[g]) (t9 (t9 (t8 r1))) false).bind fun r4=>
  some r4
def fD.f (k:Nat) (a0 a1:Int) (a2 a3:Bool) (a4 a5:LI) (a6 a7:Int) (a8:LI) (a9:Bool) (de:LI) (cK a12:Int) (dq fW:Bool) (fX fY:LI) (fZ f_:Int) (fT:LL) (a20 a21:LI) (ga fU a24:Int) (gq:LI) (gB:LL) (g:Int):Option (Int×Int×Bool×Bool×LI×LI×Int×Int×LI×Bool×LI×Int×Int×Bool×Bool×LI×LI×Int×Int×LL×LI×LI×Int×Int×Int×LI×LL×Bool):=
 (aT.f k g).bind fun r1=>
 bif (!r1) then
  (ah.f k a0 a1 a2 a3 a4 a5 a6 a7 a8 a9 de cK a12 dq fW fX fY fZ f_ fT a20 a21 ga fU a24 gq gB).bind fun r2=>
  some (r2.1,r2.2.1,(t2 r2).1,(t3 r2).1,(t4 r2).1,(t5 r2).1,(t6 r2).1,(t7 r2).1,(t8 r2).1,(t9 r2).1,(t9 r2.2).1,(t9 (t2 r2)).1,(t9 (t3 r2)).1,(t9 (t4 r2)).1,(t9 (t5 r2)).1,(t9 (t6 r2)).1,(t9 (t7 r2)).1,(t9 (t8 r2)).1,(t9 (t9 r2)).1,(t9 (t9 r2.2)).1,(t9 (t9 (t2 r2))).1,(t9 (t9 (t3 r2))).1,(t9 (t9 (t4 r2))).1,(t9 (t9 (t5 r2))).1,(t9 (t9 (t6 r2))).1,(t9 (t9 (t7 r2))).1,(t9 (t9 (t8 r2))),false)
 else
  (gG.f k a0 a1 a2 a3 a4 a5 a6 a7 a8 a9 de cK a12 dq fW fX fY fZ f_ fT a20 a21 ga fU a24 gq gB g).bind fun r3=>
  some r3
def fE.f (k:Nat) (a0 a1:Int) (a2 a3:Bool) (a4 a5:LI) (a6 a7:Int) (a8:LI) (a9:Bool) (de:LI) (cK a12:Int) (dq fW:Bool) (fX fY:LI) (fZ f_:Int) (fT:LL) (a20 a21:LI) (ga fU a24:Int) (gq:LI) (gB:LL):Option (Int×Int×Bool×Bool×LI×LI×Int×Int×LI×Bool×LI×Int×Int×Bool×Bool×LI×LI×Int×Int×LL×LI×LI×Int×Int×Int×LI×LL×Bool):=
 (gG.f k a0 a1 a2 a3 a4 a5 a6 a7 a8 a9 de cK a12 dq fW fX fY fZ f_ fT a20 a21 ga fU a24 gq gB (-1)).bind fun r1=>
 some r1
def kr.f (k:Nat) (a:Int):Option (Int):=
 (bN.f k a).bind fun r1=>
 bif decide (r1<0) then
  some 0
 else
  bif decide (r1<=8) then
   some (IntKind.wrap .i64 (r1+2))
  else
   bif (r1==12) then
    some 1
   else
    some 10
def dr.s3 {R:Type} (k:Nat) (v1:LI) (v2:Int) (e0:Int->Option R) (rec:Int->Int->Option R) (v0 v3:Int):Option R:=
 bif decide (v3<v2) then
  ay ((decide (0<=v3))&&(decide (v3<(v1.length:Int))))<|
  (kr.f k (v1.getD v3.toNat 0)).bind fun r1=>
  rec (IntKind.wrap .i64 (v0+r1)) (IntKind.wrap .i64 (v3+1))
 else
  e0 v0
def dr.l3 {R:Type} (k:Nat) (v1:LI) (v2:Int) (e0:Int->Option R) (n:Nat) (v0 v3:Int):Option R:=
 V.iter (A:=Int×Int) (fun rec a=>dr.s3 k v1 v2 e0 (fun c0 c1=>rec (c0,c1)) a.1 a.2) n (v0,v3)
theorem dr.aA {R:Type} (k:Nat) (v1:LI) (v2:Int) (e0:Int->Option R) (n:Nat) (v0 v3:Int):dr.l3 (R:=R) k v1 v2 e0 (n+1) v0 v3=dr.s3 k v1 v2 e0 (dr.l3 k v1 v2 e0 n) v0 v3:=rfl
def dr.f (k:Nat) (a:LI):Option (Int):=
 dr.l3 k a (a.length:Int) (fun x2=>
  some x2) k 0 0
def ck.s3 {R:Type} (k:Nat) (v0:LL) (v1:Int) (e0:LI->Option R) (rec:Int->LI->Option R) (v2:Int) (v3:LI):Option R:=
 bif decide (v2<v1) then
  ay ((decide (0<=v2))&&(decide (v2<(v0.length:Int))))<|
  (dr.f k (v0.getD v2.toNat [])).bind fun r1=>
  ay (decide ((v3.length+1)*8<=room))<|
  rec (IntKind.wrap .i64 (v2+1)) (v3++[r1])
 else
  e0 v3
def ck.l3 {R:Type} (k:Nat) (v0:LL) (v1:Int) (e0:LI->Option R) (n:Nat) (v2:Int) (v3:LI):Option R:=
 V.iter (A:=Int×LI) (fun rec a=>ck.s3 k v0 v1 e0 (fun c0 c1=>rec (c0,c1)) a.1 a.2) n (v2,v3)
theorem ck.aA {R:Type} (k:Nat) (v0:LL) (v1:Int) (e0:LI->Option R) (n:Nat) (v2:Int) (v3:LI):ck.l3 (R:=R) k v0 v1 e0 (n+1) v2 v3=ck.s3 k v0 v1 e0 (ck.l3 k v0 v1 e0 n) v2 v3:=rfl
def ck.f (k:Nat) (a0 a1:Int) (a2 a3:Bool) (a4 a5:LI) (a6 a7:Int) (a8:LL) (a9 de:LI) (cK a12 dq:Int):Option (LI):=
 ck.l3 k a8 (a8.length:Int) (fun x2=>
  some x2) k 0 []
def df.s8 {R:Type} (k:Nat) (v1:Int) (v3:LI) (e0:LI->Option R) (rec:Int->LI->Option R) (v2:Int) (v4:LI):Option R:=
 bif decide (v2<v1) then
  ay ((decide (0<=v2))&&(decide (v2<(v3.length:Int))))<|
  ay ((decide (0<=v2))&&(decide (v2<(v4.length:Int))))<|
  rec (IntKind.wrap .i64 (v2+1)) (v4.set v2.toNat (IntKind.wrap .i64 (0-(v3.getD v2.toNat 0))))
 else
  e0 v4
def df.l8 {R:Type} (k:Nat) (v1:Int) (v3:LI) (e0:LI->Option R) (n:Nat) (v2:Int) (v4:LI):Option R:=
 V.iter (A:=Int×LI) (fun rec a=>df.s8 k v1 v3 e0 (fun c0 c1=>rec (c0,c1)) a.1 a.2) n (v2,v4)
theorem df.AJ {R:Type} (k:Nat) (v1:Int) (v3:LI) (e0:LI->Option R) (n:Nat) (v2:Int) (v4:LI):df.l8 (R:=R) k v1 v3 e0 (n+1) v2 v4=df.s8 k v1 v3 e0 (df.l8 k v1 v3 e0 n) v2 v4:=rfl
def df.f (k:Nat) (a0 a1:Int) (a2 a3:Bool) (a4 a5:LI) (a6 a7:Int) (a8:LL) (a9 de:LI) (cK a12 dq:Int):Option (LI):=
 (cQ.f k a0 a1 a2 a3 a4 a5 a6 a7 a8 a9 de cK a12 dq).bind fun r1=>
 bif (!r1) then
  some ([])
 else
  (cZ.f k a0 a1 a2 a3 a4 a5 a6 a7 a8 a9 de cK a12 dq).bind fun r2=>
  (ck.f k a0 a1 a2 a3 a4 a5 a6 a7 a8 a9 de cK a12 dq).bind fun r3=>
  ay ((decide (0<=(r3.length:Int)))&&(decide (((r3.length:Int).toNat)*8<=room)))<|
  bif decide (r2<0) then
   some (List.replicate ((r3.length:Int).toNat) 0)
  else
   df.l8 k (r3.length:Int) r3 (fun x4=>
    (eK.f k r3).bind fun r5=>
    ay ((decide (0<=r2))&&(decide (r2<(x4.length:Int))))<|
    some (x4.set r2.toNat r5)) k 0 (List.replicate ((r3.length:Int).toNat) 0)
def fF.f (k:Nat) (a0 a1:Int) (a2 a3:Bool) (a4 a5:LI) (a6 a7:Int) (a8:LI) (a9:Bool) (de:LI) (cK a12:Int) (dq fW:Bool) (fX fY:LI) (fZ f_:Int) (fT:LL) (a20 a21:LI) (ga fU a24:Int) (gq:LI) (gB:LL):Option (Int×Int×Bool×Bool×LI×LI×Int×Int×LI×Bool×LI×Int×Int×Bool×Bool×LI×LI×Int×Int×LL×LI×LI×Int×Int×Int×LI×LL×Bool):=
 (ah.f k a0 a1 a2 a3 a4 a5 a6 a7 a8 a9 de cK a12 dq fW fX fY fZ f_ fT a20 a21 ga fU a24 gq gB).bind fun r1=>
 (df.f k cK a12 dq fW fX fY fZ f_ fT a20 a21 ga fU a24).bind fun r2=>
 ay (decide (((t9 (t9 (t8 r1))).length+1)*24<=room))<|
 bif a9 then
  (fJ.f k cK a12 dq fW fX fY fZ f_ fT a20 a21 ga fU a24).bind fun r3=>
  (aN.f k a0 a1 a2 a3 a4 a5 a6 a7 a8 a9 de cK a12 dq fW fX fY fZ f_ fT a20 a21 ga fU a24 gq gB r1.1 r1.2.1 (t2 r1).1 (t3 r1).1 (t4 r1).1 (t5 r1).1 (t6 r1).1 (t7 r1).1 [] false [] 0 0 false false [] [] 0 0 [] [] [] 0 0 0 [] ((t9 (t9 (t8 r1)))++[r2]) r3).bind fun r4=>
  some r4
 else
  (aN.f k a0 a1 a2 a3 a4 a5 a6 a7 a8 a9 de cK a12 dq fW fX fY fZ f_ fT a20 a21 ga fU a24 gq gB r1.1 r1.2.1 (t2 r1).1 (t3 r1).1 (t4 r1).1 (t5 r1).1 (t6 r1).1 (t7 r1).1 [] false [] 0 0 false false [] [] 0 0 [] [] [] 0 0 0 [] ((t9 (t9 (t8 r1)))++[r2]) false).bind fun r5=>
  some r5
def lH.f (k:Nat) (a0 a1:Int) (a2 a3:Bool) (a4 a5:LI) (a6 a7:Int):Option (Int×Int×Bool×Bool×LI×LI×Int×Int×LI×Bool×LI×Int×Int×Bool×Bool×LI×LI×Int×Int×LL×LI×LI×Int×Int×Int×LI×LL×Bool):=
 (cd.f k a0 a1 a2 a3 a4 a5 a6 a7).bind fun r1=>
 bif (!r1) then
  some (0,0,false,false,[],[],0,0,[],false,[],0,0,false,false,[],[],0,0,[],[],[],0,0,0,[],[],false)
 else
  (bY.f k a0 a1 a2 a3 a4 a5 a6 a7).bind fun r2=>
  some (r2.1,r2.2.1,(t2 r2).1,(t3 r2).1,(t4 r2).1,(t5 r2).1,(t6 r2).1,(t7 r2),[],false,[],0,0,false,false,[],[],0,0,[],[],[],0,0,0,[],[],true)
def kS.f (k:Nat):Option (Int×Int×Bool×Bool×LI×LI×Int×Int):=
 some (3,5,true,true,[206],[212],1,200)
def iV.f (k:Nat) (a g:Int):Option (Int):=
 (an.f k g 1 1000000000000).bind fun r1=>
 bif (!r1) then
  some 0
 else
  ay (!(decide (g=0)))<|
  ay (!(decide (g=0)))<|
  some ((IntKind.wrap .i64 ((a.tmod g)+g)).tmod g)
def fb.s3 {R:Type} (k:Nat) (v1:LI) (v2:Int) (e0:Int->Option R) (rec:Int->Int->Option R) (v0 v3:Int):Option R:=
 bif decide (v3<v2) then
  ay ((decide (0<=v3))&&(decide (v3<(v1.length:Int))))<|
  (iV.f k (v1.getD v3.toNat 0) 2147483647).bind fun r1=>
  rec ((IntKind.wrap .i64 ((IntKind.wrap .i64 ((IntKind.wrap .i64 (v0*1000003))+r1))+13)).tmod 2147483647) (IntKind.wrap .i64 (v3+1))
 else
  e0 v0
def fb.l3 {R:Type} (k:Nat) (v1:LI) (v2:Int) (e0:Int->Option R) (n:Nat) (v0 v3:Int):Option R:=
 V.iter (A:=Int×Int) (fun rec a=>fb.s3 k v1 v2 e0 (fun c0 c1=>rec (c0,c1)) a.1 a.2) n (v0,v3)
theorem fb.aA {R:Type} (k:Nat) (v1:LI) (v2:Int) (e0:Int->Option R) (n:Nat) (v0 v3:Int):fb.l3 (R:=R) k v1 v2 e0 (n+1) v0 v3=fb.s3 k v1 v2 e0 (fb.l3 k v1 v2 e0 n) v0 v3:=rfl
def fb.f (k:Nat) (a:LI):Option (Int):=
 fb.l3 k a (a.length:Int) (fun x2=>
  some x2) k 11 0
def gH.f (k:Nat) (a g i:Int):Option (Int):=
 (fb.f k [a,g,i]).bind fun r1=>
 some r1
def cm.s5 {R:Type} (k:Nat) (v1:Int) (v2:LI) (v3:Int) (e0:List (List gR)->LI->Option R) (rec:Int->List (List gR)->LI->Option R) (v4:Int) (v5:List (List gR)) (v6:LI):Option R:=
 bif decide (v4<v3) then
  ay ((decide (0<=v4))&&(decide (v4<(v2.length:Int))))<|
  (gH.f k v4 (v2.getD v4.toNat 0) v1).bind fun r2=>
  ay (decide ((v5.length+1)*64<=room))<|
  ay (decide ((v6.length+1)*8<=room))<|
  rec (IntKind.wrap .i64 (v4+1)) (v5++([[.int 1,.int r2,.ints [],.ints []]])) (v6++[v1])
 else
  e0 v5 v6
def cm.l5 {R:Type} (k:Nat) (v1:Int) (v2:LI) (v3:Int) (e0:List (List gR)->LI->Option R) (n:Nat) (v4:Int) (v5:List (List gR)) (v6:LI):Option R:=
 V.iter (A:=Int×List (List gR)×LI) (fun rec a=>cm.s5 k v1 v2 v3 e0 (fun c0 c1 c2=>rec (c0,c1,c2)) a.1 a.2.1 (t2 a)) n (v4,v5,v6)
theorem cm.bp {R:Type} (k:Nat) (v1:Int) (v2:LI) (v3:Int) (e0:List (List gR)->LI->Option R) (n:Nat) (v4:Int) (v5:List (List gR)) (v6:LI):cm.l5 (R:=R) k v1 v2 v3 e0 (n+1) v4 v5 v6=cm.s5 k v1 v2 v3 e0 (cm.l5 k v1 v2 v3 e0 n) v4 v5 v6:=rfl
def cm.f (k:Nat) (a0 a1:Int) (a2 a3:Bool) (a4 a5:LI) (a6 a7:Int) (g:LI) (i:Int):Option (List (List gR)):=
 (cd.f k a0 a1 a2 a3 a4 a5 a6 a7).bind fun r1=>
 bif (!r1) then
  some ([])
 else
  bif ((g.length:Int) != a0) then
   some ([])
  else
   cm.l5 k i g (g.length:Int) (fun x3 x4=>
    (aJ.f k g).bind fun r5=>
    ay (decide ((x3.length+1)*64<=room))<|
    some (x3++([[.int 2,.int 0,.ints r5,.ints x4]]))) k 0 [] []
def jO.f (k:Nat) (a0 a1:Int) (a2 a3:Bool) (a4 a5:LI) (a6 a7:Int) (a8:LI) (a9:Bool) (de:LI) (cK a12:Int) (dq fW:Bool) (fX fY:LI) (fZ f_:Int) (fT:LL) (a20 a21:LI) (ga fU a24:Int) (gq:LI) (gB:LL) (g:Int):Option (Int×Int×Bool×Bool×LI×LI×Int×Int×LI×Bool×LI×Int×Int×Bool×Bool×LI×LI×Int×Int×LL×LI×LI×Int×Int×Int×LI×LL×Bool):=
 (ah.f k a0 a1 a2 a3 a4 a5 a6 a7 a8 a9 de cK a12 dq fW fX fY fZ f_ fT a20 a21 ga fU a24 gq gB).bind fun r1=>
 ay (decide (((t8 r1).1.length+1)*8<=room))<|
 bif (!a9) then
  (aN.f k a0 a1 a2 a3 a4 a5 a6 a7 a8 a9 de cK a12 dq fW fX fY fZ f_ fT a20 a21 ga fU a24 gq gB r1.1 r1.2.1 (t2 r1).1 (t3 r1).1 (t4 r1).1 (t5 r1).1 (t6 r1).1 (t7 r1).1 ((t8 r1).1++[g]) (t9 r1).1 (t9 r1.2).1 (t9 (t2 r1)).1 (t9 (t3 r1)).1 (t9 (t4 r1)).1 (t9 (t5 r1)).1 (t9 (t6 r1)).1 (t9 (t7 r1)).1 (t9 (t8 r1)).1 (t9 (t9 r1)).1 (t9 (t9 r1.2)).1 (t9 (t9 (t2 r1))).1 (t9 (t9 (t3 r1))).1 (t9 (t9 (t4 r1))).1 (t9 (t9 (t5 r1))).1 (t9 (t9 (t6 r1))).1 (t9 (t9 (t7 r1))).1 (t9 (t9 (t8 r1))) (decide ((a8.length:Int)<a0))).bind fun r2=>
  some r2
 else
  (aN.f k a0 a1 a2 a3 a4 a5 a6 a7 a8 a9 de cK a12 dq fW fX fY fZ f_ fT a20 a21 ga fU a24 gq gB r1.1 r1.2.1 (t2 r1).1 (t3 r1).1 (t4 r1).1 (t5 r1).1 (t6 r1).1 (t7 r1).1 ((t8 r1).1++[g]) (t9 r1).1 (t9 r1.2).1 (t9 (t2 r1)).1 (t9 (t3 r1)).1 (t9 (t4 r1)).1 (t9 (t5 r1)).1 (t9 (t6 r1)).1 (t9 (t7 r1)).1 (t9 (t8 r1)).1 (t9 (t9 r1)).1 (t9 (t9 r1.2)).1 (t9 (t9 (t2 r1))).1 (t9 (t9 (t3 r1))).1 (t9 (t9 (t4 r1))).1 (t9 (t9 (t5 r1))).1 (t9 (t9 (t6 r1))).1 (t9 (t9 (t7 r1))).1 (t9 (t9 (t8 r1))) false).bind fun r3=>
  some r3
def jP.f (k:Nat) (a g i j:Int):Option (Bool):=
 (an.f k g 0 1000000).bind fun r1=>
 bif r1 then
  (an.f k i 0 1000000).bind fun r2=>
  bif r2 then
   (gH.f k a g i).bind fun r3=>
   some (r3==j)
  else
   some false
 else
  some false
def cF.s5 {R:Type} (k:Nat) (v0 v1 v2:LI) (v3:Int) (e0 e1:Option R) (rec:Int->Option R) (v4:Int):Option R:=
 bif decide (v4<v3) then
  ay ((decide (0<=v4))&&(decide (v4<(v1.length:Int))))<|
  ay ((decide (0<=v4))&&(decide (v4<(v2.length:Int))))<|
  ay ((decide (0<=v4))&&(decide (v4<(v0.length:Int))))<|
  (jP.f k v4 (v1.getD v4.toNat 0) (v2.getD v4.toNat 0) (v0.getD v4.toNat 0)).bind fun r2=>
  bif (!r2) then
   e0
  else
   rec (IntKind.wrap .i64 (v4+1))
 else
  e1
def cF.l5 {R:Type} (k:Nat) (v0 v1 v2:LI) (v3:Int) (e0 e1:Option R) (n:Nat) (v4:Int):Option R:=
 V.iter (A:=Int) (fun rec a=>cF.s5 k v0 v1 v2 v3 e0 e1 (fun c0=>rec c0) a) n v4
theorem cF.bp {R:Type} (k:Nat) (v0 v1 v2:LI) (v3:Int) (e0 e1:Option R) (n:Nat) (v4:Int):cF.l5 (R:=R) k v0 v1 v2 v3 e0 e1 (n+1) v4=cF.s5 k v0 v1 v2 v3 e0 e1 (cF.l5 k v0 v1 v2 v3 e0 e1 n) v4:=rfl
def cF.f (k:Nat) (a g i:LI):Option (Bool):=
 (an.f k (a.length:Int) 1 6).bind fun r1=>
 bif (!r1) then
  some false
 else
  bif ((g.length:Int) != (a.length:Int)) then
   some false
  else
   bif ((i.length:Int) != (a.length:Int)) then
    some false
   else
    cF.l5 k a g i (a.length:Int) (some false) (some true) k 0
def cv.s3 {R:Type} (k:Nat) (v0:Int) (e0:LI->Option R) (rec:Int->LI->Option R) (v1:Int) (v2:LI):Option R:=
 bif decide (v1>=1) then
  (fb.f k [v0,v1]).bind fun r2=>
  (iV.f k r2 (IntKind.wrap .i64 (v1+1))).bind fun r3=>
  ay ((decide (0<=r3))&&(decide (r3<(v2.length:Int))))<|
  ay ((decide (0<=v1))&&(decide (v1<(v2.length:Int))))<|
  ay ((decide (0<=v1))&&(decide (v1<(v2.length:Int))))<|
  ay ((decide (0<=r3))&&(decide (r3<((v2.set v1.toNat (v2.getD r3.toNat 0)).length:Int))))<|
  rec (IntKind.wrap .i64 (v1-1)) ((v2.set v1.toNat (v2.getD r3.toNat 0)).set r3.toNat (v2.getD v1.toNat 0))
 else
  e0 v2
def cv.l3 {R:Type} (k:Nat) (v0:Int) (e0:LI->Option R) (n:Nat) (v1:Int) (v2:LI):Option R:=
 V.iter (A:=Int×LI) (fun rec a=>cv.s3 k v0 e0 (fun c0 c1=>rec (c0,c1)) a.1 a.2) n (v1,v2)
theorem cv.aA {R:Type} (k:Nat) (v0:Int) (e0:LI->Option R) (n:Nat) (v1:Int) (v2:LI):cv.l3 (R:=R) k v0 e0 (n+1) v1 v2=cv.s3 k v0 e0 (cv.l3 k v0 e0 n) v1 v2:=rfl
def cv.f (k:Nat) (a:LI) (g:Int):Option (LI):=
 (aJ.f k a).bind fun r1=>
 cv.l3 k g (fun x4=>
  some x4) k (IntKind.wrap .i64 ((r1.length:Int)-1)) r1
def dP.s3 {R:Type} (k:Nat) (v0:LI) (e0:LI->Option R) (rec:Int->LI->Option R) (v1:Int) (v2:LI):Option R:=
 bif decide (v1<52) then
  (fK.f k v0 v1).bind fun r1=>
  bif (!r1) then
   ay (decide ((v2.length+1)*8<=room))<|
   rec (IntKind.wrap .i64 (v1+1)) (v2++[v1])
  else
   rec (IntKind.wrap .i64 (v1+1)) v2
 else
  e0 v2
def dP.l3 {R:Type} (k:Nat) (v0:LI) (e0:LI->Option R) (n:Nat) (v1:Int) (v2:LI):Option R:=
 V.iter (A:=Int×LI) (fun rec a=>dP.s3 k v0 e0 (fun c0 c1=>rec (c0,c1)) a.1 a.2) n (v1,v2)
theorem dP.aA {R:Type} (k:Nat) (v0:LI) (e0:LI->Option R) (n:Nat) (v1:Int) (v2:LI):dP.l3 (R:=R) k v0 e0 (n+1) v1 v2=dP.s3 k v0 e0 (dP.l3 k v0 e0 n) v1 v2:=rfl
def dP.f (k:Nat) (a:LI):Option (LI):=
 dP.l3 k a (fun x2=>
  some x2) k 0 []
def jQ.f (k:Nat):Option (LI):=
 (dP.f k []).bind fun r1=>
 some r1
def cG.s3 {R:Type} (k:Nat) (v1:LI) (v2:Int) (e0:Int->Option R) (rec:Int->Int->Option R) (v0 v3:Int):Option R:=
 bif decide (v3<v2) then
  ay ((decide (0<=v3))&&(decide (v3<(v1.length:Int))))<|
  (iV.f k (v1.getD v3.toNat 0) 1000001).bind fun r1=>
  rec ((IntKind.wrap .i64 (v0+r1)).tmod 1000001) (IntKind.wrap .i64 (v3+1))
 else
  e0 v0
def cG.l3 {R:Type} (k:Nat) (v1:LI) (v2:Int) (e0:Int->Option R) (n:Nat) (v0 v3:Int):Option R:=
 V.iter (A:=Int×Int) (fun rec a=>cG.s3 k v1 v2 e0 (fun c0 c1=>rec (c0,c1)) a.1 a.2) n (v0,v3)
theorem cG.aA {R:Type} (k:Nat) (v1:LI) (v2:Int) (e0:Int->Option R) (n:Nat) (v0 v3:Int):cG.l3 (R:=R) k v1 v2 e0 (n+1) v0 v3=cG.s3 k v1 v2 e0 (cG.l3 k v1 v2 e0 n) v0 v3:=rfl
def cG.f (k:Nat) (a:LI):Option (Int):=
 cG.l3 k a (a.length:Int) (fun x2=>
  some x2) k 0 0
def iW.f (k:Nat) (a g i:LI):Option (LI×Bool):=
 (cF.f k a g i).bind fun r1=>
 bif (!r1) then
  some ([],false)
 else
  (jQ.f k).bind fun r2=>
  (cG.f k g).bind fun r3=>
  (cv.f k r2 r3).bind fun r4=>
  some (r4,true)
def jR.f (k:Nat) (a0 a1:Int) (a2 a3:Bool) (a4 a5:LI) (a6 a7:Int) (a8:LI) (a9:Bool) (de:LI) (cK a12:Int) (dq fW:Bool) (fX fY:LI) (fZ f_:Int) (fT:LL) (a20 a21:LI) (ga fU a24:Int) (gq:LI) (gB:LL):Option (Bool):=
 bif ((a8.length:Int)==a0) then
  some (!a9)
 else
  some false
def jS.f (k:Nat) (a0 a1:Int) (a2 a3:Bool) (a4 a5:LI) (a6 a7:Int) (a8:LI) (a9:Bool) (de:LI) (cK a12:Int) (dq fW:Bool) (fX fY:LI) (fZ f_:Int) (fT:LL) (a20 a21:LI) (ga fU a24:Int) (gq:LI) (gB:LL) (g i:LI):Option (Int×Int×Bool×Bool×LI×LI×Int×Int×LI×Bool×LI×Int×Int×Bool×Bool×LI×LI×Int×Int×LL×LI×LI×Int×Int×Int×LI×LL×Bool):=
 (ah.f k a0 a1 a2 a3 a4 a5 a6 a7 a8 a9 de cK a12 dq fW fX fY fZ f_ fT a20 a21 ga fU a24 gq gB).bind fun r1=>
 (iW.f k a8 g i).bind fun r2=>
 (ia.f k a0 a1 a2 a3 a4 a5 a6 a7 r2.1).bind fun r3=>
 (jR.f k a0 a1 a2 a3 a4 a5 a6 a7 a8 a9 de cK a12 dq fW fX fY fZ f_ fT a20 a21 ga fU a24 gq gB).bind fun r4=>
 bif r4 then
  bif r2.2 then
   (aN.f k a0 a1 a2 a3 a4 a5 a6 a7 a8 a9 de cK a12 dq fW fX fY fZ f_ fT a20 a21 ga fU a24 gq gB r1.1 r1.2.1 (t2 r1).1 (t3 r1).1 (t4 r1).1 (t5 r1).1 (t6 r1).1 (t7 r1).1 (t8 r1).1 true r2.1 r3.1 r3.2.1 (t2 r3).1 (t3 r3).1 (t4 r3).1 (t5 r3).1 (t6 r3).1 (t7 r3).1 (t8 r3).1 (t9 r3).1 (t9 r3.2).1 (t9 (t2 r3)).1 (t9 (t3 r3)).1 (t9 (t4 r3)).1 [] (t9 (t9 (t8 r1))) (t9 (t5 r3))).bind fun r5=>
   some r5
  else
   (aN.f k a0 a1 a2 a3 a4 a5 a6 a7 a8 a9 de cK a12 dq fW fX fY fZ f_ fT a20 a21 ga fU a24 gq gB r1.1 r1.2.1 (t2 r1).1 (t3 r1).1 (t4 r1).1 (t5 r1).1 (t6 r1).1 (t7 r1).1 (t8 r1).1 true r2.1 r3.1 r3.2.1 (t2 r3).1 (t3 r3).1 (t4 r3).1 (t5 r3).1 (t6 r3).1 (t7 r3).1 (t8 r3).1 (t9 r3).1 (t9 r3.2).1 (t9 (t2 r3)).1 (t9 (t3 r3)).1 (t9 (t4 r3)).1 [] (t9 (t9 (t8 r1))) false).bind fun r6=>
   some r6
 else
  (aN.f k a0 a1 a2 a3 a4 a5 a6 a7 a8 a9 de cK a12 dq fW fX fY fZ f_ fT a20 a21 ga fU a24 gq gB r1.1 r1.2.1 (t2 r1).1 (t3 r1).1 (t4 r1).1 (t5 r1).1 (t6 r1).1 (t7 r1).1 (t8 r1).1 true r2.1 r3.1 r3.2.1 (t2 r3).1 (t3 r3).1 (t4 r3).1 (t5 r3).1 (t6 r3).1 (t7 r3).1 (t8 r3).1 (t9 r3).1 (t9 r3.2).1 (t9 (t2 r3)).1 (t9 (t3 r3)).1 (t9 (t4 r3)).1 [] (t9 (t9 (t8 r1))) false).bind fun r7=>
  some r7
def iD.f (k:Nat) (a0 a1:Int) (a2 a3:Bool) (a4 a5:LI) (a6 a7:Int) (a8:LI) (a9:Bool) (de:LI) (cK a12:Int) (dq fW:Bool) (fX fY:LI) (fZ f_:Int) (fT:LL) (a20 a21:LI) (ga fU a24:Int) (gq:LI) (gB:LL) (g0 g1:Int) (g2 g3:LI):Option (Int×Int×Bool×Bool×LI×LI×Int×Int×LI×Bool×LI×Int×Int×Bool×Bool×LI×LI×Int×Int×LL×LI×LI×Int×Int×Int×LI×LL×Bool):=
 bif (g0==1) then
  (jO.f k a0 a1 a2 a3 a4 a5 a6 a7 a8 a9 de cK a12 dq fW fX fY fZ f_ fT a20 a21 ga fU a24 gq gB g1).bind fun r1=>
  some r1
 else
  bif (g0==2) then
   (jS.f k a0 a1 a2 a3 a4 a5 a6 a7 a8 a9 de cK a12 dq fW fX fY fZ f_ fT a20 a21 ga fU a24 gq gB g2 g3).bind fun r2=>
   some r2
  else
   bif (g0==3) then
    (fD.f k a0 a1 a2 a3 a4 a5 a6 a7 a8 a9 de cK a12 dq fW fX fY fZ f_ fT a20 a21 ga fU a24 gq gB g1).bind fun r3=>
    some r3
   else
    bif (g0==4) then
     (fE.f k a0 a1 a2 a3 a4 a5 a6 a7 a8 a9 de cK a12 dq fW fX fY fZ f_ fT a20 a21 ga fU a24 gq gB).bind fun r4=>
     some r4
    else
     bif (g0==5) then
      (fF.f k a0 a1 a2 a3 a4 a5 a6 a7 a8 a9 de cK a12 dq fW fX fY fZ f_ fT a20 a21 ga fU a24 gq gB).bind fun r5=>
      some r5
     else
      (ah.f k a0 a1 a2 a3 a4 a5 a6 a7 a8 a9 de cK a12 dq fW fX fY fZ f_ fT a20 a21 ga fU a24 gq gB).bind fun r6=>
      some (r6.1,r6.2.1,(t2 r6).1,(t3 r6).1,(t4 r6).1,(t5 r6).1,(t6 r6).1,(t7 r6).1,(t8 r6).1,(t9 r6).1,(t9 r6.2).1,(t9 (t2 r6)).1,(t9 (t3 r6)).1,(t9 (t4 r6)).1,(t9 (t5 r6)).1,(t9 (t6 r6)).1,(t9 (t7 r6)).1,(t9 (t8 r6)).1,(t9 (t9 r6)).1,(t9 (t9 r6.2)).1,(t9 (t9 (t2 r6))).1,(t9 (t9 (t3 r6))).1,(t9 (t9 (t4 r6))).1,(t9 (t9 (t5 r6))).1,(t9 (t9 (t6 r6))).1,(t9 (t9 (t7 r6))).1,(t9 (t9 (t8 r6))),false)
def cn.s3 {R:Type} (k:Nat) (v0:LI) (v1:Int) (e0:LI->Option R) (rec:Int->LI->Option R) (v2:Int) (v3:LI):Option R:=
 bif decide (v2<v1) then
  ay ((decide (0<=v2))&&(decide (v2<(v0.length:Int))))<|
  (aT.f k (v0.getD v2.toNat 0)).bind fun r1=>
  bif r1 then
   (aZ.f k (v0.getD v2.toNat 0)).bind fun r2=>
   ay ((decide (0<=r2))&&(decide (r2<(v3.length:Int))))<|
   ay ((decide (0<=r2))&&(decide (r2<(v3.length:Int))))<|
   rec (IntKind.wrap .i64 (v2+1)) (v3.set r2.toNat (IntKind.wrap .i64 ((v3.getD r2.toNat 0)+1)))
  else
   rec (IntKind.wrap .i64 (v2+1)) v3
 else
  e0 v3
def cn.l3 {R:Type} (k:Nat) (v0:LI) (v1:Int) (e0:LI->Option R) (n:Nat) (v2:Int) (v3:LI):Option R:=
 V.iter (A:=Int×LI) (fun rec a=>cn.s3 k v0 v1 e0 (fun c0 c1=>rec (c0,c1)) a.1 a.2) n (v2,v3)
theorem cn.aA {R:Type} (k:Nat) (v0:LI) (v1:Int) (e0:LI->Option R) (n:Nat) (v2:Int) (v3:LI):cn.l3 (R:=R) k v0 v1 e0 (n+1) v2 v3=cn.s3 k v0 v1 e0 (cn.l3 k v0 v1 e0 n) v2 v3:=rfl
def cn.f (k:Nat) (a:LI):Option (LI):=
 cn.l3 k a (a.length:Int) (fun x3=>
  some x3) k 0 [0,0,0,0]
def dk.Sv {R:Type} (k:Nat) (v1:Int) (v3 v4:LI) (e0:Int->Option R) (rec:Int->Int->Option R) (v0 v2:Int):Option R:=
 bif decide (v2<v1) then
  ay ((decide (0<=v2))&&(decide (v2<(v4.length:Int))))<|
  (aZ.f k (v4.getD v2.toNat 0)).bind fun r3=>
  ay ((decide (0<=r3))&&(decide (r3<(v3.length:Int))))<|
  (aZ.f k v0).bind fun r4=>
  ay ((decide (0<=r4))&&(decide (r4<(v3.length:Int))))<|
  bif decide ((v3.getD r3.toNat 0)>(v3.getD r4.toNat 0)) then
   rec (v4.getD v2.toNat 0) (IntKind.wrap .i64 (v2+1))
  else
   rec v0 (IntKind.wrap .i64 (v2+1))
 else
  e0 v0
def dk.G0 {R:Type} (k:Nat) (v1:Int) (v3 v4:LI) (e0:Int->Option R) (n:Nat) (v0 v2:Int):Option R:=
 V.iter (A:=Int×Int) (fun rec a=>dk.Sv k v1 v3 v4 e0 (fun c0 c1=>rec (c0,c1)) a.1 a.2) n (v0,v2)
theorem dk.n5 {R:Type} (k:Nat) (v1:Int) (v3 v4:LI) (e0:Int->Option R) (n:Nat) (v0 v2:Int):dk.G0 (R:=R) k v1 v3 v4 e0 (n+1) v0 v2=dk.Sv k v1 v3 v4 e0 (dk.G0 k v1 v3 v4 e0 n) v0 v2:=rfl
def dk.f (k:Nat) (a0 a1:Int) (a2 a3:Bool) (a4 a5:LI) (a6 a7:Int) (a8:LL) (a9 de:LI) (cK a12 dq g:Int):Option (Int):=
 (bL.f k a0 a1 a2 a3 a4 a5 a6 a7 a8 a9 de cK a12 dq).bind fun r1=>
 bif ((r1.length:Int)==0) then
  some (-1)
 else
  bif (g==0) then
   ay (decide (0<(r1.length:Int)))<|
   some (r1.getD 0 0)
  else
   bif (g==1) then
    ay ((decide (0<=(IntKind.wrap .i64 ((r1.length:Int)-1))))&&(decide ((IntKind.wrap .i64 ((r1.length:Int)-1))<(r1.length:Int))))<|
    some (r1.getD ((IntKind.wrap .i64 ((r1.length:Int)-1)).toNat) 0)
   else
    bif (g==2) then
     ay ((decide (0<=cK))&&(decide (cK<(a8.length:Int))))<|
     (cn.f k (a8.getD cK.toNat [])).bind fun r2=>
     ay (decide (0<(r1.length:Int)))<|
     dk.G0 k (r1.length:Int) r2 r1 (fun x5=>
      some x5) k (r1.getD 0 0) 0
    else
     some (-1)
def aP.s7 {R:Type} (k:Nat) (v0:Int) (v72:List (List gR)) (e0 e1:Int->Int->Bool->Bool->Int->Int->Bool->Int->Int->Bool->Bool->Int->Int->Int->Int->Int->LI->LI->LI->LI->LI->LI->LL->LI->LI->LI->LL->Option R) (rec:Int->Int->Int->Bool->Bool->Int->Int->Bool->Int->Int->Bool->Bool->Int->Int->Int->Int->Int->LI->LI->LI->LI->LI->LI->LL->LI->LI->LI->LL->Option R) (v1 rq v46:Int) (Md Me:Bool) (v49 Mf:Int) (v51:Bool) (Mg v53:Int) (Mh Mi:Bool) (Mj Mk Ml v59 Mm:Int) (Mn Mo Mp Mq Mr Ms:LI) (Mt:LL) (Mu Mv v70:LI) (Mw:LL):Option R:=
 bif decide (v1<v0) then
  ay ((decide (0<=v1))&&(decide (v1<(v72.length:Int))))<|
  (iD.f k rq v46 Md Me Mn Mo v49 Mf Mp v51 Mq Mg v53 Mh Mi Mr Ms Mj Mk Mt Mu Mv Ml v59 Mm v70 Mw (gi (v72.getD v1.toNat []) 0) (gi (v72.getD v1.toNat []) 1) (gl (v72.getD v1.toNat []) 2) (gl (v72.getD v1.toNat []) 3)).bind fun r6=>
  bif (!(t9 (t9 (t9 r6)))) then
   e0 rq v46 Md Me v49 Mf v51 Mg v53 Mh Mi Mj Mk Ml v59 Mm Mn Mo Mp Mq Mr Ms Mt Mu Mv v70 Mw
  else
   rec (IntKind.wrap .i64 (v1+1)) r6.1 r6.2.1 (t2 r6).1 (t3 r6).1 (t6 r6).1 (t7 r6).1 (t9 r6).1 (t9 (t2 r6)).1 (t9 (t3 r6)).1 (t9 (t4 r6)).1 (t9 (t5 r6)).1 (t9 (t8 r6)).1 (t9 (t9 r6)).1 (t9 (t9 (t4 r6))).1 (t9 (t9 (t5 r6))).1 (t9 (t9 (t6 r6))).1 (t4 r6).1 (t5 r6).1 (t8 r6).1 (t9 r6.2).1 (t9 (t6 r6)).1 (t9 (t7 r6)).1 (t9 (t9 r6.2)).1 (t9 (t9 (t2 r6))).1 (t9 (t9 (t3 r6))).1 (t9 (t9 (t7 r6))).1 (t9 (t9 (t8 r6))).1
 else
  e1 rq v46 Md Me v49 Mf v51 Mg v53 Mh Mi Mj Mk Ml v59 Mm Mn Mo Mp Mq Mr Ms Mt Mu Mv v70 Mw
def aP.l7 {R:Type} (k:Nat) (v0:Int) (v72:List (List gR)) (e0 e1:Int->Int->Bool->Bool->Int->Int->Bool->Int->Int->Bool->Bool->Int->Int->Int->Int->Int->LI->LI->LI->LI->LI->LI->LL->LI->LI->LI->LL->Option R) (n:Nat) (v1 rq v46:Int) (Md Me:Bool) (v49 Mf:Int) (v51:Bool) (Mg v53:Int) (Mh Mi:Bool) (Mj Mk Ml v59 Mm:Int) (Mn Mo Mp Mq Mr Ms:LI) (Mt:LL) (Mu Mv v70:LI) (Mw:LL):Option R:=
 V.iter (A:=Int×Int×Int×Bool×Bool×Int×Int×Bool×Int×Int×Bool×Bool×Int×Int×Int×Int×Int×LI×LI×LI×LI×LI×LI×LL×LI×LI×LI×LL) (fun rec a=>aP.s7 k v0 v72 e0 e1 (fun c0 c1 c2 c3 c4 c5 c6 c7 c8 c9 Om On c12 Oo Oq S7 S8 S9 S_ Ta c20 c21 Tc Td c24 Te Tf Tg=>rec (c0,c1,c2,c3,c4,c5,c6,c7,c8,c9,Om,On,c12,Oo,Oq,S7,S8,S9,S_,Ta,c20,c21,Tc,Td,c24,Te,Tf,Tg)) a.1 a.2.1 (t2 a).1 (t3 a).1 (t4 a).1 (t5 a).1 (t6 a).1 (t7 a).1 (t8 a).1 (t9 a).1 (t9 a.2).1 (t9 (t2 a)).1 (t9 (t3 a)).1 (t9 (t4 a)).1 (t9 (t5 a)).1 (t9 (t6 a)).1 (t9 (t7 a)).1 (t9 (t8 a)).1 (t9 (t9 a)).1 (t9 (t9 a.2)).1 (t9 (t9 (t2 a))).1 (t9 (t9 (t3 a))).1 (t9 (t9 (t4 a))).1 (t9 (t9 (t5 a))).1 (t9 (t9 (t6 a))).1 (t9 (t9 (t7 a))).1 (t9 (t9 (t8 a))).1 (t9 (t9 (t9 a)))) n (v1,rq,v46,Md,Me,v49,Mf,v51,Mg,v53,Mh,Mi,Mj,Mk,Ml,v59,Mm,Mn,Mo,Mp,Mq,Mr,Ms,Mt,Mu,Mv,v70,Mw)
theorem aP.EN {R:Type} (k:Nat) (v0:Int) (v72:List (List gR)) (e0 e1:Int->Int->Bool->Bool->Int->Int->Bool->Int->Int->Bool->Bool->Int->Int->Int->Int->Int->LI->LI->LI->LI->LI->LI->LL->LI->LI->LI->LL->Option R) (n:Nat) (v1 rq v46:Int) (Md Me:Bool) (v49 Mf:Int) (v51:Bool) (Mg v53:Int) (Mh Mi:Bool) (Mj Mk Ml v59 Mm:Int) (Mn Mo Mp Mq Mr Ms:LI) (Mt:LL) (Mu Mv v70:LI) (Mw:LL):aP.l7 (R:=R) k v0 v72 e0 e1 (n+1) v1 rq v46 Md Me v49 Mf v51 Mg v53 Mh Mi Mj Mk Ml v59 Mm Mn Mo Mp Mq Mr Ms Mt Mu Mv v70 Mw=aP.s7 k v0 v72 e0 e1 (aP.l7 k v0 v72 e0 e1 n) v1 rq v46 Md Me v49 Mf v51 Mg v53 Mh Mi Mj Mk Ml v59 Mm Mn Mo Mp Mq Mr Ms Mt Mu Mv v70 Mw:=rfl
def aP.f (k:Nat) (a0 a1:Int) (a2 a3:Bool) (a4 a5:LI) (a6 a7:Int) (a8:LI) (a9:Bool) (de:LI) (cK a12:Int) (dq fW:Bool) (fX fY:LI) (fZ f_:Int) (fT:LL) (a20 a21:LI) (ga fU a24:Int) (gq:LI) (gB:LL) (g:ByteArray) (i:LI):Option (Bool×Int×Int×Bool×Bool×LI×LI×Int×Int×LI×Bool×LI×Int×Int×Bool×Bool×LI×LI×Int×Int×LL×LI×LI×Int×Int×Int×LI×LL×Bool):=
 bif (g.toList==(⟨#[110,101,119]⟩:ByteArray).toList) then
  (kS.f k).bind fun r1=>
  (lH.f k r1.1 r1.2.1 (t2 r1).1 (t3 r1).1 (t4 r1).1 (t5 r1).1 (t6 r1).1 (t7 r1)).bind fun r2=>
  some (true,r2)
 else
  bif (g.toList==(⟨#[98,101,103,105,110]⟩:ByteArray).toList) then
   (ah.f k a0 a1 a2 a3 a4 a5 a6 a7 a8 a9 de cK a12 dq fW fX fY fZ f_ fT a20 a21 ga fU a24 gq gB).bind fun r3=>
   (kS.f k).bind fun r4=>
   (cm.f k r4.1 r4.2.1 (t2 r4).1 (t3 r4).1 (t4 r4).1 (t5 r4).1 (t6 r4).1 (t7 r4) i 5).bind fun r5=>
   aP.l7 k (r5.length:Int) r5 (fun x7 x8 x9 LS LU Je N2 N3 LW LX LY LZ L0 L1 L2 L3 L4 L5 L6 L7 L8 L9 L_ Ma Mb Yo Yp=>
    some (false,a0,a1,a2,a3,a4,a5,a6,a7,a8,a9,de,cK,a12,dq,fW,fX,fY,fZ,f_,fT,a20,a21,ga,fU,a24,gq,gB,false)) (fun XG XH XI XJ XK XL XM XN x42 x43 x44 x45 x46 x47 x48 x49 x50 VH VI VJ Th Ti Tj Tk Tl Tm Tn=>
    some (true,XG,XH,XI,XJ,x50,VH,XK,XL,VI,XM,VJ,XN,x42,x43,x44,Th,Ti,x45,x46,Tj,Tk,Tl,x47,x48,x49,Tm,Tn,true)) k 0 r3.1 r3.2.1 (t2 r3).1 (t3 r3).1 (t6 r3).1 (t7 r3).1 (t9 r3).1 (t9 (t2 r3)).1 (t9 (t3 r3)).1 (t9 (t4 r3)).1 (t9 (t5 r3)).1 (t9 (t8 r3)).1 (t9 (t9 r3)).1 (t9 (t9 (t4 r3))).1 (t9 (t9 (t5 r3))).1 (t9 (t9 (t6 r3))).1 (t4 r3).1 (t5 r3).1 (t8 r3).1 (t9 r3.2).1 (t9 (t6 r3)).1 (t9 (t7 r3)).1 (t9 (t9 r3.2)).1 (t9 (t9 (t2 r3))).1 (t9 (t9 (t3 r3))).1 (t9 (t9 (t7 r3))).1 (t9 (t9 (t8 r3)))
  else
   bif (g.toList==(⟨#[112,108,97,121]⟩:ByteArray).toList) then
    ay (decide (0<(i.length:Int)))<|
    (fD.f k a0 a1 a2 a3 a4 a5 a6 a7 a8 a9 de cK a12 dq fW fX fY fZ f_ fT a20 a21 ga fU a24 gq gB (i.getD 0 0)).bind fun r61=>
    some (true,r61)
   else
    bif (g.toList==(⟨#[116,97,107,101]⟩:ByteArray).toList) then
     (fE.f k a0 a1 a2 a3 a4 a5 a6 a7 a8 a9 de cK a12 dq fW fX fY fZ f_ fT a20 a21 ga fU a24 gq gB).bind fun r62=>
     some (true,r62)
    else
     bif (g.toList==(⟨#[115,101,116,116,108,101]⟩:ByteArray).toList) then
      (fF.f k a0 a1 a2 a3 a4 a5 a6 a7 a8 a9 de cK a12 dq fW fX fY fZ f_ fT a20 a21 ga fU a24 gq gB).bind fun r63=>
      some (true,r63)
     else
      ay (decide (0<(i.length:Int)))<|
      (dk.f k cK a12 dq fW fX fY fZ f_ fT a20 a21 ga fU a24 (i.getD 0 0)).bind fun Z2=>
      bif (Z2 != (-1)) then
       (fD.f k a0 a1 a2 a3 a4 a5 a6 a7 a8 a9 de cK a12 dq fW fX fY fZ f_ fT a20 a21 ga fU a24 gq gB Z2).bind fun r65=>
       some (true,r65)
      else
       (fE.f k a0 a1 a2 a3 a4 a5 a6 a7 a8 a9 de cK a12 dq fW fX fY fZ f_ fT a20 a21 ga fU a24 gq gB).bind fun r66=>
       some (true,r66)
def strings_Join.f (k:Nat) (a0:List ByteArray) (a1:ByteArray):Option (ByteArray):=
 ay (Nat.ble a0.length 140737488355328&&Nat.ble (oY a0 a1).size 140737488355328)<|some (oY a0 a1)
def iX.f (k:Nat) (a0 a1:Int) (a2 a3:Bool) (a4 a5:LI) (a6 a7:Int):Option (ByteArray):=
 bif a2 then
  bif a3 then
   some (⟨#[98,111,116,104]⟩:ByteArray)
  else
   bif a2 then
    some (⟨#[115,117,105,116]⟩:ByteArray)
   else
    bif a3 then
     some (⟨#[114,97,110,107]⟩:ByteArray)
    else
     some ByteArray.empty
 else
  bif a2 then
   some (⟨#[115,117,105,116]⟩:ByteArray)
  else
   bif a3 then
    some (⟨#[114,97,110,107]⟩:ByteArray)
   else
    some ByteArray.empty
def gd.f (k:Nat) (a:LI):Option (ByteArray):=
 bif ((a.length:Int)==0) then
  some (⟨#[45]⟩:ByteArray)
 else
  (aR.f k a).bind fun r1=>
  some r1
def iY.f (k:Nat) (a0 a1:Int) (a2 a3:Bool) (a4 a5:LI) (a6 a7:Int):Option (ByteArray):=
 (cd.f k a0 a1 a2 a3 a4 a5 a6 a7).bind fun r1=>
 bif (!r1) then
  some ByteArray.empty
 else
  (aF.f k a0).bind fun r2=>
  ay (decide ((⟨#[112,108,97,121,101,114,115,61]⟩:ByteArray).size+r2.size<=fa))<|
  (aF.f k a1).bind fun r3=>
  ay (decide ((⟨#[101,97,99,104,61]⟩:ByteArray).size+r3.size<=fa))<|
  (iX.f k a0 a1 a2 a3 a4 a5 a6 a7).bind fun r4=>
  ay (decide ((⟨#[109,97,116,99,104,61]⟩:ByteArray).size+r4.size<=fa))<|
  (gd.f k a4).bind fun r5=>
  ay (decide ((⟨#[119,105,108,100,61]⟩:ByteArray).size+r5.size<=fa))<|
  (gd.f k a5).bind fun r6=>
  ay (decide ((⟨#[115,107,105,112,61]⟩:ByteArray).size+r6.size<=fa))<|
  (aF.f k a6).bind fun r7=>
  ay (decide ((⟨#[116,97,107,101,61]⟩:ByteArray).size+r7.size<=fa))<|
  (aF.f k a7).bind fun r8=>
  ay (decide ((⟨#[108,105,109,105,116,61]⟩:ByteArray).size+r8.size<=fa))<|
  (strings_Join.f k ([(⟨#[112,108,97,121,101,114,115,61]⟩:ByteArray)++r2,(⟨#[101,97,99,104,61]⟩:ByteArray)++r3,(⟨#[109,97,116,99,104,61]⟩:ByteArray)++r4,(⟨#[119,105,108,100,61]⟩:ByteArray)++r5,(⟨#[115,107,105,112,61]⟩:ByteArray)++r6,(⟨#[116,97,107,101,61]⟩:ByteArray)++r7,(⟨#[108,105,109,105,116,61]⟩:ByteArray)++r8]) (⟨#[32]⟩:ByteArray)).bind fun r9=>
  some r9
def fS.f (k:Nat) (a g:ByteArray):Option (ByteArray):=
 bif (a.toList==ByteArray.empty.toList) then
  some g
 else
  some a
def aV.s3 {R:Type} (k:Nat) (v1:LI) (v2:Int) (e0:List ByteArray->Option R) (rec:Int->List ByteArray->Option R) (v3:Int) (v4:List ByteArray):Option R:=
 bif decide (v3<v2) then
  ay ((decide (0<=v3))&&(decide (v3<(v1.length:Int))))<|
  (aF.f k (v1.getD v3.toNat 0)).bind fun r1=>
  ay (decide ((v4.length+1)*16<=room))<|
  rec (IntKind.wrap .i64 (v3+1)) (v4++[r1])
 else
  e0 v4
def aV.l3 {R:Type} (k:Nat) (v1:LI) (v2:Int) (e0:List ByteArray->Option R) (n:Nat) (v3:Int) (v4:List ByteArray):Option R:=
 V.iter (A:=Int×List ByteArray) (fun rec a=>aV.s3 k v1 v2 e0 (fun c0 c1=>rec (c0,c1)) a.1 a.2) n (v3,v4)
theorem aV.aA {R:Type} (k:Nat) (v1:LI) (v2:Int) (e0:List ByteArray->Option R) (n:Nat) (v3:Int) (v4:List ByteArray):aV.l3 (R:=R) k v1 v2 e0 (n+1) v3 v4=aV.s3 k v1 v2 e0 (aV.l3 k v1 v2 e0 n) v3 v4:=rfl
def aV.f (k:Nat) (a:LI) (g:ByteArray):Option (ByteArray):=
 aV.l3 k a (a.length:Int) (fun x2=>
  (strings_Join.f k x2 g).bind fun r3=>
  some r3) k 0 []
def gW.f (k:Nat) (a0 a1:Int) (a2 a3:Bool) (a4 a5:LI) (a6 a7:Int) (a8:LI) (a9:Bool) (de:LI) (cK a12:Int) (dq fW:Bool) (fX fY:LI) (fZ f_:Int) (fT:LL) (a20 a21:LI) (ga fU a24:Int) (gq:LI) (gB:LL):Option (ByteArray):=
 bif a9 then
  (aV.f k [(a8.length:Int),(gq.length:Int),(gB.length:Int)] (⟨#[32]⟩:ByteArray)).bind fun r1=>
  ay (decide (r1.size+(⟨#[32,111,110]⟩:ByteArray).size<=fa))<|
  some (r1++(⟨#[32,111,110]⟩:ByteArray))
 else
  (aV.f k [(a8.length:Int),(gq.length:Int),(gB.length:Int)] (⟨#[32]⟩:ByteArray)).bind fun r2=>
  ay (decide (r2.size+(⟨#[32,111,102,102]⟩:ByteArray).size<=fa))<|
  some (r2++(⟨#[32,111,102,102]⟩:ByteArray))
def eO.f (k:Nat) (a:Int):Option (ByteArray):=
 (aT.f k a).bind fun r1=>
 bif (!r1) then
  some ByteArray.empty
 else
  ay ((decide (0<=(IntKind.wrap .i64 ((a.tmod 13)+1))))&&(decide ((IntKind.wrap .i64 ((a.tmod 13)+1))<=13)))<|
  ay ((decide (0<=(a.tmod 13)))&&(decide ((a.tmod 13)<=(IntKind.wrap .i64 ((a.tmod 13)+1)))))<|
  ay ((decide (0<=(IntKind.wrap .i64 ((IntKind.wrap .i64 (a.tdiv 13))+1))))&&(decide ((IntKind.wrap .i64 ((IntKind.wrap .i64 (a.tdiv 13))+1))<=4)))<|
  ay ((decide (0<=(IntKind.wrap .i64 (a.tdiv 13))))&&(decide ((IntKind.wrap .i64 (a.tdiv 13))<=(IntKind.wrap .i64 ((IntKind.wrap .i64 (a.tdiv 13))+1)))))<|
  ay (decide (((⟨#[50,51,52,53,54,55,56,57,84,74,81,75,65]⟩:ByteArray).extract ((a.tmod 13).toNat) ((IntKind.wrap .i64 ((a.tmod 13)+1)).toNat)).size+((⟨#[99,100,104,115]⟩:ByteArray).extract ((IntKind.wrap .i64 (a.tdiv 13)).toNat) ((IntKind.wrap .i64 ((IntKind.wrap .i64 (a.tdiv 13))+1)).toNat)).size<=fa))<|
  some (((⟨#[50,51,52,53,54,55,56,57,84,74,81,75,65]⟩:ByteArray).extract ((a.tmod 13).toNat) ((IntKind.wrap .i64 ((a.tmod 13)+1)).toNat))++((⟨#[99,100,104,115]⟩:ByteArray).extract ((IntKind.wrap .i64 (a.tdiv 13)).toNat) ((IntKind.wrap .i64 ((IntKind.wrap .i64 (a.tdiv 13))+1)).toNat)))
def cw.s5 {R:Type} (k:Nat) (v1:LL) (v2:Int) (e0:ByteArray->Option R) (rec:ByteArray->Int->Option R) (v0:ByteArray) (v3:Int):Option R:=
 bif decide (v3<v2) then
  ay ((decide (0<=v3))&&(decide (v3<(v1.length:Int))))<|
  (aF.f k ((v1.getD v3.toNat []).length:Int)).bind fun r4=>
  ay (decide ((⟨#[32]⟩:ByteArray).size+r4.size<=fa))<|
  ay (decide (v0.size+((⟨#[32]⟩:ByteArray)++r4).size<=fa))<|
  rec (v0++((⟨#[32]⟩:ByteArray)++r4)) (IntKind.wrap .i64 (v3+1))
 else
  e0 v0
def cw.l5 {R:Type} (k:Nat) (v1:LL) (v2:Int) (e0:ByteArray->Option R) (n:Nat) (v0:ByteArray) (v3:Int):Option R:=
 V.iter (A:=ByteArray×Int) (fun rec a=>cw.s5 k v1 v2 e0 (fun c0 c1=>rec (c0,c1)) a.1 a.2) n (v0,v3)
theorem cw.bp {R:Type} (k:Nat) (v1:LL) (v2:Int) (e0:ByteArray->Option R) (n:Nat) (v0:ByteArray) (v3:Int):cw.l5 (R:=R) k v1 v2 e0 (n+1) v0 v3=cw.s5 k v1 v2 e0 (cw.l5 k v1 v2 e0 n) v0 v3:=rfl
def cw.f (k:Nat) (a0 a1:Int) (a2 a3:Bool) (a4 a5:LI) (a6 a7:Int) (a8:LL) (a9 de:LI) (cK a12 dq:Int):Option (ByteArray):=
 (cQ.f k a0 a1 a2 a3 a4 a5 a6 a7 a8 a9 de cK a12 dq).bind fun r1=>
 bif (!r1) then
  some ByteArray.empty
 else
  (aF.f k cK).bind fun r2=>
  ay (decide (r2.size+(⟨#[58]⟩:ByteArray).size<=fa))<|
  ay ((decide (0<=(IntKind.wrap .i64 ((de.length:Int)-1))))&&(decide ((IntKind.wrap .i64 ((de.length:Int)-1))<(de.length:Int))))<|
  (eO.f k (de.getD ((IntKind.wrap .i64 ((de.length:Int)-1)).toNat) 0)).bind fun r3=>
  ay (decide ((r2++(⟨#[58]⟩:ByteArray)).size+r3.size<=fa))<|
  cw.l5 k a8 (a8.length:Int) (fun x5=>
   ay (decide (x5.size+(⟨#[47]⟩:ByteArray).size<=fa))<|
   (aF.f k (a9.length:Int)).bind fun r6=>
   ay (decide ((x5++(⟨#[47]⟩:ByteArray)).size+r6.size<=fa))<|
   some ((x5++(⟨#[47]⟩:ByteArray))++r6)) k ((r2++(⟨#[58]⟩:ByteArray))++r3) 0
def ff.s3 {R:Type} (k:Nat) (v0:LL) (v1:Int) (e0:LI->Option R) (rec:Int->LI->Option R) (v2:Int) (v3:LI):Option R:=
 bif decide (v2<v1) then
  ay ((decide (0<=v2))&&(decide (v2<(v0.length:Int))))<|
  ay (decide ((v3.length+1)*8<=room))<|
  rec (IntKind.wrap .i64 (v2+1)) (v3++([((v0.getD v2.toNat []).length:Int)]))
 else
  e0 v3
def ff.l3 {R:Type} (k:Nat) (v0:LL) (v1:Int) (e0:LI->Option R) (n:Nat) (v2:Int) (v3:LI):Option R:=
 V.iter (A:=Int×LI) (fun rec a=>ff.s3 k v0 v1 e0 (fun c0 c1=>rec (c0,c1)) a.1 a.2) n (v2,v3)
theorem ff.aA {R:Type} (k:Nat) (v0:LL) (v1:Int) (e0:LI->Option R) (n:Nat) (v2:Int) (v3:LI):ff.l3 (R:=R) k v0 v1 e0 (n+1) v2 v3=ff.s3 k v0 v1 e0 (ff.l3 k v0 v1 e0 n) v2 v3:=rfl
def ff.f (k:Nat) (a:LL):Option (LI):=
 ff.l3 k a (a.length:Int) (fun x1=>
  some x1) k 0 []
def kT.f (k:Nat) (a0 a1:Int) (a2 a3:Bool) (a4 a5:LI) (a6 a7:Int) (a8:LL) (a9 de:LI) (cK a12 dq g:Int):Option (Int×LI×Int×Int×Int×LI×Int×Int×Bool):=
 (cQ.f k a0 a1 a2 a3 a4 a5 a6 a7 a8 a9 de cK a12 dq).bind fun r1=>
 bif (!r1) then
  some (0,[],0,0,0,[],0,0,false)
 else
  (an.f k g 0 (IntKind.wrap .i64 ((a8.length:Int)-1))).bind fun r2=>
  bif (!r2) then
   some (0,[],0,0,0,[],0,0,false)
  else
   ay ((decide (0<=g))&&(decide (g<(a8.length:Int))))<|
   (aX.f k (a8.getD g.toNat [])).bind fun r3=>
   ay ((decide (0<=(IntKind.wrap .i64 ((de.length:Int)-1))))&&(decide ((IntKind.wrap .i64 ((de.length:Int)-1))<(de.length:Int))))<|
   (ff.f k a8).bind fun r4=>
   some (g,r3,de.getD ((IntKind.wrap .i64 ((de.length:Int)-1)).toNat) 0,(de.length:Int),(a9.length:Int),r4,cK,a12,true)
def bE.s5 {R:Type} (k:Nat) (v0:Int) (v1:ByteArray) (v3:LI) (v4:Int) (e0:ByteArray->Option R) (rec:ByteArray->Int->Option R) (v2:ByteArray) (v5:Int):Option R:=
 bif decide (v5<v4) then
  ay ((decide (0<=v5))&&(decide (v5<(v3.length:Int))))<|
  (aT.f k (v3.getD v5.toNat 0)).bind fun r1=>
  bif r1 then
   (eO.f k (v3.getD v5.toNat 0)).bind fun r2=>
   ay (decide (v2.size+r2.size<=fa))<|
   rec (v2++r2) (IntKind.wrap .i64 (v5+1))
  else
   bif ((v3.getD v5.toNat 0)==v0) then
    ay (decide (v2.size+v1.size<=fa))<|
    rec (v2++v1) (IntKind.wrap .i64 (v5+1))
   else
    ay (decide (v2.size+(⟨#[63]⟩:ByteArray).size<=fa))<|
    rec (v2++(⟨#[63]⟩:ByteArray)) (IntKind.wrap .i64 (v5+1))
 else
  e0 v2
def bE.l5 {R:Type} (k:Nat) (v0:Int) (v1:ByteArray) (v3:LI) (v4:Int) (e0:ByteArray->Option R) (n:Nat) (v2:ByteArray) (v5:Int):Option R:=
 V.iter (A:=ByteArray×Int) (fun rec a=>bE.s5 k v0 v1 v3 v4 e0 (fun c0 c1=>rec (c0,c1)) a.1 a.2) n (v2,v5)
theorem bE.bp {R:Type} (k:Nat) (v0:Int) (v1:ByteArray) (v3:LI) (v4:Int) (e0:ByteArray->Option R) (n:Nat) (v2:ByteArray) (v5:Int):bE.l5 (R:=R) k v0 v1 v3 v4 e0 (n+1) v2 v5=bE.s5 k v0 v1 v3 v4 e0 (bE.l5 k v0 v1 v3 v4 e0 n) v2 v5:=rfl
def bE.f (k:Nat) (a:LI) (g:Int) (i:ByteArray):Option (ByteArray):=
 bif ((a.length:Int)==0) then
  some (⟨#[45]⟩:ByteArray)
 else
  bE.l5 k g i a (a.length:Int) (fun x3=>
   some x3) k ByteArray.empty 0
def eb.f (k:Nat) (a:LI):Option (ByteArray):=
 (bE.f k a (-1) (⟨#[63]⟩:ByteArray)).bind fun r1=>
 some r1
def cx.s6 {R:Type} (k:Nat) (v1:LI) (v2:Int) (e0:ByteArray->Option R) (rec:ByteArray->Int->Option R) (v0:ByteArray) (v3:Int):Option R:=
 bif decide (v3<v2) then
  ay ((decide (0<=v3))&&(decide (v3<(v1.length:Int))))<|
  (aF.f k (v1.getD v3.toNat 0)).bind fun r5=>
  ay (decide ((⟨#[32]⟩:ByteArray).size+r5.size<=fa))<|
  ay (decide (v0.size+((⟨#[32]⟩:ByteArray)++r5).size<=fa))<|
  rec (v0++((⟨#[32]⟩:ByteArray)++r5)) (IntKind.wrap .i64 (v3+1))
 else
  e0 v0
def cx.l6 {R:Type} (k:Nat) (v1:LI) (v2:Int) (e0:ByteArray->Option R) (n:Nat) (v0:ByteArray) (v3:Int):Option R:=
 V.iter (A:=ByteArray×Int) (fun rec a=>cx.s6 k v1 v2 e0 (fun c0 c1=>rec (c0,c1)) a.1 a.2) n (v0,v3)
theorem cx.iz {R:Type} (k:Nat) (v1:LI) (v2:Int) (e0:ByteArray->Option R) (n:Nat) (v0:ByteArray) (v3:Int):cx.l6 (R:=R) k v1 v2 e0 (n+1) v0 v3=cx.s6 k v1 v2 e0 (cx.l6 k v1 v2 e0 n) v0 v3:=rfl
def cx.f (k:Nat) (a0:Int) (a1:LI) (a2 a3 a4:Int) (a5:LI) (a6 a7:Int):Option (ByteArray):=
 (aT.f k a2).bind fun r1=>
 bif r1 then
  (eO.f k a2).bind fun r2=>
  (aF.f k a0).bind fun r3=>
  ay (decide (r3.size+(⟨#[58]⟩:ByteArray).size<=fa))<|
  (eb.f k a1).bind fun r4=>
  ay (decide ((r3++(⟨#[58]⟩:ByteArray)).size+r4.size<=fa))<|
  ay (decide (((r3++(⟨#[58]⟩:ByteArray))++r4).size+(⟨#[32]⟩:ByteArray).size<=fa))<|
  ay (decide ((((r3++(⟨#[58]⟩:ByteArray))++r4)++(⟨#[32]⟩:ByteArray)).size+r2.size<=fa))<|
  cx.l6 k a5 (a5.length:Int) (fun x6=>
   some x6) k ((((r3++(⟨#[58]⟩:ByteArray))++r4)++(⟨#[32]⟩:ByteArray))++r2) 0
 else
  (aF.f k a0).bind fun r7=>
  ay (decide (r7.size+(⟨#[58]⟩:ByteArray).size<=fa))<|
  (eb.f k a1).bind fun r8=>
  ay (decide ((r7++(⟨#[58]⟩:ByteArray)).size+r8.size<=fa))<|
  ay (decide (((r7++(⟨#[58]⟩:ByteArray))++r8).size+(⟨#[32]⟩:ByteArray).size<=fa))<|
  ay (decide ((((r7++(⟨#[58]⟩:ByteArray))++r8)++(⟨#[32]⟩:ByteArray)).size+(⟨#[63]⟩:ByteArray).size<=fa))<|
  cx.l6 k a5 (a5.length:Int) (fun x9=>
   some x9) k ((((r7++(⟨#[58]⟩:ByteArray))++r8)++(⟨#[32]⟩:ByteArray))++(⟨#[63]⟩:ByteArray)) 0
def iE.f (k:Nat) (a:LI):Option (ByteArray):=
 (bE.f k a (-1) (⟨#[42]⟩:ByteArray)).bind fun r1=>
 some r1
def bG.s5 {R:Type} (k:Nat) (v0:LL) (v1:Int) (e0:List ByteArray->Option R) (rec:Int->List ByteArray->Option R) (v2:Int) (v3:List ByteArray):Option R:=
 bif decide (v2<v1) then
  ay ((decide (0<=v2))&&(decide (v2<(v0.length:Int))))<|
  (aV.f k (v0.getD v2.toNat []) (⟨#[44]⟩:ByteArray)).bind fun r1=>
  ay (decide ((v3.length+1)*16<=room))<|
  rec (IntKind.wrap .i64 (v2+1)) (v3++[r1])
 else
  e0 v3
def bG.l5 {R:Type} (k:Nat) (v0:LL) (v1:Int) (e0:List ByteArray->Option R) (n:Nat) (v2:Int) (v3:List ByteArray):Option R:=
 V.iter (A:=Int×List ByteArray) (fun rec a=>bG.s5 k v0 v1 e0 (fun c0 c1=>rec (c0,c1)) a.1 a.2) n (v2,v3)
theorem bG.bp {R:Type} (k:Nat) (v0:LL) (v1:Int) (e0:List ByteArray->Option R) (n:Nat) (v2:Int) (v3:List ByteArray):bG.l5 (R:=R) k v0 v1 e0 (n+1) v2 v3=bG.s5 k v0 v1 e0 (bG.l5 k v0 v1 e0 n) v2 v3:=rfl
def bG.f (k:Nat) (a:LL):Option (ByteArray):=
 bif ((a.length:Int)==0) then
  some (⟨#[45]⟩:ByteArray)
 else
  bG.l5 k a (a.length:Int) (fun x2=>
   (strings_Join.f k x2 (⟨#[32]⟩:ByteArray)).bind fun r3=>
   some r3) k 0 []
def gX.f (k:Nat) (a0 a1:Int) (a2 a3:Bool) (a4 a5:LI) (a6 a7:Int) (a8:LI) (a9:Bool) (de:LI) (cK a12:Int) (dq fW:Bool) (fX fY:LI) (fZ f_:Int) (fT:LL) (a20 a21:LI) (ga fU a24:Int) (gq:LI) (gB:LL):Option (Bool):=
 bif (!a9) then
  some true
 else
  (bm.f k fT).bind fun r1=>
  ay (decide ((r1.length+2)*24<=room))<|
  (mK.f k (r1++[a20,a21])).bind fun r2=>
  some r2
def lW.f (k:Nat) (a0 a1:Int) (a2 a3:Bool) (a4 a5:LI) (a6 a7:Int) (a8:LI) (a9:Bool) (de:LI) (cK a12:Int) (dq fW:Bool) (fX fY:LI) (fZ f_:Int) (fT:LL) (a20 a21:LI) (ga fU a24:Int) (gq:LI) (gB:LL):Option (Bool):=
 some ((gq.length:Int)==fU)
def mQ.f (k:Nat) (a0 a1:Int) (a2 a3:Bool) (a4 a5:LI) (a6 a7:Int) (a8:LI) (a9:Bool) (de:LI) (cK a12:Int) (dq fW:Bool) (fX fY:LI) (fZ f_:Int) (fT:LL) (a20 a21:LI) (ga fU a24:Int) (gq:LI) (gB:LL):Option (Bool):=
 (cg.f k a0 gB).bind fun r1=>
 some r1
def kt.f (k:Nat) (a0 a1:Int) (a2 a3:Bool) (a4 a5:LI) (a6 a7:Int) (a8:LI) (a9:Bool) (de:LI) (cK a12:Int) (dq fW:Bool) (fX fY:LI) (fZ f_:Int) (fT:LL) (a20 a21:LI) (ga fU a24:Int) (gq:LI) (gB:LL):Option (ByteArray):=
 (gX.f k a0 a1 a2 a3 a4 a5 a6 a7 a8 a9 de cK a12 dq fW fX fY fZ f_ fT a20 a21 ga fU a24 gq gB).bind fun r1=>
 bif (!r1) then
  some (⟨#[99,97,114,100,115]⟩:ByteArray)
 else
  (lW.f k a0 a1 a2 a3 a4 a5 a6 a7 a8 a9 de cK a12 dq fW fX fY fZ f_ fT a20 a21 ga fU a24 gq gB).bind fun r2=>
  bif (!r2) then
   some (⟨#[114,101,99,111,114,100]⟩:ByteArray)
  else
   (mQ.f k a0 a1 a2 a3 a4 a5 a6 a7 a8 a9 de cK a12 dq fW fX fY fZ f_ fT a20 a21 ga fU a24 gq gB).bind fun r3=>
   bif (!r3) then
    some (⟨#[115,104,101,101,116]⟩:ByteArray)
   else
    (gm.f k a0 a1 a2 a3 a4 a5 a6 a7 a8 a9 de cK a12 dq fW fX fY fZ f_ fT a20 a21 ga fU a24 gq gB).bind fun r4=>
    bif (!r4) then
     some (⟨#[116,97,98,108,101]⟩:ByteArray)
    else
     some ByteArray.empty
def bH.s5 {R:Type} (k:Nat) (v0:LL) (v1:Int) (e0:List ByteArray->Option R) (rec:Int->List ByteArray->Option R) (v2:Int) (v3:List ByteArray):Option R:=
 bif decide (v2<v1) then
  ay ((decide (0<=v2))&&(decide (v2<(v0.length:Int))))<|
  (eb.f k (v0.getD v2.toNat [])).bind fun r1=>
  ay (decide ((v3.length+1)*16<=room))<|
  rec (IntKind.wrap .i64 (v2+1)) (v3++[r1])
 else
  e0 v3
def bH.l5 {R:Type} (k:Nat) (v0:LL) (v1:Int) (e0:List ByteArray->Option R) (n:Nat) (v2:Int) (v3:List ByteArray):Option R:=
 V.iter (A:=Int×List ByteArray) (fun rec a=>bH.s5 k v0 v1 e0 (fun c0 c1=>rec (c0,c1)) a.1 a.2) n (v2,v3)
theorem bH.bp {R:Type} (k:Nat) (v0:LL) (v1:Int) (e0:List ByteArray->Option R) (n:Nat) (v2:Int) (v3:List ByteArray):bH.l5 (R:=R) k v0 v1 e0 (n+1) v2 v3=bH.s5 k v0 v1 e0 (bH.l5 k v0 v1 e0 n) v2 v3:=rfl
def bH.f (k:Nat) (a:LL):Option (ByteArray):=
 bif ((a.length:Int)==0) then
  some (⟨#[45]⟩:ByteArray)
 else
  bH.l5 k a (a.length:Int) (fun x2=>
   (strings_Join.f k x2 (⟨#[32]⟩:ByteArray)).bind fun r3=>
   some r3) k 0 []
def cY.s4 {R:Type} (k:Nat) (v0 v1:LI) (v2:Int) (e0 e1:Option R) (rec:Int->Option R) (v3:Int):Option R:=
 bif decide (v3<v2) then
  ay ((decide (0<=v3))&&(decide (v3<(v1.length:Int))))<|
  (bN.f k (v1.getD v3.toNat 0)).bind fun r3=>
  ay (decide (0<(v0.length:Int)))<|
  (bN.f k (v0.getD 0 0)).bind fun r4=>
  bif (r3 != r4) then
   e0
  else
   rec (IntKind.wrap .i64 (v3+1))
 else
  e1
def cY.l4 {R:Type} (k:Nat) (v0 v1:LI) (v2:Int) (e0 e1:Option R) (n:Nat) (v3:Int):Option R:=
 V.iter (A:=Int) (fun rec a=>cY.s4 k v0 v1 v2 e0 e1 (fun c0=>rec c0) a) n v3
theorem cY.hO {R:Type} (k:Nat) (v0 v1:LI) (v2:Int) (e0 e1:Option R) (n:Nat) (v3:Int):cY.l4 (R:=R) k v0 v1 v2 e0 e1 (n+1) v3=cY.s4 k v0 v1 v2 e0 e1 (cY.l4 k v0 v1 v2 e0 e1 n) v3:=rfl
def cY.f (k:Nat) (a:LI):Option (Bool):=
 (aB.f k a).bind fun r1=>
 bif (!r1) then
  some false
 else
  (an.f k (a.length:Int) 3 4).bind fun r2=>
  bif (!r2) then
   some false
  else
   cY.l4 k a a (a.length:Int) (some false) (some true) k 0
def bT.s5 {R:Type} (k:Nat) (v0:Int) (v2:LI) (e0 e1:Option R) (rec:Int->Option R) (v1:Int):Option R:=
 bif decide (v1<v0) then
  ay ((decide (0<=v1))&&(decide (v1<(v2.length:Int))))<|
  (aZ.f k (v2.getD v1.toNat 0)).bind fun r3=>
  ay (decide (0<(v2.length:Int)))<|
  (aZ.f k (v2.getD 0 0)).bind fun r4=>
  bif (r3 != r4) then
   e0
  else
   ay (decide (0<(v2.length:Int)))<|
   bif ((v2.getD v1.toNat 0) != (IntKind.wrap .i64 ((v2.getD 0 0)+v1))) then
    e0
   else
    rec (IntKind.wrap .i64 (v1+1))
 else
  e1
def bT.l5 {R:Type} (k:Nat) (v0:Int) (v2:LI) (e0 e1:Option R) (n:Nat) (v1:Int):Option R:=
 V.iter (A:=Int) (fun rec a=>bT.s5 k v0 v2 e0 e1 (fun c0=>rec c0) a) n v1
theorem bT.bp {R:Type} (k:Nat) (v0:Int) (v2:LI) (e0 e1:Option R) (n:Nat) (v1:Int):bT.l5 (R:=R) k v0 v2 e0 e1 (n+1) v1=bT.s5 k v0 v2 e0 e1 (bT.l5 k v0 v2 e0 e1 n) v1:=rfl
def bT.f (k:Nat) (a:LI):Option (Bool):=
 (aB.f k a).bind fun r1=>
 bif (!r1) then
  some false
 else
  bif decide ((a.length:Int)<3) then
   some false
  else
   (aX.f k a).bind fun r2=>
   bT.l5 k (r2.length:Int) r2 (some false) (some true) k 0
def cU.s2 {R:Type} (k:Nat) (v0 v1:LI) (v2:Int) (e0:Bool->Option R) (e1:Option R) (rec:Int->Option R) (v3:Int):Option R:=
 bif decide (v3<v2) then
  bif (v3==(v1.length:Int)) then
   e0 false
  else
   ay ((decide (0<=v3))&&(decide (v3<(v0.length:Int))))<|
   ay ((decide (0<=v3))&&(decide (v3<(v1.length:Int))))<|
   bif ((v0.getD v3.toNat 0) != (v1.getD v3.toNat 0)) then
    ay ((decide (0<=v3))&&(decide (v3<(v0.length:Int))))<|
    ay ((decide (0<=v3))&&(decide (v3<(v1.length:Int))))<|
    e0 (decide ((v0.getD v3.toNat 0)<(v1.getD v3.toNat 0)))
   else
    rec (IntKind.wrap .i64 (v3+1))
 else
  e1
def cU.l2 {R:Type} (k:Nat) (v0 v1:LI) (v2:Int) (e0:Bool->Option R) (e1:Option R) (n:Nat) (v3:Int):Option R:=
 V.iter (A:=Int) (fun rec a=>cU.s2 k v0 v1 v2 e0 e1 (fun c0=>rec c0) a) n v3
theorem cU.fQ {R:Type} (k:Nat) (v0 v1:LI) (v2:Int) (e0:Bool->Option R) (e1:Option R) (n:Nat) (v3:Int):cU.l2 (R:=R) k v0 v1 v2 e0 e1 (n+1) v3=cU.s2 k v0 v1 v2 e0 e1 (cU.l2 k v0 v1 v2 e0 e1 n) v3:=rfl
def cU.f (k:Nat) (a g:LI):Option (Bool):=
 cU.l2 k a g (a.length:Int) (fun x1=>
  some x1) (some (decide ((a.length:Int)<(g.length:Int)))) k 0
def au.s9 {R:Type} (k:Nat) (v0 v3:Int) (v5:LI) (e0:LI->Option R) (rec:Int->LI->Option R) (v4:Int) (v7:LI):Option R:=
 bif decide (v4<v3) then
  ay ((decide (0<=v4))&&(decide (v4<(v5.length:Int))))<|
  ay (decide (0<=v4))<|
  bif ((sD .and .i64 (v0.fdiv (2^(min v4.toNat (IntKind.bits .i64)))) 1)==1) then
   ay (decide ((v7.length+1)*8<=room))<|
   rec (IntKind.wrap .i64 (v4+1)) (v7++[v5.getD v4.toNat 0])
  else
   rec (IntKind.wrap .i64 (v4+1)) v7
 else
  e0 v7
def au.l9 {R:Type} (k:Nat) (v0 v3:Int) (v5:LI) (e0:LI->Option R) (n:Nat) (v4:Int) (v7:LI):Option R:=
 V.iter (A:=Int×LI) (fun rec a=>au.s9 k v0 v3 v5 e0 (fun c0 c1=>rec (c0,c1)) a.1 a.2) n (v4,v7)
theorem au.pI {R:Type} (k:Nat) (v0 v3:Int) (v5:LI) (e0:LI->Option R) (n:Nat) (v4:Int) (v7:LI):au.l9 (R:=R) k v0 v3 v5 e0 (n+1) v4 v7=au.s9 k v0 v3 v5 e0 (au.l9 k v0 v3 v5 e0 n) v4 v7:=rfl
def au.Z3 {R:Type} (k:Nat) (v4:LL) (v5:LI) (e0 rec:Int->Option R) (v0:Int):Option R:=
 bif decide (v0>0) then
  ay ((decide (0<=(IntKind.wrap .i64 (v0-1))))&&(decide ((IntKind.wrap .i64 (v0-1))<(v4.length:Int))))<|
  (cU.f k v5 (v4.getD ((IntKind.wrap .i64 (v0-1)).toNat) [])).bind fun r6=>
  bif r6 then
   rec (IntKind.wrap .i64 (v0-1))
  else
   e0 v0
 else
  e0 v0
def au.QY {R:Type} (k:Nat) (v4:LL) (v5:LI) (e0:Int->Option R) (n:Nat) (v0:Int):Option R:=
 V.iter (A:=Int) (fun rec a=>au.Z3 k v4 v5 e0 (fun c0=>rec c0) a) n v0
theorem au.Ha {R:Type} (k:Nat) (v4:LL) (v5:LI) (e0:Int->Option R) (n:Nat) (v0:Int):au.QY (R:=R) k v4 v5 e0 (n+1) v0=au.Z3 k v4 v5 e0 (au.QY k v4 v5 e0 n) v0:=rfl
def au.s5 {R:Type} (k:Nat) (v0:Int) (v2:LI) (e0:LL->Option R) (rec:Int->LL->Option R) (v1:Int) (v3:LL):Option R:=
 bif decide (v1<v0) then
  au.l9 k v1 (v2.length:Int) v2 (fun x3=>
   (cY.f k x3).bind fun r4=>
   bif (!r4) then
    (bT.f k x3).bind fun r5=>
    bif (!r5) then
     rec (IntKind.wrap .i64 (v1+1)) v3
    else
     au.QY k v3 x3 (fun x7=>
      ay (decide ((v3.length+1)*24<=room))<|
      ay ((decide (0<=((v3++([[]])).length:Int)))&&(decide (((v3++([[]])).length:Int)<=((v3++([[]])).length:Int))))<|
      ay ((decide (0<=(IntKind.wrap .i64 (x7+1))))&&(decide ((IntKind.wrap .i64 (x7+1))<=((v3++([[]])).length:Int))))<|
      ay ((decide (0<=((v3++([[]])).length:Int)))&&(decide (((v3++([[]])).length:Int)<=((v3++([[]])).length:Int))))<|
      ay ((decide (0<=x7))&&(decide (x7<=((v3++([[]])).length:Int))))<|
      ay (((IntKind.wrap .i64 (x7+1)).toNat)==x7.toNat+1&&(((v3++([[]])).length:Int).toNat)==((v3++([[]])).length)&&(((v3++([[]])).length:Int).toNat)==((v3++([[]])).length)&&decide (x7.toNat<((v3++([[]])).length)))<|
      ay ((decide (0<=x7))&&(decide (x7<((((v3++([[]])).take x7.toNat)++[]::((v3++([[]])).drop x7.toNat).dropLast).length:Int))))<|
      ay (x7.toNat==x7.toNat)<|
      rec (IntKind.wrap .i64 (v1+1)) ((((v3++([[]])).take x7.toNat)++[]::((v3++([[]])).drop x7.toNat).dropLast).set x7.toNat x3)) k (v3.length:Int)
   else
    au.QY k v3 x3 (fun x8=>
     ay (decide ((v3.length+1)*24<=room))<|
     ay ((decide (0<=((v3++([[]])).length:Int)))&&(decide (((v3++([[]])).length:Int)<=((v3++([[]])).length:Int))))<|
     ay ((decide (0<=(IntKind.wrap .i64 (x8+1))))&&(decide ((IntKind.wrap .i64 (x8+1))<=((v3++([[]])).length:Int))))<|
     ay ((decide (0<=((v3++([[]])).length:Int)))&&(decide (((v3++([[]])).length:Int)<=((v3++([[]])).length:Int))))<|
     ay ((decide (0<=x8))&&(decide (x8<=((v3++([[]])).length:Int))))<|
     ay (((IntKind.wrap .i64 (x8+1)).toNat)==x8.toNat+1&&(((v3++([[]])).length:Int).toNat)==((v3++([[]])).length)&&(((v3++([[]])).length:Int).toNat)==((v3++([[]])).length)&&decide (x8.toNat<((v3++([[]])).length)))<|
     ay ((decide (0<=x8))&&(decide (x8<((((v3++([[]])).take x8.toNat)++[]::((v3++([[]])).drop x8.toNat).dropLast).length:Int))))<|
     ay (x8.toNat==x8.toNat)<|
     rec (IntKind.wrap .i64 (v1+1)) ((((v3++([[]])).take x8.toNat)++[]::((v3++([[]])).drop x8.toNat).dropLast).set x8.toNat x3)) k (v3.length:Int)) k 0 []
 else
  e0 v3
def au.l5 {R:Type} (k:Nat) (v0:Int) (v2:LI) (e0:LL->Option R) (n:Nat) (v1:Int) (v3:LL):Option R:=
 V.iter (A:=Int×LL) (fun rec a=>au.s5 k v0 v2 e0 (fun c0 c1=>rec (c0,c1)) a.1 a.2) n (v1,v3)
theorem au.bp {R:Type} (k:Nat) (v0:Int) (v2:LI) (e0:LL->Option R) (n:Nat) (v1:Int) (v3:LL):au.l5 (R:=R) k v0 v2 e0 (n+1) v1 v3=au.s5 k v0 v2 e0 (au.l5 k v0 v2 e0 n) v1 v3:=rfl
def au.f (k:Nat) (a:LI):Option (LL):=
 (aB.f k a).bind fun r1=>
 bif (!r1) then
  some ([])
 else
  bif decide ((a.length:Int)>12) then
   some ([])
  else
   (aX.f k a).bind fun r2=>
   ay (decide (0<=(r2.length:Int)))<|
   au.l5 k (IntKind.wrap .i64 (1*2^(min ((r2.length:Int).toNat) (IntKind.bits .i64)))) r2 (fun x9=>
    some x9) k 0 []
def jT.f (k:Nat) (a0:List Int):Option (Int):=
 yl.Ou (aB.f k) (au.f k) (aJ.f k) (dr.f k) (fK.f k) (db.f k) a0
def aG.s3 {R:Type} (k:Nat) (v0:LI) (v1:Int) (e0:LI->Option R) (rec:Int->LI->Option R) (v2:Int) (v3:LI):Option R:=
 bif decide (v2<v1) then
  ay ((decide (0<=v2))&&(decide (v2<(v0.length:Int))))<|
  (bN.f k (v0.getD v2.toNat 0)).bind fun r1=>
  ay ((decide (0<=r1))&&(decide (r1<13)))<|
  ay ((decide (0<=r1))&&(decide (r1<13)))<|
  rec (IntKind.wrap .i64 (v2+1)) (v3.set r1.toNat (IntKind.wrap .i64 ((v3.getD r1.toNat 0)+1)))
 else
  e0 v3
def aG.l3 {R:Type} (k:Nat) (v0:LI) (v1:Int) (e0:LI->Option R) (n:Nat) (v2:Int) (v3:LI):Option R:=
 V.iter (A:=Int×LI) (fun rec a=>aG.s3 k v0 v1 e0 (fun c0 c1=>rec (c0,c1)) a.1 a.2) n (v2,v3)
theorem aG.aA {R:Type} (k:Nat) (v0:LI) (v1:Int) (e0:LI->Option R) (n:Nat) (v2:Int) (v3:LI):aG.l3 (R:=R) k v0 v1 e0 (n+1) v2 v3=aG.s3 k v0 v1 e0 (aG.l3 k v0 v1 e0 n) v2 v3:=rfl
def aG.Sv {R:Type} (k:Nat) (v0:Int) (v2:LI) (e0:LI->LI->Option R) (rec:Int->LI->LI->Option R) (v1:Int) (v3 v4:LI):Option R:=
 bif decide (v1>=0) then
  ay ((decide (0<=v1))&&(decide (v1<13)))<|
  bif ((v2.getD v1.toNat 0)==v0) then
   ay (decide ((v3.length+1)*8<=room))<|
   ay (decide ((v4.length+1)*8<=room))<|
   rec (IntKind.wrap .i64 (v1-1)) (v3++[v1]) (v4++[v0])
  else
   rec (IntKind.wrap .i64 (v1-1)) v3 v4
 else
  e0 v3 v4
def aG.G0 {R:Type} (k:Nat) (v0:Int) (v2:LI) (e0:LI->LI->Option R) (n:Nat) (v1:Int) (v3 v4:LI):Option R:=
 V.iter (A:=Int×LI×LI) (fun rec a=>aG.Sv k v0 v2 e0 (fun c0 c1 c2=>rec (c0,c1,c2)) a.1 a.2.1 (t2 a)) n (v1,v3,v4)
theorem aG.n5 {R:Type} (k:Nat) (v0:Int) (v2:LI) (e0:LI->LI->Option R) (n:Nat) (v1:Int) (v3 v4:LI):aG.G0 (R:=R) k v0 v2 e0 (n+1) v1 v3 v4=aG.Sv k v0 v2 e0 (aG.G0 k v0 v2 e0 n) v1 v3 v4:=rfl
def aG.s9 {R:Type} (k:Nat) (v1:LI) (e0:LI->LI->Option R) (rec:Int->LI->LI->Option R) (v0:Int) (v2 v3:LI):Option R:=
 bif decide (v0>=1) then
  aG.G0 k v0 v1 (fun x3 x4=>
   rec (IntKind.wrap .i64 (v0-1)) x3 x4) k 12 v2 v3
 else
  e0 v2 v3
def aG.l9 {R:Type} (k:Nat) (v1:LI) (e0:LI->LI->Option R) (n:Nat) (v0:Int) (v2 v3:LI):Option R:=
 V.iter (A:=Int×LI×LI) (fun rec a=>aG.s9 k v1 e0 (fun c0 c1 c2=>rec (c0,c1,c2)) a.1 a.2.1 (t2 a)) n (v0,v2,v3)
theorem aG.pI {R:Type} (k:Nat) (v1:LI) (e0:LI->LI->Option R) (n:Nat) (v0:Int) (v2 v3:LI):aG.l9 (R:=R) k v1 e0 (n+1) v0 v2 v3=aG.s9 k v1 e0 (aG.l9 k v1 e0 n) v0 v2 v3:=rfl
def aG.f (k:Nat) (a:LI):Option (LI×LI):=
 aG.l3 k a (a.length:Int) (fun x2=>
  aG.l9 k x2 (fun x5 x6=>
   some (x5,x6)) k 4 [] []) k 0 [0,0,0,0,0,0,0,0,0,0,0,0,0]
def gf.f (k:Nat) (a:LI):Option (Int):=
 bif ((a.length:Int) != 5) then
  some (-1)
 else
  ay (decide (0<(a.length:Int)))<|
  ay (decide (4<(a.length:Int)))<|
  bif ((IntKind.wrap .i64 ((a.getD 0 0)-(a.getD 4 0)))==4) then
   ay (decide (0<(a.length:Int)))<|
   some (a.getD 0 0)
  else
   (aI.f k a [12,3,2,1,0]).bind fun r1=>
   bif r1 then
    some 3
   else
    some (-1)
def dC.s6 {R:Type} (k:Nat) (v0 v2:LI) (v3:Int) (e0:Bool->Option R) (rec:Bool->Int->Option R) (v1:Bool) (v4:Int):Option R:=
 bif decide (v4<v3) then
  ay ((decide (0<=v4))&&(decide (v4<(v2.length:Int))))<|
  bif v1 then
   (aZ.f k (v2.getD v4.toNat 0)).bind fun r5=>
   ay (decide (0<(v0.length:Int)))<|
   (aZ.f k (v0.getD 0 0)).bind fun r6=>
   rec (r5==r6) (IntKind.wrap .i64 (v4+1))
  else
   rec false (IntKind.wrap .i64 (v4+1))
 else
  e0 v1
def dC.l6 {R:Type} (k:Nat) (v0 v2:LI) (v3:Int) (e0:Bool->Option R) (n:Nat) (v1:Bool) (v4:Int):Option R:=
 V.iter (A:=Bool×Int) (fun rec a=>dC.s6 k v0 v2 v3 e0 (fun c0 c1=>rec (c0,c1)) a.1 a.2) n (v1,v4)
theorem dC.iz {R:Type} (k:Nat) (v0 v2:LI) (v3:Int) (e0:Bool->Option R) (n:Nat) (v1:Bool) (v4:Int):dC.l6 (R:=R) k v0 v2 v3 e0 (n+1) v1 v4=dC.s6 k v0 v2 v3 e0 (dC.l6 k v0 v2 v3 e0 n) v1 v4:=rfl
def dC.f (k:Nat) (a:LI):Option (Int):=
 (aB.f k a).bind fun r1=>
 bif (!r1) then
  some (-1)
 else
  bif ((a.length:Int) != 5) then
   some (-1)
  else
   (aG.f k a).bind fun r2=>
   dC.l6 k a a (a.length:Int) (fun x7=>
    (gf.f k r2.1).bind fun r8=>
    bif decide (r8>=0) then
     bif x7 then
      some 8
     else
      ay (decide (0<(r2.2.length:Int)))<|
      bif ((r2.2.getD 0 0)==4) then
       some 7
      else
       ay (decide (0<(r2.2.length:Int)))<|
       bif ((r2.2.getD 0 0)==3) then
        ay (decide (1<(r2.2.length:Int)))<|
        bif ((r2.2.getD 1 0)==2) then
         some 6
        else
         bif x7 then
          some 5
         else
          bif decide (r8>=0) then
           some 4
          else
           ay (decide (0<(r2.2.length:Int)))<|
           bif ((r2.2.getD 0 0)==3) then
            some 3
           else
            ay (decide (0<(r2.2.length:Int)))<|
            bif ((r2.2.getD 0 0)==2) then
             ay (decide (1<(r2.2.length:Int)))<|
             bif ((r2.2.getD 1 0)==2) then
              some 2
             else
              ay (decide (0<(r2.2.length:Int)))<|
              bif ((r2.2.getD 0 0)==2) then
               some 1
              else
               some 0
            else
             ay (decide (0<(r2.2.length:Int)))<|
             bif ((r2.2.getD 0 0)==2) then
              some 1
             else
              some 0
       else
        bif x7 then
         some 5
        else
         bif decide (r8>=0) then
          some 4
         else
          ay (decide (0<(r2.2.length:Int)))<|
          bif ((r2.2.getD 0 0)==3) then
           some 3
          else
           ay (decide (0<(r2.2.length:Int)))<|
           bif ((r2.2.getD 0 0)==2) then
            ay (decide (1<(r2.2.length:Int)))<|
            bif ((r2.2.getD 1 0)==2) then
             some 2
            else
             ay (decide (0<(r2.2.length:Int)))<|
             bif ((r2.2.getD 0 0)==2) then
              some 1
             else
              some 0
           else
            ay (decide (0<(r2.2.length:Int)))<|
            bif ((r2.2.getD 0 0)==2) then
             some 1
            else
             some 0
    else
     ay (decide (0<(r2.2.length:Int)))<|
     bif ((r2.2.getD 0 0)==4) then
      some 7
     else
      ay (decide (0<(r2.2.length:Int)))<|
      bif ((r2.2.getD 0 0)==3) then
       ay (decide (1<(r2.2.length:Int)))<|
       bif ((r2.2.getD 1 0)==2) then
        some 6
       else
        bif x7 then
         some 5
        else
         bif decide (r8>=0) then
          some 4
         else
          ay (decide (0<(r2.2.length:Int)))<|
          bif ((r2.2.getD 0 0)==3) then
           some 3
          else
           ay (decide (0<(r2.2.length:Int)))<|
           bif ((r2.2.getD 0 0)==2) then
            ay (decide (1<(r2.2.length:Int)))<|
            bif ((r2.2.getD 1 0)==2) then
             some 2
            else
             ay (decide (0<(r2.2.length:Int)))<|
             bif ((r2.2.getD 0 0)==2) then
              some 1
             else
              some 0
           else
            ay (decide (0<(r2.2.length:Int)))<|
            bif ((r2.2.getD 0 0)==2) then
             some 1
            else
             some 0
      else
       bif x7 then
        some 5
       else
        bif decide (r8>=0) then
         some 4
        else
         ay (decide (0<(r2.2.length:Int)))<|
         bif ((r2.2.getD 0 0)==3) then
          some 3
         else
          ay (decide (0<(r2.2.length:Int)))<|
          bif ((r2.2.getD 0 0)==2) then
           ay (decide (1<(r2.2.length:Int)))<|
           bif ((r2.2.getD 1 0)==2) then
            some 2
           else
            ay (decide (0<(r2.2.length:Int)))<|
            bif ((r2.2.getD 0 0)==2) then
             some 1
            else
             some 0
          else
           ay (decide (0<(r2.2.length:Int)))<|
           bif ((r2.2.getD 0 0)==2) then
            some 1
           else
            some 0) k true 0
def ml.f (k:Nat) (a:LI):Option (LI):=
 (dC.f k a).bind fun r1=>
 bif decide (r1<0) then
  some ([])
 else
  (aG.f k a).bind fun r2=>
  (gf.f k r2.1).bind fun r3=>
  bif decide (r3>=0) then
   some ([r1,r3])
  else
   ay (decide ((1+r2.1.length)*8<=room))<|
   some ([r1]++r2.1)
def jU.f (k:Nat) (a:Int):Option (ByteArray):=
 (an.f k a 0 8).bind fun r1=>
 bif (!r1) then
  some ByteArray.empty
 else
  ay ((decide (0<=a))&&(decide (a<9)))<|
  some (([(⟨#[104,105,103,104]⟩:ByteArray),(⟨#[112,97,105,114]⟩:ByteArray),(⟨#[116,119,111]⟩:ByteArray),(⟨#[116,104,114,101,101]⟩:ByteArray),(⟨#[115,116,114,97,105,103,104,116]⟩:ByteArray),(⟨#[102,108,117,115,104]⟩:ByteArray),(⟨#[102,117,108,108]⟩:ByteArray),(⟨#[102,111,117,114]⟩:ByteArray),(⟨#[115,116,114,97,105,103,104,116,102,108,117,115,104]⟩:ByteArray)]).getD a.toNat ByteArray.empty)
def iZ.f (k:Nat) (a:LI):Option (ByteArray):=
 (ml.f k a).bind fun r1=>
 bif ((r1.length:Int)==0) then
  some (⟨#[45]⟩:ByteArray)
 else
  ay (decide (0<(r1.length:Int)))<|
  (jU.f k (r1.getD 0 0)).bind fun r2=>
  ay (decide (r2.size+(⟨#[58]⟩:ByteArray).size<=fa))<|
  ay ((decide (0<=(r1.length:Int)))&&(decide ((r1.length:Int)<=(r1.length:Int))))<|
  ay (decide (1<=(r1.length:Int)))<|
  (aV.f k ((r1.take ((r1.length:Int).toNat)).drop 1) (⟨#[44]⟩:ByteArray)).bind fun r3=>
  ay (decide ((r2++(⟨#[58]⟩:ByteArray)).size+r3.size<=fa))<|
  some ((r2++(⟨#[58]⟩:ByteArray))++r3)
def dm.s3 {R:Type} (k:Nat) (v0:LI) (e0:LI->Option R) (rec:Int->LI->Option R) (v1:Int) (v2:LI):Option R:=
 bif decide (v1<52) then
  (bF.f k v0 v1).bind fun r1=>
  bif r1 then
   ay (decide ((v2.length+1)*8<=room))<|
   rec (IntKind.wrap .i64 (v1+1)) (v2++[v1])
  else
   rec (IntKind.wrap .i64 (v1+1)) v2
 else
  e0 v2
def dm.l3 {R:Type} (k:Nat) (v0:LI) (e0:LI->Option R) (n:Nat) (v1:Int) (v2:LI):Option R:=
 V.iter (A:=Int×LI) (fun rec a=>dm.s3 k v0 e0 (fun c0 c1=>rec (c0,c1)) a.1 a.2) n (v1,v2)
theorem dm.aA {R:Type} (k:Nat) (v0:LI) (e0:LI->Option R) (n:Nat) (v1:Int) (v2:LI):dm.l3 (R:=R) k v0 e0 (n+1) v1 v2=dm.s3 k v0 e0 (dm.l3 k v0 e0 n) v1 v2:=rfl
def dm.f (k:Nat) (a:LI):Option (LI):=
 dm.l3 k a (fun x2=>
  some x2) k 0 []
def kU.f (k:Nat) (a g i:Int):Option (Bool):=
 (aT.f k a).bind fun r1=>
 bif (!r1) then
  some false
 else
  (aT.f k g).bind fun r2=>
  bif (!r2) then
   some false
  else
   (aZ.f k a).bind fun r3=>
   (aZ.f k g).bind fun r4=>
   bif (r3==r4) then
    (bN.f k a).bind fun r5=>
    (bN.f k g).bind fun r6=>
    some (decide (r5>r6))
   else
    (aZ.f k a).bind fun r7=>
    some (r7==i)
def dn.s5 {R:Type} (k:Nat) (v0:LI) (v1:Int) (v3:LI) (v4:Int) (e0:Int->Option R) (rec:Int->Int->Option R) (v2 v5:Int):Option R:=
 bif decide (v5<v4) then
  ay ((decide (0<=v5))&&(decide (v5<(v3.length:Int))))<|
  ay ((decide (0<=v2))&&(decide (v2<(v0.length:Int))))<|
  (kU.f k (v3.getD v5.toNat 0) (v0.getD v2.toNat 0) v1).bind fun r2=>
  bif r2 then
   rec v5 (IntKind.wrap .i64 (v5+1))
  else
   rec v2 (IntKind.wrap .i64 (v5+1))
 else
  e0 v2
def dn.l5 {R:Type} (k:Nat) (v0:LI) (v1:Int) (v3:LI) (v4:Int) (e0:Int->Option R) (n:Nat) (v2 v5:Int):Option R:=
 V.iter (A:=Int×Int) (fun rec a=>dn.s5 k v0 v1 v3 v4 e0 (fun c0 c1=>rec (c0,c1)) a.1 a.2) n (v2,v5)
theorem dn.bp {R:Type} (k:Nat) (v0:LI) (v1:Int) (v3:LI) (v4:Int) (e0:Int->Option R) (n:Nat) (v2 v5:Int):dn.l5 (R:=R) k v0 v1 v3 v4 e0 (n+1) v2 v5=dn.s5 k v0 v1 v3 v4 e0 (dn.l5 k v0 v1 v3 v4 e0 n) v2 v5:=rfl
def dn.f (k:Nat) (a:LI) (g:Int):Option (Int):=
 bif ((a.length:Int)==0) then
  some (-1)
 else
  (aB.f k a).bind fun r1=>
  bif (!r1) then
   some (-1)
  else
   dn.l5 k a g a (a.length:Int) (fun x3=>
    some x3) k 0 0
def ek.f (k:Nat) (a0 a1:Int) (a2 a3:Bool) (a4 a5:LI) (a6 a7:Int) (a8:LI) (a9:Bool) (de:LI) (cK a12:Int) (dq fW:Bool) (fX fY:LI) (fZ f_:Int) (fT:LL) (a20 a21:LI) (ga fU a24:Int) (gq:LI) (gB:LL) (g:ByteArray) (i j:LI):Option (ByteArray):=
 bif (g.toList==(⟨#[114,117,108,101,115]⟩:ByteArray).toList) then
  (iY.f k a0 a1 a2 a3 a4 a5 a6 a7).bind fun r1=>
  (fS.f k r1 (⟨#[45]⟩:ByteArray)).bind fun r2=>
  some r2
 else
  bif (g.toList==(⟨#[116,97,98,108,101]⟩:ByteArray).toList) then
   (gW.f k a0 a1 a2 a3 a4 a5 a6 a7 a8 a9 de cK a12 dq fW fX fY fZ f_ fT a20 a21 ga fU a24 gq gB).bind fun r3=>
   some r3
  else
   bif (g.toList==(⟨#[103,97,109,101]⟩:ByteArray).toList) then
    (cw.f k cK a12 dq fW fX fY fZ f_ fT a20 a21 ga fU a24).bind fun r4=>
    (fS.f k r4 (⟨#[45]⟩:ByteArray)).bind fun r5=>
    some r5
   else
    bif (g.toList==(⟨#[115,101,101]⟩:ByteArray).toList) then
     ay (decide (0<(i.length:Int)))<|
     (kT.f k cK a12 dq fW fX fY fZ f_ fT a20 a21 ga fU a24 (i.getD 0 0)).bind fun r6=>
     bif (!(t8 r6)) then
      some (⟨#[110,111]⟩:ByteArray)
     else
      (cx.f k r6.1 r6.2.1 (t2 r6).1 (t3 r6).1 (t4 r6).1 (t5 r6).1 (t6 r6).1 (t7 r6).1).bind fun r7=>
      some r7
    else
     bif (g.toList==(⟨#[99,97,110]⟩:ByteArray).toList) then
      (bL.f k cK a12 dq fW fX fY fZ f_ fT a20 a21 ga fU a24).bind fun r8=>
      (eb.f k r8).bind fun r9=>
      some r9
     else
      bif (g.toList==(⟨#[114,101,99,111,114,100]⟩:ByteArray).toList) then
       (iE.f k gq).bind fun mO=>
       some mO
      else
       bif (g.toList==(⟨#[115,104,101,101,116]⟩:ByteArray).toList) then
        (bG.f k gB).bind fun ke=>
        (fS.f k ke (⟨#[45]⟩:ByteArray)).bind fun uY=>
        some uY
       else
        bif (g.toList==(⟨#[97,117,100,105,116]⟩:ByteArray).toList) then
         (kt.f k a0 a1 a2 a3 a4 a5 a6 a7 a8 a9 de cK a12 dq fW fX fY fZ f_ fT a20 a21 ga fU a24 gq gB).bind fun uZ=>
         (fS.f k uZ (⟨#[111,107]⟩:ByteArray)).bind fun vC=>
         some vC
        else
         bif (g.toList==(⟨#[109,101,108,100,115]⟩:ByteArray).toList) then
          (au.f k j).bind fun wH=>
          (bH.f k wH).bind fun wI=>
          some wI
         else
          bif (g.toList==(⟨#[108,101,102,116]⟩:ByteArray).toList) then
           (jT.f k j).bind fun vD=>
           (aF.f k vD).bind fun wJ=>
           some wJ
          else
           bif (g.toList==(⟨#[107,105,110,100]⟩:ByteArray).toList) then
            (iZ.f k j).bind fun wK=>
            some wK
           else
            bif (g.toList==(⟨#[99,111,117,110,116]⟩:ByteArray).toList) then
             (dm.f k j).bind fun vE=>
             (aF.f k (vE.length:Int)).bind fun wL=>
             some wL
            else
             ay (decide (0<(i.length:Int)))<|
             (dn.f k j (i.getD 0 0)).bind fun wM=>
             (aF.f k wM).bind fun vF=>
             some vF
def cL.f (k:Nat) (a0 a1:Int) (a2 a3:Bool) (a4 a5:LI) (a6 a7:Int) (a8:LI) (a9:Bool) (de:LI) (cK a12:Int) (dq fW:Bool) (fX fY:LI) (fZ f_:Int) (fT:LL) (a20 a21:LI) (ga fU a24:Int) (gq:LI) (gB:LL) (g:ByteArray):Option (Int×Int×Bool×Bool×LI×LI×Int×Int×LI×Bool×LI×Int×Int×Bool×Bool×LI×LI×Int×Int×LL×LI×LI×Int×Int×Int×LI×LL×ByteArray):=
 (cD.f k g).bind fun r1=>
 bif decide ((g.size:Int)>200) then
  (ah.f k a0 a1 a2 a3 a4 a5 a6 a7 a8 a9 de cK a12 dq fW fX fY fZ f_ fT a20 a21 ga fU a24 gq gB).bind fun r2=>
  some (r2.1,r2.2.1,(t2 r2).1,(t3 r2).1,(t4 r2).1,(t5 r2).1,(t6 r2).1,(t7 r2).1,(t8 r2).1,(t9 r2).1,(t9 r2.2).1,(t9 (t2 r2)).1,(t9 (t3 r2)).1,(t9 (t4 r2)).1,(t9 (t5 r2)).1,(t9 (t6 r2)).1,(t9 (t7 r2)).1,(t9 (t8 r2)).1,(t9 (t9 r2)).1,(t9 (t9 r2.2)).1,(t9 (t9 (t2 r2))).1,(t9 (t9 (t3 r2))).1,(t9 (t9 (t4 r2))).1,(t9 (t9 (t5 r2))).1,(t9 (t9 (t6 r2))).1,(t9 (t9 (t7 r2))).1,(t9 (t9 (t8 r2))),(⟨#[119,104,97,116]⟩:ByteArray))
 else
  bif ((r1.length:Int)==0) then
   (ah.f k a0 a1 a2 a3 a4 a5 a6 a7 a8 a9 de cK a12 dq fW fX fY fZ f_ fT a20 a21 ga fU a24 gq gB).bind fun r3=>
   some (r3.1,r3.2.1,(t2 r3).1,(t3 r3).1,(t4 r3).1,(t5 r3).1,(t6 r3).1,(t7 r3).1,(t8 r3).1,(t9 r3).1,(t9 r3.2).1,(t9 (t2 r3)).1,(t9 (t3 r3)).1,(t9 (t4 r3)).1,(t9 (t5 r3)).1,(t9 (t6 r3)).1,(t9 (t7 r3)).1,(t9 (t8 r3)).1,(t9 (t9 r3)).1,(t9 (t9 r3.2)).1,(t9 (t9 (t2 r3))).1,(t9 (t9 (t3 r3))).1,(t9 (t9 (t4 r3))).1,(t9 (t9 (t5 r3))).1,(t9 (t9 (t6 r3))).1,(t9 (t9 (t7 r3))).1,(t9 (t9 (t8 r3))),(⟨#[119,104,97,116]⟩:ByteArray))
  else
   ay (decide (0<(r1.length:Int)))<|
   (cE.f k (r1.getD 0 ByteArray.empty)).bind fun r4=>
   bif (!r4.2) then
    (ah.f k a0 a1 a2 a3 a4 a5 a6 a7 a8 a9 de cK a12 dq fW fX fY fZ f_ fT a20 a21 ga fU a24 gq gB).bind fun r5=>
    some (r5.1,r5.2.1,(t2 r5).1,(t3 r5).1,(t4 r5).1,(t5 r5).1,(t6 r5).1,(t7 r5).1,(t8 r5).1,(t9 r5).1,(t9 r5.2).1,(t9 (t2 r5)).1,(t9 (t3 r5)).1,(t9 (t4 r5)).1,(t9 (t5 r5)).1,(t9 (t6 r5)).1,(t9 (t7 r5)).1,(t9 (t8 r5)).1,(t9 (t9 r5)).1,(t9 (t9 r5.2)).1,(t9 (t9 (t2 r5))).1,(t9 (t9 (t3 r5))).1,(t9 (t9 (t4 r5))).1,(t9 (t9 (t5 r5))).1,(t9 (t9 (t6 r5))).1,(t9 (t9 (t7 r5))).1,(t9 (t9 (t8 r5))),(⟨#[119,104,97,116]⟩:ByteArray))
   else
    ay ((decide (0<=(r1.length:Int)))&&(decide ((r1.length:Int)<=(r1.length:Int))))<|
    ay (decide (1<=(r1.length:Int)))<|
    (cS.f k r4.1 ((r1.take ((r1.length:Int).toNat)).drop 1)).bind fun r6=>
    bif (!(t2 r6)) then
     (ah.f k a0 a1 a2 a3 a4 a5 a6 a7 a8 a9 de cK a12 dq fW fX fY fZ f_ fT a20 a21 ga fU a24 gq gB).bind fun r7=>
     some (r7.1,r7.2.1,(t2 r7).1,(t3 r7).1,(t4 r7).1,(t5 r7).1,(t6 r7).1,(t7 r7).1,(t8 r7).1,(t9 r7).1,(t9 r7.2).1,(t9 (t2 r7)).1,(t9 (t3 r7)).1,(t9 (t4 r7)).1,(t9 (t5 r7)).1,(t9 (t6 r7)).1,(t9 (t7 r7)).1,(t9 (t8 r7)).1,(t9 (t9 r7)).1,(t9 (t9 r7.2)).1,(t9 (t9 (t2 r7))).1,(t9 (t9 (t3 r7))).1,(t9 (t9 (t4 r7))).1,(t9 (t9 (t5 r7))).1,(t9 (t9 (t6 r7))).1,(t9 (t9 (t7 r7))).1,(t9 (t9 (t8 r7))),(⟨#[119,104,97,116]⟩:ByteArray))
    else
     ay (decide (0<(r1.length:Int)))<|
     bif ((r1.getD 0 ByteArray.empty).toList==(⟨#[110,101,119]⟩:ByteArray).toList) then
      ay (decide (0<(r1.length:Int)))<|
      (aP.f k a0 a1 a2 a3 a4 a5 a6 a7 a8 a9 de cK a12 dq fW fX fY fZ f_ fT a20 a21 ga fU a24 gq gB (r1.getD 0 ByteArray.empty) r6.1).bind fun r8=>
      bif r8.1 then
       bif (!(t9 (t9 (t9 r8.2)))) then
        (ah.f k a0 a1 a2 a3 a4 a5 a6 a7 a8 a9 de cK a12 dq fW fX fY fZ f_ fT a20 a21 ga fU a24 gq gB).bind fun r9=>
        some (r9.1,r9.2.1,(t2 r9).1,(t3 r9).1,(t4 r9).1,(t5 r9).1,(t6 r9).1,(t7 r9).1,(t8 r9).1,(t9 r9).1,(t9 r9.2).1,(t9 (t2 r9)).1,(t9 (t3 r9)).1,(t9 (t4 r9)).1,(t9 (t5 r9)).1,(t9 (t6 r9)).1,(t9 (t7 r9)).1,(t9 (t8 r9)).1,(t9 (t9 r9)).1,(t9 (t9 r9.2)).1,(t9 (t9 (t2 r9))).1,(t9 (t9 (t3 r9))).1,(t9 (t9 (t4 r9))).1,(t9 (t9 (t5 r9))).1,(t9 (t9 (t6 r9))).1,(t9 (t9 (t7 r9))).1,(t9 (t9 (t8 r9))),(⟨#[110,111]⟩:ByteArray))
       else
        some (r8.2.1,(t2 r8).1,(t3 r8).1,(t4 r8).1,(t5 r8).1,(t6 r8).1,(t7 r8).1,(t8 r8).1,(t9 r8).1,(t9 r8.2).1,(t9 (t2 r8)).1,(t9 (t3 r8)).1,(t9 (t4 r8)).1,(t9 (t5 r8)).1,(t9 (t6 r8)).1,(t9 (t7 r8)).1,(t9 (t8 r8)).1,(t9 (t9 r8)).1,(t9 (t9 r8.2)).1,(t9 (t9 (t2 r8))).1,(t9 (t9 (t3 r8))).1,(t9 (t9 (t4 r8))).1,(t9 (t9 (t5 r8))).1,(t9 (t9 (t6 r8))).1,(t9 (t9 (t7 r8))).1,(t9 (t9 (t8 r8))).1,(t9 (t9 (t9 r8))).1,(⟨#[111,107]⟩:ByteArray))
      else
       (ah.f k a0 a1 a2 a3 a4 a5 a6 a7 a8 a9 de cK a12 dq fW fX fY fZ f_ fT a20 a21 ga fU a24 gq gB).bind fun mO=>
       some (mO.1,mO.2.1,(t2 mO).1,(t3 mO).1,(t4 mO).1,(t5 mO).1,(t6 mO).1,(t7 mO).1,(t8 mO).1,(t9 mO).1,(t9 mO.2).1,(t9 (t2 mO)).1,(t9 (t3 mO)).1,(t9 (t4 mO)).1,(t9 (t5 mO)).1,(t9 (t6 mO)).1,(t9 (t7 mO)).1,(t9 (t8 mO)).1,(t9 (t9 mO)).1,(t9 (t9 mO.2)).1,(t9 (t9 (t2 mO))).1,(t9 (t9 (t3 mO))).1,(t9 (t9 (t4 mO))).1,(t9 (t9 (t5 mO))).1,(t9 (t9 (t6 mO))).1,(t9 (t9 (t7 mO))).1,(t9 (t9 (t8 mO))),(⟨#[110,111]⟩:ByteArray))
     else
      bif ((r1.getD 0 ByteArray.empty).toList==(⟨#[98,101,103,105,110]⟩:ByteArray).toList) then
       ay (decide (0<(r1.length:Int)))<|
       (aP.f k a0 a1 a2 a3 a4 a5 a6 a7 a8 a9 de cK a12 dq fW fX fY fZ f_ fT a20 a21 ga fU a24 gq gB (r1.getD 0 ByteArray.empty) r6.1).bind fun ke=>
       bif ke.1 then
        bif (!(t9 (t9 (t9 ke.2)))) then
         (ah.f k a0 a1 a2 a3 a4 a5 a6 a7 a8 a9 de cK a12 dq fW fX fY fZ f_ fT a20 a21 ga fU a24 gq gB).bind fun uY=>
         some (uY.1,uY.2.1,(t2 uY).1,(t3 uY).1,(t4 uY).1,(t5 uY).1,(t6 uY).1,(t7 uY).1,(t8 uY).1,(t9 uY).1,(t9 uY.2).1,(t9 (t2 uY)).1,(t9 (t3 uY)).1,(t9 (t4 uY)).1,(t9 (t5 uY)).1,(t9 (t6 uY)).1,(t9 (t7 uY)).1,(t9 (t8 uY)).1,(t9 (t9 uY)).1,(t9 (t9 uY.2)).1,(t9 (t9 (t2 uY))).1,(t9 (t9 (t3 uY))).1,(t9 (t9 (t4 uY))).1,(t9 (t9 (t5 uY))).1,(t9 (t9 (t6 uY))).1,(t9 (t9 (t7 uY))).1,(t9 (t9 (t8 uY))),(⟨#[110,111]⟩:ByteArray))
        else
         some (ke.2.1,(t2 ke).1,(t3 ke).1,(t4 ke).1,(t5 ke).1,(t6 ke).1,(t7 ke).1,(t8 ke).1,(t9 ke).1,(t9 ke.2).1,(t9 (t2 ke)).1,(t9 (t3 ke)).1,(t9 (t4 ke)).1,(t9 (t5 ke)).1,(t9 (t6 ke)).1,(t9 (t7 ke)).1,(t9 (t8 ke)).1,(t9 (t9 ke)).1,(t9 (t9 ke.2)).1,(t9 (t9 (t2 ke))).1,(t9 (t9 (t3 ke))).1,(t9 (t9 (t4 ke))).1,(t9 (t9 (t5 ke))).1,(t9 (t9 (t6 ke))).1,(t9 (t9 (t7 ke))).1,(t9 (t9 (t8 ke))).1,(t9 (t9 (t9 ke))).1,(⟨#[111,107]⟩:ByteArray))
       else
        (ah.f k a0 a1 a2 a3 a4 a5 a6 a7 a8 a9 de cK a12 dq fW fX fY fZ f_ fT a20 a21 ga fU a24 gq gB).bind fun uZ=>
        some (uZ.1,uZ.2.1,(t2 uZ).1,(t3 uZ).1,(t4 uZ).1,(t5 uZ).1,(t6 uZ).1,(t7 uZ).1,(t8 uZ).1,(t9 uZ).1,(t9 uZ.2).1,(t9 (t2 uZ)).1,(t9 (t3 uZ)).1,(t9 (t4 uZ)).1,(t9 (t5 uZ)).1,(t9 (t6 uZ)).1,(t9 (t7 uZ)).1,(t9 (t8 uZ)).1,(t9 (t9 uZ)).1,(t9 (t9 uZ.2)).1,(t9 (t9 (t2 uZ))).1,(t9 (t9 (t3 uZ))).1,(t9 (t9 (t4 uZ))).1,(t9 (t9 (t5 uZ))).1,(t9 (t9 (t6 uZ))).1,(t9 (t9 (t7 uZ))).1,(t9 (t9 (t8 uZ))),(⟨#[110,111]⟩:ByteArray))
      else
       bif ((r1.getD 0 ByteArray.empty).toList==(⟨#[112,108,97,121]⟩:ByteArray).toList) then
        ay (decide (0<(r1.length:Int)))<|
        (aP.f k a0 a1 a2 a3 a4 a5 a6 a7 a8 a9 de cK a12 dq fW fX fY fZ f_ fT a20 a21 ga fU a24 gq gB (r1.getD 0 ByteArray.empty) r6.1).bind fun vC=>
        bif vC.1 then
         bif (!(t9 (t9 (t9 vC.2)))) then
          (ah.f k a0 a1 a2 a3 a4 a5 a6 a7 a8 a9 de cK a12 dq fW fX fY fZ f_ fT a20 a21 ga fU a24 gq gB).bind fun wH=>
          some (wH.1,wH.2.1,(t2 wH).1,(t3 wH).1,(t4 wH).1,(t5 wH).1,(t6 wH).1,(t7 wH).1,(t8 wH).1,(t9 wH).1,(t9 wH.2).1,(t9 (t2 wH)).1,(t9 (t3 wH)).1,(t9 (t4 wH)).1,(t9 (t5 wH)).1,(t9 (t6 wH)).1,(t9 (t7 wH)).1,(t9 (t8 wH)).1,(t9 (t9 wH)).1,(t9 (t9 wH.2)).1,(t9 (t9 (t2 wH))).1,(t9 (t9 (t3 wH))).1,(t9 (t9 (t4 wH))).1,(t9 (t9 (t5 wH))).1,(t9 (t9 (t6 wH))).1,(t9 (t9 (t7 wH))).1,(t9 (t9 (t8 wH))),(⟨#[110,111]⟩:ByteArray))
         else
          some (vC.2.1,(t2 vC).1,(t3 vC).1,(t4 vC).1,(t5 vC).1,(t6 vC).1,(t7 vC).1,(t8 vC).1,(t9 vC).1,(t9 vC.2).1,(t9 (t2 vC)).1,(t9 (t3 vC)).1,(t9 (t4 vC)).1,(t9 (t5 vC)).1,(t9 (t6 vC)).1,(t9 (t7 vC)).1,(t9 (t8 vC)).1,(t9 (t9 vC)).1,(t9 (t9 vC.2)).1,(t9 (t9 (t2 vC))).1,(t9 (t9 (t3 vC))).1,(t9 (t9 (t4 vC))).1,(t9 (t9 (t5 vC))).1,(t9 (t9 (t6 vC))).1,(t9 (t9 (t7 vC))).1,(t9 (t9 (t8 vC))).1,(t9 (t9 (t9 vC))).1,(⟨#[111,107]⟩:ByteArray))
        else
         (ah.f k a0 a1 a2 a3 a4 a5 a6 a7 a8 a9 de cK a12 dq fW fX fY fZ f_ fT a20 a21 ga fU a24 gq gB).bind fun wI=>
         some (wI.1,wI.2.1,(t2 wI).1,(t3 wI).1,(t4 wI).1,(t5 wI).1,(t6 wI).1,(t7 wI).1,(t8 wI).1,(t9 wI).1,(t9 wI.2).1,(t9 (t2 wI)).1,(t9 (t3 wI)).1,(t9 (t4 wI)).1,(t9 (t5 wI)).1,(t9 (t6 wI)).1,(t9 (t7 wI)).1,(t9 (t8 wI)).1,(t9 (t9 wI)).1,(t9 (t9 wI.2)).1,(t9 (t9 (t2 wI))).1,(t9 (t9 (t3 wI))).1,(t9 (t9 (t4 wI))).1,(t9 (t9 (t5 wI))).1,(t9 (t9 (t6 wI))).1,(t9 (t9 (t7 wI))).1,(t9 (t9 (t8 wI))),(⟨#[110,111]⟩:ByteArray))
       else
        bif ((r1.getD 0 ByteArray.empty).toList==(⟨#[116,97,107,101]⟩:ByteArray).toList) then
         ay (decide (0<(r1.length:Int)))<|
         (aP.f k a0 a1 a2 a3 a4 a5 a6 a7 a8 a9 de cK a12 dq fW fX fY fZ f_ fT a20 a21 ga fU a24 gq gB (r1.getD 0 ByteArray.empty) r6.1).bind fun vD=>
         bif vD.1 then
          bif (!(t9 (t9 (t9 vD.2)))) then
           (ah.f k a0 a1 a2 a3 a4 a5 a6 a7 a8 a9 de cK a12 dq fW fX fY fZ f_ fT a20 a21 ga fU a24 gq gB).bind fun wJ=>
           some (wJ.1,wJ.2.1,(t2 wJ).1,(t3 wJ).1,(t4 wJ).1,(t5 wJ).1,(t6 wJ).1,(t7 wJ).1,(t8 wJ).1,(t9 wJ).1,(t9 wJ.2).1,(t9 (t2 wJ)).1,(t9 (t3 wJ)).1,(t9 (t4 wJ)).1,(t9 (t5 wJ)).1,(t9 (t6 wJ)).1,(t9 (t7 wJ)).1,(t9 (t8 wJ)).1,(t9 (t9 wJ)).1,(t9 (t9 wJ.2)).1,(t9 (t9 (t2 wJ))).1,(t9 (t9 (t3 wJ))).1,(t9 (t9 (t4 wJ))).1,(t9 (t9 (t5 wJ))).1,(t9 (t9 (t6 wJ))).1,(t9 (t9 (t7 wJ))).1,(t9 (t9 (t8 wJ))),(⟨#[110,111]⟩:ByteArray))
          else
           some (vD.2.1,(t2 vD).1,(t3 vD).1,(t4 vD).1,(t5 vD).1,(t6 vD).1,(t7 vD).1,(t8 vD).1,(t9 vD).1,(t9 vD.2).1,(t9 (t2 vD)).1,(t9 (t3 vD)).1,(t9 (t4 vD)).1,(t9 (t5 vD)).1,(t9 (t6 vD)).1,(t9 (t7 vD)).1,(t9 (t8 vD)).1,(t9 (t9 vD)).1,(t9 (t9 vD.2)).1,(t9 (t9 (t2 vD))).1,(t9 (t9 (t3 vD))).1,(t9 (t9 (t4 vD))).1,(t9 (t9 (t5 vD))).1,(t9 (t9 (t6 vD))).1,(t9 (t9 (t7 vD))).1,(t9 (t9 (t8 vD))).1,(t9 (t9 (t9 vD))).1,(⟨#[111,107]⟩:ByteArray))
         else
          (ah.f k a0 a1 a2 a3 a4 a5 a6 a7 a8 a9 de cK a12 dq fW fX fY fZ f_ fT a20 a21 ga fU a24 gq gB).bind fun wK=>
          some (wK.1,wK.2.1,(t2 wK).1,(t3 wK).1,(t4 wK).1,(t5 wK).1,(t6 wK).1,(t7 wK).1,(t8 wK).1,(t9 wK).1,(t9 wK.2).1,(t9 (t2 wK)).1,(t9 (t3 wK)).1,(t9 (t4 wK)).1,(t9 (t5 wK)).1,(t9 (t6 wK)).1,(t9 (t7 wK)).1,(t9 (t8 wK)).1,(t9 (t9 wK)).1,(t9 (t9 wK.2)).1,(t9 (t9 (t2 wK))).1,(t9 (t9 (t3 wK))).1,(t9 (t9 (t4 wK))).1,(t9 (t9 (t5 wK))).1,(t9 (t9 (t6 wK))).1,(t9 (t9 (t7 wK))).1,(t9 (t9 (t8 wK))),(⟨#[110,111]⟩:ByteArray))
        else
         bif ((r1.getD 0 ByteArray.empty).toList==(⟨#[115,101,116,116,108,101]⟩:ByteArray).toList) then
          ay (decide (0<(r1.length:Int)))<|
          (aP.f k a0 a1 a2 a3 a4 a5 a6 a7 a8 a9 de cK a12 dq fW fX fY fZ f_ fT a20 a21 ga fU a24 gq gB (r1.getD 0 ByteArray.empty) r6.1).bind fun vE=>
          bif vE.1 then
           bif (!(t9 (t9 (t9 vE.2)))) then
            (ah.f k a0 a1 a2 a3 a4 a5 a6 a7 a8 a9 de cK a12 dq fW fX fY fZ f_ fT a20 a21 ga fU a24 gq gB).bind fun wL=>
            some (wL.1,wL.2.1,(t2 wL).1,(t3 wL).1,(t4 wL).1,(t5 wL).1,(t6 wL).1,(t7 wL).1,(t8 wL).1,(t9 wL).1,(t9 wL.2).1,(t9 (t2 wL)).1,(t9 (t3 wL)).1,(t9 (t4 wL)).1,(t9 (t5 wL)).1,(t9 (t6 wL)).1,(t9 (t7 wL)).1,(t9 (t8 wL)).1,(t9 (t9 wL)).1,(t9 (t9 wL.2)).1,(t9 (t9 (t2 wL))).1,(t9 (t9 (t3 wL))).1,(t9 (t9 (t4 wL))).1,(t9 (t9 (t5 wL))).1,(t9 (t9 (t6 wL))).1,(t9 (t9 (t7 wL))).1,(t9 (t9 (t8 wL))),(⟨#[110,111]⟩:ByteArray))
           else
            some (vE.2.1,(t2 vE).1,(t3 vE).1,(t4 vE).1,(t5 vE).1,(t6 vE).1,(t7 vE).1,(t8 vE).1,(t9 vE).1,(t9 vE.2).1,(t9 (t2 vE)).1,(t9 (t3 vE)).1,(t9 (t4 vE)).1,(t9 (t5 vE)).1,(t9 (t6 vE)).1,(t9 (t7 vE)).1,(t9 (t8 vE)).1,(t9 (t9 vE)).1,(t9 (t9 vE.2)).1,(t9 (t9 (t2 vE))).1,(t9 (t9 (t3 vE))).1,(t9 (t9 (t4 vE))).1,(t9 (t9 (t5 vE))).1,(t9 (t9 (t6 vE))).1,(t9 (t9 (t7 vE))).1,(t9 (t9 (t8 vE))).1,(t9 (t9 (t9 vE))).1,(⟨#[111,107]⟩:ByteArray))
          else
           (ah.f k a0 a1 a2 a3 a4 a5 a6 a7 a8 a9 de cK a12 dq fW fX fY fZ f_ fT a20 a21 ga fU a24 gq gB).bind fun wM=>
           some (wM.1,wM.2.1,(t2 wM).1,(t3 wM).1,(t4 wM).1,(t5 wM).1,(t6 wM).1,(t7 wM).1,(t8 wM).1,(t9 wM).1,(t9 wM.2).1,(t9 (t2 wM)).1,(t9 (t3 wM)).1,(t9 (t4 wM)).1,(t9 (t5 wM)).1,(t9 (t6 wM)).1,(t9 (t7 wM)).1,(t9 (t8 wM)).1,(t9 (t9 wM)).1,(t9 (t9 wM.2)).1,(t9 (t9 (t2 wM))).1,(t9 (t9 (t3 wM))).1,(t9 (t9 (t4 wM))).1,(t9 (t9 (t5 wM))).1,(t9 (t9 (t6 wM))).1,(t9 (t9 (t7 wM))).1,(t9 (t9 (t8 wM))),(⟨#[110,111]⟩:ByteArray))
         else
          bif ((r1.getD 0 ByteArray.empty).toList==(⟨#[97,117,116,111]⟩:ByteArray).toList) then
           ay (decide (0<(r1.length:Int)))<|
           (aP.f k a0 a1 a2 a3 a4 a5 a6 a7 a8 a9 de cK a12 dq fW fX fY fZ f_ fT a20 a21 ga fU a24 gq gB (r1.getD 0 ByteArray.empty) r6.1).bind fun vF=>
           bif vF.1 then
            bif (!(t9 (t9 (t9 vF.2)))) then
             (ah.f k a0 a1 a2 a3 a4 a5 a6 a7 a8 a9 de cK a12 dq fW fX fY fZ f_ fT a20 a21 ga fU a24 gq gB).bind fun ym=>
             some (ym.1,ym.2.1,(t2 ym).1,(t3 ym).1,(t4 ym).1,(t5 ym).1,(t6 ym).1,(t7 ym).1,(t8 ym).1,(t9 ym).1,(t9 ym.2).1,(t9 (t2 ym)).1,(t9 (t3 ym)).1,(t9 (t4 ym)).1,(t9 (t5 ym)).1,(t9 (t6 ym)).1,(t9 (t7 ym)).1,(t9 (t8 ym)).1,(t9 (t9 ym)).1,(t9 (t9 ym.2)).1,(t9 (t9 (t2 ym))).1,(t9 (t9 (t3 ym))).1,(t9 (t9 (t4 ym))).1,(t9 (t9 (t5 ym))).1,(t9 (t9 (t6 ym))).1,(t9 (t9 (t7 ym))).1,(t9 (t9 (t8 ym))),(⟨#[110,111]⟩:ByteArray))
            else
             some (vF.2.1,(t2 vF).1,(t3 vF).1,(t4 vF).1,(t5 vF).1,(t6 vF).1,(t7 vF).1,(t8 vF).1,(t9 vF).1,(t9 vF.2).1,(t9 (t2 vF)).1,(t9 (t3 vF)).1,(t9 (t4 vF)).1,(t9 (t5 vF)).1,(t9 (t6 vF)).1,(t9 (t7 vF)).1,(t9 (t8 vF)).1,(t9 (t9 vF)).1,(t9 (t9 vF.2)).1,(t9 (t9 (t2 vF))).1,(t9 (t9 (t3 vF))).1,(t9 (t9 (t4 vF))).1,(t9 (t9 (t5 vF))).1,(t9 (t9 (t6 vF))).1,(t9 (t9 (t7 vF))).1,(t9 (t9 (t8 vF))).1,(t9 (t9 (t9 vF))).1,(⟨#[111,107]⟩:ByteArray))
           else
            (ah.f k a0 a1 a2 a3 a4 a5 a6 a7 a8 a9 de cK a12 dq fW fX fY fZ f_ fT a20 a21 ga fU a24 gq gB).bind fun yn=>
            some (yn.1,yn.2.1,(t2 yn).1,(t3 yn).1,(t4 yn).1,(t5 yn).1,(t6 yn).1,(t7 yn).1,(t8 yn).1,(t9 yn).1,(t9 yn.2).1,(t9 (t2 yn)).1,(t9 (t3 yn)).1,(t9 (t4 yn)).1,(t9 (t5 yn)).1,(t9 (t6 yn)).1,(t9 (t7 yn)).1,(t9 (t8 yn)).1,(t9 (t9 yn)).1,(t9 (t9 yn.2)).1,(t9 (t9 (t2 yn))).1,(t9 (t9 (t3 yn))).1,(t9 (t9 (t4 yn))).1,(t9 (t9 (t5 yn))).1,(t9 (t9 (t6 yn))).1,(t9 (t9 (t7 yn))).1,(t9 (t9 (t8 yn))),(⟨#[110,111]⟩:ByteArray))
          else
           (ah.f k a0 a1 a2 a3 a4 a5 a6 a7 a8 a9 de cK a12 dq fW fX fY fZ f_ fT a20 a21 ga fU a24 gq gB).bind fun yo=>
           ay (decide (0<(r1.length:Int)))<|
           (ek.f k a0 a1 a2 a3 a4 a5 a6 a7 a8 a9 de cK a12 dq fW fX fY fZ f_ fT a20 a21 ga fU a24 gq gB (r1.getD 0 ByteArray.empty) r6.1 r6.2.1).bind fun r27=>
           some (yo.1,yo.2.1,(t2 yo).1,(t3 yo).1,(t4 yo).1,(t5 yo).1,(t6 yo).1,(t7 yo).1,(t8 yo).1,(t9 yo).1,(t9 yo.2).1,(t9 (t2 yo)).1,(t9 (t3 yo)).1,(t9 (t4 yo)).1,(t9 (t5 yo)).1,(t9 (t6 yo)).1,(t9 (t7 yo)).1,(t9 (t8 yo)).1,(t9 (t9 yo)).1,(t9 (t9 yo.2)).1,(t9 (t9 (t2 yo))).1,(t9 (t9 (t3 yo))).1,(t9 (t9 (t4 yo))).1,(t9 (t9 (t5 yo))).1,(t9 (t9 (t6 yo))).1,(t9 (t9 (t7 yo))).1,(t9 (t9 (t8 yo))),r27)
end Go.Proofs.YtbmmhdmljajcfaaGreatDoor
