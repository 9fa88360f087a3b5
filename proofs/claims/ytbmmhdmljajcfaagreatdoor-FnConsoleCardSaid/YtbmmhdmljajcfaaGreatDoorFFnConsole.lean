/- Plain Lean functions, printed by a program out of the Go functions' translation: what each computes, without program and memory. -/
import Derived.Test.YtbmmhdmljajcfaaGreatDoorFImplConsoleLine
set_option linter.unusedVariables false
namespace Go.Proofs.YtbmmhdmljajcfaaGreatDoor
open Go Go.Proofs.YtbmmhdmljajcfaaGreatDoor.V
def wG.f (k:Nat) (a:LI):Option (Bool):=
 some (decide ((a.length:Int)>1048576))
def eY.f (k:Nat) (a0 a1:Int) (a2 a3:Bool) (a4 a5:LI) (a6 a7:Int) (a8:LI) (a9:Bool) (de:LI) (cK a12:Int) (dq fW:Bool) (fX fY:LI) (fZ f_:Int) (fT:LL) (a20 a21:LI) (ga fU a24:Int) (gq:LI) (gB:LL) (g0 g1:Int) (g2 g3:Bool) (g4 g5:LI) (g6 g7:Int) (g8:LI) (g9:Bool) (g10:LI) (g11 g12:Int) (g13 g14:Bool) (g15 g16:LI) (g17 g18:Int) (g19:LL) (g20 g21:LI) (g22 g23 g24:Int) (Ok:LI) (Ol:LL):Option (Bool):=
 (dW.f k a0 a1 a2 a3 a4 a5 a6 a7 g0 g1 g2 g3 g4 g5 g6 g7).bind fun r1=>
 bif r1 then
  (aI.f k a8 g8).bind fun r2=>
  bif r2 then
   bif (a9==g9) then
    (aI.f k de g10).bind fun r3=>
    bif r3 then
     (dD.f k cK a12 dq fW fX fY fZ f_ fT a20 a21 ga fU a24 g11 g12 g13 g14 g15 g16 g17 g18 g19 g20 g21 g22 g23 g24).bind fun r4=>
     bif r4 then
      (aI.f k gq Ok).bind fun r5=>
      bif r5 then
       (bQ.f k gB Ol).bind fun r6=>
       some r6
      else
       some false
     else
      some false
    else
     some false
   else
    some false
  else
   some false
 else
  some false
def dU.s3 {R:Type} (k:Nat) (v0:LI) (e0:Int->Option R) (rec:Int->Int->Option R) (v1 v2:Int):Option R:=
 bif decide (v2<(v0.length:Int)) then
  bif decide (v2<4000) then
   ay ((decide (0<=v2))&&(decide (v2<(v0.length:Int))))<|
   rec (sD .and .i64 (IntKind.wrap .i64 ((IntKind.wrap .i64 ((IntKind.wrap .i64 (v1*137))+(IntKind.wrap .i64 (v0.getD v2.toNat 0))))+11)) 1073741823) (IntKind.wrap .i64 (v2+1))
  else
   e0 v1
 else
  e0 v1
def dU.l3 {R:Type} (k:Nat) (v0:LI) (e0:Int->Option R) (n:Nat) (v1 v2:Int):Option R:=
 V.iter (A:=Int×Int) (fun rec a=>dU.s3 k v0 e0 (fun c0 c1=>rec (c0,c1)) a.1 a.2) n (v1,v2)
theorem dU.aA {R:Type} (k:Nat) (v0:LI) (e0:Int->Option R) (n:Nat) (v1 v2:Int):dU.l3 (R:=R) k v0 e0 (n+1) v1 v2=dU.s3 k v0 e0 (dU.l3 k v0 e0 n) v1 v2:=rfl
def dU.f (k:Nat) (a:LI):Option (LI×Int×Int):=
 dU.l3 k a (fun x1=>
  some (a,0,x1)) k (IntKind.wrap .i64 (193017+(a.length:Int))) 0
def gv.f (k:Nat) (a0:LI) (a1 a2:Int):Option (Int×LI×Int×Int):=
 bif decide (a1<(a0.length:Int)) then
  ay ((decide (0<=a1))&&(decide (a1<(a0.length:Int))))<|
  some (sD .and .i64 (IntKind.wrap .i64 ((sD .and .i64 (sD .xor .i64 ((IntKind.wrap .i64 ((IntKind.wrap .i64 (a2*6364136223846793005))+1442695040888963407)).fdiv (2^(min 33 (IntKind.bits .i64)))) ((IntKind.wrap .i64 ((IntKind.wrap .i64 (a2*6364136223846793005))+1442695040888963407)).fdiv (2^(min 47 (IntKind.bits .i64))))) 255)+(IntKind.wrap .i64 (a0.getD a1.toNat 0)))) 255,a0,IntKind.wrap .i64 (a1+1),IntKind.wrap .i64 ((IntKind.wrap .i64 (a2*6364136223846793005))+1442695040888963407))
 else
  some (sD .and .i64 (sD .xor .i64 ((IntKind.wrap .i64 ((IntKind.wrap .i64 (a2*6364136223846793005))+1442695040888963407)).fdiv (2^(min 33 (IntKind.bits .i64)))) ((IntKind.wrap .i64 ((IntKind.wrap .i64 (a2*6364136223846793005))+1442695040888963407)).fdiv (2^(min 47 (IntKind.bits .i64))))) 255,a0,a1,IntKind.wrap .i64 ((IntKind.wrap .i64 (a2*6364136223846793005))+1442695040888963407))
def aC.f (k:Nat) (a0:LI) (a1 a2 g:Int):Option (Int×LI×Int×Int):=
 bif decide (g<=0) then
  some (0,a0,a1,a2)
 else
  bif decide (g<=256) then
   (gv.f k a0 a1 a2).bind fun r1=>
   ay (!(decide (g=0)))<|
   some (r1.1.tmod g,r1.2)
  else
   (gv.f k a0 a1 a2).bind fun r2=>
   (gv.f k r2.2.1 (t2 r2).1 (t3 r2)).bind fun r3=>
   (gv.f k r3.2.1 (t2 r3).1 (t3 r3)).bind fun r4=>
   ay (!(decide (g=0)))<|
   some ((IntKind.wrap .i64 ((IntKind.wrap .i64 ((IntKind.wrap .i64 (r2.1*65536))+(IntKind.wrap .i64 (r3.1*256))))+r4.1)).tmod g,r4.2)
def dY.f (k:Nat) (a0 a1:Int) (a2 a3:Bool) (a4 a5:LI) (a6 a7:Int):Option (Int×Int×Bool×Bool×LI×LI×Int×Int):=
 ay (decide ((0+a4.length)*8<=room))<|
 ay (decide ((0+a5.length)*8<=room))<|
 some (a0,a1,a2,a3,[]++a4,[]++a5,a6,a7)
def aO.f (k:Nat) (a g i:Int):Option (Bool):=
 bif decide (a>=g) then
  some (decide (a<=i))
 else
  some false
def kf.f (k:Nat) (a:Int):Option (Bool):=
 (aO.f k a 100 103).bind fun r1=>
 bif r1 then
  some true
 else
  (aO.f k a 200 212).bind fun r2=>
  bif r2 then
   some true
  else
   (aO.f k a 300 312).bind fun r3=>
   bif r3 then
    some true
   else
    some (a==400)
def bR.s3 {R:Type} (k:Nat) (v0:LI) (e0 e1:Int->Option R) (rec:Int->Int->Option R) (v1 v2:Int):Option R:=
 bif decide (v2<(v0.length:Int)) then
  ay ((decide (0<=v2))&&(decide (v2<(v0.length:Int))))<|
  (kf.f k (v0.getD v2.toNat 0)).bind fun r1=>
  bif r1 then
   rec (IntKind.wrap .i64 (v1+1)) (IntKind.wrap .i64 (v2+1))
  else
   ay ((decide (0<=v2))&&(decide (v2<(v0.length:Int))))<|
   bif ((v0.getD v2.toNat 0)==(-1)) then
    bif decide (v1>=1) then
     rec v1 (IntKind.wrap .i64 (v2+1))
    else
     ay ((decide (0<=v2))&&(decide (v2<(v0.length:Int))))<|
     bif ((v0.getD v2.toNat 0)==(-2)) then
      bif decide (v1>=2) then
       rec (IntKind.wrap .i64 (v1-1)) (IntKind.wrap .i64 (v2+1))
      else
       e0 v1
     else
      ay ((decide (0<=v2))&&(decide (v2<(v0.length:Int))))<|
      bif ((v0.getD v2.toNat 0)==(-3)) then
       bif decide (v1>=2) then
        rec (IntKind.wrap .i64 (v1-1)) (IntKind.wrap .i64 (v2+1))
       else
        e0 v1
      else
       e0 v1
   else
    ay ((decide (0<=v2))&&(decide (v2<(v0.length:Int))))<|
    bif ((v0.getD v2.toNat 0)==(-2)) then
     bif decide (v1>=2) then
      rec (IntKind.wrap .i64 (v1-1)) (IntKind.wrap .i64 (v2+1))
     else
      e0 v1
    else
     ay ((decide (0<=v2))&&(decide (v2<(v0.length:Int))))<|
     bif ((v0.getD v2.toNat 0)==(-3)) then
      bif decide (v1>=2) then
       rec (IntKind.wrap .i64 (v1-1)) (IntKind.wrap .i64 (v2+1))
      else
       e0 v1
     else
      e0 v1
 else
  e1 v1
def bR.l3 {R:Type} (k:Nat) (v0:LI) (e0 e1:Int->Option R) (n:Nat) (v1 v2:Int):Option R:=
 V.iter (A:=Int×Int) (fun rec a=>bR.s3 k v0 e0 e1 (fun c0 c1=>rec (c0,c1)) a.1 a.2) n (v1,v2)
theorem bR.aA {R:Type} (k:Nat) (v0:LI) (e0 e1:Int->Option R) (n:Nat) (v1 v2:Int):bR.l3 (R:=R) k v0 e0 e1 (n+1) v1 v2=bR.s3 k v0 e0 e1 (bR.l3 k v0 e0 e1 n) v1 v2:=rfl
def bR.f (k:Nat) (a:LI):Option (Bool):=
 bR.l3 k a (fun x2=>
  some false) (fun x3=>
  bif (x3==1) then
   some (decide ((a.length:Int)<=20))
  else
   some false) k 0 0
def eJ.f (k:Nat) (a:LI):Option (Bool):=
 bif ((a.length:Int)==0) then
  some true
 else
  (bR.f k a).bind fun r1=>
  some r1
def dz.f (k:Nat) (a0 a1:Int) (a2 a3:Bool) (a4 a5:LI) (a6 a7:Int):Option (Bool):=
 (aO.f k a0 2 6).bind fun r1=>
 bif r1 then
  (aO.f k a1 1 8).bind fun r2=>
  bif r2 then
   bif a2 then
    (eJ.f k a4).bind fun r3=>
    bif r3 then
     (eJ.f k a5).bind fun r4=>
     bif r4 then
      (aO.f k a6 1 4).bind fun r5=>
      bif r5 then
       (aO.f k a7 1 400).bind fun r6=>
       some r6
      else
       some false
     else
      some false
    else
     some false
   else
    bif a3 then
     (eJ.f k a4).bind fun r7=>
     bif r7 then
      (eJ.f k a5).bind fun r8=>
      bif r8 then
       (aO.f k a6 1 4).bind fun r9=>
       bif r9 then
        (aO.f k a7 1 400).bind fun mO=>
        some mO
       else
        some false
      else
       some false
     else
      some false
    else
     some false
  else
   some false
 else
  some false
def fx.f (k:Nat) (a0 a1:Int) (a2 a3:Bool) (a4 a5:LI) (a6 a7:Int):Option (Int×Int×Bool×Bool×LI×LI×Int×Int×LI×Bool×LI×Int×Int×Bool×Bool×LI×LI×Int×Int×LL×LI×LI×Int×Int×Int×LI×LL×Bool):=
 (dz.f k a0 a1 a2 a3 a4 a5 a6 a7).bind fun r1=>
 bif (!r1) then
  some (0,0,false,false,[],[],0,0,[],false,[],0,0,false,false,[],[],0,0,[],[],[],0,0,0,[],[],false)
 else
  (dY.f k a0 a1 a2 a3 a4 a5 a6 a7).bind fun r2=>
  some (r2.1,r2.2.1,(t2 r2).1,(t3 r2).1,(t4 r2).1,(t5 r2).1,(t6 r2).1,(t7 r2),[],false,[],0,0,false,false,[],[],0,0,[],[],[],0,0,0,[],[],true)
def aQ.f (k:Nat) (a0:LI) (a1 a2 g:Int):Option (Bool×LI×Int×Int):=
 (aC.f k a0 a1 a2 g).bind fun r1=>
 some (r1.1==0,r1.2)
def mg.f (k:Nat) (a0:LI) (a1 a2:Int) (g:LI):Option (Int×LI×Int×Int):=
 (aC.f k a0 a1 a2 (g.length:Int)).bind fun r1=>
 ay ((decide (0<=r1.1))&&(decide (r1.1<(g.length:Int))))<|
 some (g.getD r1.1.toNat 0,r1.2)
def gb.f (k:Nat) (a0:LI) (a1 a2:Int):Option (Int×LI×Int×Int):=
 (aC.f k a0 a1 a2 4).bind fun r1=>
 (aC.f k r1.2.1 (t2 r1).1 (t3 r1) 13).bind fun r2=>
 (aC.f k r2.2.1 (t2 r2).1 (t3 r2) 13).bind fun r3=>
 (mg.f k r3.2.1 (t2 r3).1 (t3 r3) [IntKind.wrap .i64 (100+r1.1),IntKind.wrap .i64 (200+r2.1),IntKind.wrap .i64 (300+r3.1),400]).bind fun r4=>
 some r4
def bA.b (k:Nat) (self:LI->Int->Int->Int->Option (LI×LI×Int×Int)) (a0:LI) (a1 a2 g:Int):Option (LI×LI×Int×Int):=
 bif (g==0) then
  (gb.f k a0 a1 a2).bind fun r1=>
  some ([r1.1],r1.2)
 else
  (aQ.f k a0 a1 a2 4).bind fun r2=>
  bif r2.1 then
   (gb.f k r2.2.1 (t2 r2).1 (t3 r2)).bind fun r3=>
   some ([r3.1],r3.2)
  else
   (aQ.f k r2.2.1 (t2 r2).1 (t3 r2) 4).bind fun r4=>
   bif r4.1 then
    (self r4.2.1 (t2 r4).1 (t3 r4) (IntKind.wrap .i64 (g-1))).bind fun r5=>
    ay (decide ((r5.1.length+1)*8<=room))<|
    some (r5.1++[(-1)],r5.2)
   else
    (self r4.2.1 (t2 r4).1 (t3 r4) (IntKind.wrap .i64 (g-1))).bind fun r6=>
    (self r6.2.1 (t2 r6).1 (t3 r6) (IntKind.wrap .i64 (g-1))).bind fun r7=>
    ay (decide ((r6.1.length+r7.1.length)*8<=room))<|
    (aC.f k r7.2.1 (t2 r7).1 (t3 r7) 2).bind fun r8=>
    ay (decide ((((r6.1++r7.1).length)+1)*8<=room))<|
    some ((r6.1++r7.1)++[IntKind.wrap .i64 ((-2)-r8.1)],r8.2)
def bA.g (k:Nat):Nat->LI->Int->Int->Int->Option (LI×LI×Int×Int)
 |0=>fun _ _ _ _=>none
 |n+1=>bA.b k (bA.g k n)
def bA.f (k:Nat):LI->Int->Int->Int->Option (LI×LI×Int×Int):=bA.g k k
def hJ.f (k:Nat) (a0:LI) (a1 a2:Int):Option (Int×Int×Bool×Bool×LI×LI×Int×Int×LI×Int×Int):=
 (aC.f k a0 a1 a2 4).bind fun r1=>
 (aC.f k r1.2.1 (t2 r1).1 (t3 r1) 6).bind fun r2=>
 (aQ.f k r2.2.1 (t2 r2).1 (t3 r2) 2).bind fun r3=>
 (aC.f k r3.2.1 (t2 r3).1 (t3 r3) 2).bind fun r4=>
 (aC.f k r4.2.1 (t2 r4).1 (t3 r4) 60).bind fun r5=>
 (aQ.f k r5.2.1 (t2 r5).1 (t3 r5) 2).bind fun r6=>
 bif r6.1 then
  (bA.f k r6.2.1 (t2 r6).1 (t3 r6) 1).bind fun r7=>
  (aQ.f k r7.2.1 (t2 r7).1 (t3 r7) 2).bind fun r8=>
  bif r8.1 then
   (bA.f k r8.2.1 (t2 r8).1 (t3 r8) 1).bind fun r9=>
   some (IntKind.wrap .i64 (2+r1.1),IntKind.wrap .i64 (1+r2.1),r3.1,true,r7.1,r9.1,IntKind.wrap .i64 (1+r4.1),IntKind.wrap .i64 (20+r5.1),r9.2)
  else
   some (IntKind.wrap .i64 (2+r1.1),IntKind.wrap .i64 (1+r2.1),r3.1,true,r7.1,[],IntKind.wrap .i64 (1+r4.1),IntKind.wrap .i64 (20+r5.1),r8.2)
 else
  (aQ.f k r6.2.1 (t2 r6).1 (t3 r6) 2).bind fun mO=>
  bif mO.1 then
   (bA.f k mO.2.1 (t2 mO).1 (t3 mO) 1).bind fun ke=>
   some (IntKind.wrap .i64 (2+r1.1),IntKind.wrap .i64 (1+r2.1),r3.1,true,[],ke.1,IntKind.wrap .i64 (1+r4.1),IntKind.wrap .i64 (20+r5.1),ke.2)
  else
   some (IntKind.wrap .i64 (2+r1.1),IntKind.wrap .i64 (1+r2.1),r3.1,true,[],[],IntKind.wrap .i64 (1+r4.1),IntKind.wrap .i64 (20+r5.1),mO.2)
def da.s3 {R:Type} (k:Nat) (v0:LL) (e0:LL->Option R) (rec:Int->LL->Option R) (v1:Int) (v2:LL):Option R:=
 bif decide (v1<(v0.length:Int)) then
  ay ((decide (0<=v1))&&(decide (v1<(v0.length:Int))))<|
  ay (decide ((0+((v0.getD v1.toNat []).length))*8<=room))<|
  ay (decide ((v2.length+1)*24<=room))<|
  rec (IntKind.wrap .i64 (v1+1)) (v2++([[]++(v0.getD v1.toNat [])]))
 else
  e0 v2
def da.l3 {R:Type} (k:Nat) (v0:LL) (e0:LL->Option R) (n:Nat) (v1:Int) (v2:LL):Option R:=
 V.iter (A:=Int×LL) (fun rec a=>da.s3 k v0 e0 (fun c0 c1=>rec (c0,c1)) a.1 a.2) n (v1,v2)
theorem da.aA {R:Type} (k:Nat) (v0:LL) (e0:LL->Option R) (n:Nat) (v1:Int) (v2:LL):da.l3 (R:=R) k v0 e0 (n+1) v1 v2=da.s3 k v0 e0 (da.l3 k v0 e0 n) v1 v2:=rfl
def da.f (k:Nat) (a:LL):Option (LL):=
 da.l3 k a (fun x1=>
  some x1) k 0 []
def eo.f (k:Nat) (a0 a1:Int) (a2 a3:Bool) (a4 a5:LI) (a6 a7:Int) (a8:LL) (a9 de:LI) (cK a12 dq:Int):Option (Int×Int×Bool×Bool×LI×LI×Int×Int×LL×LI×LI×Int×Int×Int):=
 (dY.f k a0 a1 a2 a3 a4 a5 a6 a7).bind fun r1=>
 (da.f k a8).bind fun r2=>
 ay (decide ((0+a9.length)*8<=room))<|
 ay (decide ((0+de.length)*8<=room))<|
 some (r1.1,r1.2.1,(t2 r1).1,(t3 r1).1,(t4 r1).1,(t5 r1).1,(t6 r1).1,(t7 r1),r2,[]++a9,[]++de,cK,a12,dq)
def bM.f (k:Nat) (a0 a1:Int) (a2 a3:Bool) (a4 a5:LI) (a6 a7:Int) (a8:LI) (a9:Bool) (de:LI) (cK a12:Int) (dq fW:Bool) (fX fY:LI) (fZ f_:Int) (fT:LL) (a20 a21:LI) (ga fU a24:Int) (gq:LI) (gB:LL):Option (Int×Int×Bool×Bool×LI×LI×Int×Int×LI×Bool×LI×Int×Int×Bool×Bool×LI×LI×Int×Int×LL×LI×LI×Int×Int×Int×LI×LL):=
 (dY.f k a0 a1 a2 a3 a4 a5 a6 a7).bind fun r1=>
 ay (decide ((0+a8.length)*8<=room))<|
 ay (decide ((0+de.length)*8<=room))<|
 (eo.f k cK a12 dq fW fX fY fZ f_ fT a20 a21 ga fU a24).bind fun r2=>
 ay (decide ((0+gq.length)*8<=room))<|
 (da.f k gB).bind fun r3=>
 some (r1.1,r1.2.1,(t2 r1).1,(t3 r1).1,(t4 r1).1,(t5 r1).1,(t6 r1).1,(t7 r1),[]++a8,a9,[]++de,r2.1,r2.2.1,(t2 r2).1,(t3 r2).1,(t4 r2).1,(t5 r2).1,(t6 r2).1,(t7 r2).1,(t8 r2).1,(t9 r2).1,(t9 r2.2).1,(t9 (t2 r2)).1,(t9 (t3 r2)).1,(t9 (t4 r2)),[]++gq,r3)
def dK.s3 {R:Type} (k:Nat) (v1:LI) (e0 e1:Int->Option R) (rec:Int->Int->Option R) (v2 v3:Int):Option R:=
 bif decide (v3<(v1.length:Int)) then
  ay ((decide (0<=v3))&&(decide (v3<(v1.length:Int))))<|
  (aO.f k (v1.getD v3.toNat 0) (-1000) 1000).bind fun r1=>
  bif (!r1) then
   e0 v2
  else
   ay ((decide (0<=v3))&&(decide (v3<(v1.length:Int))))<|
   rec (IntKind.wrap .i64 (v2+(v1.getD v3.toNat 0))) (IntKind.wrap .i64 (v3+1))
 else
  e1 v2
def dK.l3 {R:Type} (k:Nat) (v1:LI) (e0 e1:Int->Option R) (n:Nat) (v2 v3:Int):Option R:=
 V.iter (A:=Int×Int) (fun rec a=>dK.s3 k v1 e0 e1 (fun c0 c1=>rec (c0,c1)) a.1 a.2) n (v2,v3)
theorem dK.aA {R:Type} (k:Nat) (v1:LI) (e0 e1:Int->Option R) (n:Nat) (v2 v3:Int):dK.l3 (R:=R) k v1 e0 e1 (n+1) v2 v3=dK.s3 k v1 e0 e1 (dK.l3 k v1 e0 e1 n) v2 v3:=rfl
def dK.f (k:Nat) (a:Int) (g:LI):Option (Bool):=
 dK.l3 k g (fun x2=>
  some false) (fun x3=>
  (aO.f k a 2 6).bind fun r4=>
  bif r4 then
   bif ((g.length:Int)==a) then
    some (x3==0)
   else
    some false
  else
   some false) k 0 0
def dM.s2 {R:Type} (k:Nat) (v0:Int) (v1:LL) (e0 e1:Option R) (rec:Int->Option R) (v2:Int):Option R:=
 bif decide (v2<(v1.length:Int)) then
  ay ((decide (0<=v2))&&(decide (v2<(v1.length:Int))))<|
  (dK.f k v0 (v1.getD v2.toNat [])).bind fun r1=>
  bif (!r1) then
   e0
  else
   rec (IntKind.wrap .i64 (v2+1))
 else
  e1
def dM.l2 {R:Type} (k:Nat) (v0:Int) (v1:LL) (e0 e1:Option R) (n:Nat) (v2:Int):Option R:=
 V.iter (A:=Int) (fun rec a=>dM.s2 k v0 v1 e0 e1 (fun c0=>rec c0) a) n v2
theorem dM.fQ {R:Type} (k:Nat) (v0:Int) (v1:LL) (e0 e1:Option R) (n:Nat) (v2:Int):dM.l2 (R:=R) k v0 v1 e0 e1 (n+1) v2=dM.s2 k v0 v1 e0 e1 (dM.l2 k v0 v1 e0 e1 n) v2:=rfl
def dM.f (k:Nat) (a:Int) (g:LL):Option (Bool):=
 dM.l2 k a g (some false) ((aO.f k a 2 6).bind fun r2=>
  bif r2 then
   some (decide ((g.length:Int)<=50))
  else
   some false) k 0
def aY.s4 {R:Type} (k:Nat) (v0 v1:LI) (e0 e1:Option R) (rec:Int->Option R) (v2:Int):Option R:=
 bif decide (v2<(v0.length:Int)) then
  ay ((decide (0<=v2))&&(decide (v2<(v0.length:Int))))<|
  ay ((decide (0<=v2))&&(decide (v2<(v1.length:Int))))<|
  bif ((v0.getD v2.toNat 0) != (v1.getD v2.toNat 0)) then
   e0
  else
   rec (IntKind.wrap .i64 (v2+1))
 else
  e1
def aY.l4 {R:Type} (k:Nat) (v0 v1:LI) (e0 e1:Option R) (n:Nat) (v2:Int):Option R:=
 V.iter (A:=Int) (fun rec a=>aY.s4 k v0 v1 e0 e1 (fun c0=>rec c0) a) n v2
theorem aY.hO {R:Type} (k:Nat) (v0 v1:LI) (e0 e1:Option R) (n:Nat) (v2:Int):aY.l4 (R:=R) k v0 v1 e0 e1 (n+1) v2=aY.s4 k v0 v1 e0 e1 (aY.l4 k v0 v1 e0 e1 n) v2:=rfl
def aY.f (k:Nat) (a g:LI):Option (Bool):=
 bif ((a.length:Int) != (g.length:Int)) then
  some false
 else
  aY.l4 k a g (some false) (some true) k 0
def fy.f (k:Nat) (a0 a1:Int) (a2 a3:Bool) (a4 a5:LI) (a6 a7 g0 g1:Int) (g2 g3:Bool) (g4 g5:LI) (g6 g7:Int):Option (Bool):=
 bif (a0==g0) then
  bif (a1==g1) then
   bif (a2==g2) then
    bif (a3==g3) then
     (aY.f k a4 g4).bind fun r1=>
     bif r1 then
      (aY.f k a5 g5).bind fun r2=>
      bif r2 then
       bif (a6==g6) then
        some (a7==g7)
       else
        some false
      else
       some false
     else
      some false
    else
     some false
   else
    some false
  else
   some false
 else
  some false
def bf.s4 {R:Type} (k:Nat) (v9 ij:LL) (e0 e1:Option R) (rec:Int->Option R) (v0:Int):Option R:=
 bif decide (v0<(v9.length:Int)) then
  ay ((decide (0<=v0))&&(decide (v0<(v9.length:Int))))<|
  ay ((decide (0<=v0))&&(decide (v0<(ij.length:Int))))<|
  (aY.f k (v9.getD v0.toNat []) (ij.getD v0.toNat [])).bind fun r1=>
  bif (!r1) then
   e0
  else
   rec (IntKind.wrap .i64 (v0+1))
 else
  e1
def bf.l4 {R:Type} (k:Nat) (v9 ij:LL) (e0 e1:Option R) (n:Nat) (v0:Int):Option R:=
 V.iter (A:=Int) (fun rec a=>bf.s4 k v9 ij e0 e1 (fun c0=>rec c0) a) n v0
theorem bf.hO {R:Type} (k:Nat) (v9 ij:LL) (e0 e1:Option R) (n:Nat) (v0:Int):bf.l4 (R:=R) k v9 ij e0 e1 (n+1) v0=bf.s4 k v9 ij e0 e1 (bf.l4 k v9 ij e0 e1 n) v0:=rfl
def bf.f (k:Nat) (a0 a1:Int) (a2 a3:Bool) (a4 a5:LI) (a6 a7:Int) (a8:LL) (a9 de:LI) (cK a12 dq g0 g1:Int) (g2 g3:Bool) (g4 g5:LI) (g6 g7:Int) (g8:LL) (g9 g10:LI) (g11 g12 g13:Int):Option (Bool):=
 bif ((a8.length:Int) != (g8.length:Int)) then
  some false
 else
  bf.l4 k a8 g8 (some false) ((fy.f k a0 a1 a2 a3 a4 a5 a6 a7 g0 g1 g2 g3 g4 g5 g6 g7).bind fun r2=>
   bif r2 then
    (aY.f k a9 g9).bind fun r3=>
    bif r3 then
     (aY.f k de g10).bind fun r4=>
     bif r4 then
      bif (cK==g11) then
       bif (a12==g12) then
        some (dq==g13)
       else
        some false
      else
       some false
     else
      some false
    else
     some false
   else
    some false) k 0
def cP.f (k:Nat) (a:Int):Option (Bool):=
 (aO.f k a 0 51).bind fun r1=>
 some r1
def bU.s2 {R:Type} (k:Nat) (v0:LI) (v1:Int) (e0 e1:Option R) (rec:Int->Option R) (v2:Int):Option R:=
 bif decide (v2<(v0.length:Int)) then
  ay ((decide (0<=v2))&&(decide (v2<(v0.length:Int))))<|
  bif ((v0.getD v2.toNat 0)==v1) then
   e0
  else
   rec (IntKind.wrap .i64 (v2+1))
 else
  e1
def bU.l2 {R:Type} (k:Nat) (v0:LI) (v1:Int) (e0 e1:Option R) (n:Nat) (v2:Int):Option R:=
 V.iter (A:=Int) (fun rec a=>bU.s2 k v0 v1 e0 e1 (fun c0=>rec c0) a) n v2
theorem bU.fQ {R:Type} (k:Nat) (v0:LI) (v1:Int) (e0 e1:Option R) (n:Nat) (v2:Int):bU.l2 (R:=R) k v0 v1 e0 e1 (n+1) v2=bU.s2 k v0 v1 e0 e1 (bU.l2 k v0 v1 e0 e1 n) v2:=rfl
def bU.f (k:Nat) (a:LI) (g:Int):Option (Bool):=
 bU.l2 k a g (some true) (some false) k 0
def bx.s2 {R:Type} (k:Nat) (v0:LI) (e0 e1:Option R) (rec:Int->Option R) (v1:Int):Option R:=
 bif decide (v1<(v0.length:Int)) then
  ay ((decide (0<=v1))&&(decide (v1<(v0.length:Int))))<|
  (cP.f k (v0.getD v1.toNat 0)).bind fun r1=>
  bif (!r1) then
   e0
  else
   ay ((decide (0<=v1))&&(decide (v1<=(v0.length:Int))))<|
   ay ((decide (0<=v1))&&(decide (v1<(v0.length:Int))))<|
   (bU.f k (v0.take v1.toNat) (v0.getD v1.toNat 0)).bind fun r2=>
   bif r2 then
    e0
   else
    rec (IntKind.wrap .i64 (v1+1))
 else
  e1
def bx.l2 {R:Type} (k:Nat) (v0:LI) (e0 e1:Option R) (n:Nat) (v1:Int):Option R:=
 V.iter (A:=Int) (fun rec a=>bx.s2 k v0 e0 e1 (fun c0=>rec c0) a) n v1
theorem bx.fQ {R:Type} (k:Nat) (v0:LI) (e0 e1:Option R) (n:Nat) (v1:Int):bx.l2 (R:=R) k v0 e0 e1 (n+1) v1=bx.s2 k v0 e0 e1 (bx.l2 k v0 e0 e1 n) v1:=rfl
def bx.f (k:Nat) (a:LI):Option (Bool):=
 bx.l2 k a (some false) (some true) k 0
def bS.s9 {R:Type} (k:Nat) (v0:LI) (v1 v2 v3:Int) (e0:LI->Option R) (rec:Int->LI->Option R) (v4:Int) (v6:LI):Option R:=
 bif decide (v4<v2) then
  ay ((decide (0<=(IntKind.wrap .i64 ((IntKind.wrap .i64 (v4*v1))+v3))))&&(decide ((IntKind.wrap .i64 ((IntKind.wrap .i64 (v4*v1))+v3))<(v0.length:Int))))<|
  ay (decide ((v6.length+1)*8<=room))<|
  rec (IntKind.wrap .i64 (v4+1)) (v6++[v0.getD ((IntKind.wrap .i64 ((IntKind.wrap .i64 (v4*v1))+v3)).toNat) 0])
 else
  e0 v6
def bS.l9 {R:Type} (k:Nat) (v0:LI) (v1 v2 v3:Int) (e0:LI->Option R) (n:Nat) (v4:Int) (v6:LI):Option R:=
 V.iter (A:=Int×LI) (fun rec a=>bS.s9 k v0 v1 v2 v3 e0 (fun c0 c1=>rec (c0,c1)) a.1 a.2) n (v4,v6)
theorem bS.pI {R:Type} (k:Nat) (v0:LI) (v1 v2 v3:Int) (e0:LI->Option R) (n:Nat) (v4:Int) (v6:LI):bS.l9 (R:=R) k v0 v1 v2 v3 e0 (n+1) v4 v6=bS.s9 k v0 v1 v2 v3 e0 (bS.l9 k v0 v1 v2 v3 e0 n) v4 v6:=rfl
def bS.s5 {R:Type} (k:Nat) (v0:LI) (v1 v2:Int) (e0:LL->Option R) (rec:Int->LL->Option R) (v3:Int) (v4:LL):Option R:=
 bif decide (v3<v1) then
  bS.l9 k v0 v1 v2 v3 (fun x4=>
   ay (decide ((v4.length+1)*24<=room))<|
   rec (IntKind.wrap .i64 (v3+1)) (v4++[x4])) k 0 []
 else
  e0 v4
def bS.l5 {R:Type} (k:Nat) (v0:LI) (v1 v2:Int) (e0:LL->Option R) (n:Nat) (v3:Int) (v4:LL):Option R:=
 V.iter (A:=Int×LL) (fun rec a=>bS.s5 k v0 v1 v2 e0 (fun c0 c1=>rec (c0,c1)) a.1 a.2) n (v3,v4)
theorem bS.bp {R:Type} (k:Nat) (v0:LI) (v1 v2:Int) (e0:LL->Option R) (n:Nat) (v3:Int) (v4:LL):bS.l5 (R:=R) k v0 v1 v2 e0 (n+1) v3 v4=bS.s5 k v0 v1 v2 e0 (bS.l5 k v0 v1 v2 e0 n) v3 v4:=rfl
def bS.f (k:Nat) (a:LI) (g i:Int):Option (LL×LI×Bool):=
 (bx.f k a).bind fun r1=>
 bif (!r1) then
  ay (decide ((0+a.length)*8<=room))<|
  some ([],[]++a,false)
 else
  (aO.f k g 1 6).bind fun r2=>
  bif (!r2) then
   ay (decide ((0+a.length)*8<=room))<|
   some ([],[]++a,false)
  else
   (aO.f k i 0 20).bind fun r3=>
   bif (!r3) then
    ay (decide ((0+a.length)*8<=room))<|
    some ([],[]++a,false)
   else
    bif decide ((IntKind.wrap .i64 (g*i))>(a.length:Int)) then
     ay (decide ((0+a.length)*8<=room))<|
     some ([],[]++a,false)
    else
     bS.l5 k a g i (fun x5=>
      ay ((decide (0<=(IntKind.wrap .i64 (g*i))))&&(decide ((IntKind.wrap .i64 (g*i))<=(a.length:Int))))<|
      ay (decide ((0+((a.drop ((IntKind.wrap .i64 (g*i)).toNat)).length))*8<=room))<|
      some (x5,[]++(a.drop ((IntKind.wrap .i64 (g*i)).toNat)),true)) k 0 []
def hR.f (k:Nat) (a0 a1:Int) (a2 a3:Bool) (a4 a5:LI) (a6 a7:Int) (g:LI):Option (Int×Int×Bool×Bool×LI×LI×Int×Int×LL×LI×LI×Int×Int×Int×Bool):=
 (dz.f k a0 a1 a2 a3 a4 a5 a6 a7).bind fun r1=>
 bif (!r1) then
  some (0,0,false,false,[],[],0,0,[],[],[],0,0,0,false)
 else
  (bx.f k g).bind fun r2=>
  bif (!r2) then
   some (0,0,false,false,[],[],0,0,[],[],[],0,0,0,false)
  else
   bif ((g.length:Int) != 52) then
    some (0,0,false,false,[],[],0,0,[],[],[],0,0,0,false)
   else
    (bS.f k g a0 a1).bind fun r3=>
    (dY.f k a0 a1 a2 a3 a4 a5 a6 a7).bind fun r4=>
    ay (decide (1<=(r3.2.1.length:Int)))<|
    ay (decide ((0+(((r3.2.1.take 1).drop 0).length))*8<=room))<|
    ay ((decide (0<=(r3.2.1.length:Int)))&&(decide ((r3.2.1.length:Int)<=(r3.2.1.length:Int))))<|
    ay (decide (1<=(r3.2.1.length:Int)))<|
    ay (decide ((0+(((r3.2.1.take ((r3.2.1.length:Int).toNat)).drop 1).length))*8<=room))<|
    some (r4.1,r4.2.1,(t2 r4).1,(t3 r4).1,(t4 r4).1,(t5 r4).1,(t6 r4).1,(t7 r4),r3.1,[]++((r3.2.1.take ((r3.2.1.length:Int).toNat)).drop 1),[]++((r3.2.1.take 1).drop 0),0,0,0,true)
def bh.s5 {R:Type} (k:Nat) (v9:LL) (e0:LI->Option R) (rec:Int->LI->Option R) (v0:Int) (eZ:LI):Option R:=
 bif decide (v0<(v9.length:Int)) then
  ay ((decide (0<=v0))&&(decide (v0<(v9.length:Int))))<|
  ay (decide ((eZ.length+((v9.getD v0.toNat []).length))*8<=room))<|
  rec (IntKind.wrap .i64 (v0+1)) (eZ++(v9.getD v0.toNat []))
 else
  e0 eZ
def bh.l5 {R:Type} (k:Nat) (v9:LL) (e0:LI->Option R) (n:Nat) (v0:Int) (eZ:LI):Option R:=
 V.iter (A:=Int×LI) (fun rec a=>bh.s5 k v9 e0 (fun c0 c1=>rec (c0,c1)) a.1 a.2) n (v0,eZ)
theorem bh.bp {R:Type} (k:Nat) (v9:LL) (e0:LI->Option R) (n:Nat) (v0:Int) (eZ:LI):bh.l5 (R:=R) k v9 e0 (n+1) v0 eZ=bh.s5 k v9 e0 (bh.l5 k v9 e0 n) v0 eZ:=rfl
def bh.f (k:Nat) (a0 a1:Int) (a2 a3:Bool) (a4 a5:LI) (a6 a7:Int) (a8:LL) (a9 de:LI) (cK a12 dq:Int):Option (Bool):=
 (dz.f k a0 a1 a2 a3 a4 a5 a6 a7).bind fun r1=>
 bif (!r1) then
  some false
 else
  bif ((a8.length:Int) != a0) then
   some false
  else
   bif ((de.length:Int)==0) then
    some false
   else
    (aO.f k cK 0 (IntKind.wrap .i64 (a0-1))).bind fun r2=>
    bif (!r2) then
     some false
    else
     (aO.f k a12 0 a7).bind fun r3=>
     bif (!r3) then
      some false
     else
      (aO.f k dq 0 a12).bind fun r4=>
      bif (!r4) then
       some false
      else
       ay (decide ((0+a9.length)*8<=room))<|
       ay (decide (((([]++a9).length)+de.length)*8<=room))<|
       bh.l5 k a8 (fun x5=>
        bif ((x5.length:Int)==52) then
         (bx.f k x5).bind fun r6=>
         some r6
        else
         some false) k 0 (([]++a9)++de)
def cq.s2 {R:Type} (k:Nat) (v9:LL) (e0:Int->Option R) (e1:Option R) (rec:Int->Option R) (v0:Int):Option R:=
 bif decide (v0<(v9.length:Int)) then
  ay ((decide (0<=v0))&&(decide (v0<(v9.length:Int))))<|
  bif (((v9.getD v0.toNat []).length:Int)==0) then
   e0 v0
  else
   rec (IntKind.wrap .i64 (v0+1))
 else
  e1
def cq.l2 {R:Type} (k:Nat) (v9:LL) (e0:Int->Option R) (e1:Option R) (n:Nat) (v0:Int):Option R:=
 V.iter (A:=Int) (fun rec a=>cq.s2 k v9 e0 e1 (fun c0=>rec c0) a) n v0
theorem cq.fQ {R:Type} (k:Nat) (v9:LL) (e0:Int->Option R) (e1:Option R) (n:Nat) (v0:Int):cq.l2 (R:=R) k v9 e0 e1 (n+1) v0=cq.s2 k v9 e0 e1 (cq.l2 k v9 e0 e1 n) v0:=rfl
def cq.f (k:Nat) (a0 a1:Int) (a2 a3:Bool) (a4 a5:LI) (a6 a7:Int) (a8:LL) (a9 de:LI) (cK a12 dq:Int):Option (Int):=
 cq.l2 k a8 (fun x1=>
  some x1) (some (-1)) k 0
def fI.f (k:Nat) (a0 a1:Int) (a2 a3:Bool) (a4 a5:LI) (a6 a7:Int) (a8:LL) (a9 de:LI) (cK a12 dq:Int):Option (Bool):=
 (cq.f k a0 a1 a2 a3 a4 a5 a6 a7 a8 a9 de cK a12 dq).bind fun r1=>
 bif decide (r1>=0) then
  some true
 else
  bif (a12==a7) then
   some true
  else
   some (decide (dq>=a0))
def b_.s6 {R:Type} (k:Nat) (v8 fG:Int) (e0:Int->LL->LI->LI->Option R) (rec:Int->Int->LL->LI->LI->Option R) (v0 v1:Int) (oM:LL) (v37 jh:LI):Option R:=
 bif decide (v1<v8) then
  bif ((v37.length:Int)==0) then
   ay ((decide (0<=(IntKind.wrap .i64 ((jh.length:Int)-1))))&&(decide ((IntKind.wrap .i64 ((jh.length:Int)-1))<=(jh.length:Int))))<|
   ay (decide (0<=(IntKind.wrap .i64 ((jh.length:Int)-1))))<|
   ay (decide ((0+(((jh.take ((IntKind.wrap .i64 ((jh.length:Int)-1)).toNat)).drop 0).length))*8<=room))<|
   ay ((decide (0<=(jh.length:Int)))&&(decide ((jh.length:Int)<=(jh.length:Int))))<|
   ay ((decide (0<=(IntKind.wrap .i64 ((jh.length:Int)-1))))&&(decide ((IntKind.wrap .i64 ((jh.length:Int)-1))<=(jh.length:Int))))<|
   ay (decide ((0+(((jh.take ((jh.length:Int).toNat)).drop ((IntKind.wrap .i64 ((jh.length:Int)-1)).toNat)).length))*8<=room))<|
   bif ((([]++((jh.take ((IntKind.wrap .i64 ((jh.length:Int)-1)).toNat)).drop 0)).length:Int)==0) then
    e0 v0 oM ([]++((jh.take ((IntKind.wrap .i64 ((jh.length:Int)-1)).toNat)).drop 0)) ([]++((jh.take ((jh.length:Int).toNat)).drop ((IntKind.wrap .i64 ((jh.length:Int)-1)).toNat)))
   else
    ay ((decide (0<=fG))&&(decide (fG<(oM.length:Int))))<|
    ay (decide (0<(([]++((jh.take ((IntKind.wrap .i64 ((jh.length:Int)-1)).toNat)).drop 0)).length:Int)))<|
    ay (decide ((((oM.getD fG.toNat []).length)+1)*8<=room))<|
    ay ((decide (0<=fG))&&(decide (fG<(oM.length:Int))))<|
    ay (fG.toNat==fG.toNat)<|
    ay ((decide (0<=(([]++((jh.take ((IntKind.wrap .i64 ((jh.length:Int)-1)).toNat)).drop 0)).length:Int)))&&(decide ((([]++((jh.take ((IntKind.wrap .i64 ((jh.length:Int)-1)).toNat)).drop 0)).length:Int)<=(([]++((jh.take ((IntKind.wrap .i64 ((jh.length:Int)-1)).toNat)).drop 0)).length:Int))))<|
    ay (decide (1<=(([]++((jh.take ((IntKind.wrap .i64 ((jh.length:Int)-1)).toNat)).drop 0)).length:Int)))<|
    ay (decide ((0+(((([]++((jh.take ((IntKind.wrap .i64 ((jh.length:Int)-1)).toNat)).drop 0)).take ((([]++((jh.take ((IntKind.wrap .i64 ((jh.length:Int)-1)).toNat)).drop 0)).length:Int).toNat)).drop 1).length))*8<=room))<|
    rec (IntKind.wrap .i64 (v0+1)) (IntKind.wrap .i64 (v1+1)) (oM.set fG.toNat ((oM.getD fG.toNat [])++([([]++((jh.take ((IntKind.wrap .i64 ((jh.length:Int)-1)).toNat)).drop 0)).getD 0 0]))) ([]++((([]++((jh.take ((IntKind.wrap .i64 ((jh.length:Int)-1)).toNat)).drop 0)).take ((([]++((jh.take ((IntKind.wrap .i64 ((jh.length:Int)-1)).toNat)).drop 0)).length:Int).toNat)).drop 1)) ([]++((jh.take ((jh.length:Int).toNat)).drop ((IntKind.wrap .i64 ((jh.length:Int)-1)).toNat)))
  else
   bif ((v37.length:Int)==0) then
    e0 v0 oM v37 jh
   else
    ay ((decide (0<=fG))&&(decide (fG<(oM.length:Int))))<|
    ay (decide (0<(v37.length:Int)))<|
    ay (decide ((((oM.getD fG.toNat []).length)+1)*8<=room))<|
    ay ((decide (0<=fG))&&(decide (fG<(oM.length:Int))))<|
    ay (fG.toNat==fG.toNat)<|
    ay ((decide (0<=(v37.length:Int)))&&(decide ((v37.length:Int)<=(v37.length:Int))))<|
    ay (decide (1<=(v37.length:Int)))<|
    ay (decide ((0+(((v37.take ((v37.length:Int).toNat)).drop 1).length))*8<=room))<|
    rec (IntKind.wrap .i64 (v0+1)) (IntKind.wrap .i64 (v1+1)) (oM.set fG.toNat ((oM.getD fG.toNat [])++[v37.getD 0 0])) ([]++((v37.take ((v37.length:Int).toNat)).drop 1)) jh
 else
  e0 v0 oM v37 jh
def b_.l6 {R:Type} (k:Nat) (v8 fG:Int) (e0:Int->LL->LI->LI->Option R) (n:Nat) (v0 v1:Int) (oM:LL) (v37 jh:LI):Option R:=
 V.iter (A:=Int×Int×LL×LI×LI) (fun rec a=>b_.s6 k v8 fG e0 (fun c0 c1 c2 c3 c4=>rec (c0,c1,c2,c3,c4)) a.1 a.2.1 (t2 a).1 (t3 a).1 (t4 a)) n (v0,v1,oM,v37,jh)
theorem b_.iz {R:Type} (k:Nat) (v8 fG:Int) (e0:Int->LL->LI->LI->Option R) (n:Nat) (v0 v1:Int) (oM:LL) (v37 jh:LI):b_.l6 (R:=R) k v8 fG e0 (n+1) v0 v1 oM v37 jh=b_.s6 k v8 fG e0 (b_.l6 k v8 fG e0 n) v0 v1 oM v37 jh:=rfl
def b_.f (k:Nat) (a0 a1:Int) (a2 a3:Bool) (a4 a5:LI) (a6 a7:Int) (a8:LL) (a9 de:LI) (cK a12 dq:Int):Option (Int×Int×Bool×Bool×LI×LI×Int×Int×LL×LI×LI×Int×Int×Int×Bool):=
 (eo.f k a0 a1 a2 a3 a4 a5 a6 a7 a8 a9 de cK a12 dq).bind fun r1=>
 (bh.f k a0 a1 a2 a3 a4 a5 a6 a7 a8 a9 de cK a12 dq).bind fun r2=>
 bif (!r2) then
  some (r1.1,r1.2.1,(t2 r1).1,(t3 r1).1,(t4 r1).1,(t5 r1).1,(t6 r1).1,(t7 r1).1,(t8 r1).1,(t9 r1).1,(t9 r1.2).1,(t9 (t2 r1)).1,(t9 (t3 r1)).1,(t9 (t4 r1)),false)
 else
  (fI.f k a0 a1 a2 a3 a4 a5 a6 a7 a8 a9 de cK a12 dq).bind fun r3=>
  bif r3 then
   some (r1.1,r1.2.1,(t2 r1).1,(t3 r1).1,(t4 r1).1,(t5 r1).1,(t6 r1).1,(t7 r1).1,(t8 r1).1,(t9 r1).1,(t9 r1.2).1,(t9 (t2 r1)).1,(t9 (t3 r1)).1,(t9 (t4 r1)),false)
  else
   b_.l6 k a6 cK (fun x4 x5 x6 x7=>
    bif (x4==0) then
     ay (!(decide (a0=0)))<|
     some (r1.1,r1.2.1,(t2 r1).1,(t3 r1).1,(t4 r1).1,(t5 r1).1,(t6 r1).1,(t7 r1).1,x5,x6,x7,(IntKind.wrap .i64 (cK+1)).tmod a0,IntKind.wrap .i64 (a12+1),IntKind.wrap .i64 (dq+1),true)
    else
     ay (!(decide (a0=0)))<|
     some (r1.1,r1.2.1,(t2 r1).1,(t3 r1).1,(t4 r1).1,(t5 r1).1,(t6 r1).1,(t7 r1).1,x5,x6,x7,(IntKind.wrap .i64 (cK+1)).tmod a0,IntKind.wrap .i64 (a12+1),0,true)) k 0 0 (t8 r1).1 (t9 r1).1 (t9 r1.2).1
def bB.s6 {R:Type} (k:Nat) (v0:LI) (v1:Int) (v3:LI) (e0 rec:Int->Option R) (v2:Int):Option R:=
 bif decide (v2>0) then
  ay ((decide (0<=(IntKind.wrap .i64 (v2-1))))&&(decide ((IntKind.wrap .i64 (v2-1))<(v3.length:Int))))<|
  ay ((decide (0<=v1))&&(decide (v1<(v0.length:Int))))<|
  bif decide ((v3.getD ((IntKind.wrap .i64 (v2-1)).toNat) 0)>(v0.getD v1.toNat 0)) then
   rec (IntKind.wrap .i64 (v2-1))
  else
   e0 v2
 else
  e0 v2
def bB.l6 {R:Type} (k:Nat) (v0:LI) (v1:Int) (v3:LI) (e0:Int->Option R) (n:Nat) (v2:Int):Option R:=
 V.iter (A:=Int) (fun rec a=>bB.s6 k v0 v1 v3 e0 (fun c0=>rec c0) a) n v2
theorem bB.iz {R:Type} (k:Nat) (v0:LI) (v1:Int) (v3:LI) (e0:Int->Option R) (n:Nat) (v2:Int):bB.l6 (R:=R) k v0 v1 v3 e0 (n+1) v2=bB.s6 k v0 v1 v3 e0 (bB.l6 k v0 v1 v3 e0 n) v2:=rfl
def bB.s3 {R:Type} (k:Nat) (v0:LI) (e0:LI->Option R) (rec:Int->LI->Option R) (v1:Int) (v2:LI):Option R:=
 bif decide (v1<(v0.length:Int)) then
  bB.l6 k v0 v1 v2 (fun x1=>
   ay ((decide (0<=x1))&&(decide (x1<=(v2.length:Int))))<|
   ay (decide (0<=x1))<|
   ay (decide ((0+(((v2.take x1.toNat).drop 0).length))*8<=room))<|
   ay ((decide (0<=v1))&&(decide (v1<(v0.length:Int))))<|
   ay (decide (((([]++((v2.take x1.toNat).drop 0)).length)+1)*8<=room))<|
   ay ((decide (0<=(v2.length:Int)))&&(decide ((v2.length:Int)<=(v2.length:Int))))<|
   ay ((decide (0<=x1))&&(decide (x1<=(v2.length:Int))))<|
   ay (decide ((((([]++((v2.take x1.toNat).drop 0))++[v0.getD v1.toNat 0]).length)+(((v2.take ((v2.length:Int).toNat)).drop x1.toNat).length))*8<=room))<|
   rec (IntKind.wrap .i64 (v1+1)) ((([]++((v2.take x1.toNat).drop 0))++[v0.getD v1.toNat 0])++((v2.take ((v2.length:Int).toNat)).drop x1.toNat))) k (v2.length:Int)
 else
  e0 v2
def bB.l3 {R:Type} (k:Nat) (v0:LI) (e0:LI->Option R) (n:Nat) (v1:Int) (v2:LI):Option R:=
 V.iter (A:=Int×LI) (fun rec a=>bB.s3 k v0 e0 (fun c0 c1=>rec (c0,c1)) a.1 a.2) n (v1,v2)
theorem bB.aA {R:Type} (k:Nat) (v0:LI) (e0:LI->Option R) (n:Nat) (v1:Int) (v2:LI):bB.l3 (R:=R) k v0 e0 (n+1) v1 v2=bB.s3 k v0 e0 (bB.l3 k v0 e0 n) v1 v2:=rfl
def bB.f (k:Nat) (a:LI):Option (LI):=
 bB.l3 k a (fun x2=>
  some x2) k 0 []
def fR.f (k:Nat) (a:Int):Option (Int):=
 (cP.f k a).bind fun r1=>
 bif (!r1) then
  some (-1)
 else
  some (IntKind.wrap .i64 (a.tdiv 13))
def eQ.f (k:Nat) (a:Int):Option (Int):=
 (cP.f k a).bind fun r1=>
 bif (!r1) then
  some (-1)
 else
  some (a.tmod 13)
def mh.f (k:Nat) (a:Int):Option (Bool):=
 (fR.f k a).bind fun r1=>
 (aO.f k r1 1 2).bind fun r2=>
 some r2
def jq.f (k:Nat) (a g:Int):Option (Bool):=
 bif (a==400) then
  (mh.f k g).bind fun r1=>
  some r1
 else
  bif decide (a>=300) then
   (eQ.f k g).bind fun r2=>
   some (decide (r2>=(IntKind.wrap .i64 (a-300))))
  else
   bif decide (a>=200) then
    (eQ.f k g).bind fun r3=>
    some (r3==(IntKind.wrap .i64 (a-200)))
   else
    (fR.f k g).bind fun r4=>
    some (r4==(IntKind.wrap .i64 (a-100)))
def cc.s5 {R:Type} (k:Nat) (v0:LI) (v1:Int) (e0:List Bool->Option R) (rec:Int->List Bool->Option R) (v2:Int) (v3:List Bool):Option R:=
 bif decide (v2<(v0.length:Int)) then
  ay ((decide (0<=v2))&&(decide (v2<(v0.length:Int))))<|
  bif ((v0.getD v2.toNat 0)==(-1)) then
   ay ((decide (0<=(IntKind.wrap .i64 ((v3.length:Int)-1))))&&(decide ((IntKind.wrap .i64 ((v3.length:Int)-1))<(v3.length:Int))))<|
   ay ((decide (0<=(IntKind.wrap .i64 ((v3.length:Int)-1))))&&(decide ((IntKind.wrap .i64 ((v3.length:Int)-1))<(v3.length:Int))))<|
   rec (IntKind.wrap .i64 (v2+1)) (v3.set ((IntKind.wrap .i64 ((v3.length:Int)-1)).toNat) (!(v3.getD ((IntKind.wrap .i64 ((v3.length:Int)-1)).toNat) false)))
  else
   bif ((v0.getD v2.toNat 0)==(-2)) then
    ay ((decide (0<=(IntKind.wrap .i64 ((v3.length:Int)-2))))&&(decide ((IntKind.wrap .i64 ((v3.length:Int)-2))<=(v3.length:Int))))<|
    ay (decide (0<=(IntKind.wrap .i64 ((v3.length:Int)-2))))<|
    ay ((decide (0<=(IntKind.wrap .i64 ((v3.length:Int)-2))))&&(decide ((IntKind.wrap .i64 ((v3.length:Int)-2))<(v3.length:Int))))<|
    bif (v3.getD ((IntKind.wrap .i64 ((v3.length:Int)-2)).toNat) false) then
     ay ((decide (0<=(IntKind.wrap .i64 ((v3.length:Int)-1))))&&(decide ((IntKind.wrap .i64 ((v3.length:Int)-1))<(v3.length:Int))))<|
     ay (decide ((((v3.take ((IntKind.wrap .i64 ((v3.length:Int)-2)).toNat)).length)+1)*1<=room))<|
     rec (IntKind.wrap .i64 (v2+1)) ((v3.take ((IntKind.wrap .i64 ((v3.length:Int)-2)).toNat))++[v3.getD ((IntKind.wrap .i64 ((v3.length:Int)-1)).toNat) false])
    else
     ay (decide ((((v3.take ((IntKind.wrap .i64 ((v3.length:Int)-2)).toNat)).length)+1)*1<=room))<|
     rec (IntKind.wrap .i64 (v2+1)) ((v3.take ((IntKind.wrap .i64 ((v3.length:Int)-2)).toNat))++[false])
   else
    bif ((v0.getD v2.toNat 0)==(-3)) then
     ay ((decide (0<=(IntKind.wrap .i64 ((v3.length:Int)-2))))&&(decide ((IntKind.wrap .i64 ((v3.length:Int)-2))<=(v3.length:Int))))<|
     ay (decide (0<=(IntKind.wrap .i64 ((v3.length:Int)-2))))<|
     ay ((decide (0<=(IntKind.wrap .i64 ((v3.length:Int)-2))))&&(decide ((IntKind.wrap .i64 ((v3.length:Int)-2))<(v3.length:Int))))<|
     bif (v3.getD ((IntKind.wrap .i64 ((v3.length:Int)-2)).toNat) false) then
      ay (decide ((((v3.take ((IntKind.wrap .i64 ((v3.length:Int)-2)).toNat)).length)+1)*1<=room))<|
      rec (IntKind.wrap .i64 (v2+1)) ((v3.take ((IntKind.wrap .i64 ((v3.length:Int)-2)).toNat))++[true])
     else
      ay ((decide (0<=(IntKind.wrap .i64 ((v3.length:Int)-1))))&&(decide ((IntKind.wrap .i64 ((v3.length:Int)-1))<(v3.length:Int))))<|
      ay (decide ((((v3.take ((IntKind.wrap .i64 ((v3.length:Int)-2)).toNat)).length)+1)*1<=room))<|
      rec (IntKind.wrap .i64 (v2+1)) ((v3.take ((IntKind.wrap .i64 ((v3.length:Int)-2)).toNat))++[v3.getD ((IntKind.wrap .i64 ((v3.length:Int)-1)).toNat) false])
    else
     ay ((decide (0<=v2))&&(decide (v2<(v0.length:Int))))<|
     (jq.f k (v0.getD v2.toNat 0) v1).bind fun r3=>
     ay (decide ((v3.length+1)*1<=room))<|
     rec (IntKind.wrap .i64 (v2+1)) (v3++[r3])
 else
  e0 v3
def cc.l5 {R:Type} (k:Nat) (v0:LI) (v1:Int) (e0:List Bool->Option R) (n:Nat) (v2:Int) (v3:List Bool):Option R:=
 V.iter (A:=Int×List Bool) (fun rec a=>cc.s5 k v0 v1 e0 (fun c0 c1=>rec (c0,c1)) a.1 a.2) n (v2,v3)
theorem cc.bp {R:Type} (k:Nat) (v0:LI) (v1:Int) (e0:List Bool->Option R) (n:Nat) (v2:Int) (v3:List Bool):cc.l5 (R:=R) k v0 v1 e0 (n+1) v2 v3=cc.s5 k v0 v1 e0 (cc.l5 k v0 v1 e0 n) v2 v3:=rfl
def cc.f (k:Nat) (a:LI) (g:Int):Option (Bool):=
 (bR.f k a).bind fun r1=>
 bif (!r1) then
  some false
 else
  (cP.f k g).bind fun r2=>
  bif (!r2) then
   some false
  else
   cc.l5 k a g (fun x4=>
    ay (decide (0<(x4.length:Int)))<|
    some (x4.getD 0 false)) k 0 []
def kN.f (k:Nat) (a0 a1:Int) (a2 a3:Bool) (a4 a5:LI) (a6 a7 g i:Int):Option (Bool):=
 (dz.f k a0 a1 a2 a3 a4 a5 a6 a7).bind fun r1=>
 bif (!r1) then
  some false
 else
  (cP.f k g).bind fun r2=>
  bif (!r2) then
   some false
  else
   (cP.f k i).bind fun r3=>
   bif (!r3) then
    some false
   else
    bif a2 then
     (fR.f k i).bind fun r4=>
     (fR.f k g).bind fun r5=>
     bif (r4==r5) then
      some true
     else
      bif a3 then
       (eQ.f k i).bind fun r6=>
       (eQ.f k g).bind fun r7=>
       bif (r6==r7) then
        some true
       else
        (cc.f k a4 i).bind fun r8=>
        some r8
      else
       (cc.f k a4 i).bind fun r9=>
       some r9
    else
     bif a3 then
      (eQ.f k i).bind fun mO=>
      (eQ.f k g).bind fun ke=>
      bif (mO==ke) then
       some true
      else
       (cc.f k a4 i).bind fun uY=>
       some uY
     else
      (cc.f k a4 i).bind fun uZ=>
      some uZ
def cr.s6 {R:Type} (k:Nat) (v1 v2:Int) (v3 v4:Bool) (v5 v6:LI) (v7 v8:Int) (v11 fq:LI) (e0:LI->Option R) (rec:Int->LI->Option R) (v0:Int) (eZ:LI):Option R:=
 bif decide (v0<(fq.length:Int)) then
  ay ((decide (0<=(IntKind.wrap .i64 ((v11.length:Int)-1))))&&(decide ((IntKind.wrap .i64 ((v11.length:Int)-1))<(v11.length:Int))))<|
  ay ((decide (0<=v0))&&(decide (v0<(fq.length:Int))))<|
  (kN.f k v1 v2 v3 v4 v5 v6 v7 v8 (v11.getD ((IntKind.wrap .i64 ((v11.length:Int)-1)).toNat) 0) (fq.getD v0.toNat 0)).bind fun r4=>
  bif r4 then
   ay ((decide (0<=v0))&&(decide (v0<(fq.length:Int))))<|
   ay (decide ((eZ.length+1)*8<=room))<|
   rec (IntKind.wrap .i64 (v0+1)) (eZ++[fq.getD v0.toNat 0])
  else
   rec (IntKind.wrap .i64 (v0+1)) eZ
 else
  e0 eZ
def cr.l6 {R:Type} (k:Nat) (v1 v2:Int) (v3 v4:Bool) (v5 v6:LI) (v7 v8:Int) (v11 fq:LI) (e0:LI->Option R) (n:Nat) (v0:Int) (eZ:LI):Option R:=
 V.iter (A:=Int×LI) (fun rec a=>cr.s6 k v1 v2 v3 v4 v5 v6 v7 v8 v11 fq e0 (fun c0 c1=>rec (c0,c1)) a.1 a.2) n (v0,eZ)
theorem cr.iz {R:Type} (k:Nat) (v1 v2:Int) (v3 v4:Bool) (v5 v6:LI) (v7 v8:Int) (v11 fq:LI) (e0:LI->Option R) (n:Nat) (v0:Int) (eZ:LI):cr.l6 (R:=R) k v1 v2 v3 v4 v5 v6 v7 v8 v11 fq e0 (n+1) v0 eZ=cr.s6 k v1 v2 v3 v4 v5 v6 v7 v8 v11 fq e0 (cr.l6 k v1 v2 v3 v4 v5 v6 v7 v8 v11 fq e0 n) v0 eZ:=rfl
def cr.f (k:Nat) (a0 a1:Int) (a2 a3:Bool) (a4 a5:LI) (a6 a7:Int) (a8:LL) (a9 de:LI) (cK a12 dq:Int):Option (LI):=
 (bh.f k a0 a1 a2 a3 a4 a5 a6 a7 a8 a9 de cK a12 dq).bind fun r1=>
 bif (!r1) then
  some ([])
 else
  (fI.f k a0 a1 a2 a3 a4 a5 a6 a7 a8 a9 de cK a12 dq).bind fun r2=>
  bif r2 then
   some ([])
  else
   ay ((decide (0<=cK))&&(decide (cK<(a8.length:Int))))<|
   (bB.f k (a8.getD cK.toNat [])).bind fun r3=>
   cr.l6 k a0 a1 a2 a3 a4 a5 a6 a7 de r3 (fun x5=>
    some x5) k 0 []
def dN.s3 {R:Type} (k:Nat) (v0:LI) (v1:Int) (e0:LI->Option R) (rec:Int->LI->Option R) (v2:Int) (v3:LI):Option R:=
 bif decide (v2<(v0.length:Int)) then
  ay ((decide (0<=v2))&&(decide (v2<(v0.length:Int))))<|
  bif ((v0.getD v2.toNat 0) != v1) then
   ay ((decide (0<=v2))&&(decide (v2<(v0.length:Int))))<|
   ay (decide ((v3.length+1)*8<=room))<|
   rec (IntKind.wrap .i64 (v2+1)) (v3++[v0.getD v2.toNat 0])
  else
   rec (IntKind.wrap .i64 (v2+1)) v3
 else
  e0 v3
def dN.l3 {R:Type} (k:Nat) (v0:LI) (v1:Int) (e0:LI->Option R) (n:Nat) (v2:Int) (v3:LI):Option R:=
 V.iter (A:=Int×LI) (fun rec a=>dN.s3 k v0 v1 e0 (fun c0 c1=>rec (c0,c1)) a.1 a.2) n (v2,v3)
theorem dN.aA {R:Type} (k:Nat) (v0:LI) (v1:Int) (e0:LI->Option R) (n:Nat) (v2:Int) (v3:LI):dN.l3 (R:=R) k v0 v1 e0 (n+1) v2 v3=dN.s3 k v0 v1 e0 (dN.l3 k v0 v1 e0 n) v2 v3:=rfl
def dN.f (k:Nat) (a:LI) (g:Int):Option (LI):=
 dN.l3 k a g (fun x1=>
  some x1) k 0 []
def jG.f (k:Nat) (a0 a1:Int) (a2 a3:Bool) (a4 a5:LI) (a6 a7 g:Int):Option (Bool):=
 (dz.f k a0 a1 a2 a3 a4 a5 a6 a7).bind fun r1=>
 bif r1 then
  (cc.f k a5 g).bind fun r2=>
  some r2
 else
  some false
def kO.f (k:Nat) (a0 a1:Int) (a2 a3:Bool) (a4 a5:LI) (a6 a7:Int) (a8:LL) (a9 de:LI) (cK a12 dq g:Int):Option (Int×Int×Bool×Bool×LI×LI×Int×Int×LL×LI×LI×Int×Int×Int×Bool):=
 (eo.f k a0 a1 a2 a3 a4 a5 a6 a7 a8 a9 de cK a12 dq).bind fun r1=>
 (cr.f k a0 a1 a2 a3 a4 a5 a6 a7 a8 a9 de cK a12 dq).bind fun r2=>
 (bU.f k r2 g).bind fun r3=>
 bif (!r3) then
  some (r1.1,r1.2.1,(t2 r1).1,(t3 r1).1,(t4 r1).1,(t5 r1).1,(t6 r1).1,(t7 r1).1,(t8 r1).1,(t9 r1).1,(t9 r1.2).1,(t9 (t2 r1)).1,(t9 (t3 r1)).1,(t9 (t4 r1)),false)
 else
  ay ((decide (0<=cK))&&(decide (cK<(a8.length:Int))))<|
  (dN.f k (a8.getD cK.toNat []) g).bind fun r4=>
  ay ((decide (0<=cK))&&(decide (cK<((t8 r1).1.length:Int))))<|
  ay (decide (((t9 r1.2).1.length+1)*8<=room))<|
  (jG.f k a0 a1 a2 a3 a4 a5 a6 a7 g).bind fun r5=>
  bif r5 then
   ay (!(decide (a0=0)))<|
   some (r1.1,r1.2.1,(t2 r1).1,(t3 r1).1,(t4 r1).1,(t5 r1).1,(t6 r1).1,(t7 r1).1,(t8 r1).1.set cK.toNat r4,(t9 r1).1,(t9 r1.2).1++[g],(IntKind.wrap .i64 (cK+2)).tmod a0,IntKind.wrap .i64 (a12+1),0,true)
  else
   ay (!(decide (a0=0)))<|
   some (r1.1,r1.2.1,(t2 r1).1,(t3 r1).1,(t4 r1).1,(t5 r1).1,(t6 r1).1,(t7 r1).1,(t8 r1).1.set cK.toNat r4,(t9 r1).1,(t9 r1.2).1++[g],(IntKind.wrap .i64 (cK+1)).tmod a0,IntKind.wrap .i64 (a12+1),0,true)
def fA.f (k:Nat) (a0 a1:Int) (a2 a3:Bool) (a4 a5:LI) (a6 a7:Int) (a8:LL) (a9 de:LI) (cK a12 dq g:Int):Option (Int×Int×Bool×Bool×LI×LI×Int×Int×LL×LI×LI×Int×Int×Int×Bool):=
 bif (g==(-1)) then
  (b_.f k a0 a1 a2 a3 a4 a5 a6 a7 a8 a9 de cK a12 dq).bind fun r1=>
  some r1
 else
  (kO.f k a0 a1 a2 a3 a4 a5 a6 a7 a8 a9 de cK a12 dq g).bind fun r2=>
  some r2
def cR.s3 {R:Type} (k:Nat) (v0:LI) (e0:Int->Int->Int->Bool->Bool->Int->Int->Int->Int->Int->LI->LI->LL->LI->LI->Option R) (e1:Int->Int->Bool->Bool->Int->Int->Int->Int->Int->LI->LI->LL->LI->LI->Option R) (rec:Int->Int->Int->Bool->Bool->Int->Int->Int->Int->Int->LI->LI->LL->LI->LI->Option R) (v1 v11 v12:Int) (fG fH:Bool) (eZ fq gw jF iS:Int) (v20 v21:LI) (iR:LL) (ij v24:LI):Option R:=
 bif decide (v1<(v0.length:Int)) then
  ay ((decide (0<=v1))&&(decide (v1<(v0.length:Int))))<|
  (fA.f k v11 v12 fG fH v20 v21 eZ fq iR ij v24 gw jF iS (v0.getD v1.toNat 0)).bind fun r2=>
  bif (!(t9 (t5 r2))) then
   e0 v1 v11 v12 fG fH eZ fq gw jF iS v20 v21 iR ij v24
  else
   rec (IntKind.wrap .i64 (v1+1)) r2.1 r2.2.1 (t2 r2).1 (t3 r2).1 (t6 r2).1 (t7 r2).1 (t9 (t2 r2)).1 (t9 (t3 r2)).1 (t9 (t4 r2)).1 (t4 r2).1 (t5 r2).1 (t8 r2).1 (t9 r2).1 (t9 r2.2).1
 else
  e1 v11 v12 fG fH eZ fq gw jF iS v20 v21 iR ij v24
def cR.l3 {R:Type} (k:Nat) (v0:LI) (e0:Int->Int->Int->Bool->Bool->Int->Int->Int->Int->Int->LI->LI->LL->LI->LI->Option R) (e1:Int->Int->Bool->Bool->Int->Int->Int->Int->Int->LI->LI->LL->LI->LI->Option R) (n:Nat) (v1 v11 v12:Int) (fG fH:Bool) (eZ fq gw jF iS:Int) (v20 v21:LI) (iR:LL) (ij v24:LI):Option R:=
 V.iter (A:=Int×Int×Int×Bool×Bool×Int×Int×Int×Int×Int×LI×LI×LL×LI×LI) (fun rec a=>cR.s3 k v0 e0 e1 (fun c0 c1 c2 c3 c4 c5 c6 c7 c8 c9 Om On c12 Oo Oq=>rec (c0,c1,c2,c3,c4,c5,c6,c7,c8,c9,Om,On,c12,Oo,Oq)) a.1 a.2.1 (t2 a).1 (t3 a).1 (t4 a).1 (t5 a).1 (t6 a).1 (t7 a).1 (t8 a).1 (t9 a).1 (t9 a.2).1 (t9 (t2 a)).1 (t9 (t3 a)).1 (t9 (t4 a)).1 (t9 (t5 a))) n (v1,v11,v12,fG,fH,eZ,fq,gw,jF,iS,v20,v21,iR,ij,v24)
theorem cR.aA {R:Type} (k:Nat) (v0:LI) (e0:Int->Int->Int->Bool->Bool->Int->Int->Int->Int->Int->LI->LI->LL->LI->LI->Option R) (e1:Int->Int->Bool->Bool->Int->Int->Int->Int->Int->LI->LI->LL->LI->LI->Option R) (n:Nat) (v1 v11 v12:Int) (fG fH:Bool) (eZ fq gw jF iS:Int) (v20 v21:LI) (iR:LL) (ij v24:LI):cR.l3 (R:=R) k v0 e0 e1 (n+1) v1 v11 v12 fG fH eZ fq gw jF iS v20 v21 iR ij v24=cR.s3 k v0 e0 e1 (cR.l3 k v0 e0 e1 n) v1 v11 v12 fG fH eZ fq gw jF iS v20 v21 iR ij v24:=rfl
def cR.f (k:Nat) (a0 a1:Int) (a2 a3:Bool) (a4 a5:LI) (a6 a7:Int) (a8:LL) (a9 de:LI) (cK a12 dq:Int) (g:LI):Option (Int×Int×Bool×Bool×LI×LI×Int×Int×LL×LI×LI×Int×Int×Int×Int):=
 (eo.f k a0 a1 a2 a3 a4 a5 a6 a7 a8 a9 de cK a12 dq).bind fun r1=>
 cR.l3 k g (fun x3 x4 x5 x6 x7 x8 x9 LS LU Je N2 N3 LW LX LY=>
  some (x4,x5,x6,x7,N2,N3,x8,x9,LW,LX,LY,LS,LU,Je,x3)) (fun LZ L0 L1 L2 L3 L4 L5 L6 L7 L8 L9 L_ Ma Mb=>
  some (LZ,L0,L1,L2,L8,L9,L3,L4,L_,Ma,Mb,L5,L6,L7,(g.length:Int))) k 0 r1.1 r1.2.1 (t2 r1).1 (t3 r1).1 (t6 r1).1 (t7 r1).1 (t9 (t2 r1)).1 (t9 (t3 r1)).1 (t9 (t4 r1)) (t4 r1).1 (t5 r1).1 (t8 r1).1 (t9 r1).1 (t9 r1.2).1
def iL.f (k:Nat) (a0 a1:Int) (a2 a3:Bool) (a4 a5:LI) (a6 a7:Int) (a8:LI) (a9:Bool) (de:LI) (cK a12:Int) (dq fW:Bool) (fX fY:LI) (fZ f_:Int) (fT:LL) (a20 a21:LI) (ga fU a24:Int) (gq:LI) (gB:LL):Option (Bool):=
 (dz.f k a0 a1 a2 a3 a4 a5 a6 a7).bind fun r1=>
 bif (!r1) then
  some false
 else
  bif decide ((a8.length:Int)>a0) then
   some false
  else
   (dM.f k a0 gB).bind fun r2=>
   bif (!r2) then
    some false
   else
    bif (!a9) then
     bif ((de.length:Int)==0) then
      bif ((gq.length:Int)==0) then
       (bf.f k cK a12 dq fW fX fY fZ f_ fT a20 a21 ga fU a24 0 0 false false [] [] 0 0 [] [] [] 0 0 0).bind fun r3=>
       some r3
      else
       some false
     else
      some false
    else
     (hR.f k a0 a1 a2 a3 a4 a5 a6 a7 de).bind fun r4=>
     (cR.f k r4.1 r4.2.1 (t2 r4).1 (t3 r4).1 (t4 r4).1 (t5 r4).1 (t6 r4).1 (t7 r4).1 (t8 r4).1 (t9 r4).1 (t9 r4.2).1 (t9 (t2 r4)).1 (t9 (t3 r4)).1 (t9 (t4 r4)).1 gq).bind fun r5=>
     bif (t9 (t5 r4)) then
      bif ((a8.length:Int)==a0) then
       bif ((t9 (t5 r5))==(gq.length:Int)) then
        (bf.f k r5.1 r5.2.1 (t2 r5).1 (t3 r5).1 (t4 r5).1 (t5 r5).1 (t6 r5).1 (t7 r5).1 (t8 r5).1 (t9 r5).1 (t9 r5.2).1 (t9 (t2 r5)).1 (t9 (t3 r5)).1 (t9 (t4 r5)).1 cK a12 dq fW fX fY fZ f_ fT a20 a21 ga fU a24).bind fun r6=>
        some r6
       else
        some false
      else
       some false
     else
      some false
def cV.f (k:Nat) (a0 a1:Int) (a2 a3:Bool) (a4 a5:LI) (a6 a7:Int) (a8:LI) (a9:Bool) (de:LI) (cK a12:Int) (dq fW:Bool) (fX fY:LI) (fZ f_:Int) (fT:LL) (a20 a21:LI) (ga fU a24:Int) (gq:LI) (gB:LL) (g0 g1:Int) (g2 g3:Bool) (g4 g5:LI) (g6 g7:Int) (g8:LI) (g9:Bool) (g10:LI) (g11 g12:Int) (g13 g14:Bool) (g15 g16:LI) (g17 g18:Int) (g19:LL) (g20 g21:LI) (g22 g23 g24:Int) (Ok:LI) (Ol:LL) (i:Bool):Option (Int×Int×Bool×Bool×LI×LI×Int×Int×LI×Bool×LI×Int×Int×Bool×Bool×LI×LI×Int×Int×LL×LI×LI×Int×Int×Int×LI×LL×Bool):=
 bif (!i) then
  (bM.f k a0 a1 a2 a3 a4 a5 a6 a7 a8 a9 de cK a12 dq fW fX fY fZ f_ fT a20 a21 ga fU a24 gq gB).bind fun r1=>
  some (r1.1,r1.2.1,(t2 r1).1,(t3 r1).1,(t4 r1).1,(t5 r1).1,(t6 r1).1,(t7 r1).1,(t8 r1).1,(t9 r1).1,(t9 r1.2).1,(t9 (t2 r1)).1,(t9 (t3 r1)).1,(t9 (t4 r1)).1,(t9 (t5 r1)).1,(t9 (t6 r1)).1,(t9 (t7 r1)).1,(t9 (t8 r1)).1,(t9 (t9 r1)).1,(t9 (t9 r1.2)).1,(t9 (t9 (t2 r1))).1,(t9 (t9 (t3 r1))).1,(t9 (t9 (t4 r1))).1,(t9 (t9 (t5 r1))).1,(t9 (t9 (t6 r1))).1,(t9 (t9 (t7 r1))).1,(t9 (t9 (t8 r1))),false)
 else
  (iL.f k a0 a1 a2 a3 a4 a5 a6 a7 a8 a9 de cK a12 dq fW fX fY fZ f_ fT a20 a21 ga fU a24 gq gB).bind fun r2=>
  bif (!r2) then
   (bM.f k a0 a1 a2 a3 a4 a5 a6 a7 a8 a9 de cK a12 dq fW fX fY fZ f_ fT a20 a21 ga fU a24 gq gB).bind fun r3=>
   some (r3.1,r3.2.1,(t2 r3).1,(t3 r3).1,(t4 r3).1,(t5 r3).1,(t6 r3).1,(t7 r3).1,(t8 r3).1,(t9 r3).1,(t9 r3.2).1,(t9 (t2 r3)).1,(t9 (t3 r3)).1,(t9 (t4 r3)).1,(t9 (t5 r3)).1,(t9 (t6 r3)).1,(t9 (t7 r3)).1,(t9 (t8 r3)).1,(t9 (t9 r3)).1,(t9 (t9 r3.2)).1,(t9 (t9 (t2 r3))).1,(t9 (t9 (t3 r3))).1,(t9 (t9 (t4 r3))).1,(t9 (t9 (t5 r3))).1,(t9 (t9 (t6 r3))).1,(t9 (t9 (t7 r3))).1,(t9 (t9 (t8 r3))),false)
  else
   (iL.f k g0 g1 g2 g3 g4 g5 g6 g7 g8 g9 g10 g11 g12 g13 g14 g15 g16 g17 g18 g19 g20 g21 g22 g23 g24 Ok Ol).bind fun r4=>
   bif (!r4) then
    (bM.f k a0 a1 a2 a3 a4 a5 a6 a7 a8 a9 de cK a12 dq fW fX fY fZ f_ fT a20 a21 ga fU a24 gq gB).bind fun r5=>
    some (r5.1,r5.2.1,(t2 r5).1,(t3 r5).1,(t4 r5).1,(t5 r5).1,(t6 r5).1,(t7 r5).1,(t8 r5).1,(t9 r5).1,(t9 r5.2).1,(t9 (t2 r5)).1,(t9 (t3 r5)).1,(t9 (t4 r5)).1,(t9 (t5 r5)).1,(t9 (t6 r5)).1,(t9 (t7 r5)).1,(t9 (t8 r5)).1,(t9 (t9 r5)).1,(t9 (t9 r5.2)).1,(t9 (t9 (t2 r5))).1,(t9 (t9 (t3 r5))).1,(t9 (t9 (t4 r5))).1,(t9 (t9 (t5 r5))).1,(t9 (t9 (t6 r5))).1,(t9 (t9 (t7 r5))).1,(t9 (t9 (t8 r5))),false)
   else
    some (g0,g1,g2,g3,g4,g5,g6,g7,g8,g9,g10,g11,g12,g13,g14,g15,g16,g17,g18,g19,g20,g21,g22,g23,g24,Ok,Ol,true)
def fB.f (k:Nat) (a0 a1:Int) (a2 a3:Bool) (a4 a5:LI) (a6 a7:Int) (a8:LI) (a9:Bool) (de:LI) (cK a12:Int) (dq fW:Bool) (fX fY:LI) (fZ f_:Int) (fT:LL) (a20 a21:LI) (ga fU a24:Int) (gq:LI) (gB:LL) (g:Int):Option (Int×Int×Bool×Bool×LI×LI×Int×Int×LI×Bool×LI×Int×Int×Bool×Bool×LI×LI×Int×Int×LL×LI×LI×Int×Int×Int×LI×LL×Bool):=
 (bM.f k a0 a1 a2 a3 a4 a5 a6 a7 a8 a9 de cK a12 dq fW fX fY fZ f_ fT a20 a21 ga fU a24 gq gB).bind fun r1=>
 ay (decide (((t8 r1).1.length+1)*8<=room))<|
 (cV.f k a0 a1 a2 a3 a4 a5 a6 a7 a8 a9 de cK a12 dq fW fX fY fZ f_ fT a20 a21 ga fU a24 gq gB r1.1 r1.2.1 (t2 r1).1 (t3 r1).1 (t4 r1).1 (t5 r1).1 (t6 r1).1 (t7 r1).1 ((t8 r1).1++[g]) (t9 r1).1 (t9 r1.2).1 (t9 (t2 r1)).1 (t9 (t3 r1)).1 (t9 (t4 r1)).1 (t9 (t5 r1)).1 (t9 (t6 r1)).1 (t9 (t7 r1)).1 (t9 (t8 r1)).1 (t9 (t9 r1)).1 (t9 (t9 r1.2)).1 (t9 (t9 (t2 r1))).1 (t9 (t9 (t3 r1))).1 (t9 (t9 (t4 r1))).1 (t9 (t9 (t5 r1))).1 (t9 (t9 (t6 r1))).1 (t9 (t9 (t7 r1))).1 (t9 (t9 (t8 r1))) (!a9)).bind fun r2=>
 some r2
def iT.f (k:Nat) (a g:Int):Option (Int):=
 (aO.f k g 1 1000000000000).bind fun r1=>
 bif (!r1) then
  some 0
 else
  ay (!(decide (g=0)))<|
  ay (!(decide (g=0)))<|
  some ((IntKind.wrap .i64 ((a.tmod g)+g)).tmod g)
def e_.s3 {R:Type} (k:Nat) (v0:LI) (e0:Int->Option R) (rec:Int->Int->Option R) (v1 v2:Int):Option R:=
 bif decide (v2<(v0.length:Int)) then
  ay ((decide (0<=v2))&&(decide (v2<(v0.length:Int))))<|
  (iT.f k (v0.getD v2.toNat 0) 2147483647).bind fun r1=>
  rec ((IntKind.wrap .i64 ((IntKind.wrap .i64 ((IntKind.wrap .i64 (v1*1000003))+r1))+13)).tmod 2147483647) (IntKind.wrap .i64 (v2+1))
 else
  e0 v1
def e_.l3 {R:Type} (k:Nat) (v0:LI) (e0:Int->Option R) (n:Nat) (v1 v2:Int):Option R:=
 V.iter (A:=Int×Int) (fun rec a=>e_.s3 k v0 e0 (fun c0 c1=>rec (c0,c1)) a.1 a.2) n (v1,v2)
theorem e_.aA {R:Type} (k:Nat) (v0:LI) (e0:Int->Option R) (n:Nat) (v1 v2:Int):e_.l3 (R:=R) k v0 e0 (n+1) v1 v2=e_.s3 k v0 e0 (e_.l3 k v0 e0 n) v1 v2:=rfl
def e_.f (k:Nat) (a:LI):Option (Int):=
 e_.l3 k a (fun x2=>
  some x2) k 11 0
def d_.f (k:Nat) (a g i:Int):Option (Int):=
 (e_.f k [a,g,i]).bind fun r1=>
 some r1
def ko.f (k:Nat) (a0 a1:Int) (a2 a3:Bool) (a4 a5:LI) (a6 a7:Int) (a8:LL) (a9 de:LI) (cK a12 dq:Int):Option (Bool):=
 (bh.f k a0 a1 a2 a3 a4 a5 a6 a7 a8 a9 de cK a12 dq).bind fun r1=>
 bif r1 then
  (fI.f k a0 a1 a2 a3 a4 a5 a6 a7 a8 a9 de cK a12 dq).bind fun r2=>
  some r2
 else
  some false
def kp.f (k:Nat) (a:Int):Option (Int):=
 (eQ.f k a).bind fun r1=>
 bif decide (r1<0) then
  some 0
 else
  bif decide (r1<=8) then
   some (IntKind.wrap .i64 (r1+2))
  else
   bif (r1==12) then
    some 1
   else
    some 10
def eh.s3 {R:Type} (k:Nat) (v0:LI) (e0:Int->Option R) (rec:Int->Int->Option R) (v1 v2:Int):Option R:=
 bif decide (v2<(v0.length:Int)) then
  ay ((decide (0<=v2))&&(decide (v2<(v0.length:Int))))<|
  (kp.f k (v0.getD v2.toNat 0)).bind fun r1=>
  rec (IntKind.wrap .i64 (v1+r1)) (IntKind.wrap .i64 (v2+1))
 else
  e0 v1
def eh.l3 {R:Type} (k:Nat) (v0:LI) (e0:Int->Option R) (n:Nat) (v1 v2:Int):Option R:=
 V.iter (A:=Int×Int) (fun rec a=>eh.s3 k v0 e0 (fun c0 c1=>rec (c0,c1)) a.1 a.2) n (v1,v2)
theorem eh.aA {R:Type} (k:Nat) (v0:LI) (e0:Int->Option R) (n:Nat) (v1 v2:Int):eh.l3 (R:=R) k v0 e0 (n+1) v1 v2=eh.s3 k v0 e0 (eh.l3 k v0 e0 n) v1 v2:=rfl
def eh.f (k:Nat) (a:LI):Option (Int):=
 eh.l3 k a (fun x2=>
  some x2) k 0 0
def cj.s3 {R:Type} (k:Nat) (v9:LL) (e0:LI->Option R) (rec:Int->LI->Option R) (v0:Int) (eZ:LI):Option R:=
 bif decide (v0<(v9.length:Int)) then
  ay ((decide (0<=v0))&&(decide (v0<(v9.length:Int))))<|
  (eh.f k (v9.getD v0.toNat [])).bind fun r1=>
  ay (decide ((eZ.length+1)*8<=room))<|
  rec (IntKind.wrap .i64 (v0+1)) (eZ++[r1])
 else
  e0 eZ
def cj.l3 {R:Type} (k:Nat) (v9:LL) (e0:LI->Option R) (n:Nat) (v0:Int) (eZ:LI):Option R:=
 V.iter (A:=Int×LI) (fun rec a=>cj.s3 k v9 e0 (fun c0 c1=>rec (c0,c1)) a.1 a.2) n (v0,eZ)
theorem cj.aA {R:Type} (k:Nat) (v9:LL) (e0:LI->Option R) (n:Nat) (v0:Int) (eZ:LI):cj.l3 (R:=R) k v9 e0 (n+1) v0 eZ=cj.s3 k v9 e0 (cj.l3 k v9 e0 n) v0 eZ:=rfl
def cj.f (k:Nat) (a0 a1:Int) (a2 a3:Bool) (a4 a5:LI) (a6 a7:Int) (a8:LL) (a9 de:LI) (cK a12 dq:Int):Option (LI):=
 cj.l3 k a8 (fun x2=>
  some x2) k 0 []
def kP.f (k:Nat) (a0 a1:Int) (a2 a3:Bool) (a4 a5:LI) (a6 a7:Int) (a8:LL) (a9 de:LI) (cK a12 dq:Int):Option (Int):=
 (bh.f k a0 a1 a2 a3 a4 a5 a6 a7 a8 a9 de cK a12 dq).bind fun r1=>
 bif (!r1) then
  some (-1)
 else
  (cq.f k a0 a1 a2 a3 a4 a5 a6 a7 a8 a9 de cK a12 dq).bind fun r2=>
  some r2
def aW.ZZ {R:Type} (k:Nat) (iS:LI) (e0:Int->Option R) (rec:Int->Int->Option R) (v2 v3:Int):Option R:=
 bif decide (v3<(iS.length:Int)) then
  ay ((decide (0<=v3))&&(decide (v3<(iS.length:Int))))<|
  rec (IntKind.wrap .i64 (v2+(iS.getD v3.toNat 0))) (IntKind.wrap .i64 (v3+1))
 else
  e0 v2
def aW.Vf {R:Type} (k:Nat) (iS:LI) (e0:Int->Option R) (n:Nat) (v2 v3:Int):Option R:=
 V.iter (A:=Int×Int) (fun rec a=>aW.ZZ k iS e0 (fun c0 c1=>rec (c0,c1)) a.1 a.2) n (v2,v3)
theorem aW.G8 {R:Type} (k:Nat) (iS:LI) (e0:Int->Option R) (n:Nat) (v2 v3:Int):aW.Vf (R:=R) k iS e0 (n+1) v2 v3=aW.ZZ k iS e0 (aW.Vf k iS e0 n) v2 v3:=rfl
def aW.s5 {R:Type} (k:Nat) (v0 v2 v3:Int) (v4 v5:Bool) (v6 v7:LI) (v8 v9:Int) (v10:LL) (v11 v12:LI) (fG fH eZ:Int) (gw:LI) (e0:LI->Option R) (rec:Int->LI->Option R) (v1:Int) (fq:LI):Option R:=
 bif decide (v1<(gw.length:Int)) then
  (bh.f k v2 v3 v4 v5 v6 v7 v8 v9 v10 v11 v12 fG fH eZ).bind fun r3=>
  bif r3 then
   bif decide (v0<0) then
    ay (decide ((fq.length+1)*8<=room))<|
    rec (IntKind.wrap .i64 (v1+1)) (fq++[0])
   else
    bif (v1==v0) then
     aW.Vf k gw (fun x4=>
      ay (decide ((fq.length+1)*8<=room))<|
      rec (IntKind.wrap .i64 (v1+1)) (fq++[x4])) k 0 0
    else
     ay ((decide (0<=v1))&&(decide (v1<(gw.length:Int))))<|
     ay (decide ((fq.length+1)*8<=room))<|
     rec (IntKind.wrap .i64 (v1+1)) (fq++[IntKind.wrap .i64 (0-(gw.getD v1.toNat 0))])
  else
   e0 fq
 else
  e0 fq
def aW.l5 {R:Type} (k:Nat) (v0 v2 v3:Int) (v4 v5:Bool) (v6 v7:LI) (v8 v9:Int) (v10:LL) (v11 v12:LI) (fG fH eZ:Int) (gw:LI) (e0:LI->Option R) (n:Nat) (v1:Int) (fq:LI):Option R:=
 V.iter (A:=Int×LI) (fun rec a=>aW.s5 k v0 v2 v3 v4 v5 v6 v7 v8 v9 v10 v11 v12 fG fH eZ gw e0 (fun c0 c1=>rec (c0,c1)) a.1 a.2) n (v1,fq)
theorem aW.bp {R:Type} (k:Nat) (v0 v2 v3:Int) (v4 v5:Bool) (v6 v7:LI) (v8 v9:Int) (v10:LL) (v11 v12:LI) (fG fH eZ:Int) (gw:LI) (e0:LI->Option R) (n:Nat) (v1:Int) (fq:LI):aW.l5 (R:=R) k v0 v2 v3 v4 v5 v6 v7 v8 v9 v10 v11 v12 fG fH eZ gw e0 (n+1) v1 fq=aW.s5 k v0 v2 v3 v4 v5 v6 v7 v8 v9 v10 v11 v12 fG fH eZ gw e0 (aW.l5 k v0 v2 v3 v4 v5 v6 v7 v8 v9 v10 v11 v12 fG fH eZ gw e0 n) v1 fq:=rfl
def aW.f (k:Nat) (a0 a1:Int) (a2 a3:Bool) (a4 a5:LI) (a6 a7:Int) (a8:LL) (a9 de:LI) (cK a12 dq:Int):Option (LI):=
 (cj.f k a0 a1 a2 a3 a4 a5 a6 a7 a8 a9 de cK a12 dq).bind fun r1=>
 (kP.f k a0 a1 a2 a3 a4 a5 a6 a7 a8 a9 de cK a12 dq).bind fun r2=>
 aW.l5 k r2 a0 a1 a2 a3 a4 a5 a6 a7 a8 a9 de cK a12 dq r1 (fun x5=>
  some x5) k 0 []
def gg.f (k:Nat) (a0 a1:Int) (a2 a3:Bool) (a4 a5:LI) (a6 a7:Int) (a8:LI) (a9:Bool) (de:LI) (cK a12:Int) (dq fW:Bool) (fX fY:LI) (fZ f_:Int) (fT:LL) (a20 a21:LI) (ga fU a24:Int) (gq:LI) (gB:LL):Option (Int×Int×Bool×Bool×LI×LI×Int×Int×LI×Bool×LI×Int×Int×Bool×Bool×LI×LI×Int×Int×LL×LI×LI×Int×Int×Int×LI×LL×Bool):=
 (bM.f k a0 a1 a2 a3 a4 a5 a6 a7 a8 a9 de cK a12 dq fW fX fY fZ f_ fT a20 a21 ga fU a24 gq gB).bind fun r1=>
 bif (!a9) then
  some (r1.1,r1.2.1,(t2 r1).1,(t3 r1).1,(t4 r1).1,(t5 r1).1,(t6 r1).1,(t7 r1).1,(t8 r1).1,(t9 r1).1,(t9 r1.2).1,(t9 (t2 r1)).1,(t9 (t3 r1)).1,(t9 (t4 r1)).1,(t9 (t5 r1)).1,(t9 (t6 r1)).1,(t9 (t7 r1)).1,(t9 (t8 r1)).1,(t9 (t9 r1)).1,(t9 (t9 r1.2)).1,(t9 (t9 (t2 r1))).1,(t9 (t9 (t3 r1))).1,(t9 (t9 (t4 r1))).1,(t9 (t9 (t5 r1))).1,(t9 (t9 (t6 r1))).1,(t9 (t9 (t7 r1))).1,(t9 (t9 (t8 r1))),false)
 else
  (ko.f k cK a12 dq fW fX fY fZ f_ fT a20 a21 ga fU a24).bind fun r2=>
  bif (!r2) then
   some (r1.1,r1.2.1,(t2 r1).1,(t3 r1).1,(t4 r1).1,(t5 r1).1,(t6 r1).1,(t7 r1).1,(t8 r1).1,(t9 r1).1,(t9 r1.2).1,(t9 (t2 r1)).1,(t9 (t3 r1)).1,(t9 (t4 r1)).1,(t9 (t5 r1)).1,(t9 (t6 r1)).1,(t9 (t7 r1)).1,(t9 (t8 r1)).1,(t9 (t9 r1)).1,(t9 (t9 r1.2)).1,(t9 (t9 (t2 r1))).1,(t9 (t9 (t3 r1))).1,(t9 (t9 (t4 r1))).1,(t9 (t9 (t5 r1))).1,(t9 (t9 (t6 r1))).1,(t9 (t9 (t7 r1))).1,(t9 (t9 (t8 r1))),false)
  else
   (aW.f k cK a12 dq fW fX fY fZ f_ fT a20 a21 ga fU a24).bind fun r3=>
   ay (decide (((t9 (t9 (t8 r1))).length+1)*24<=room))<|
   (cV.f k a0 a1 a2 a3 a4 a5 a6 a7 a8 a9 de cK a12 dq fW fX fY fZ f_ fT a20 a21 ga fU a24 gq gB r1.1 r1.2.1 (t2 r1).1 (t3 r1).1 (t4 r1).1 (t5 r1).1 (t6 r1).1 (t7 r1).1 [] false [] 0 0 false false [] [] 0 0 [] [] [] 0 0 0 [] ((t9 (t9 (t8 r1)))++[r3]) true).bind fun r4=>
   some r4
def jH.f (k:Nat) (a g i j:Int):Option (Bool):=
 (aO.f k g 0 1000000).bind fun r1=>
 bif r1 then
  (aO.f k i 0 1000000).bind fun r2=>
  bif r2 then
   (d_.f k a g i).bind fun r3=>
   some (r3==j)
  else
   some false
 else
  some false
def cy.s4 {R:Type} (k:Nat) (v0 v1 v2:LI) (e0 e1:Option R) (rec:Int->Option R) (v3:Int):Option R:=
 bif decide (v3<(v0.length:Int)) then
  ay ((decide (0<=v3))&&(decide (v3<(v1.length:Int))))<|
  ay ((decide (0<=v3))&&(decide (v3<(v2.length:Int))))<|
  ay ((decide (0<=v3))&&(decide (v3<(v0.length:Int))))<|
  (jH.f k v3 (v1.getD v3.toNat 0) (v2.getD v3.toNat 0) (v0.getD v3.toNat 0)).bind fun r2=>
  bif (!r2) then
   e0
  else
   rec (IntKind.wrap .i64 (v3+1))
 else
  e1
def cy.l4 {R:Type} (k:Nat) (v0 v1 v2:LI) (e0 e1:Option R) (n:Nat) (v3:Int):Option R:=
 V.iter (A:=Int) (fun rec a=>cy.s4 k v0 v1 v2 e0 e1 (fun c0=>rec c0) a) n v3
theorem cy.hO {R:Type} (k:Nat) (v0 v1 v2:LI) (e0 e1:Option R) (n:Nat) (v3:Int):cy.l4 (R:=R) k v0 v1 v2 e0 e1 (n+1) v3=cy.s4 k v0 v1 v2 e0 e1 (cy.l4 k v0 v1 v2 e0 e1 n) v3:=rfl
def cy.f (k:Nat) (a g i:LI):Option (Bool):=
 (aO.f k (a.length:Int) 1 6).bind fun r1=>
 bif (!r1) then
  some false
 else
  bif ((g.length:Int) != (a.length:Int)) then
   some false
  else
   bif ((i.length:Int) != (a.length:Int)) then
    some false
   else
    cy.l4 k a g i (some false) (some true) k 0
def cu.s3 {R:Type} (k:Nat) (v0:Int) (e0:LI->Option R) (rec:Int->LI->Option R) (v1:Int) (v2:LI):Option R:=
 bif decide (v1>0) then
  (e_.f k [v0,v1]).bind fun r1=>
  (iT.f k r1 (IntKind.wrap .i64 (v1+1))).bind fun r2=>
  ay ((decide (0<=v1))&&(decide (v1<(v2.length:Int))))<|
  ay ((decide (0<=r2))&&(decide (r2<(v2.length:Int))))<|
  ay ((decide (0<=v1))&&(decide (v1<(v2.length:Int))))<|
  ay ((decide (0<=r2))&&(decide (r2<((v2.set v1.toNat (v2.getD r2.toNat 0)).length:Int))))<|
  rec (IntKind.wrap .i64 (v1-1)) ((v2.set v1.toNat (v2.getD r2.toNat 0)).set r2.toNat (v2.getD v1.toNat 0))
 else
  e0 v2
def cu.l3 {R:Type} (k:Nat) (v0:Int) (e0:LI->Option R) (n:Nat) (v1:Int) (v2:LI):Option R:=
 V.iter (A:=Int×LI) (fun rec a=>cu.s3 k v0 e0 (fun c0 c1=>rec (c0,c1)) a.1 a.2) n (v1,v2)
theorem cu.aA {R:Type} (k:Nat) (v0:Int) (e0:LI->Option R) (n:Nat) (v1:Int) (v2:LI):cu.l3 (R:=R) k v0 e0 (n+1) v1 v2=cu.s3 k v0 e0 (cu.l3 k v0 e0 n) v1 v2:=rfl
def cu.f (k:Nat) (a:LI) (g:Int):Option (LI):=
 ay (decide ((0+a.length)*8<=room))<|
 cu.l3 k g (fun x3=>
  some x3) k (IntKind.wrap .i64 ((([]++a).length:Int)-1)) ([]++a)
def dO.s3 {R:Type} (k:Nat) (v0:LI) (e0:LI->Option R) (rec:Int->LI->Option R) (v1:Int) (v2:LI):Option R:=
 bif decide (v1<52) then
  (bU.f k v0 v1).bind fun r1=>
  bif (!r1) then
   ay (decide ((v2.length+1)*8<=room))<|
   rec (IntKind.wrap .i64 (v1+1)) (v2++[v1])
  else
   rec (IntKind.wrap .i64 (v1+1)) v2
 else
  e0 v2
def dO.l3 {R:Type} (k:Nat) (v0:LI) (e0:LI->Option R) (n:Nat) (v1:Int) (v2:LI):Option R:=
 V.iter (A:=Int×LI) (fun rec a=>dO.s3 k v0 e0 (fun c0 c1=>rec (c0,c1)) a.1 a.2) n (v1,v2)
theorem dO.aA {R:Type} (k:Nat) (v0:LI) (e0:LI->Option R) (n:Nat) (v1:Int) (v2:LI):dO.l3 (R:=R) k v0 e0 (n+1) v1 v2=dO.s3 k v0 e0 (dO.l3 k v0 e0 n) v1 v2:=rfl
def dO.f (k:Nat) (a:LI):Option (LI):=
 dO.l3 k a (fun x2=>
  some x2) k 0 []
def jI.f (k:Nat):Option (LI):=
 (dO.f k []).bind fun r1=>
 some r1
def cz.s3 {R:Type} (k:Nat) (v0:LI) (e0:Int->Option R) (rec:Int->Int->Option R) (v1 v2:Int):Option R:=
 bif decide (v2<(v0.length:Int)) then
  ay ((decide (0<=v2))&&(decide (v2<(v0.length:Int))))<|
  (iT.f k (v0.getD v2.toNat 0) 1000001).bind fun r1=>
  rec ((IntKind.wrap .i64 (v1+r1)).tmod 1000001) (IntKind.wrap .i64 (v2+1))
 else
  e0 v1
def cz.l3 {R:Type} (k:Nat) (v0:LI) (e0:Int->Option R) (n:Nat) (v1 v2:Int):Option R:=
 V.iter (A:=Int×Int) (fun rec a=>cz.s3 k v0 e0 (fun c0 c1=>rec (c0,c1)) a.1 a.2) n (v1,v2)
theorem cz.aA {R:Type} (k:Nat) (v0:LI) (e0:Int->Option R) (n:Nat) (v1 v2:Int):cz.l3 (R:=R) k v0 e0 (n+1) v1 v2=cz.s3 k v0 e0 (cz.l3 k v0 e0 n) v1 v2:=rfl
def cz.f (k:Nat) (a:LI):Option (Int):=
 cz.l3 k a (fun x2=>
  some x2) k 0 0
def iU.f (k:Nat) (a g i:LI):Option (LI×Bool):=
 (cy.f k a g i).bind fun r1=>
 bif (!r1) then
  some ([],false)
 else
  (jI.f k).bind fun r2=>
  (cz.f k g).bind fun r3=>
  (cu.f k r2 r3).bind fun r4=>
  some (r4,true)
def jJ.f (k:Nat) (a0 a1:Int) (a2 a3:Bool) (a4 a5:LI) (a6 a7:Int) (a8:LI) (a9:Bool) (de:LI) (cK a12:Int) (dq fW:Bool) (fX fY:LI) (fZ f_:Int) (fT:LL) (a20 a21:LI) (ga fU a24:Int) (gq:LI) (gB:LL):Option (Bool):=
 bif ((a8.length:Int)==a0) then
  some (!a9)
 else
  some false
def jK.f (k:Nat) (a0 a1:Int) (a2 a3:Bool) (a4 a5:LI) (a6 a7:Int) (a8:LI) (a9:Bool) (de:LI) (cK a12:Int) (dq fW:Bool) (fX fY:LI) (fZ f_:Int) (fT:LL) (a20 a21:LI) (ga fU a24:Int) (gq:LI) (gB:LL) (g i:LI):Option (Int×Int×Bool×Bool×LI×LI×Int×Int×LI×Bool×LI×Int×Int×Bool×Bool×LI×LI×Int×Int×LL×LI×LI×Int×Int×Int×LI×LL×Bool):=
 (bM.f k a0 a1 a2 a3 a4 a5 a6 a7 a8 a9 de cK a12 dq fW fX fY fZ f_ fT a20 a21 ga fU a24 gq gB).bind fun r1=>
 (iU.f k a8 g i).bind fun r2=>
 (hR.f k a0 a1 a2 a3 a4 a5 a6 a7 r2.1).bind fun r3=>
 bif r2.2 then
  bif (t9 (t5 r3)) then
   (jJ.f k a0 a1 a2 a3 a4 a5 a6 a7 a8 a9 de cK a12 dq fW fX fY fZ f_ fT a20 a21 ga fU a24 gq gB).bind fun r4=>
   (cV.f k a0 a1 a2 a3 a4 a5 a6 a7 a8 a9 de cK a12 dq fW fX fY fZ f_ fT a20 a21 ga fU a24 gq gB r1.1 r1.2.1 (t2 r1).1 (t3 r1).1 (t4 r1).1 (t5 r1).1 (t6 r1).1 (t7 r1).1 (t8 r1).1 true r2.1 r3.1 r3.2.1 (t2 r3).1 (t3 r3).1 (t4 r3).1 (t5 r3).1 (t6 r3).1 (t7 r3).1 (t8 r3).1 (t9 r3).1 (t9 r3.2).1 (t9 (t2 r3)).1 (t9 (t3 r3)).1 (t9 (t4 r3)).1 (t9 (t9 (t7 r1))).1 (t9 (t9 (t8 r1))) r4).bind fun r5=>
   some r5
  else
   (cV.f k a0 a1 a2 a3 a4 a5 a6 a7 a8 a9 de cK a12 dq fW fX fY fZ f_ fT a20 a21 ga fU a24 gq gB r1.1 r1.2.1 (t2 r1).1 (t3 r1).1 (t4 r1).1 (t5 r1).1 (t6 r1).1 (t7 r1).1 (t8 r1).1 true r2.1 r3.1 r3.2.1 (t2 r3).1 (t3 r3).1 (t4 r3).1 (t5 r3).1 (t6 r3).1 (t7 r3).1 (t8 r3).1 (t9 r3).1 (t9 r3.2).1 (t9 (t2 r3)).1 (t9 (t3 r3)).1 (t9 (t4 r3)).1 (t9 (t9 (t7 r1))).1 (t9 (t9 (t8 r1))) false).bind fun r6=>
   some r6
 else
  (cV.f k a0 a1 a2 a3 a4 a5 a6 a7 a8 a9 de cK a12 dq fW fX fY fZ f_ fT a20 a21 ga fU a24 gq gB r1.1 r1.2.1 (t2 r1).1 (t3 r1).1 (t4 r1).1 (t5 r1).1 (t6 r1).1 (t7 r1).1 (t8 r1).1 true r2.1 r3.1 r3.2.1 (t2 r3).1 (t3 r3).1 (t4 r3).1 (t5 r3).1 (t6 r3).1 (t7 r3).1 (t8 r3).1 (t9 r3).1 (t9 r3.2).1 (t9 (t2 r3)).1 (t9 (t3 r3)).1 (t9 (t4 r3)).1 (t9 (t9 (t7 r1))).1 (t9 (t9 (t8 r1))) false).bind fun r7=>
  some r7
def bC.s4 {R:Type} (k:Nat) (v0:Int) (e0:Int->Int->Bool->Bool->LI->LI->Int->Int->LI->Bool->LI->Int->Int->Bool->Bool->LI->LI->Int->Int->LL->LI->LI->Int->Int->Int->LI->LL->LI->LI->Option R) (rec:Int->Int->Int->Bool->Bool->LI->LI->Int->Int->LI->Bool->LI->Int->Int->Bool->Bool->LI->LI->Int->Int->LL->LI->LI->Int->Int->Int->LI->LL->LI->LI->Option R) (v1 v2 v3:Int) (v4 v5:Bool) (v6 v7:LI) (v8 v9:Int) (v10:LI) (v11:Bool) (v12:LI) (fG fH:Int) (eZ fq:Bool) (gw jF:LI) (iS v20:Int) (v21:LL) (iR ij:LI) (v24 j4 j5:Int) (lg:LI) (v28:LL) (rq v46:LI):Option R:=
 bif decide (v1<v2) then
  (d_.f k v1 (IntKind.wrap .i64 (v0+v1)) 5).bind fun r1=>
  (fB.f k v2 v3 v4 v5 v6 v7 v8 v9 v10 v11 v12 fG fH eZ fq gw jF iS v20 v21 iR ij v24 j4 j5 lg v28 r1).bind fun r2=>
  ay (decide ((rq.length+1)*8<=room))<|
  ay (decide ((v46.length+1)*8<=room))<|
  rec (IntKind.wrap .i64 (v1+1)) r2.1 r2.2.1 (t2 r2).1 (t3 r2).1 (t4 r2).1 (t5 r2).1 (t6 r2).1 (t7 r2).1 (t8 r2).1 (t9 r2).1 (t9 r2.2).1 (t9 (t2 r2)).1 (t9 (t3 r2)).1 (t9 (t4 r2)).1 (t9 (t5 r2)).1 (t9 (t6 r2)).1 (t9 (t7 r2)).1 (t9 (t8 r2)).1 (t9 (t9 r2)).1 (t9 (t9 r2.2)).1 (t9 (t9 (t2 r2))).1 (t9 (t9 (t3 r2))).1 (t9 (t9 (t4 r2))).1 (t9 (t9 (t5 r2))).1 (t9 (t9 (t6 r2))).1 (t9 (t9 (t7 r2))).1 (t9 (t9 (t8 r2))).1 (rq++[IntKind.wrap .i64 (v0+v1)]) (v46++[5])
 else
  e0 v2 v3 v4 v5 v6 v7 v8 v9 v10 v11 v12 fG fH eZ fq gw jF iS v20 v21 iR ij v24 j4 j5 lg v28 rq v46
def bC.l4 {R:Type} (k:Nat) (v0:Int) (e0:Int->Int->Bool->Bool->LI->LI->Int->Int->LI->Bool->LI->Int->Int->Bool->Bool->LI->LI->Int->Int->LL->LI->LI->Int->Int->Int->LI->LL->LI->LI->Option R) (n:Nat) (v1 v2 v3:Int) (v4 v5:Bool) (v6 v7:LI) (v8 v9:Int) (v10:LI) (v11:Bool) (v12:LI) (fG fH:Int) (eZ fq:Bool) (gw jF:LI) (iS v20:Int) (v21:LL) (iR ij:LI) (v24 j4 j5:Int) (lg:LI) (v28:LL) (rq v46:LI):Option R:=
 V.iter (A:=Int×Int×Int×Bool×Bool×LI×LI×Int×Int×LI×Bool×LI×Int×Int×Bool×Bool×LI×LI×Int×Int×LL×LI×LI×Int×Int×Int×LI×LL×LI×LI) (fun rec a=>bC.s4 k v0 e0 (fun c0 c1 c2 c3 c4 c5 c6 c7 c8 c9 Om On c12 Oo Oq S7 S8 S9 S_ Ta c20 c21 Tc Td c24 Te Tf Tg c28 Yn=>rec (c0,c1,c2,c3,c4,c5,c6,c7,c8,c9,Om,On,c12,Oo,Oq,S7,S8,S9,S_,Ta,c20,c21,Tc,Td,c24,Te,Tf,Tg,c28,Yn)) a.1 a.2.1 (t2 a).1 (t3 a).1 (t4 a).1 (t5 a).1 (t6 a).1 (t7 a).1 (t8 a).1 (t9 a).1 (t9 a.2).1 (t9 (t2 a)).1 (t9 (t3 a)).1 (t9 (t4 a)).1 (t9 (t5 a)).1 (t9 (t6 a)).1 (t9 (t7 a)).1 (t9 (t8 a)).1 (t9 (t9 a)).1 (t9 (t9 a.2)).1 (t9 (t9 (t2 a))).1 (t9 (t9 (t3 a))).1 (t9 (t9 (t4 a))).1 (t9 (t9 (t5 a))).1 (t9 (t9 (t6 a))).1 (t9 (t9 (t7 a))).1 (t9 (t9 (t8 a))).1 (t9 (t9 (t9 a))).1 (t9 (t9 (t9 a.2))).1 (t9 (t9 (t9 (t2 a))))) n (v1,v2,v3,v4,v5,v6,v7,v8,v9,v10,v11,v12,fG,fH,eZ,fq,gw,jF,iS,v20,v21,iR,ij,v24,j4,j5,lg,v28,rq,v46)
theorem bC.hO {R:Type} (k:Nat) (v0:Int) (e0:Int->Int->Bool->Bool->LI->LI->Int->Int->LI->Bool->LI->Int->Int->Bool->Bool->LI->LI->Int->Int->LL->LI->LI->Int->Int->Int->LI->LL->LI->LI->Option R) (n:Nat) (v1 v2 v3:Int) (v4 v5:Bool) (v6 v7:LI) (v8 v9:Int) (v10:LI) (v11:Bool) (v12:LI) (fG fH:Int) (eZ fq:Bool) (gw jF:LI) (iS v20:Int) (v21:LL) (iR ij:LI) (v24 j4 j5:Int) (lg:LI) (v28:LL) (rq v46:LI):bC.l4 (R:=R) k v0 e0 (n+1) v1 v2 v3 v4 v5 v6 v7 v8 v9 v10 v11 v12 fG fH eZ fq gw jF iS v20 v21 iR ij v24 j4 j5 lg v28 rq v46=bC.s4 k v0 e0 (bC.l4 k v0 e0 n) v1 v2 v3 v4 v5 v6 v7 v8 v9 v10 v11 v12 fG fH eZ fq gw jF iS v20 v21 iR ij v24 j4 j5 lg v28 rq v46:=rfl
def bC.f (k:Nat) (a0 a1:Int) (a2 a3:Bool) (a4 a5:LI) (a6 a7:Int) (a8:LI) (a9:Bool) (de:LI) (cK a12:Int) (dq fW:Bool) (fX fY:LI) (fZ f_:Int) (fT:LL) (a20 a21:LI) (ga fU a24:Int) (gq:LI) (gB:LL) (g:Int):Option (Int×Int×Bool×Bool×LI×LI×Int×Int×LI×Bool×LI×Int×Int×Bool×Bool×LI×LI×Int×Int×LL×LI×LI×Int×Int×Int×LI×LL):=
 bC.l4 k g (fun x3 x4 x5 x6 x7 x8 x9 LS LU Je N2 N3 LW LX LY LZ L0 L1 L2 L3 L4 L5 L6 L7 L8 L9 L_ Ma Mb=>
  (jK.f k x3 x4 x5 x6 x7 x8 x9 LS LU Je N2 N3 LW LX LY LZ L0 L1 L2 L3 L4 L5 L6 L7 L8 L9 L_ Ma Mb).bind fun yj=>
  some (yj.1,yj.2.1,(t2 yj).1,(t3 yj).1,(t4 yj).1,(t5 yj).1,(t6 yj).1,(t7 yj).1,(t8 yj).1,(t9 yj).1,(t9 yj.2).1,(t9 (t2 yj)).1,(t9 (t3 yj)).1,(t9 (t4 yj)).1,(t9 (t5 yj)).1,(t9 (t6 yj)).1,(t9 (t7 yj)).1,(t9 (t8 yj)).1,(t9 (t9 yj)).1,(t9 (t9 yj.2)).1,(t9 (t9 (t2 yj))).1,(t9 (t9 (t3 yj))).1,(t9 (t9 (t4 yj))).1,(t9 (t9 (t5 yj))).1,(t9 (t9 (t6 yj))).1,(t9 (t9 (t7 yj))).1,(t9 (t9 (t8 yj))).1)) k 0 a0 a1 a2 a3 a4 a5 a6 a7 a8 a9 de cK a12 dq fW fX fY fZ f_ fT a20 a21 ga fU a24 gq gB [] []
def hU.f (k:Nat) (a0 a1:Int) (a2 a3:Bool) (a4 a5:LI) (a6 a7:Int) (a8:LI) (a9:Bool) (de:LI) (cK a12:Int) (dq fW:Bool) (fX fY:LI) (fZ f_:Int) (fT:LL) (a20 a21:LI) (ga fU a24:Int) (gq:LI) (gB:LL) (g:Int):Option (Int×Int×Bool×Bool×LI×LI×Int×Int×LI×Bool×LI×Int×Int×Bool×Bool×LI×LI×Int×Int×LL×LI×LI×Int×Int×Int×LI×LL×Bool):=
 (bM.f k a0 a1 a2 a3 a4 a5 a6 a7 a8 a9 de cK a12 dq fW fX fY fZ f_ fT a20 a21 ga fU a24 gq gB).bind fun r1=>
 (fA.f k cK a12 dq fW fX fY fZ f_ fT a20 a21 ga fU a24 g).bind fun r2=>
 ay (decide (((t9 (t9 (t7 r1))).1.length+1)*8<=room))<|
 bif (t9 (t5 r2)) then
  (cV.f k a0 a1 a2 a3 a4 a5 a6 a7 a8 a9 de cK a12 dq fW fX fY fZ f_ fT a20 a21 ga fU a24 gq gB r1.1 r1.2.1 (t2 r1).1 (t3 r1).1 (t4 r1).1 (t5 r1).1 (t6 r1).1 (t7 r1).1 (t8 r1).1 (t9 r1).1 (t9 r1.2).1 r2.1 r2.2.1 (t2 r2).1 (t3 r2).1 (t4 r2).1 (t5 r2).1 (t6 r2).1 (t7 r2).1 (t8 r2).1 (t9 r2).1 (t9 r2.2).1 (t9 (t2 r2)).1 (t9 (t3 r2)).1 (t9 (t4 r2)).1 ((t9 (t9 (t7 r1))).1++[g]) (t9 (t9 (t8 r1))) a9).bind fun r3=>
  some r3
 else
  (cV.f k a0 a1 a2 a3 a4 a5 a6 a7 a8 a9 de cK a12 dq fW fX fY fZ f_ fT a20 a21 ga fU a24 gq gB r1.1 r1.2.1 (t2 r1).1 (t3 r1).1 (t4 r1).1 (t5 r1).1 (t6 r1).1 (t7 r1).1 (t8 r1).1 (t9 r1).1 (t9 r1.2).1 r2.1 r2.2.1 (t2 r2).1 (t3 r2).1 (t4 r2).1 (t5 r2).1 (t6 r2).1 (t7 r2).1 (t8 r2).1 (t9 r2).1 (t9 r2.2).1 (t9 (t2 r2)).1 (t9 (t3 r2)).1 (t9 (t4 r2)).1 ((t9 (t9 (t7 r1))).1++[g]) (t9 (t9 (t8 r1))) false).bind fun r4=>
  some r4
def jL.f (k:Nat) (a0 a1:Int) (a2 a3:Bool) (a4 a5:LI) (a6 a7:Int) (a8:LI) (a9:Bool) (de:LI) (cK a12:Int) (dq fW:Bool) (fX fY:LI) (fZ f_:Int) (fT:LL) (a20 a21:LI) (ga fU a24:Int) (gq:LI) (gB:LL) (g:Int):Option (Int×Int×Bool×Bool×LI×LI×Int×Int×LI×Bool×LI×Int×Int×Bool×Bool×LI×LI×Int×Int×LL×LI×LI×Int×Int×Int×LI×LL×Bool):=
 (cP.f k g).bind fun r1=>
 bif (!r1) then
  (bM.f k a0 a1 a2 a3 a4 a5 a6 a7 a8 a9 de cK a12 dq fW fX fY fZ f_ fT a20 a21 ga fU a24 gq gB).bind fun r2=>
  some (r2.1,r2.2.1,(t2 r2).1,(t3 r2).1,(t4 r2).1,(t5 r2).1,(t6 r2).1,(t7 r2).1,(t8 r2).1,(t9 r2).1,(t9 r2.2).1,(t9 (t2 r2)).1,(t9 (t3 r2)).1,(t9 (t4 r2)).1,(t9 (t5 r2)).1,(t9 (t6 r2)).1,(t9 (t7 r2)).1,(t9 (t8 r2)).1,(t9 (t9 r2)).1,(t9 (t9 r2.2)).1,(t9 (t9 (t2 r2))).1,(t9 (t9 (t3 r2))).1,(t9 (t9 (t4 r2))).1,(t9 (t9 (t5 r2))).1,(t9 (t9 (t6 r2))).1,(t9 (t9 (t7 r2))).1,(t9 (t9 (t8 r2))),false)
 else
  (hU.f k a0 a1 a2 a3 a4 a5 a6 a7 a8 a9 de cK a12 dq fW fX fY fZ f_ fT a20 a21 ga fU a24 gq gB g).bind fun r3=>
  some r3
def iN.f (k:Nat) (a0 a1:Int) (a2 a3:Bool) (a4 a5:LI) (a6 a7:Int) (a8:LI) (a9:Bool) (de:LI) (cK a12:Int) (dq fW:Bool) (fX fY:LI) (fZ f_:Int) (fT:LL) (a20 a21:LI) (ga fU a24:Int) (gq:LI) (gB:LL):Option (Int×Int×Bool×Bool×LI×LI×Int×Int×LI×Bool×LI×Int×Int×Bool×Bool×LI×LI×Int×Int×LL×LI×LI×Int×Int×Int×LI×LL×Bool):=
 (hU.f k a0 a1 a2 a3 a4 a5 a6 a7 a8 a9 de cK a12 dq fW fX fY fZ f_ fT a20 a21 ga fU a24 gq gB (-1)).bind fun r1=>
 some r1
def jM.f (k:Nat) (a0:LI) (a1 a2 g0 g1:Int) (g2 g3:Bool) (g4 g5:LI) (g6 g7:Int) (g8:LI) (g9:Bool) (g10:LI) (g11 g12:Int) (g13 g14:Bool) (g15 g16:LI) (g17 g18:Int) (g19:LL) (g20 g21:LI) (g22 g23 g24:Int) (Ok:LI) (Ol:LL):Option (Int×Int×Bool×Bool×LI×LI×Int×Int×LI×Bool×LI×Int×Int×Bool×Bool×LI×LI×Int×Int×LL×LI×LI×Int×Int×Int×LI×LL×LI×Int×Int):=
 (cr.f k g11 g12 g13 g14 g15 g16 g17 g18 g19 g20 g21 g22 g23 g24).bind fun r1=>
 bif decide ((r1.length:Int)>0) then
  (aQ.f k a0 a1 a2 4).bind fun r2=>
  bif (!r2.1) then
   (aC.f k r2.2.1 (t2 r2).1 (t3 r2) (r1.length:Int)).bind fun r3=>
   ay ((decide (0<=r3.1))&&(decide (r3.1<(r1.length:Int))))<|
   (jL.f k g0 g1 g2 g3 g4 g5 g6 g7 g8 g9 g10 g11 g12 g13 g14 g15 g16 g17 g18 g19 g20 g21 g22 g23 g24 Ok Ol (r1.getD r3.1.toNat 0)).bind fun r4=>
   some (r4.1,r4.2.1,(t2 r4).1,(t3 r4).1,(t4 r4).1,(t5 r4).1,(t6 r4).1,(t7 r4).1,(t8 r4).1,(t9 r4).1,(t9 r4.2).1,(t9 (t2 r4)).1,(t9 (t3 r4)).1,(t9 (t4 r4)).1,(t9 (t5 r4)).1,(t9 (t6 r4)).1,(t9 (t7 r4)).1,(t9 (t8 r4)).1,(t9 (t9 r4)).1,(t9 (t9 r4.2)).1,(t9 (t9 (t2 r4))).1,(t9 (t9 (t3 r4))).1,(t9 (t9 (t4 r4))).1,(t9 (t9 (t5 r4))).1,(t9 (t9 (t6 r4))).1,(t9 (t9 (t7 r4))).1,(t9 (t9 (t8 r4))).1,r3.2)
  else
   (iN.f k g0 g1 g2 g3 g4 g5 g6 g7 g8 g9 g10 g11 g12 g13 g14 g15 g16 g17 g18 g19 g20 g21 g22 g23 g24 Ok Ol).bind fun r5=>
   some (r5.1,r5.2.1,(t2 r5).1,(t3 r5).1,(t4 r5).1,(t5 r5).1,(t6 r5).1,(t7 r5).1,(t8 r5).1,(t9 r5).1,(t9 r5.2).1,(t9 (t2 r5)).1,(t9 (t3 r5)).1,(t9 (t4 r5)).1,(t9 (t5 r5)).1,(t9 (t6 r5)).1,(t9 (t7 r5)).1,(t9 (t8 r5)).1,(t9 (t9 r5)).1,(t9 (t9 r5.2)).1,(t9 (t9 (t2 r5))).1,(t9 (t9 (t3 r5))).1,(t9 (t9 (t4 r5))).1,(t9 (t9 (t5 r5))).1,(t9 (t9 (t6 r5))).1,(t9 (t9 (t7 r5))).1,(t9 (t9 (t8 r5))).1,r2.2)
 else
  (iN.f k g0 g1 g2 g3 g4 g5 g6 g7 g8 g9 g10 g11 g12 g13 g14 g15 g16 g17 g18 g19 g20 g21 g22 g23 g24 Ok Ol).bind fun r6=>
  some (r6.1,r6.2.1,(t2 r6).1,(t3 r6).1,(t4 r6).1,(t5 r6).1,(t6 r6).1,(t7 r6).1,(t8 r6).1,(t9 r6).1,(t9 r6.2).1,(t9 (t2 r6)).1,(t9 (t3 r6)).1,(t9 (t4 r6)).1,(t9 (t5 r6)).1,(t9 (t6 r6)).1,(t9 (t7 r6)).1,(t9 (t8 r6)).1,(t9 (t9 r6)).1,(t9 (t9 r6.2)).1,(t9 (t9 (t2 r6))).1,(t9 (t9 (t3 r6))).1,(t9 (t9 (t4 r6))).1,(t9 (t9 (t5 r6))).1,(t9 (t9 (t6 r6))).1,(t9 (t9 (t7 r6))).1,(t9 (t9 (t8 r6))).1,a0,a1,a2)
def cA.Z0 {R:Type} (k:Nat) (e0:LI->Int->Int->Int->Int->Bool->Bool->Int->Int->Bool->Int->Int->Bool->Bool->Int->Int->Int->Int->Int->LI->LI->LI->LI->LI->LI->LL->LI->LI->LI->LL->Option R) (rec:Int->LI->Int->Int->Int->Int->Bool->Bool->Int->Int->Bool->Int->Int->Bool->Bool->Int->Int->Int->Int->Int->LI->LI->LI->LI->LI->LI->LL->LI->LI->LI->LL->Option R) (v0:Int) (v1:LI) (v2 v3 v20 v21:Int) (iR ij:Bool) (v24 j4:Int) (j5:Bool) (lg v28:Int) (n4 v30:Bool) (v31 Dv yh yi Dw:Int) (oM v37 jh qG v40 Dx:LI) (Dy:LL) (Dz DA rq:LI) (v46:LL):Option R:=
 bif decide (v0>0) then
  (jM.f k v1 v2 v3 v20 v21 iR ij oM v37 v24 j4 jh j5 qG lg v28 n4 v30 v40 Dx v31 Dv Dy Dz DA yh yi Dw rq v46).bind fun ke=>
  rec (IntKind.wrap .i64 (v0-1)) (t9 (t9 (t9 ke))).1 (t9 (t9 (t9 ke.2))).1 (t9 (t9 (t9 (t2 ke)))) ke.1 ke.2.1 (t2 ke).1 (t3 ke).1 (t6 ke).1 (t7 ke).1 (t9 ke).1 (t9 (t2 ke)).1 (t9 (t3 ke)).1 (t9 (t4 ke)).1 (t9 (t5 ke)).1 (t9 (t8 ke)).1 (t9 (t9 ke)).1 (t9 (t9 (t4 ke))).1 (t9 (t9 (t5 ke))).1 (t9 (t9 (t6 ke))).1 (t4 ke).1 (t5 ke).1 (t8 ke).1 (t9 ke.2).1 (t9 (t6 ke)).1 (t9 (t7 ke)).1 (t9 (t9 ke.2)).1 (t9 (t9 (t2 ke))).1 (t9 (t9 (t3 ke))).1 (t9 (t9 (t7 ke))).1 (t9 (t9 (t8 ke))).1
 else
  e0 v1 v2 v3 v20 v21 iR ij v24 j4 j5 lg v28 n4 v30 v31 Dv yh yi Dw oM v37 jh qG v40 Dx Dy Dz DA rq v46
def cA.l10 {R:Type} (k:Nat) (e0:LI->Int->Int->Int->Int->Bool->Bool->Int->Int->Bool->Int->Int->Bool->Bool->Int->Int->Int->Int->Int->LI->LI->LI->LI->LI->LI->LL->LI->LI->LI->LL->Option R) (n:Nat) (v0:Int) (v1:LI) (v2 v3 v20 v21:Int) (iR ij:Bool) (v24 j4:Int) (j5:Bool) (lg v28:Int) (n4 v30:Bool) (v31 Dv yh yi Dw:Int) (oM v37 jh qG v40 Dx:LI) (Dy:LL) (Dz DA rq:LI) (v46:LL):Option R:=
 V.iter (A:=Int×LI×Int×Int×Int×Int×Bool×Bool×Int×Int×Bool×Int×Int×Bool×Bool×Int×Int×Int×Int×Int×LI×LI×LI×LI×LI×LI×LL×LI×LI×LI×LL) (fun rec a=>cA.Z0 k e0 (fun c0 c1 c2 c3 c4 c5 c6 c7 c8 c9 Om On c12 Oo Oq S7 S8 S9 S_ Ta c20 c21 Tc Td c24 Te Tf Tg c28 Yn c30=>rec (c0,c1,c2,c3,c4,c5,c6,c7,c8,c9,Om,On,c12,Oo,Oq,S7,S8,S9,S_,Ta,c20,c21,Tc,Td,c24,Te,Tf,Tg,c28,Yn,c30)) a.1 a.2.1 (t2 a).1 (t3 a).1 (t4 a).1 (t5 a).1 (t6 a).1 (t7 a).1 (t8 a).1 (t9 a).1 (t9 a.2).1 (t9 (t2 a)).1 (t9 (t3 a)).1 (t9 (t4 a)).1 (t9 (t5 a)).1 (t9 (t6 a)).1 (t9 (t7 a)).1 (t9 (t8 a)).1 (t9 (t9 a)).1 (t9 (t9 a.2)).1 (t9 (t9 (t2 a))).1 (t9 (t9 (t3 a))).1 (t9 (t9 (t4 a))).1 (t9 (t9 (t5 a))).1 (t9 (t9 (t6 a))).1 (t9 (t9 (t7 a))).1 (t9 (t9 (t8 a))).1 (t9 (t9 (t9 a))).1 (t9 (t9 (t9 a.2))).1 (t9 (t9 (t9 (t2 a)))).1 (t9 (t9 (t9 (t3 a))))) n (v0,v1,v2,v3,v20,v21,iR,ij,v24,j4,j5,lg,v28,n4,v30,v31,Dv,yh,yi,Dw,oM,v37,jh,qG,v40,Dx,Dy,Dz,DA,rq,v46)
theorem cA.G9 {R:Type} (k:Nat) (e0:LI->Int->Int->Int->Int->Bool->Bool->Int->Int->Bool->Int->Int->Bool->Bool->Int->Int->Int->Int->Int->LI->LI->LI->LI->LI->LI->LL->LI->LI->LI->LL->Option R) (n:Nat) (v0:Int) (v1:LI) (v2 v3 v20 v21:Int) (iR ij:Bool) (v24 j4:Int) (j5:Bool) (lg v28:Int) (n4 v30:Bool) (v31 Dv yh yi Dw:Int) (oM v37 jh qG v40 Dx:LI) (Dy:LL) (Dz DA rq:LI) (v46:LL):cA.l10 (R:=R) k e0 (n+1) v0 v1 v2 v3 v20 v21 iR ij v24 j4 j5 lg v28 n4 v30 v31 Dv yh yi Dw oM v37 jh qG v40 Dx Dy Dz DA rq v46=cA.Z0 k e0 (cA.l10 k e0 n) v0 v1 v2 v3 v20 v21 iR ij v24 j4 j5 lg v28 n4 v30 v31 Dv yh yi Dw oM v37 jh qG v40 Dx Dy Dz DA rq v46:=rfl
def cA.f (k:Nat) (a0:LI) (a1 a2:Int):Option (Int×Int×Bool×Bool×LI×LI×Int×Int×LI×Bool×LI×Int×Int×Bool×Bool×LI×LI×Int×Int×LL×LI×LI×Int×Int×Int×LI×LL×LI×Int×Int):=
 (hJ.f k a0 a1 a2).bind fun r1=>
 (aQ.f k (t8 r1).1 (t9 r1).1 (t9 r1.2) 2).bind fun r2=>
 bif r2.1 then
  (aC.f k r2.2.1 (t2 r2).1 (t3 r2) 6).bind fun r3=>
  (fx.f k r1.1 r1.2.1 (t2 r1).1 (t3 r1).1 (t4 r1).1 (t5 r1).1 (t6 r1).1 (IntKind.wrap .i64 (1+r3.1))).bind fun r4=>
  (aQ.f k r3.2.1 (t2 r3).1 (t3 r3) 6).bind fun r5=>
  bif r5.1 then
   (d_.f k 0 3 5).bind fun r6=>
   (fB.f k r4.1 r4.2.1 (t2 r4).1 (t3 r4).1 (t4 r4).1 (t5 r4).1 (t6 r4).1 (t7 r4).1 (t8 r4).1 (t9 r4).1 (t9 r4.2).1 (t9 (t2 r4)).1 (t9 (t3 r4)).1 (t9 (t4 r4)).1 (t9 (t5 r4)).1 (t9 (t6 r4)).1 (t9 (t7 r4)).1 (t9 (t8 r4)).1 (t9 (t9 r4)).1 (t9 (t9 r4.2)).1 (t9 (t9 (t2 r4))).1 (t9 (t9 (t3 r4))).1 (t9 (t9 (t4 r4))).1 (t9 (t9 (t5 r4))).1 (t9 (t9 (t6 r4))).1 (t9 (t9 (t7 r4))).1 (t9 (t9 (t8 r4))).1 r6).bind fun r7=>
   some (r7.1,r7.2.1,(t2 r7).1,(t3 r7).1,(t4 r7).1,(t5 r7).1,(t6 r7).1,(t7 r7).1,(t8 r7).1,(t9 r7).1,(t9 r7.2).1,(t9 (t2 r7)).1,(t9 (t3 r7)).1,(t9 (t4 r7)).1,(t9 (t5 r7)).1,(t9 (t6 r7)).1,(t9 (t7 r7)).1,(t9 (t8 r7)).1,(t9 (t9 r7)).1,(t9 (t9 r7.2)).1,(t9 (t9 (t2 r7))).1,(t9 (t9 (t3 r7))).1,(t9 (t9 (t4 r7))).1,(t9 (t9 (t5 r7))).1,(t9 (t9 (t6 r7))).1,(t9 (t9 (t7 r7))).1,(t9 (t9 (t8 r7))).1,r5.2)
  else
   (aC.f k r5.2.1 (t2 r5).1 (t3 r5) 900).bind fun r8=>
   (bC.f k r4.1 r4.2.1 (t2 r4).1 (t3 r4).1 (t4 r4).1 (t5 r4).1 (t6 r4).1 (t7 r4).1 (t8 r4).1 (t9 r4).1 (t9 r4.2).1 (t9 (t2 r4)).1 (t9 (t3 r4)).1 (t9 (t4 r4)).1 (t9 (t5 r4)).1 (t9 (t6 r4)).1 (t9 (t7 r4)).1 (t9 (t8 r4)).1 (t9 (t9 r4)).1 (t9 (t9 r4.2)).1 (t9 (t9 (t2 r4))).1 (t9 (t9 (t3 r4))).1 (t9 (t9 (t4 r4))).1 (t9 (t9 (t5 r4))).1 (t9 (t9 (t6 r4))).1 (t9 (t9 (t7 r4))).1 (t9 (t9 (t8 r4))).1 r8.1).bind fun r9=>
   (aC.f k r8.2.1 (t2 r8).1 (t3 r8) 10).bind fun mO=>
   cA.l10 k (fun Je N2 N3 LW LX LY LZ L0 L1 L2 L3 L4 L5 L6 L7 L8 L9 L_ Ma Mb Yo Yp XG XH XI XJ XK XL XM XN=>
    (aQ.f k Je N2 N3 2).bind fun Yq=>
    bif Yq.1 then
     (gg.f k LW LX LY LZ Mb Yo L0 L1 Yp L2 XG L3 L4 L5 L6 XH XI L7 L8 XJ XK XL L9 L_ Ma XM XN).bind fun yk=>
     some (yk.1,yk.2.1,(t2 yk).1,(t3 yk).1,(t4 yk).1,(t5 yk).1,(t6 yk).1,(t7 yk).1,(t8 yk).1,(t9 yk).1,(t9 yk.2).1,(t9 (t2 yk)).1,(t9 (t3 yk)).1,(t9 (t4 yk)).1,(t9 (t5 yk)).1,(t9 (t6 yk)).1,(t9 (t7 yk)).1,(t9 (t8 yk)).1,(t9 (t9 yk)).1,(t9 (t9 yk.2)).1,(t9 (t9 (t2 yk))).1,(t9 (t9 (t3 yk))).1,(t9 (t9 (t4 yk))).1,(t9 (t9 (t5 yk))).1,(t9 (t9 (t6 yk))).1,(t9 (t9 (t7 yk))).1,(t9 (t9 (t8 yk))).1,Yq.2)
    else
     some (LW,LX,LY,LZ,Mb,Yo,L0,L1,Yp,L2,XG,L3,L4,L5,L6,XH,XI,L7,L8,XJ,XK,XL,L9,L_,Ma,XM,XN,Yq.2)) k mO.1 mO.2.1 (t2 mO).1 (t3 mO) r9.1 r9.2.1 (t2 r9).1 (t3 r9).1 (t6 r9).1 (t7 r9).1 (t9 r9).1 (t9 (t2 r9)).1 (t9 (t3 r9)).1 (t9 (t4 r9)).1 (t9 (t5 r9)).1 (t9 (t8 r9)).1 (t9 (t9 r9)).1 (t9 (t9 (t4 r9))).1 (t9 (t9 (t5 r9))).1 (t9 (t9 (t6 r9))).1 (t4 r9).1 (t5 r9).1 (t8 r9).1 (t9 r9.2).1 (t9 (t6 r9)).1 (t9 (t7 r9)).1 (t9 (t9 r9.2)).1 (t9 (t9 (t2 r9))).1 (t9 (t9 (t3 r9))).1 (t9 (t9 (t7 r9))).1 (t9 (t9 (t8 r9)))
 else
  (fx.f k r1.1 r1.2.1 (t2 r1).1 (t3 r1).1 (t4 r1).1 (t5 r1).1 (t6 r1).1 (t7 r1).1).bind fun h_=>
  (aQ.f k r2.2.1 (t2 r2).1 (t3 r2) 6).bind fun Mc=>
  bif Mc.1 then
   (d_.f k 0 3 5).bind fun Yr=>
   (fB.f k h_.1 h_.2.1 (t2 h_).1 (t3 h_).1 (t4 h_).1 (t5 h_).1 (t6 h_).1 (t7 h_).1 (t8 h_).1 (t9 h_).1 (t9 h_.2).1 (t9 (t2 h_)).1 (t9 (t3 h_)).1 (t9 (t4 h_)).1 (t9 (t5 h_)).1 (t9 (t6 h_)).1 (t9 (t7 h_)).1 (t9 (t8 h_)).1 (t9 (t9 h_)).1 (t9 (t9 h_.2)).1 (t9 (t9 (t2 h_))).1 (t9 (t9 (t3 h_))).1 (t9 (t9 (t4 h_))).1 (t9 (t9 (t5 h_))).1 (t9 (t9 (t6 h_))).1 (t9 (t9 (t7 h_))).1 (t9 (t9 (t8 h_))).1 Yr).bind fun np=>
   some (np.1,np.2.1,(t2 np).1,(t3 np).1,(t4 np).1,(t5 np).1,(t6 np).1,(t7 np).1,(t8 np).1,(t9 np).1,(t9 np.2).1,(t9 (t2 np)).1,(t9 (t3 np)).1,(t9 (t4 np)).1,(t9 (t5 np)).1,(t9 (t6 np)).1,(t9 (t7 np)).1,(t9 (t8 np)).1,(t9 (t9 np)).1,(t9 (t9 np.2)).1,(t9 (t9 (t2 np))).1,(t9 (t9 (t3 np))).1,(t9 (t9 (t4 np))).1,(t9 (t9 (t5 np))).1,(t9 (t9 (t6 np))).1,(t9 (t9 (t7 np))).1,(t9 (t9 (t8 np))).1,Mc.2)
  else
   (aC.f k Mc.2.1 (t2 Mc).1 (t3 Mc) 900).bind fun QW=>
   (bC.f k h_.1 h_.2.1 (t2 h_).1 (t3 h_).1 (t4 h_).1 (t5 h_).1 (t6 h_).1 (t7 h_).1 (t8 h_).1 (t9 h_).1 (t9 h_.2).1 (t9 (t2 h_)).1 (t9 (t3 h_)).1 (t9 (t4 h_)).1 (t9 (t5 h_)).1 (t9 (t6 h_)).1 (t9 (t7 h_)).1 (t9 (t8 h_)).1 (t9 (t9 h_)).1 (t9 (t9 h_.2)).1 (t9 (t9 (t2 h_))).1 (t9 (t9 (t3 h_))).1 (t9 (t9 (t4 h_))).1 (t9 (t9 (t5 h_))).1 (t9 (t9 (t6 h_))).1 (t9 (t9 (t7 h_))).1 (t9 (t9 (t8 h_))).1 QW.1).bind fun OJ=>
   (aC.f k QW.2.1 (t2 QW).1 (t3 QW) 10).bind fun QX=>
   cA.l10 k (fun VH VI VJ Th Ti Tj Tk Tl Tm Tn VL VM VN VO VP VQ VR VS VT VU VV VW VX VY VZ V0 V1 V2 V3 V4=>
    (aQ.f k VH VI VJ 2).bind fun Ot=>
    bif Ot.1 then
     (gg.f k Th Ti Tj Tk VU VV Tl Tm VW Tn VX VL VM VN VO VY VZ VP VQ V0 V1 V2 VR VS VT V3 V4).bind fun nr=>
     some (nr.1,nr.2.1,(t2 nr).1,(t3 nr).1,(t4 nr).1,(t5 nr).1,(t6 nr).1,(t7 nr).1,(t8 nr).1,(t9 nr).1,(t9 nr.2).1,(t9 (t2 nr)).1,(t9 (t3 nr)).1,(t9 (t4 nr)).1,(t9 (t5 nr)).1,(t9 (t6 nr)).1,(t9 (t7 nr)).1,(t9 (t8 nr)).1,(t9 (t9 nr)).1,(t9 (t9 nr.2)).1,(t9 (t9 (t2 nr))).1,(t9 (t9 (t3 nr))).1,(t9 (t9 (t4 nr))).1,(t9 (t9 (t5 nr))).1,(t9 (t9 (t6 nr))).1,(t9 (t9 (t7 nr))).1,(t9 (t9 (t8 nr))).1,Ot.2)
    else
     some (Th,Ti,Tj,Tk,VU,VV,Tl,Tm,VW,Tn,VX,VL,VM,VN,VO,VY,VZ,VP,VQ,V0,V1,V2,VR,VS,VT,V3,V4,Ot.2)) k QX.1 QX.2.1 (t2 QX).1 (t3 QX) OJ.1 OJ.2.1 (t2 OJ).1 (t3 OJ).1 (t6 OJ).1 (t7 OJ).1 (t9 OJ).1 (t9 (t2 OJ)).1 (t9 (t3 OJ)).1 (t9 (t4 OJ)).1 (t9 (t5 OJ)).1 (t9 (t8 OJ)).1 (t9 (t9 OJ)).1 (t9 (t9 (t4 OJ))).1 (t9 (t9 (t5 OJ))).1 (t9 (t9 (t6 OJ))).1 (t4 OJ).1 (t5 OJ).1 (t8 OJ).1 (t9 OJ.2).1 (t9 (t6 OJ)).1 (t9 (t7 OJ)).1 (t9 (t9 OJ.2)).1 (t9 (t9 (t2 OJ))).1 (t9 (t9 (t3 OJ))).1 (t9 (t9 (t7 OJ))).1 (t9 (t9 (t8 OJ)))
def mP.f (k:Nat):Option (Int×Int×Bool×Bool×LI×LI×Int×Int):=
 some (3,5,true,true,[206],[212],1,200)
def mi.f (k:Nat) (a0:LI) (a1 a2:Int) (g:List ByteArray):Option (ByteArray×LI×Int×Int):=
 (aC.f k a0 a1 a2 (g.length:Int)).bind fun r1=>
 ay ((decide (0<=r1.1))&&(decide (r1.1<(g.length:Int))))<|
 some (g.getD r1.1.toNat ByteArray.empty,r1.2)
def gI.f (k:Nat) (a0:LI) (a1 a2:Int):Option (ByteArray×LI×Int×Int):=
 (mi.f k a0 a1 a2 ([(⟨#[110,101,119]⟩:ByteArray),(⟨#[98,101,103,105,110,32,49,32,50,32,51]⟩:ByteArray),(⟨#[98,101,103,105,110,32,55,32,56]⟩:ByteArray),(⟨#[98,101,103,105,110,32,49,32,50,32,45,51]⟩:ByteArray),(⟨#[112,108,97,121,32,65,99]⟩:ByteArray),(⟨#[112,108,97,121,32,55,104]⟩:ByteArray),(⟨#[112,108,97,121,32,120]⟩:ByteArray),(⟨#[116,97,107,101]⟩:ByteArray),(⟨#[115,101,116,116,108,101]⟩:ByteArray),(⟨#[97,117,116,111,32,48]⟩:ByteArray),(⟨#[97,117,116,111,32,49]⟩:ByteArray),(⟨#[97,117,116,111,32,50]⟩:ByteArray),(⟨#[97,117,116,111,32,51]⟩:ByteArray),(⟨#[97,117,116,111,32,57]⟩:ByteArray),(⟨#[97,117,116,111,32,48]⟩:ByteArray),(⟨#[97,117,116,111,32,48]⟩:ByteArray),(⟨#[114,117,108,101,115]⟩:ByteArray),(⟨#[116,97,98,108,101]⟩:ByteArray),(⟨#[103,97,109,101]⟩:ByteArray),(⟨#[115,101,101,32,48]⟩:ByteArray),(⟨#[115,101,101,32,53]⟩:ByteArray),(⟨#[99,97,110]⟩:ByteArray),(⟨#[114,101,99,111,114,100]⟩:ByteArray),(⟨#[115,104,101,101,116]⟩:ByteArray),(⟨#[97,117,100,105,116]⟩:ByteArray),(⟨#[109,101,108,100,115,32,50,99,51,99,52,99,50,100,50,104]⟩:ByteArray),(⟨#[109,101,108,100,115,32,50,99,50,99]⟩:ByteArray),(⟨#[108,101,102,116,32,50,99,51,99,52,99,75,100]⟩:ByteArray),(⟨#[108,101,102,116,32,45]⟩:ByteArray),(⟨#[107,105,110,100,32,84,99,74,99,81,99,75,99,65,99]⟩:ByteArray),(⟨#[107,105,110,100,32,50,99]⟩:ByteArray),(⟨#[99,111,117,110,116,32,40,114,38,74,43,41]⟩:ByteArray),(⟨#[99,111,117,110,116,32,120]⟩:ByteArray),(⟨#[99,111,117,110,116,32,55]⟩:ByteArray),(⟨#[119,105,110,115,32,50,99,57,99,65,100,32,49]⟩:ByteArray),(⟨#[119,105,110,115,32,50,99,57,99,65,100]⟩:ByteArray),ByteArray.empty,(⟨#[119,104,97,116]⟩:ByteArray),(⟨#[116,97,107,101,32,49]⟩:ByteArray),(⟨#[103,97,109,101,32,49]⟩:ByteArray)])).bind fun r1=>
 some r1
def eR.f (k:Nat) (a:LI):Option (Int×Int×Bool×Bool×LI×LI×Int×Int×LI×Bool×LI×Int×Int×Bool×Bool×LI×LI×Int×Int×LL×LI×LI×Int×Int×Int×LI×LL×ByteArray):=
 (dU.f k a).bind fun r1=>
 (cA.f k r1.1 r1.2.1 (t2 r1)).bind fun r2=>
 (aQ.f k (t9 (t9 (t9 r2))).1 (t9 (t9 (t9 r2.2))).1 (t9 (t9 (t9 (t2 r2)))) 4).bind fun r3=>
 bif r3.1 then
  (mP.f k).bind fun r4=>
  (fx.f k r4.1 r4.2.1 (t2 r4).1 (t3 r4).1 (t4 r4).1 (t5 r4).1 (t6 r4).1 (t7 r4)).bind fun r5=>
  (gI.f k r3.2.1 (t2 r3).1 (t3 r3)).bind fun r6=>
  some (r5.1,r5.2.1,(t2 r5).1,(t3 r5).1,(t4 r5).1,(t5 r5).1,(t6 r5).1,(t7 r5).1,(t8 r5).1,(t9 r5).1,(t9 r5.2).1,(t9 (t2 r5)).1,(t9 (t3 r5)).1,(t9 (t4 r5)).1,(t9 (t5 r5)).1,(t9 (t6 r5)).1,(t9 (t7 r5)).1,(t9 (t8 r5)).1,(t9 (t9 r5)).1,(t9 (t9 r5.2)).1,(t9 (t9 (t2 r5))).1,(t9 (t9 (t3 r5))).1,(t9 (t9 (t4 r5))).1,(t9 (t9 (t5 r5))).1,(t9 (t9 (t6 r5))).1,(t9 (t9 (t7 r5))).1,(t9 (t9 (t8 r5))).1,r6.1)
 else
  (gI.f k r3.2.1 (t2 r3).1 (t3 r3)).bind fun r7=>
  some (r2.1,r2.2.1,(t2 r2).1,(t3 r2).1,(t4 r2).1,(t5 r2).1,(t6 r2).1,(t7 r2).1,(t8 r2).1,(t9 r2).1,(t9 r2.2).1,(t9 (t2 r2)).1,(t9 (t3 r2)).1,(t9 (t4 r2)).1,(t9 (t5 r2)).1,(t9 (t6 r2)).1,(t9 (t7 r2)).1,(t9 (t8 r2)).1,(t9 (t9 r2)).1,(t9 (t9 r2.2)).1,(t9 (t9 (t2 r2))).1,(t9 (t9 (t3 r2))).1,(t9 (t9 (t4 r2))).1,(t9 (t9 (t5 r2))).1,(t9 (t9 (t6 r2))).1,(t9 (t9 (t7 r2))).1,(t9 (t9 (t8 r2))).1,r7.1)
def az.s5 {R:Type} (k:Nat) (e0:ByteArray->Option R) (rec:ByteArray->Int->Option R) (v0:ByteArray) (v1:Int):Option R:=
 bif decide (v1<61) then
  ay (decide (v0.size+(⟨#[116,97,98,108,101,10]⟩:ByteArray).size<=fa))<|
  rec (v0++(⟨#[116,97,98,108,101,10]⟩:ByteArray)) (IntKind.wrap .i64 (v1+1))
 else
  e0 v0
def az.l5 {R:Type} (k:Nat) (e0:ByteArray->Option R) (n:Nat) (v0:ByteArray) (v1:Int):Option R:=
 V.iter (A:=ByteArray×Int) (fun rec a=>az.s5 k e0 (fun c0 c1=>rec (c0,c1)) a.1 a.2) n (v0,v1)
theorem az.bp {R:Type} (k:Nat) (e0:ByteArray->Option R) (n:Nat) (v0:ByteArray) (v1:Int):az.l5 (R:=R) k e0 (n+1) v0 v1=az.s5 k e0 (az.l5 k e0 n) v0 v1:=rfl
def az.Sv {R:Type} (k:Nat) (e0:ByteArray->Option R) (rec:ByteArray->Int->LI->Int->Int->Option R) (v0:ByteArray) (v1:Int) (v2:LI) (v3 v4:Int):Option R:=
 bif decide (v1>0) then
  (gI.f k v2 v3 v4).bind fun r6=>
  ay (decide (v0.size+r6.1.size<=fa))<|
  ay (decide ((v0++r6.1).size+(⟨#[10]⟩:ByteArray).size<=fa))<|
  rec ((v0++r6.1)++(⟨#[10]⟩:ByteArray)) (IntKind.wrap .i64 (v1-1)) r6.2.1 (t2 r6).1 (t3 r6)
 else
  e0 v0
def az.G0 {R:Type} (k:Nat) (e0:ByteArray->Option R) (n:Nat) (v0:ByteArray) (v1:Int) (v2:LI) (v3 v4:Int):Option R:=
 V.iter (A:=ByteArray×Int×LI×Int×Int) (fun rec a=>az.Sv k e0 (fun c0 c1 c2 c3 c4=>rec (c0,c1,c2,c3,c4)) a.1 a.2.1 (t2 a).1 (t3 a).1 (t4 a)) n (v0,v1,v2,v3,v4)
theorem az.n5 {R:Type} (k:Nat) (e0:ByteArray->Option R) (n:Nat) (v0:ByteArray) (v1:Int) (v2:LI) (v3 v4:Int):az.G0 (R:=R) k e0 (n+1) v0 v1 v2 v3 v4=az.Sv k e0 (az.G0 k e0 n) v0 v1 v2 v3 v4:=rfl
def az.f (k:Nat) (a:LI):Option (ByteArray):=
 (dU.f k a).bind fun r1=>
 (aQ.f k r1.1 r1.2.1 (t2 r1) 20).bind fun r2=>
 bif r2.1 then
  az.l5 k (fun x3=>
   some x3) k ByteArray.empty 0
 else
  (aQ.f k r2.2.1 (t2 r2).1 (t3 r2) 4).bind fun r4=>
  bif (!r4.1) then
   (aC.f k r4.2.1 (t2 r4).1 (t3 r4) 10).bind fun r5=>
   az.G0 k (fun x7=>
    some x7) k (⟨#[110,101,119,10,98,101,103,105,110,32,49,32,50,32,51,10,97,117,116,111,32,48,10]⟩:ByteArray) r5.1 r5.2.1 (t2 r5).1 (t3 r5)
  else
   (aC.f k r4.2.1 (t2 r4).1 (t3 r4) 10).bind fun r8=>
   az.G0 k (fun x9=>
    some x9) k ByteArray.empty r8.1 r8.2.1 (t2 r8).1 (t3 r8)
def bw.s8 {R:Type} (k:Nat) (v0:List ByteArray) (v1:Int) (e0:List ByteArray->Option R) (rec:Int->Int->Int->Bool->Bool->Int->Int->Bool->Int->Int->Bool->Bool->Int->Int->Int->Int->Int->LI->LI->LI->LI->LI->LI->LL->LI->LI->LI->LL->List ByteArray->Option R) (v2 v3 v4:Int) (v5 v6:Bool) (v7 v8:Int) (v9:Bool) (v10 v11:Int) (v12 fG:Bool) (fH eZ fq gw jF:Int) (iS v20 v21 iR ij v24:LI) (j4:LL) (j5 lg v28:LI) (n4:LL) (v30:List ByteArray):Option R:=
 bif decide (v2<v1) then
  ay ((decide (0<=v2))&&(decide (v2<(v0.length:Int))))<|
  (cL.f k v3 v4 v5 v6 iS v20 v7 v8 v21 v9 iR v10 v11 v12 fG ij v24 fH eZ j4 j5 lg fq gw jF v28 n4 (v0.getD v2.toNat ByteArray.empty)).bind fun r3=>
  ay (decide ((v30.length+1)*16<=room))<|
  rec (IntKind.wrap .i64 (v2+1)) r3.1 r3.2.1 (t2 r3).1 (t3 r3).1 (t6 r3).1 (t7 r3).1 (t9 r3).1 (t9 (t2 r3)).1 (t9 (t3 r3)).1 (t9 (t4 r3)).1 (t9 (t5 r3)).1 (t9 (t8 r3)).1 (t9 (t9 r3)).1 (t9 (t9 (t4 r3))).1 (t9 (t9 (t5 r3))).1 (t9 (t9 (t6 r3))).1 (t4 r3).1 (t5 r3).1 (t8 r3).1 (t9 r3.2).1 (t9 (t6 r3)).1 (t9 (t7 r3)).1 (t9 (t9 r3.2)).1 (t9 (t9 (t2 r3))).1 (t9 (t9 (t3 r3))).1 (t9 (t9 (t7 r3))).1 (t9 (t9 (t8 r3))).1 (v30++[(t9 (t9 (t9 r3)))])
 else
  e0 v30
def bw.l8 {R:Type} (k:Nat) (v0:List ByteArray) (v1:Int) (e0:List ByteArray->Option R) (n:Nat) (v2 v3 v4:Int) (v5 v6:Bool) (v7 v8:Int) (v9:Bool) (v10 v11:Int) (v12 fG:Bool) (fH eZ fq gw jF:Int) (iS v20 v21 iR ij v24:LI) (j4:LL) (j5 lg v28:LI) (n4:LL) (v30:List ByteArray):Option R:=
 V.iter (A:=Int×Int×Int×Bool×Bool×Int×Int×Bool×Int×Int×Bool×Bool×Int×Int×Int×Int×Int×LI×LI×LI×LI×LI×LI×LL×LI×LI×LI×LL×List ByteArray) (fun rec a=>bw.s8 k v0 v1 e0 (fun c0 c1 c2 c3 c4 c5 c6 c7 c8 c9 Om On c12 Oo Oq S7 S8 S9 S_ Ta c20 c21 Tc Td c24 Te Tf Tg c28=>rec (c0,c1,c2,c3,c4,c5,c6,c7,c8,c9,Om,On,c12,Oo,Oq,S7,S8,S9,S_,Ta,c20,c21,Tc,Td,c24,Te,Tf,Tg,c28)) a.1 a.2.1 (t2 a).1 (t3 a).1 (t4 a).1 (t5 a).1 (t6 a).1 (t7 a).1 (t8 a).1 (t9 a).1 (t9 a.2).1 (t9 (t2 a)).1 (t9 (t3 a)).1 (t9 (t4 a)).1 (t9 (t5 a)).1 (t9 (t6 a)).1 (t9 (t7 a)).1 (t9 (t8 a)).1 (t9 (t9 a)).1 (t9 (t9 a.2)).1 (t9 (t9 (t2 a))).1 (t9 (t9 (t3 a))).1 (t9 (t9 (t4 a))).1 (t9 (t9 (t5 a))).1 (t9 (t9 (t6 a))).1 (t9 (t9 (t7 a))).1 (t9 (t9 (t8 a))).1 (t9 (t9 (t9 a))).1 (t9 (t9 (t9 a.2)))) n (v2,v3,v4,v5,v6,v7,v8,v9,v10,v11,v12,fG,fH,eZ,fq,gw,jF,iS,v20,v21,iR,ij,v24,j4,j5,lg,v28,n4,v30)
theorem bw.AJ {R:Type} (k:Nat) (v0:List ByteArray) (v1:Int) (e0:List ByteArray->Option R) (n:Nat) (v2 v3 v4:Int) (v5 v6:Bool) (v7 v8:Int) (v9:Bool) (v10 v11:Int) (v12 fG:Bool) (fH eZ fq gw jF:Int) (iS v20 v21 iR ij v24:LI) (j4:LL) (j5 lg v28:LI) (n4:LL) (v30:List ByteArray):bw.l8 (R:=R) k v0 v1 e0 (n+1) v2 v3 v4 v5 v6 v7 v8 v9 v10 v11 v12 fG fH eZ fq gw jF iS v20 v21 iR ij v24 j4 j5 lg v28 n4 v30=bw.s8 k v0 v1 e0 (bw.l8 k v0 v1 e0 n) v2 v3 v4 v5 v6 v7 v8 v9 v10 v11 v12 fG fH eZ fq gw jF iS v20 v21 iR ij v24 j4 j5 lg v28 n4 v30:=rfl
def bw.f (k:Nat) (a:ByteArray):Option (List ByteArray×Bool):=
 (a_.f k a 10).bind fun r1=>
 ay ((decide (0<=(IntKind.wrap .i64 ((r1.length:Int)-1))))&&(decide ((IntKind.wrap .i64 ((r1.length:Int)-1))<(r1.length:Int))))<|
 bif ((r1.getD ((IntKind.wrap .i64 ((r1.length:Int)-1)).toNat) ByteArray.empty).toList==ByteArray.empty.toList) then
  ay ((decide (0<=(IntKind.wrap .i64 ((r1.length:Int)-1))))&&(decide ((IntKind.wrap .i64 ((r1.length:Int)-1))<=(r1.length:Int))))<|
  ay (decide (0<=(IntKind.wrap .i64 ((r1.length:Int)-1))))<|
  bif decide ((((IntKind.wrap .i64 ((r1.length:Int)-1)).toNat)-0:Int)>60) then
   some ([],false)
  else
   bw.l8 k ((r1.take ((IntKind.wrap .i64 ((r1.length:Int)-1)).toNat)).drop 0) (((IntKind.wrap .i64 ((r1.length:Int)-1)).toNat)-0:Int) (fun x4=>
    some (x4,true)) k 0 0 0 false false 0 0 false 0 0 false false 0 0 0 0 0 [] [] [] [] [] [] [] [] [] [] [] []
 else
  bif decide ((r1.length:Int)>60) then
   some ([],false)
  else
   bw.l8 k r1 (r1.length:Int) (fun x5=>
    some (x5,true)) k 0 0 0 false false 0 0 false 0 0 false false 0 0 0 0 0 [] [] [] [] [] [] [] [] [] [] [] []
def aM.s8 {R:Type} (k:Nat) (v1 v3 v4:Int) (v5 v6:Bool) (v7 v8:Int) (v9:Bool) (v10 v11:Int) (v12 fG:Bool) (fH eZ fq gw jF:Int) (iS v20 v21 iR ij v24:LI) (j4:LL) (j5 lg v28:LI) (n4:LL) (v30:List ByteArray) (e0 e1:Option R) (rec:Int->Option R) (v2:Int):Option R:=
 bif decide (v2<v1) then
  ay ((decide (0<=v2))&&(decide (v2<(v30.length:Int))))<|
  (cL.f k v3 v4 v5 v6 iS v20 v7 v8 v21 v9 iR v10 v11 v12 fG ij v24 fH eZ j4 j5 lg fq gw jF v28 n4 (v30.getD v2.toNat ByteArray.empty)).bind fun r5=>
  (eY.f k v3 v4 v5 v6 iS v20 v7 v8 v21 v9 iR v10 v11 v12 fG ij v24 fH eZ j4 j5 lg fq gw jF v28 n4 r5.1 r5.2.1 (t2 r5).1 (t3 r5).1 (t4 r5).1 (t5 r5).1 (t6 r5).1 (t7 r5).1 (t8 r5).1 (t9 r5).1 (t9 r5.2).1 (t9 (t2 r5)).1 (t9 (t3 r5)).1 (t9 (t4 r5)).1 (t9 (t5 r5)).1 (t9 (t6 r5)).1 (t9 (t7 r5)).1 (t9 (t8 r5)).1 (t9 (t9 r5)).1 (t9 (t9 r5.2)).1 (t9 (t9 (t2 r5))).1 (t9 (t9 (t3 r5))).1 (t9 (t9 (t4 r5))).1 (t9 (t9 (t5 r5))).1 (t9 (t9 (t6 r5))).1 (t9 (t9 (t7 r5))).1 (t9 (t9 (t8 r5))).1).bind fun r6=>
  bif (!r6) then
   e0
  else
   bif ((t9 (t9 (t9 r5))).toList==ByteArray.empty.toList) then
    e0
   else
    rec (IntKind.wrap .i64 (v2+1))
 else
  e1
def aM.l8 {R:Type} (k:Nat) (v1 v3 v4:Int) (v5 v6:Bool) (v7 v8:Int) (v9:Bool) (v10 v11:Int) (v12 fG:Bool) (fH eZ fq gw jF:Int) (iS v20 v21 iR ij v24:LI) (j4:LL) (j5 lg v28:LI) (n4:LL) (v30:List ByteArray) (e0 e1:Option R) (n:Nat) (v2:Int):Option R:=
 V.iter (A:=Int) (fun rec a=>aM.s8 k v1 v3 v4 v5 v6 v7 v8 v9 v10 v11 v12 fG fH eZ fq gw jF iS v20 v21 iR ij v24 j4 j5 lg v28 n4 v30 e0 e1 (fun c0=>rec c0) a) n v2
theorem aM.AJ {R:Type} (k:Nat) (v1 v3 v4:Int) (v5 v6:Bool) (v7 v8:Int) (v9:Bool) (v10 v11:Int) (v12 fG:Bool) (fH eZ fq gw jF:Int) (iS v20 v21 iR ij v24:LI) (j4:LL) (j5 lg v28:LI) (n4:LL) (v30:List ByteArray) (e0 e1:Option R) (n:Nat) (v2:Int):aM.l8 (R:=R) k v1 v3 v4 v5 v6 v7 v8 v9 v10 v11 v12 fG fH eZ fq gw jF iS v20 v21 iR ij v24 j4 j5 lg v28 n4 v30 e0 e1 (n+1) v2=aM.s8 k v1 v3 v4 v5 v6 v7 v8 v9 v10 v11 v12 fG fH eZ fq gw jF iS v20 v21 iR ij v24 j4 j5 lg v28 n4 v30 e0 e1 (aM.l8 k v1 v3 v4 v5 v6 v7 v8 v9 v10 v11 v12 fG fH eZ fq gw jF iS v20 v21 iR ij v24 j4 j5 lg v28 n4 v30 e0 e1 n) v2:=rfl
def aM.Z1 {R:Type} (k:Nat) (v0:ByteArray) (e0:Int->Option R) (rec:Int->Int->Option R) (v2 v3:Int):Option R:=
 bif decide (v3<(v0.size:Int)) then
  ay ((decide (0<=v3))&&(decide (v3<(v0.size:Int))))<|
  bif ((sb v0 v3.toNat)==10) then
   rec (IntKind.wrap .i64 (v2+1)) (IntKind.wrap .i64 (v3+1))
  else
   rec v2 (IntKind.wrap .i64 (v3+1))
 else
  e0 v2
def aM.To {R:Type} (k:Nat) (v0:ByteArray) (e0:Int->Option R) (n:Nat) (v2 v3:Int):Option R:=
 V.iter (A:=Int×Int) (fun rec a=>aM.Z1 k v0 e0 (fun c0 c1=>rec (c0,c1)) a.1 a.2) n (v2,v3)
theorem aM.G_ {R:Type} (k:Nat) (v0:ByteArray) (e0:Int->Option R) (n:Nat) (v2 v3:Int):aM.To (R:=R) k v0 e0 (n+1) v2 v3=aM.Z1 k v0 e0 (aM.To k v0 e0 n) v2 v3:=rfl
def aM.f (k:Nat) (a:LI):Option (Bool):=
 (wG.f k a).bind fun r1=>
 bif r1 then
  some true
 else
  (eR.f k a).bind fun r2=>
  (cL.f k r2.1 r2.2.1 (t2 r2).1 (t3 r2).1 (t4 r2).1 (t5 r2).1 (t6 r2).1 (t7 r2).1 (t8 r2).1 (t9 r2).1 (t9 r2.2).1 (t9 (t2 r2)).1 (t9 (t3 r2)).1 (t9 (t4 r2)).1 (t9 (t5 r2)).1 (t9 (t6 r2)).1 (t9 (t7 r2)).1 (t9 (t8 r2)).1 (t9 (t9 r2)).1 (t9 (t9 r2.2)).1 (t9 (t9 (t2 r2))).1 (t9 (t9 (t3 r2))).1 (t9 (t9 (t4 r2))).1 (t9 (t9 (t5 r2))).1 (t9 (t9 (t6 r2))).1 (t9 (t9 (t7 r2))).1 (t9 (t9 (t8 r2))).1 (t9 (t9 (t9 r2)))).bind fun r3=>
  bif ((t9 (t9 (t9 r3))).toList==(⟨#[119,104,97,116]⟩:ByteArray).toList) then
   (eY.f k r3.1 r3.2.1 (t2 r3).1 (t3 r3).1 (t4 r3).1 (t5 r3).1 (t6 r3).1 (t7 r3).1 (t8 r3).1 (t9 r3).1 (t9 r3.2).1 (t9 (t2 r3)).1 (t9 (t3 r3)).1 (t9 (t4 r3)).1 (t9 (t5 r3)).1 (t9 (t6 r3)).1 (t9 (t7 r3)).1 (t9 (t8 r3)).1 (t9 (t9 r3)).1 (t9 (t9 r3.2)).1 (t9 (t9 (t2 r3))).1 (t9 (t9 (t3 r3))).1 (t9 (t9 (t4 r3))).1 (t9 (t9 (t5 r3))).1 (t9 (t9 (t6 r3))).1 (t9 (t9 (t7 r3))).1 (t9 (t9 (t8 r3))).1 r2.1 r2.2.1 (t2 r2).1 (t3 r2).1 (t4 r2).1 (t5 r2).1 (t6 r2).1 (t7 r2).1 (t8 r2).1 (t9 r2).1 (t9 r2.2).1 (t9 (t2 r2)).1 (t9 (t3 r2)).1 (t9 (t4 r2)).1 (t9 (t5 r2)).1 (t9 (t6 r2)).1 (t9 (t7 r2)).1 (t9 (t8 r2)).1 (t9 (t9 r2)).1 (t9 (t9 r2.2)).1 (t9 (t9 (t2 r2))).1 (t9 (t9 (t3 r2))).1 (t9 (t9 (t4 r2))).1 (t9 (t9 (t5 r2))).1 (t9 (t9 (t6 r2))).1 (t9 (t9 (t7 r2))).1 (t9 (t9 (t8 r2))).1).bind fun r4=>
   bif (!r4) then
    some false
   else
    bif ((t9 (t9 (t9 r3))).toList==ByteArray.empty.toList) then
     some false
    else
     aM.l8 k 11 r3.1 r3.2.1 (t2 r3).1 (t3 r3).1 (t6 r3).1 (t7 r3).1 (t9 r3).1 (t9 (t2 r3)).1 (t9 (t3 r3)).1 (t9 (t4 r3)).1 (t9 (t5 r3)).1 (t9 (t8 r3)).1 (t9 (t9 r3)).1 (t9 (t9 (t4 r3))).1 (t9 (t9 (t5 r3))).1 (t9 (t9 (t6 r3))).1 (t4 r3).1 (t5 r3).1 (t8 r3).1 (t9 r3.2).1 (t9 (t6 r3)).1 (t9 (t7 r3)).1 (t9 (t9 r3.2)).1 (t9 (t9 (t2 r3))).1 (t9 (t9 (t3 r3))).1 (t9 (t9 (t7 r3))).1 (t9 (t9 (t8 r3))).1 ([(⟨#[114,117,108,101,115]⟩:ByteArray),(⟨#[116,97,98,108,101]⟩:ByteArray),(⟨#[103,97,109,101]⟩:ByteArray),(⟨#[115,101,101,32,48]⟩:ByteArray),(⟨#[99,97,110]⟩:ByteArray),(⟨#[114,101,99,111,114,100]⟩:ByteArray),(⟨#[115,104,101,101,116]⟩:ByteArray),(⟨#[97,117,100,105,116]⟩:ByteArray),(⟨#[108,101,102,116,32,50,99,51,99,52,99,75,100]⟩:ByteArray),(⟨#[99,111,117,110,116,32,114]⟩:ByteArray),ByteArray.empty]) (some false) ((az.f k a).bind fun r7=>
      (bw.f k r7).bind fun r8=>
      aM.To k r7 (fun x9=>
       bif r8.2 then
        bif ((r8.1.length:Int)==x9) then
         some true
        else
         bif (!r8.2) then
          bif ((r8.1.length:Int)==0) then
           some (decide (x9>60))
          else
           some false
         else
          some false
       else
        bif (!r8.2) then
         bif ((r8.1.length:Int)==0) then
          some (decide (x9>60))
         else
          some false
        else
         some false) k 0 0) k 0
  else
   bif ((t9 (t9 (t9 r3))).toList==ByteArray.empty.toList) then
    some false
   else
    aM.l8 k 11 r3.1 r3.2.1 (t2 r3).1 (t3 r3).1 (t6 r3).1 (t7 r3).1 (t9 r3).1 (t9 (t2 r3)).1 (t9 (t3 r3)).1 (t9 (t4 r3)).1 (t9 (t5 r3)).1 (t9 (t8 r3)).1 (t9 (t9 r3)).1 (t9 (t9 (t4 r3))).1 (t9 (t9 (t5 r3))).1 (t9 (t9 (t6 r3))).1 (t4 r3).1 (t5 r3).1 (t8 r3).1 (t9 r3.2).1 (t9 (t6 r3)).1 (t9 (t7 r3)).1 (t9 (t9 r3.2)).1 (t9 (t9 (t2 r3))).1 (t9 (t9 (t3 r3))).1 (t9 (t9 (t7 r3))).1 (t9 (t9 (t8 r3))).1 ([(⟨#[114,117,108,101,115]⟩:ByteArray),(⟨#[116,97,98,108,101]⟩:ByteArray),(⟨#[103,97,109,101]⟩:ByteArray),(⟨#[115,101,101,32,48]⟩:ByteArray),(⟨#[99,97,110]⟩:ByteArray),(⟨#[114,101,99,111,114,100]⟩:ByteArray),(⟨#[115,104,101,101,116]⟩:ByteArray),(⟨#[97,117,100,105,116]⟩:ByteArray),(⟨#[108,101,102,116,32,50,99,51,99,52,99,75,100]⟩:ByteArray),(⟨#[99,111,117,110,116,32,114]⟩:ByteArray),ByteArray.empty]) (some false) ((az.f k a).bind fun mO=>
     (bw.f k mO).bind fun ke=>
     aM.To k mO (fun Je=>
      bif ke.2 then
       bif ((ke.1.length:Int)==Je) then
        some true
       else
        bif (!ke.2) then
         bif ((ke.1.length:Int)==0) then
          some (decide (Je>60))
         else
          some false
        else
         some false
      else
       bif (!ke.2) then
        bif ((ke.1.length:Int)==0) then
         some (decide (Je>60))
        else
         some false
       else
        some false) k 0 0) k 0
end Go.Proofs.YtbmmhdmljajcfaaGreatDoor
