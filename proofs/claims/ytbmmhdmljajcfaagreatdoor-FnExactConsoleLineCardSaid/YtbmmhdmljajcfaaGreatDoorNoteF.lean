/- What the functions walked by hand come to, in plain Lean: the reader of patterns. Conditions: none. -/
import Derived.Test.YtbmmhdmljajcfaaGreatDoorTg
import Derived.Test.YtbmmhdmljajcfaaGreatDoorVExt
set_option linter.unusedVariables false
namespace Go.Proofs.YtbmmhdmljajcfaaGreatDoor.Ca
open Go Go.Proofs.YtbmmhdmljajcfaaGreatDoor.V
def fB (s:BA) (i:Nat):Int:=if h:i<s.size then ((s[i]'h).toNat:Int) else 0
def C8 (c:Int):Int:=se ⟨#[99,100,104,115]⟩ c
def xa (c:Int):Int:=se ⟨#[50,51,52,53,54,55,56,57,84,74,81,75,65]⟩ c
def AE (rd:Nat->LI->Bool×Nat×LI) (s:BA) (i:Nat) (l:LI):Bool×Nat×LI:=
 match rd i l with
 | (false,i1,l1)=>(false,i1,l1)
 | (true,i1,l1)=>
   if fB s i1=38\/fB s i1=124 then
    match rd (i1+1) l1 with
    | (false,i2,l2)=>(false,i2,l2)
    | (true,i2,l2)=>if fB s i2=41 then (true,i2+1,l2++[if fB s i1=38 then-2 else-3]) else (false,i2,l2)
   else (false,i1,l1)
def kY:Nat->BA->Nat->LI->Bool×Nat×LI
 |0,_,i,l=>(false,i+1,l)
 |k+1,s,i,l=>
  if fB s i=0 then (false,i+1,l)
  else if fB s i=33 then match kY k s (i+1) l with
   | (false,i1,l1)=>(false,i1,l1)
   | (true,i1,l1)=>(true,i1,l1++[-1])
  else if fB s i=40 then AE (kY k s) s (i+1) l
  else if fB s i=114 then (true,i+1,l++[400])
  else if 0<=C8 (fB s i) then (true,i+1,l++[100+C8 (fB s i)])
  else if xa (fB s i)<0 then (false,i+1,l)
  else if fB s (i+1)=43 then (true,i+1+1,l++[300+xa (fB s i)])
  else (true,i+1,l++[200+xa (fB s i)])
def EF (F:LI->Option BA) (s:BA):Option (LI×Bool):=
 bif Nat.ble s.size 100 then
  match kY (s.size+1) s 0 [] with
  | (false,_,_)=>some ([],false)
  | (true,_,l)=>(F l).bind fun t=>bif t.toList==s.toList then some (l,true) else some ([],false)
 else some ([],false)
def w_ (H:LI->Int->Option Bool) (X:LI->Int->Option LI):LI->LI->Bool->Option (LI×Bool)
 | [],l,b=>some (l,b)
 |c::cs,l,b=>(bif b then H l c else some false).bind fun b'=>(X l c).bind fun l'=>w_ H X cs l' b'
def kR (V:LI->Option Int) (H:LI->Int->Option Bool) (X:LI->Int->Option LI):LL->LI->Int->Option Int
 | [],_,o=>some o
 |m::ms,l,o=>(w_ H X m l true).bind fun p=>bif p.2 then (V p.1).bind fun o'=>(kR V H X ms p.1 o').bind fun r=>kR V H X ms l (if r<o then r else o) else kR V H X ms l o
def R1 (IH:LI->Option Bool) (M:LI->Option LL) (Cp:LI->Option LI) (V:LI->Option Int) (H:LI->Int->Option Bool) (X:LI->Int->Option LI) (l:LI):Option Int:=
 (IH l).bind fun b=>bif !b||decide (12<(l.length:Int)) then some (-1) else (M l).bind fun ms=>bif decide (ms.length<1000000)&&ms.all (fun m=>decide (m.length<1000000)) then (Cp l).bind fun l'=>(V l').bind fun o=>kR V H X ms l' o else none
