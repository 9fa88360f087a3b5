/- What the functions walked by hand come to, in plain Lean: the reader of patterns. Conditions: none. -/
import Derived.Test.YtbmmhdmljajcfaaGreatDoorVExt
set_option linter.unusedVariables false
namespace Go.Proofs.YtbmmhdmljajcfaaGreatDoor.DR
open Go Go.Proofs.YtbmmhdmljajcfaaGreatDoor.V
def eY (s:ByteArray) (i:Nat):Int:=if h:i<s.size then ((s[i]'h).toNat:Int) else 0
def Bo (c:Int):Int:=yw ⟨#[99,100,104,115]⟩ c
def yx (c:Int):Int:=yw ⟨#[50,51,52,53,54,55,56,57,84,74,81,75,65]⟩ c
def Bp (rd:Nat->List Int->Bool×Nat×List Int) (s:ByteArray) (i:Nat) (l:List Int):Bool×Nat×List Int:=
 match rd i l with
 | (false,i1,l1)=>(false,i1,l1)
 | (true,i1,l1)=>
   if eY s i1=38\/eY s i1=124 then
    match rd (i1+1) l1 with
    | (false,i2,l2)=>(false,i2,l2)
    | (true,i2,l2)=>if eY s i2=41 then (true,i2+1,l2++[if eY s i1=38 then-2 else-3]) else (false,i2,l2)
   else (false,i1,l1)
def lO:Nat->ByteArray->Nat->List Int->Bool×Nat×List Int
 |0,_,i,l=>(false,i+1,l)
 |k+1,s,i,l=>
  if eY s i=0 then (false,i+1,l)
  else if eY s i=33 then match lO k s (i+1) l with
   | (false,i1,l1)=>(false,i1,l1)
   | (true,i1,l1)=>(true,i1,l1++[-1])
  else if eY s i=40 then Bp (lO k s) s (i+1) l
  else if eY s i=114 then (true,i+1,l++[400])
  else if 0<=Bo (eY s i) then (true,i+1,l++[100+Bo (eY s i)])
  else if yx (eY s i)<0 then (false,i+1,l)
  else if eY s (i+1)=43 then (true,i+1+1,l++[300+yx (eY s i)])
  else (true,i+1,l++[200+yx (eY s i)])
def yu (F:List Int->Option ByteArray) (s:ByteArray):Option (List Int×Bool):=
 bif Nat.ble s.size 100 then
  match lO (s.size+1) s 0 [] with
  | (false,_,_)=>some ([],false)
  | (true,_,l)=>(F l).bind fun t=>bif t.toList==s.toList then some (l,true) else some ([],false)
 else some ([],false)
end Go.Proofs.YtbmmhdmljajcfaaGreatDoor.DR
