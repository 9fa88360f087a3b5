/- What the functions walked by hand come to, in plain Lean: the reader of patterns. Conditions: none. -/
import Derived.Test.YtbmmhdmljajcfaaGreatDoorVExt
set_option linter.unusedVariables false
namespace Go.Proofs.YtbmmhdmljajcfaaGreatDoor.Note
open Go Go.Proofs.YtbmmhdmljajcfaaGreatDoor.V
def nNext (s:ByteArray) (i:Nat):Int:=if h:i<s.size then ((s[i]'h).toNat:Int) else 0
def suitB (c:Int):Int:=indexB ⟨#[99,100,104,115]⟩ c
def rankB (c:Int):Int:=indexB ⟨#[50,51,52,53,54,55,56,57,84,74,81,75,65]⟩ c
def nPair (rd:Nat->List Int->Bool×Nat×List Int) (s:ByteArray) (i:Nat) (l:List Int):Bool×Nat×List Int:=
 match rd i l with
 | (false,i1,l1)=>(false,i1,l1)
 | (true,i1,l1)=>
   if nNext s i1=38\/nNext s i1=124 then
    match rd (i1+1) l1 with
    | (false,i2,l2)=>(false,i2,l2)
    | (true,i2,l2)=>if nNext s i2=41 then (true,i2+1,l2++[if nNext s i1=38 then-2 else-3]) else (false,i2,l2)
   else (false,i1,l1)
def nRead:Nat->ByteArray->Nat->List Int->Bool×Nat×List Int
 |0,_,i,l=>(false,i+1,l)
 |k+1,s,i,l=>
  if nNext s i=0 then (false,i+1,l)
  else if nNext s i=33 then match nRead k s (i+1) l with
   | (false,i1,l1)=>(false,i1,l1)
   | (true,i1,l1)=>(true,i1,l1++[-1])
  else if nNext s i=40 then nPair (nRead k s) s (i+1) l
  else if nNext s i=114 then (true,i+1,l++[400])
  else if 0<=suitB (nNext s i) then (true,i+1,l++[100+suitB (nNext s i)])
  else if rankB (nNext s i)<0 then (false,i+1,l)
  else if nNext s (i+1)=43 then (true,i+1+1,l++[300+rankB (nNext s i)])
  else (true,i+1,l++[200+rankB (nNext s i)])
def parseF (F:List Int->Option ByteArray) (s:ByteArray):Option (List Int×Bool):=
 bif Nat.ble s.size 100 then
  match nRead (s.size+1) s 0 [] with
  | (false,_,_)=>some ([],false)
  | (true,_,l)=>(F l).bind fun t=>bif t.toList==s.toList then some (l,true) else some ([],false)
 else some ([],false)
end Go.Proofs.YtbmmhdmljajcfaaGreatDoor.Note
