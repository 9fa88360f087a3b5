/- Joined strings. Conditions: enough rounds, lists of at most 2^20, strings of at most 2^25. -/
import Derived.Test.YtbmmhdmljajcfaaGreatDoorKit
import Derived.Test.YtbmmhdmljajcfaaGreatDoorFFnExactStepRules
import Derived.Test.YtbmmhdmljajcfaaGreatDoorVExt
set_option linter.unusedVariables false
set_option linter.unusedSimpArgs false
namespace Go.Proofs.YtbmmhdmljajcfaaGreatDoor
open Go Go.Proofs.YtbmmhdmljajcfaaGreatDoor.V
theorem ba_ext {a b:ByteArray} (h:a.data.toList=b.data.toList):a=b:=by
 cases a;cases b
 congr 1
 exact Array.ext' h
theorem ba_append (a b:ByteArray):(a++b).data.toList=a.data.toList++b.data.toList:=by rw[ByteArray.data_append,Array.toList_append]
theorem join_snoc (x0:List UInt8) (l:List (List UInt8)) (x sep:List UInt8):Go.Lib.join ((x0::l)++[x]) sep=Go.Lib.join (x0::l) sep++sep++x:=by
 rw[List.cons_append,Go.Lib.join_cons,Go.Lib.join_cons]
 simp[Go.Lib.joinTail,List.append_assoc]
theorem joinB_one (x sep:ByteArray):joinB [x] sep=x:=ba_ext (by show (Go.Lib.join [x.data.toList] _).toArray.toList=_;rw[Go.Lib.join_one])
theorem joinB_snoc {l:List ByteArray} (hl:l≠[]) (x sep:ByteArray):joinB (l++[x]) sep=joinB l sep++sep++x:=by
 cases l with
 |nil=>exact absurd rfl hl
 |cons x0 l=>
  refine ba_ext ?_
  rw[ba_append,ba_append]
  show (Go.Lib.join (((x0::l)++[x]).map (·.data.toList)) sep.data.toList).toArray.toList=(Go.Lib.join ((x0::l).map (·.data.toList)) sep.data.toList).toArray.toList++_++_
  rw[List.map_append,List.map_cons,List.map_cons,List.map_nil,join_snoc]
theorem take_snoc {α:Type} {l:List α} {i:Nat} (h:i<l.length):l.take (i+1)=l.take i++[l[i]]:=List.take_succ_eq_append_getElem h
theorem joinB_take (l:List ByteArray) (sep:ByteArray) {i:Nat} (h:i<l.length):joinB (l.take (i+1)) sep=bif decide (0<i) then joinB (l.take i) sep++sep++l[i] else l[i]:=by
 rw[take_snoc h]
 rcases Nat.eq_zero_or_pos i with e|e
 ·subst e;simp[joinB_one]
 ·rw[dec_t e]
  refine joinB_snoc ?_ _ _
  intro hn
  have:=congrArg List.length hn
  rw[List.length_take,List.length_nil] at this
  omega
theorem joinB_le {l:List ByteArray} {sep:ByteArray} (hs: ∀y∈l,y.size<=33554432) (hp:sep.size<=1048576): ∀i,i<=l.length->(joinB (l.take i) sep).size<=34603008*i:=by
 intro i
 induction i with
 |zero=>intro _;exact Nat.le_refl _
 |succ i ih=>
  intro h
  have h1:=ih (by omega)
  have h2:=hs _ (List.getElem_mem (show i<l.length by omega))
  rw[joinB_take l sep (by omega)]
  cases decide (0<i) with
  |true=>simp only[cond_true,ByteArray.size_append];omega
  |false=>simp only[cond_false];omega
theorem strings_Join.eq (k:Nat) {l:List ByteArray} {sep:ByteArray} (hl:l.length<1048577) (hs: ∀y∈l,y.size<=33554432) (hp:sep.size<=1048576):strings_Join.f k l sep=some (joinB l sep):=by
 have h:=joinB_le hs hp l.length (Nat.le_refl _)
 rw[List.take_length] at h
 exact chk_t (and_t (Nat.ble_eq_true_of_le (by omega)) (Nat.ble_eq_true_of_le (by omega)))
end Go.Proofs.YtbmmhdmljajcfaaGreatDoor
