/- Bytes of texts, in plain Lean. Conditions: none. -/
import Derived.Test.YtbmmhdmljajcfaaGreatDoorKit
import Derived.Test.YtbmmhdmljajcfaaGreatDoorVExt
set_option linter.unusedVariables false
set_option linter.unusedSimpArgs false
namespace Go.Proofs.YtbmmhdmljajcfaaGreatDoor
open Go Go.Proofs.YtbmmhdmljajcfaaGreatDoor.V
theorem bytes_ext {a b:ByteArray} (h:a.data.toList=b.data.toList):a=b:=by
 cases a;cases b
 congr 1
 exact Array.ext' h
theorem bytes_eq_iff {a b:ByteArray}:(a.toList==b.toList)=decide (a.data.toList=b.data.toList):=by
 rw[Go.Lib.toList_data,Go.Lib.toList_data]
 by_cases h:a.data.toList=b.data.toList
 ·rw[h];simp
 ·rw[dec_f h];simpa using h
theorem bytes_cat (a b:ByteArray):(a++b).data.toList=a.data.toList++b.data.toList:=by rw[ByteArray.data_append,Array.toList_append]
theorem bytes_len (a:ByteArray):a.data.toList.length=a.size:=by rw[Array.length_toList];rfl
theorem sb_get {s:ByteArray} {i:Nat} {b:UInt8} {l:List UInt8} (h:s.data.toList.drop i=b::l):sb s i=(b.toNat:Int):=by
 have h1:s.data.toList[i]? =some b:=by
  have:=congrArg (fun l=>l[0]?) h
  simpa using this
 have h2:s.data[i]? =some b:=by rw[<- Array.getElem?_toList];exact h1
 unfold sb
 rw[h2];rfl
theorem drop_more {s:ByteArray} {i:Nat} {b:UInt8} {l:List UInt8} (h:s.data.toList.drop i=b::l):i<s.size/\s.data.toList.drop (i+1)=l:=by
 refine ⟨?_,?_⟩
 ·rw[<- bytes_len]
  rcases Nat.lt_or_ge i s.data.toList.length with h1|h1
  ·exact h1
  ·rw[List.drop_of_length_le h1] at h;cases h
 ·have:=congrArg (List.drop 1) h
  rw[List.drop_drop] at this
  simpa[Nat.add_comm] using this
theorem u8_all {p:UInt8->Bool} (h:(List.range 256).all (fun n=>p (UInt8.ofNat n))=true) (b:UInt8):p b=true:=by
 have h1:=List.all_eq_true.1 h b.toNat (List.mem_range.2 b.toNat_lt)
 rwa [UInt8.ofNat_toNat] at h1
end Go.Proofs.YtbmmhdmljajcfaaGreatDoor
