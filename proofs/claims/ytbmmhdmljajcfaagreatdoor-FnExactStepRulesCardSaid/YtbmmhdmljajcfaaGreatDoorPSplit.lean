/- A text cut at a byte; what stands behind a name. Conditions: enough rounds, texts of at most 2^20. -/
import Derived.Test.YtbmmhdmljajcfaaGreatDoorKit
import Derived.Test.YtbmmhdmljajcfaaGreatDoorFFnExactStepRules
import Derived.Test.YtbmmhdmljajcfaaGreatDoorPBytes
import Derived.Test.YtbmmhdmljajcfaaGreatDoorVExt
set_option linter.unusedVariables false
set_option linter.unusedSimpArgs false
namespace Go.Proofs.YtbmmhdmljajcfaaGreatDoor
open Go Go.Proofs.YtbmmhdmljajcfaaGreatDoor.V
def cutW (s:ByteArray) (c:Int):Nat->Nat->Nat->List ByteArray
 |0,a,i=>[s.extract a i]
 |m+1,a,i=>bif sb s i==c then s.extract a i::cutW s c m (i+1) (i+1) else cutW s c m a (i+1)
def words (s:ByteArray) (c:Int):List ByteArray:=cutW s c s.size 0 0
theorem cutW_le (s:ByteArray) (c:Int): ∀m a i,∀w∈cutW s c m a i,w.size<=s.size
 |0,a,i,w,h=>by
  rw[List.mem_singleton.1 h,ByteArray.size_extract];omega
 |m+1,a,i,w,h=>by
  unfold cutW at h
  cases hb:sb s i==c with
  |true=>
   rw[hb,cond_true] at h
   rcases List.mem_cons.1 h with rfl|h
   ·rw[ByteArray.size_extract];omega
   ·exact cutW_le s c m _ _ w h
  |false=>rw[hb,cond_false] at h;exact cutW_le s c m _ _ w h
theorem rm16 {n:Nat} (h:n<=2097153):decide (n*16<=room)=true:=dec_t (by unfold room;omega)
theorem impl_SplitWords.loop {R:Type} (k:Nat) {s:ByteArray} (c:Int) (hs:s.size<1048577) (e0:Int->List ByteArray->Option R) (X:List ByteArray->Option R) (he: ∀(a:Nat) acc,a<=s.size->acc.length<=s.size->e0 (a:Int) acc=X (acc++[s.extract a s.size])):
 ∀(m n a i:Nat) (acc:List ByteArray),i+m=s.size->m<n->a<=i->acc.length<=i->impl_SplitWords.l3 k s c (s.size:Int) e0 n (a:Int) (i:Int) acc=X (acc++cutW s c m a i):=by
 intro m
 induction m with
 |zero=>
  intro n a i acc hi hn ha hacc
  obtain ⟨n,rfl⟩: ∃j,n=j+1:=⟨n-1,by omega⟩
  obtain rfl:i=s.size:=by omega
  rw[impl_SplitWords.l3_succ]
  unfold impl_SplitWords.s3
  rw[bif_f (dec_f (by omega))]
  exact he a acc ha hacc
 |succ m ih=>
  intro n a i acc hi hn ha hacc
  obtain ⟨n,rfl⟩: ∃j,n=j+1:=⟨n-1,by omega⟩
  rw[impl_SplitWords.l3_succ]
  unfold impl_SplitWords.s3
  rw[bif_t (dec_t (by omega)),chk_t (and_t (dec_t (by omega)) (dec_t (by omega))),show ((i:Int)).toNat=i from Int.toNat_natCast i,wrap_up (by omega)]
  unfold cutW
  cases sb s i==c with
  |true=>
   refine (bif_t rfl).trans ?_
   rw[chk_t (and_t (dec_t (by omega)) (dec_t (by omega))),chk_t (and_t (dec_t (by omega)) (dec_t (by omega))),chk_t (rm16 (by omega)),show ((a:Int)).toNat=a from Int.toNat_natCast a,ih n (i+1) (i+1) _ (by omega) (by omega) (by omega) (by simp;omega),List.append_assoc]
   rfl
  |false=>
   refine (bif_f rfl).trans ?_
   rw[ih n a (i+1) acc (by omega) (by omega) (by omega) (by omega)]
   rfl
theorem impl_SplitWords.eq {k:Nat} (hk:BIG<=k) {s:ByteArray} (c:Int) (hs:s.size<1048577):impl_SplitWords.f k s c=some (words s c):=by
 have hB:BIG=1073741824:=rfl
 unfold impl_SplitWords.f
 rw[show (0:Int)=((0:Nat):Int) from rfl,impl_SplitWords.loop k c hs _ (fun x=>some x) (fun a acc ha hacc=> ?_) s.size k 0 0 [] (by omega) (by omega) (by omega) (by simp)]
 ·rfl
 ·rw[chk_t (and_t (dec_t (by omega)) (dec_t (by omega))),chk_t (and_t (dec_t (by omega)) (dec_t (by omega))),chk_t (rm16 (by omega))]
  rw[show ((a:Int)).toNat=a from Int.toNat_natCast a,show ((s.size:Int)).toNat=s.size from Int.toNat_natCast _]
theorem spec_SplitWords.loop {R:Type} (k:Nat) {s:ByteArray} (c:Int) (hs:s.size<1048577) (e0:List ByteArray->Option R):
 ∀(m n a i:Nat) (acc:List ByteArray),i+m=s.size->m+1<n->a<=i->acc.length<=i->spec_SplitWords.l4 k s c e0 n (a:Int) (i:Int) acc=e0 (acc++cutW s c m a i):=by
 intro m
 induction m with
 |zero=>
  intro n a i acc hi hn ha hacc
  obtain ⟨n,rfl⟩: ∃j,n=j+1+1:=⟨n-2,by omega⟩
  obtain rfl:i=s.size:=by omega
  rw[spec_SplitWords.l4_succ]
  unfold spec_SplitWords.s4
  rw[bif_t (dec_t (Int.le_refl _)),bif_t (beq_self_eq_true _),chk_t (and_t (dec_t (by omega)) (dec_t (by omega))),chk_t (and_t (dec_t (by omega)) (dec_t (by omega))),chk_t (rm16 (by omega)),wrap_up (by omega),show ((a:Int)).toNat=a from Int.toNat_natCast a,show ((s.size:Int)).toNat=s.size from Int.toNat_natCast _]
  rw[spec_SplitWords.l4_succ]
  unfold spec_SplitWords.s4
  rw[bif_f (dec_f (by omega))]
  rfl
 |succ m ih=>
  intro n a i acc hi hn ha hacc
  obtain ⟨n,rfl⟩: ∃j,n=j+1:=⟨n-1,by omega⟩
  rw[spec_SplitWords.l4_succ]
  unfold spec_SplitWords.s4
  rw[bif_t (dec_t (by omega)),bif_f (beq_false_of_ne (by omega)),chk_t (and_t (dec_t (by omega)) (dec_t (by omega))),show ((i:Int)).toNat=i from Int.toNat_natCast i,wrap_up (by omega)]
  unfold cutW
  cases sb s i==c with
  |true=>
   refine (bif_t rfl).trans ?_
   rw[chk_t (and_t (dec_t (by omega)) (dec_t (by omega))),chk_t (and_t (dec_t (by omega)) (dec_t (by omega))),chk_t (rm16 (by omega)),show ((a:Int)).toNat=a from Int.toNat_natCast a,ih n (i+1) (i+1) _ (by omega) (by omega) (by omega) (by simp;omega),List.append_assoc]
   rfl
  |false=>
   refine (bif_f rfl).trans ?_
   rw[ih n a (i+1) acc (by omega) (by omega) (by omega) (by omega)]
   rfl
theorem spec_SplitWords.eq {k:Nat} (hk:BIG<=k) {s:ByteArray} (c:Int) (hs:s.size<1048577):spec_SplitWords.f k s c=some (words s c):=by
 have hB:BIG=1073741824:=rfl
 unfold spec_SplitWords.f
 rw[show (0:Int)=((0:Nat):Int) from rfl,spec_SplitWords.loop k c hs _ s.size k 0 0 [] (by omega) (by omega) (by omega) (by simp)]
 rfl
def eqB:ByteArray:=⟨#[61]⟩
def valAfter (w g:ByteArray):ByteArray×Bool:=bif hasPre w (g++eqB) then (trimPre w (g++eqB),true) else (ByteArray.empty,false)
theorem impl_ValueAfter.eq (k:Nat) {w g:ByteArray} (hg:g.size<1048577):impl_ValueAfter.f k w g=some (valAfter w g):=by
 unfold impl_ValueAfter.f
 rw[chk_t (dec_t (by show g.size+1<=maxI;unfold maxI;omega))]
 refine (bind_s (show strings_CutPrefix.f k w (g++eqB)=_ from rfl)).trans ?_
 unfold valAfter
 cases h:hasPre w (g++eqB) with
 |true=>exact bif_f rfl
 |false=>exact bif_t rfl
theorem hasPre_iff {w g:ByteArray}:hasPre w (g++eqB)=true↔ ∃r,w.data.toList=g.data.toList++61::r:=by
 unfold hasPre Go.Lib.hasPrefix
 rw[List.isPrefixOf_iff_prefix,bytes_cat]
 constructor
 ·rintro ⟨t,ht⟩
  exact ⟨t,by rw[<- ht,List.append_assoc];rfl⟩
 ·rintro ⟨r,hr⟩
  exact ⟨r,by rw[hr,List.append_assoc];rfl⟩
theorem trimPre_of {w g:ByteArray} {r:List UInt8} (h:w.data.toList=g.data.toList++61::r):(trimPre w (g++eqB)).data.toList=r:=by
 have hp:=hasPre_iff.2 ⟨r,h⟩
 show ((Go.Lib.trimPrefix w.data.toList (g++eqB).data.toList).toArray).toList=r
 unfold Go.Lib.trimPrefix
 rw[if_pos (by exact hp),h,bytes_cat]
 have e:g.data.toList++61::r=(g.data.toList++eqB.data.toList)++r:=by rw[List.append_assoc];rfl
 rw[e]
 show List.drop _ _=r
 rw[List.drop_append_of_le_length (Nat.le_refl _),List.drop_of_length_le (Nat.le_refl _)];rfl
theorem extract_data (s:ByteArray) (a b:Nat):(s.extract a b).data.toList=(s.data.toList.take b).drop a:=by
 rw[ByteArray.data_extract,Array.toList_extract]
 simp[List.extract_eq_take_drop,List.drop_take]
theorem spec_ValueAfter.eq (k:Nat) {w g:ByteArray} (hw:w.size<1048577) (hg:g.size<1048577):spec_ValueAfter.f k w g=some (valAfter w g):=by
 have hno:(¬ ∃r,w.data.toList=g.data.toList++61::r)->valAfter w g=(ByteArray.empty,false):=fun h=>by
  unfold valAfter
  cases e:hasPre w (g++eqB) with
  |true=>exact absurd (hasPre_iff.1 e) h
  |false=>rfl
 have hlg:=bytes_len g
 have hlw:=bytes_len w
 unfold spec_ValueAfter.f
 by_cases h1:(w.size:Int)<=(g.size:Int)
 ·rw[bif_t (dec_t h1),hno]
  rintro ⟨r,hr⟩
  have:=congrArg List.length hr
  simp only[List.length_append,List.length_cons] at this
  omega
 ·rw[bif_f (dec_f h1),chk_t (and_t (dec_t (by omega)) (dec_t (by omega))),chk_t (dec_t (by omega)),show ((g.size:Int)).toNat=g.size from Int.toNat_natCast _]
  have hsplit:w.data.toList=w.data.toList.take g.size++w.data.toList.drop g.size:=(List.take_append_drop ..).symm
  have hlen:g.size<w.data.toList.length:=by omega
  have hd:w.data.toList.drop g.size=w.data.toList[g.size]::w.data.toList.drop (g.size+1):=List.drop_eq_getElem_cons hlen
  generalize w.data.toList[g.size] =b at hd
  have hsb:=sb_get hd
  have hex:(w.extract 0 g.size).data.toList=w.data.toList.take g.size:=by rw[extract_data];simp
  have hiff:(∃r,w.data.toList=g.data.toList++61::r)↔w.data.toList.take g.size=g.data.toList/\b=61:=by
   constructor
   ·rintro ⟨r,hr⟩
    have e1:w.data.toList.take g.size=g.data.toList:=by rw[hr,List.take_append_of_le_length (by omega),List.take_of_length_le (by omega)]
    have e2:w.data.toList.drop g.size=61::r:=by rw[hr,List.drop_append_of_le_length (by omega),List.drop_of_length_le (by omega)];rfl
    rw[hd] at e2
    exact ⟨e1,(List.cons.inj e2).1⟩
   ·rintro ⟨e1,rfl⟩
    exact ⟨w.data.toList.drop (g.size+1),by rw[<- hd,<- e1];exact hsplit⟩
  rw[bytes_eq_iff,hex]
  by_cases e1:w.data.toList.take g.size=g.data.toList
  ·refine (bif_f (by rw[dec_t e1];rfl)).trans ?_
   rw[chk_t (and_t (dec_t (by omega)) (dec_t (by omega))),hsb]
   by_cases e2:b=61
   ·subst e2
    have hr:w.data.toList=g.data.toList++61::w.data.toList.drop (g.size+1):=by rw[<- hd,<- e1];exact hsplit
    refine (bif_f rfl).trans ?_
    rw[chk_t (and_t (dec_t (by omega)) (dec_t (by omega))),wrap_up (by omega),chk_t (and_t (dec_t (by omega)) (dec_t (by omega))),show (((g.size+1:Nat):Int)).toNat=g.size+1 from Int.toNat_natCast _,show ((w.size:Int)).toNat=w.size from Int.toNat_natCast _]
    unfold valAfter
    rw[hasPre_iff.2 ⟨_,hr⟩]
    show some (_,true)=some (_,true)
    congr 2
    apply bytes_ext
    rw[trimPre_of hr,extract_data,List.take_of_length_le (by omega)]
   ·refine (bif_t (by simp;intro h;exact e2 (UInt8.toNat_inj.1 (show b.toNat=61 by omega)))).trans ?_
    rw[hno fun h=>e2 (hiff.1 h).2]
  ·refine (bif_t (by rw[dec_f e1];rfl)).trans ?_
   rw[hno fun h=>e1 (hiff.1 h).1]
end Go.Proofs.YtbmmhdmljajcfaaGreatDoor
