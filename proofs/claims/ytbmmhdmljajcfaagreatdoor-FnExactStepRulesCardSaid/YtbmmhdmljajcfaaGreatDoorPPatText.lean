/- Patterns as text, in plain Lean. Conditions: enough rounds, lists of at most 2^20. -/
import Derived.Test.YtbmmhdmljajcfaaGreatDoorKit
import Derived.Test.YtbmmhdmljajcfaaGreatDoorFFnExactStepRules
import Derived.Test.YtbmmhdmljajcfaaGreatDoorPPattern
import Derived.Test.YtbmmhdmljajcfaaGreatDoorPBytes
set_option linter.unusedVariables false
set_option linter.unusedSimpArgs false
namespace Go.Proofs.YtbmmhdmljajcfaaGreatDoor
open Go Go.Proofs.YtbmmhdmljajcfaaGreatDoor.V
def rnkB:ByteArray:=⟨#[50,51,52,53,54,55,56,57,84,74,81,75,65]⟩
def sutB:ByteArray:=⟨#[99,100,104,115]⟩
def signB (a:Int):ByteArray:=
 bif a==400 then ⟨#[114]⟩ else bif decide (a>=300) then rnkB.extract (a-300).toNat ((a-300)+1).toNat++(⟨#[43]⟩:ByteArray)
 else bif decide (a>=200) then rnkB.extract (a-200).toNat ((a-200)+1).toNat else sutB.extract (a-100).toNat ((a-100)+1).toNat
theorem leaf_cases {a:Int} (h:leafB a=true):(100<=a/\a<=103)\/(200<=a/\a<=212)\/(300<=a/\a<=312)\/a=400:=by
 unfold leafB inR at h
 simp only[Bool.or_eq_true,Bool.and_eq_true,decide_eq_true_eq,beq_iff_eq] at h
 omega
theorem rank_chk {R:Type} {x:Int} (h0:0<=x) (h1:x<=12) (X:Option R):(chk ((decide (0<=(IntKind.wrap .i64 (x+1))))&&(decide ((IntKind.wrap .i64 (x+1))<=13)))<|chk ((decide (0<=x))&&(decide (x<=(IntKind.wrap .i64 (x+1)))))<|X)=X:=by
 rw[wrap_i64 (n:=x+1) (by omega) (by omega)]
 exact (chk_t (and_t (dec_t (by omega)) (dec_t (by omega)))).trans (chk_t (and_t (dec_t (by omega)) (dec_t (by omega))))
theorem suit_chk {R:Type} {x:Int} (h0:0<=x) (h1:x<=3) (X:Option R):(chk ((decide (0<=(IntKind.wrap .i64 (x+1))))&&(decide ((IntKind.wrap .i64 (x+1))<=4)))<|chk ((decide (0<=x))&&(decide (x<=(IntKind.wrap .i64 (x+1)))))<|X)=X:=by
 rw[wrap_i64 (n:=x+1) (by omega) (by omega)]
 exact (chk_t (and_t (dec_t (by omega)) (dec_t (by omega)))).trans (chk_t (and_t (dec_t (by omega)) (dec_t (by omega))))
theorem ex_one (x:ByteArray) (n:Int) (h0:0<=n) (h:n+1<=x.size):(x.extract n.toNat (n+1).toNat).size=1:=by rw[ByteArray.size_extract];omega
theorem spec_l9Rank.eq (k:Nat) {x:Int} (h0:0<=x) (h1:x<=12):spec_l9Rank.f k x=some (rnkB.extract x.toNat (x+1).toNat):=by
 unfold spec_l9Rank.f
 rw[rank_chk h0 h1,wrap_i64 (n:=x+1) (by omega) (by omega)];rfl
theorem spec_l9Leaf.eq (k:Nat) {a:Int} (h:leafB a=true):spec_l9Leaf.f k a=some (signB a):=by
 have e1:rnkB.size=13:=rfl
 have hc:=leaf_cases h
 unfold spec_l9Leaf.f signB
 by_cases h4:a=400
 ·subst h4;rfl
 have h4':(a==(400:Int))=false:=by simp[h4]
 rw[h4',cond_false,cond_false]
 by_cases h3:a>=300
 ·rw[bif_t (dec_t h3),bif_t (dec_t h3),wrap_i64 (by omega) (by omega)]
  refine (bind_s (spec_l9Rank.eq k (by omega) (by omega))).trans (chk_t (dec_t ?_))
  rw[ex_one rnkB _ (by omega) (by omega)];decide
 rw[bif_f (dec_f h3),bif_f (dec_f h3)]
 by_cases h2:a>=200
 ·rw[bif_t (dec_t h2),bif_t (dec_t h2),wrap_i64 (by omega) (by omega)]
  exact bind_s (spec_l9Rank.eq k (by omega) (by omega))
 rw[bif_f (dec_f h2),bif_f (dec_f h2),wrap_i64 (n:=a-100) (by omega) (by omega),suit_chk (by omega) (by omega),wrap_i64 (by omega) (by omega)]
 rfl
theorem impl_signText.eq (k:Nat) {a:Int} (h:leafB a=true):impl_signText.f k a=some (signB a):=by
 have e1:rnkB.size=13:=rfl
 have hc:=leaf_cases h
 unfold impl_signText.f signB
 by_cases h4:a=400
 ·subst h4;rfl
 have h4':(a==(400:Int))=false:=by simp[h4]
 rw[h4',cond_false,cond_false]
 by_cases h3:a>=300
 ·rw[bif_t (dec_t h3),bif_t (dec_t h3),wrap_i64 (n:=a-300) (by omega) (by omega),rank_chk (by omega) (by omega),wrap_i64 (by omega) (by omega)]
  refine chk_t (dec_t ?_)
  have:=ex_one rnkB (a-300) (by omega) (by omega)
  show (rnkB.extract _ _).size+_<=_
  rw[this];decide
 rw[bif_f (dec_f h3),bif_f (dec_f h3)]
 by_cases h2:a>=200
 ·rw[bif_t (dec_t h2),bif_t (dec_t h2),wrap_i64 (n:=a-200) (by omega) (by omega),rank_chk (by omega) (by omega),wrap_i64 (by omega) (by omega)]
  rfl
 rw[bif_f (dec_f h2),bif_f (dec_f h2),wrap_i64 (n:=a-100) (by omega) (by omega),suit_chk (by omega) (by omega),wrap_i64 (by omega) (by omega)]
 rfl
def wtP (a:Int):Nat:=if a= -1 then 1 else if a= -2\/a= -3 then 3 else if a>=300/\a≠400 then 2 else 1
def nsp (b:ByteArray):Prop:= ∀x∈b.data.toList,x≠32
theorem nsp_cat {a b:ByteArray} (h:nsp a) (h':nsp b):nsp (a++b):=fun x hx=>by
 rw[bytes_cat] at hx
 rcases List.mem_append.1 hx with h1|h1
 ·exact h x h1
 ·exact h' x h1
theorem nsp_ex {s:ByteArray} (h:nsp s) (a b:Nat):nsp (s.extract a b):=fun x hx=>by
 rw[ByteArray.data_extract,Array.toList_extract] at hx
 exact h x (List.mem_of_mem_drop (List.mem_of_mem_take (by simpa[List.extract_eq_take_drop] using hx)))
theorem nsp_one {c:UInt8} (h:c≠32):nsp ⟨#[c]⟩:=fun x hx=>by
 have:x=c:=by simpa using hx
 rw[this];exact h
theorem nsp_empty:nsp ByteArray.empty:=fun x hx=>by cases hx
theorem nsp_rnk:nsp rnkB:=by unfold nsp;decide+kernel
theorem nsp_sut:nsp sutB:=by unfold nsp;decide+kernel
theorem signB_facts {a:Int} (h:leafB a=true):(signB a).size=wtP a/\nsp (signB a):=by
 have e1:rnkB.size=13:=rfl
 have e2:sutB.size=4:=rfl
 have hc:=leaf_cases h
 unfold signB wtP
 rw[if_neg (by omega),if_neg (by omega)]
 by_cases h4:a=400
 ·subst h4;exact ⟨rfl,nsp_one (by decide)⟩
 have h4':(a==(400:Int))=false:=by simp[h4]
 rw[h4',cond_false]
 by_cases h3:a>=300
 ·rw[bif_t (dec_t h3),if_pos ⟨h3,h4⟩]
  refine ⟨?_,nsp_cat (nsp_ex nsp_rnk _ _) (nsp_one (by decide))⟩
  rw[ByteArray.size_append,ex_one rnkB _ (by omega) (by omega)];rfl
 rw[bif_f (dec_f h3),if_neg (by omega)]
 by_cases h2:a>=200
 ·rw[bif_t (dec_t h2)]
  exact ⟨ex_one rnkB _ (by omega) (by omega),nsp_ex nsp_rnk _ _⟩
 rw[bif_f (dec_f h2)]
 exact ⟨ex_one sutB _ (by omega) (by omega),nsp_ex nsp_sut _ _⟩
def joinP (c:UInt8) (x y:ByteArray):ByteArray:=((((⟨#[40]⟩:ByteArray)++x)++(⟨#[c]⟩:ByteArray))++y)++(⟨#[41]⟩:ByteArray)
def pileStep (p:List ByteArray) (a:Int):List ByteArray:=
 bif a== -1 then p.set (p.length-1) ((⟨#[33]⟩:ByteArray)++p.getD (p.length-1) ByteArray.empty)
 else bif a== -2 then p.take (p.length-2)++[joinP 38 (p.getD (p.length-2) ByteArray.empty) (p.getD (p.length-1) ByteArray.empty)]
 else bif a== -3 then p.take (p.length-2)++[joinP 124 (p.getD (p.length-2) ByteArray.empty) (p.getD (p.length-1) ByteArray.empty)]
 else p++[signB a]
def total:List ByteArray->Nat
 | []=>0
 |b::l=>b.size+total l
theorem total_cat: ∀(l l':List ByteArray),total (l++l')=total l+total l'
 | [],l'=>by simp[total]
 |b::l,l'=>by simp only[List.cons_append,total,total_cat l l'];omega
theorem total_get: ∀(l:List ByteArray) (j:Nat),(l.getD j ByteArray.empty).size<=total l
 | [],j=>by simp
 |b::l,0=>by simp[total]
 |b::l,j+1=>by have:=total_get l j;simp only[List.getD_cons_succ,total];omega
theorem last_one {p:List ByteArray} (h:1<=p.length): ∃q x,p=q++[x]:=
 ⟨p.dropLast,p.getLast (List.ne_nil_of_length_pos h),(List.dropLast_concat_getLast _).symm⟩
theorem last_two {p:List ByteArray} (h:2<=p.length): ∃q x y,p=q++[x]++[y]:=by
 obtain ⟨q,y,rfl⟩:=last_one (p:=p) (by omega)
 obtain ⟨q,x,rfl⟩:=last_one (p:=q) (by simp at h;omega)
 exact ⟨q,x,y,rfl⟩
theorem patOK_cases {d a:Int} (h:patOK d a=true):leafB a=true\/(a= -1/\1<=d)\/((a= -2\/a= -3)/\2<=d):=by
 unfold patOK at h
 simp only[Bool.or_eq_true,Bool.and_eq_true,decide_eq_true_eq,beq_iff_eq] at h
 rcases h with (h|h)|h
 ·exact .inl h
 ·exact .inr (.inl h)
 ·exact .inr (.inr h)
theorem pileStep_facts {p:List ByteArray} {a:Int} (h:patOK (p.length:Int) a=true):total (pileStep p a)=total p+wtP a/\((pileStep p a).length:Int)=patD p.length a/\((∀w∈p,nsp w)-> ∀w∈pileStep p a,nsp w):=by
 rcases patOK_cases h with hl| ⟨rfl,hd⟩| ⟨ha,hd⟩
 ·obtain ⟨h1,h2,h3⟩:=leafB_ne hl
  obtain ⟨s1,s2⟩:=signB_facts hl
  have e:pileStep p a=p++[signB a]:=by
   unfold pileStep
   rw[show (a==(-1:Int))=false by simp[h1],show (a==(-2:Int))=false by simp[h2],show (a==(-3:Int))=false by simp[h3]];rfl
  rw[e]
  refine ⟨by rw[total_cat];simp only[total];omega,?_,fun hp w hw=> ?_⟩
  ·unfold patD;rw[hl,cond_true,List.length_append,List.length_singleton];omega
  ·rcases List.mem_append.1 hw with hw|hw
   ·exact hp w hw
   ·rw[List.mem_singleton.1 hw];exact s2
 ·obtain ⟨q,x,rfl⟩:=last_one (p:=p) (by omega)
  have e:pileStep (q++[x]) (-1)=q++[(⟨#[33]⟩:ByteArray)++x]:=by
   show (q++[x]).set _ _=_
   rw[List.length_append,List.length_singleton,Nat.add_sub_cancel,show (q++[x]).getD q.length ByteArray.empty=x by simp[List.getD],List.set_append_right _ _ (Nat.le_refl _),Nat.sub_self];rfl
  rw[e]
  refine ⟨?_,?_,fun hp w hw=> ?_⟩
  ·rw[total_cat,total_cat];simp only[total,ByteArray.size_append]
   rw[show (⟨#[33]⟩:ByteArray).size=1 from rfl,show wtP (-1)=1 from rfl];omega
  ·unfold patD;rw[show leafB (-1)=false by decide];simp
  ·rcases List.mem_append.1 hw with hw|hw
   ·exact hp w (List.mem_append_left _ hw)
   ·rw[List.mem_singleton.1 hw];exact nsp_cat (nsp_one (by decide)) (hp x (by simp))
 ·obtain ⟨q,x,y,rfl⟩:=last_two (p:=p) (by omega)
  have hlen:(q++[x]++[y]).length=q.length+2:=by simp
  have g1:(q++[x]++[y]).getD (q.length+2-2) ByteArray.empty=x:=by simp[List.getD]
  have g2:(q++[x]++[y]).getD (q.length+2-1) ByteArray.empty=y:=by simp[List.getD]
  have g3:(q++[x]++[y]).take (q.length+2-2)=q:=by simp
  obtain ⟨c,hc,e⟩: ∃c,c≠32/\pileStep (q++[x]++[y]) a=q++[joinP c x y]:=by
   rcases ha with rfl|rfl
   ·refine ⟨38,by decide,?_⟩
    show (q++[x]++[y]).take _++[joinP 38 _ _] =_
    rw[hlen,g1,g2,g3]
   ·refine ⟨124,by decide,?_⟩
    show (q++[x]++[y]).take _++[joinP 124 _ _] =_
    rw[hlen,g1,g2,g3]
  rw[e]
  refine ⟨?_,?_,fun hp w hw=> ?_⟩
  ·have hw3:wtP a=3:=by rcases ha with rfl|rfl<;>rfl
   rw[total_cat,total_cat,total_cat,hw3];simp only[total,joinP,ByteArray.size_append]
   rw[show (⟨#[40]⟩:ByteArray).size=1 from rfl,show (⟨#[41]⟩:ByteArray).size=1 from rfl,show (⟨#[c]⟩:ByteArray).size=1 from rfl];omega
  ·rw[hlen]
   have:patD ((q.length+2:Nat):Int) a=((q.length+2:Nat):Int)-1:=by
    unfold patD
    rcases ha with rfl|rfl
    ·rw[show leafB (-2)=false by decide];rfl
    ·rw[show leafB (-3)=false by decide];rfl
   rw[this,List.length_append,List.length_singleton];omega
  ·rcases List.mem_append.1 hw with hw|hw
   ·exact hp w (by simp[hw])
   ·rw[List.mem_singleton.1 hw]
    exact nsp_cat (nsp_cat (nsp_cat (nsp_cat (nsp_one (by decide)) (hp x (by simp))) (nsp_one hc)) (hp y (by simp))) (nsp_one (by decide))
theorem wtP_le (a:Int):wtP a<=3/\1<=wtP a:=by unfold wtP;split<;>(try split)<;>(try split)<;>omega
theorem rm16' {n:Nat} (h:n<=1000):decide (n*16<=room)=true:=dec_t (by unfold room;omega)
theorem one_more {d:Nat} (h:1<=d) (h':d<=1000):IntKind.wrap .i64 ((d:Int)-1)=((d-1:Nat):Int):=by rw[wrap_i64 (by omega) (by omega)];omega
theorem two_more {d:Nat} (h:2<=d) (h':d<=1000):IntKind.wrap .i64 ((d:Int)-2)=((d-2:Nat):Int):=by rw[wrap_i64 (by omega) (by omega)];omega
theorem pile_round {R:Type} {p:List ByteArray} {a:Int} (h:patOK (p.length:Int) a=true) (hp:p.length<=100) (hB:total p<=100) (K:List ByteArray->Option R) (E:Option R) (hE:leafB a=true->E=K (p++[signB a])):
 (bif (a==(-1)) then
   chk ((decide (0<=(IntKind.wrap .i64 ((p.length:Int)-1))))&&(decide ((IntKind.wrap .i64 ((p.length:Int)-1))<(p.length:Int))))<|
   chk (decide ((⟨#[33]⟩:ByteArray).size+(p.getD ((IntKind.wrap .i64 ((p.length:Int)-1)).toNat) ByteArray.empty).size<=maxI))<|
   chk ((decide (0<=(IntKind.wrap .i64 ((p.length:Int)-1))))&&(decide ((IntKind.wrap .i64 ((p.length:Int)-1))<(p.length:Int))))<|
   K (p.set ((IntKind.wrap .i64 ((p.length:Int)-1)).toNat) ((⟨#[33]⟩:ByteArray)++(p.getD ((IntKind.wrap .i64 ((p.length:Int)-1)).toNat) ByteArray.empty)))
 else
  bif (a==(-2)) then
   chk ((decide (0<=(IntKind.wrap .i64 ((p.length:Int)-2))))&&(decide ((IntKind.wrap .i64 ((p.length:Int)-2))<=(p.length:Int))))<|
   chk (decide (0<=(IntKind.wrap .i64 ((p.length:Int)-2))))<|
   chk ((decide (0<=(IntKind.wrap .i64 ((p.length:Int)-2))))&&(decide ((IntKind.wrap .i64 ((p.length:Int)-2))<(p.length:Int))))<|
   chk (decide ((⟨#[40]⟩:ByteArray).size+(p.getD ((IntKind.wrap .i64 ((p.length:Int)-2)).toNat) ByteArray.empty).size<=maxI))<|
   chk (decide (((⟨#[40]⟩:ByteArray)++(p.getD ((IntKind.wrap .i64 ((p.length:Int)-2)).toNat) ByteArray.empty)).size+(⟨#[38]⟩:ByteArray).size<=maxI))<|
   chk ((decide (0<=(IntKind.wrap .i64 ((p.length:Int)-1))))&&(decide ((IntKind.wrap .i64 ((p.length:Int)-1))<(p.length:Int))))<|
   chk (decide ((((⟨#[40]⟩:ByteArray)++(p.getD ((IntKind.wrap .i64 ((p.length:Int)-2)).toNat) ByteArray.empty))++(⟨#[38]⟩:ByteArray)).size+(p.getD ((IntKind.wrap .i64 ((p.length:Int)-1)).toNat) ByteArray.empty).size<=maxI))<|
   chk (decide (((((⟨#[40]⟩:ByteArray)++(p.getD ((IntKind.wrap .i64 ((p.length:Int)-2)).toNat) ByteArray.empty))++(⟨#[38]⟩:ByteArray))++(p.getD ((IntKind.wrap .i64 ((p.length:Int)-1)).toNat) ByteArray.empty)).size+(⟨#[41]⟩:ByteArray).size<=maxI))<|
   chk (decide ((((p.take ((IntKind.wrap .i64 ((p.length:Int)-2)).toNat)).length)+1)*16<=room))<|
   K ((p.take ((IntKind.wrap .i64 ((p.length:Int)-2)).toNat))++([((((⟨#[40]⟩:ByteArray)++(p.getD ((IntKind.wrap .i64 ((p.length:Int)-2)).toNat) ByteArray.empty))++(⟨#[38]⟩:ByteArray))++(p.getD ((IntKind.wrap .i64 ((p.length:Int)-1)).toNat) ByteArray.empty))++(⟨#[41]⟩:ByteArray)]))
  else
   bif (a==(-3)) then
    chk ((decide (0<=(IntKind.wrap .i64 ((p.length:Int)-2))))&&(decide ((IntKind.wrap .i64 ((p.length:Int)-2))<=(p.length:Int))))<|
    chk (decide (0<=(IntKind.wrap .i64 ((p.length:Int)-2))))<|
    chk ((decide (0<=(IntKind.wrap .i64 ((p.length:Int)-2))))&&(decide ((IntKind.wrap .i64 ((p.length:Int)-2))<(p.length:Int))))<|
    chk (decide ((⟨#[40]⟩:ByteArray).size+(p.getD ((IntKind.wrap .i64 ((p.length:Int)-2)).toNat) ByteArray.empty).size<=maxI))<|
    chk (decide (((⟨#[40]⟩:ByteArray)++(p.getD ((IntKind.wrap .i64 ((p.length:Int)-2)).toNat) ByteArray.empty)).size+(⟨#[124]⟩:ByteArray).size<=maxI))<|
    chk ((decide (0<=(IntKind.wrap .i64 ((p.length:Int)-1))))&&(decide ((IntKind.wrap .i64 ((p.length:Int)-1))<(p.length:Int))))<|
    chk (decide ((((⟨#[40]⟩:ByteArray)++(p.getD ((IntKind.wrap .i64 ((p.length:Int)-2)).toNat) ByteArray.empty))++(⟨#[124]⟩:ByteArray)).size+(p.getD ((IntKind.wrap .i64 ((p.length:Int)-1)).toNat) ByteArray.empty).size<=maxI))<|
    chk (decide (((((⟨#[40]⟩:ByteArray)++(p.getD ((IntKind.wrap .i64 ((p.length:Int)-2)).toNat) ByteArray.empty))++(⟨#[124]⟩:ByteArray))++(p.getD ((IntKind.wrap .i64 ((p.length:Int)-1)).toNat) ByteArray.empty)).size+(⟨#[41]⟩:ByteArray).size<=maxI))<|
    chk (decide ((((p.take ((IntKind.wrap .i64 ((p.length:Int)-2)).toNat)).length)+1)*16<=room))<|
    K ((p.take ((IntKind.wrap .i64 ((p.length:Int)-2)).toNat))++([((((⟨#[40]⟩:ByteArray)++(p.getD ((IntKind.wrap .i64 ((p.length:Int)-2)).toNat) ByteArray.empty))++(⟨#[124]⟩:ByteArray))++(p.getD ((IntKind.wrap .i64 ((p.length:Int)-1)).toNat) ByteArray.empty))++(⟨#[41]⟩:ByteArray)]))
   else E)=K (pileStep p a):=by
 have z (c:UInt8):(⟨#[c]⟩:ByteArray).size=1:=rfl
 rcases patOK_cases h with hl| ⟨rfl,hd⟩| ⟨ha,hd⟩
 ·obtain ⟨h1,h2,h3⟩:=leafB_ne hl
  unfold pileStep
  rw[show (a==(-1:Int))=false by simp[h1],show (a==(-2:Int))=false by simp[h2],show (a==(-3:Int))=false by simp[h3],cond_false,cond_false,cond_false,cond_false,cond_false,cond_false]
  exact hE hl
 ·have hd:1<=p.length:=by omega
  have g1:=total_get p (p.length-1)
  refine (bif_t rfl).trans ?_
  rw[one_more hd (by omega),show (((p.length-1:Nat):Int)).toNat=p.length-1 from Int.toNat_natCast _]
  rw[chk_t (and_t (dec_t (by omega)) (dec_t (by omega))),chk_t (dec_t (by rw[z];unfold maxI;omega)),chk_t (and_t (dec_t (by omega)) (dec_t (by omega)))]
  rfl
 ·have hd:2<=p.length:=by omega
  have g1:=total_get p (p.length-1)
  have g2:=total_get p (p.length-2)
  have hB':1000<=maxI:=by unfold maxI;omega
  rcases ha with rfl|rfl
  ·refine (bif_f rfl).trans ((bif_t rfl).trans ?_)
   rw[one_more (by omega) (by omega),two_more hd (by omega),show (((p.length-1:Nat):Int)).toNat=p.length-1 from Int.toNat_natCast _,show (((p.length-2:Nat):Int)).toNat=p.length-2 from Int.toNat_natCast _]
   rw[chk_t (and_t (dec_t (by omega)) (dec_t (by omega))),chk_t (dec_t (by omega)),chk_t (and_t (dec_t (by omega)) (dec_t (by omega))),chk_t (dec_t (by rw[z];omega)),chk_t (dec_t (by simp only[ByteArray.size_append,z];omega)),chk_t (and_t (dec_t (by omega)) (dec_t (by omega))),chk_t (dec_t (by simp only[ByteArray.size_append,z];omega)),chk_t (dec_t (by simp only[ByteArray.size_append,z];omega)),chk_t (rm16' (by rw[List.length_take];omega))]
   rfl
  ·refine (bif_f rfl).trans ((bif_f rfl).trans ((bif_t rfl).trans ?_))
   rw[one_more (by omega) (by omega),two_more hd (by omega),show (((p.length-1:Nat):Int)).toNat=p.length-1 from Int.toNat_natCast _,show (((p.length-2:Nat):Int)).toNat=p.length-2 from Int.toNat_natCast _]
   rw[chk_t (and_t (dec_t (by omega)) (dec_t (by omega))),chk_t (dec_t (by omega)),chk_t (and_t (dec_t (by omega)) (dec_t (by omega))),chk_t (dec_t (by rw[z];omega)),chk_t (dec_t (by simp only[ByteArray.size_append,z];omega)),chk_t (and_t (dec_t (by omega)) (dec_t (by omega))),chk_t (dec_t (by simp only[ByteArray.size_append,z];omega)),chk_t (dec_t (by simp only[ByteArray.size_append,z];omega)),chk_t (rm16' (by rw[List.length_take];omega))]
   rfl
theorem spec_PatternText.loop {R:Type} (k:Nat) {l:List Int} (hl:l.length<=20) (e0:List ByteArray->Option R): ∀(m n i:Nat) (p:List ByteArray),i+m=l.length->m<n->okPat (l.drop i) p.length=true->p.length<=i->total p<=3*i->
 spec_PatternText.l5 k l e0 n (i:Int) p=e0 ((l.drop i).foldl pileStep p):=by
 intro m
 induction m with
 |zero=>
  intro n i p hi hn hok hp ht
  obtain ⟨n,rfl⟩: ∃j,n=j+1:=⟨n-1,by omega⟩
  rw[spec_PatternText.l5_succ]
  unfold spec_PatternText.s5
  rw[bif_f (dec_f (by omega)),List.drop_of_length_le (by omega)];rfl
 |succ m ih=>
  intro n i p hi hn hok hp ht
  obtain ⟨n,rfl⟩: ∃j,n=j+1:=⟨n-1,by omega⟩
  have hlt:i<l.length:=by omega
  have hd:=drop_cons hlt
  have hg:l.getD ((i:Int)).toNat 0=l[i]:=by rw[Int.toNat_natCast];exact getD_lt 0 hlt
  rw[hd] at hok ⊢
  generalize l[i] =a at hok hg
  have hok:(patOK p.length a&&okPat (l.drop (i+1)) (patD p.length a))=true:=hok
  obtain ⟨h1,h2⟩:=Bool.and_eq_true_iff.1 hok
  obtain ⟨f1,f2,_⟩:=pileStep_facts h1
  have hw:=wtP_le a
  have hp1:(pileStep p a).length<=i+1:=by have:=(patD_le h1 (by omega)).2;omega
  rw[spec_PatternText.l5_succ]
  unfold spec_PatternText.s5
  rw[bif_t (dec_t (by omega)),chk_t (and_t (dec_t (by omega)) (dec_t (by omega))),hg,wrap_up (by omega)]
  rw[<- f2] at h2
  refine (pile_round h1 (by omega) (by omega) (fun q=>spec_PatternText.l5 k l e0 n ((i+1:Nat):Int) q) _ fun hl'=> ?_).trans ?_
  ·rw[chk_t (and_t (dec_t (by omega)) (dec_t (by omega))),bind_s (spec_l9Leaf.eq k hl'),chk_t (rm16' (by omega))]
  ·exact ih n (i+1) _ (by omega) (by omega) h2 hp1 (by omega)
theorem impl_PatternText.loop {R:Type} (k:Nat) {l:List Int} (hl:l.length<=20) (e0:List ByteArray->Option R): ∀(m n i:Nat) (p:List ByteArray),i+m=l.length->m<n->okPat (l.drop i) p.length=true->p.length<=i->total p<=3*i->
 impl_PatternText.l5 k l (l.length:Int) e0 n (i:Int) p=e0 ((l.drop i).foldl pileStep p):=by
 intro m
 induction m with
 |zero=>
  intro n i p hi hn hok hp ht
  obtain ⟨n,rfl⟩: ∃j,n=j+1:=⟨n-1,by omega⟩
  rw[impl_PatternText.l5_succ]
  unfold impl_PatternText.s5
  rw[bif_f (dec_f (by omega)),List.drop_of_length_le (by omega)];rfl
 |succ m ih=>
  intro n i p hi hn hok hp ht
  obtain ⟨n,rfl⟩: ∃j,n=j+1:=⟨n-1,by omega⟩
  have hlt:i<l.length:=by omega
  have hd:=drop_cons hlt
  have hg:l.getD ((i:Int)).toNat 0=l[i]:=by rw[Int.toNat_natCast];exact getD_lt 0 hlt
  rw[hd] at hok ⊢
  generalize l[i] =a at hok hg
  have hok:(patOK p.length a&&okPat (l.drop (i+1)) (patD p.length a))=true:=hok
  obtain ⟨h1,h2⟩:=Bool.and_eq_true_iff.1 hok
  obtain ⟨f1,f2,_⟩:=pileStep_facts h1
  have hw:=wtP_le a
  have hp1:(pileStep p a).length<=i+1:=by have:=(patD_le h1 (by omega)).2;omega
  rw[impl_PatternText.l5_succ]
  unfold impl_PatternText.s5
  rw[bif_t (dec_t (by omega)),chk_t (and_t (dec_t (by omega)) (dec_t (by omega))),hg,wrap_up (by omega)]
  rw[<- f2] at h2
  refine (pile_round h1 (by omega) (by omega) (fun q=>impl_PatternText.l5 k l (l.length:Int) e0 n ((i+1:Nat):Int) q) _ fun hl'=> ?_).trans ?_
  ·rw[bind_s (impl_signText.eq k hl'),chk_t (rm16' (by omega))]
  ·exact ih n (i+1) _ (by omega) (by omega) h2 hp1 (by omega)
theorem fold_pile: ∀(l:List Int) (p:List ByteArray),okPat l p.length=true->(l.foldl pileStep p).length=1/\total (l.foldl pileStep p)=total p+(l.map wtP).sum/\((∀w∈p,nsp w)-> ∀w∈l.foldl pileStep p,nsp w)
 | [],p,h=>by
   have h:((p.length:Int)==1)=true:=h
   have h':=eq_of_beq h
   refine ⟨by show p.length=1;omega,by simp,fun hp=>hp⟩
 |a::l,p,h=>by
  have h:(patOK p.length a&&okPat l (patD p.length a))=true:=h
  obtain ⟨h1,h2⟩:=Bool.and_eq_true_iff.1 h
  obtain ⟨f1,f2,f3⟩:=pileStep_facts h1
  rw[<- f2] at h2
  obtain ⟨g1,g2,g3⟩:=fold_pile l (pileStep p a) h2
  refine ⟨g1,?_,fun hp=>g3 (f3 hp)⟩
  rw[List.foldl_cons,g2,f1];simp;omega
def patText (l:List Int):ByteArray:=bif isPattern l then (l.foldl pileStep []).getD 0 ByteArray.empty else ByteArray.empty
theorem isPattern_iff {l:List Int} (h:isPattern l=true):okPat l 0=true/\l.length<=20:=by
 unfold isPattern at h
 obtain ⟨h1,h2⟩:=Bool.and_eq_true_iff.1 h
 have:=of_decide_eq_true h2
 exact ⟨h1,by omega⟩
theorem patText_size {l:List Int} (h:isPattern l=true):(patText l).size=(l.map wtP).sum:=by
 obtain ⟨g1,g2,_⟩:=fold_pile l [] (isPattern_iff h).1
 unfold patText
 rw[h,cond_true]
 obtain ⟨x,hx⟩:=List.length_eq_one_iff.1 g1
 rw[hx] at g2 ⊢
 simp[total] at g2
 simpa using g2
theorem wts_le: ∀l:List Int,(l.map wtP).sum<=3*l.length/\l.length<=(l.map wtP).sum
 | []=>by simp
 |a::l=>by have:=wts_le l;have:=wtP_le a;simp only[List.map_cons,List.sum_cons,List.length_cons];omega
theorem patText_le (l:List Int):(patText l).size<=60:=by
 cases h:isPattern l with
 |true=>rw[patText_size h];have:=wts_le l;have:=(isPattern_iff h).2;omega
 |false=>unfold patText;rw[h];show ByteArray.empty.size<=60;decide
theorem patText_nsp (l:List Int):nsp (patText l):=by
 cases h:isPattern l with
 |true=>
  obtain ⟨g1,_,g3⟩:=fold_pile l [] (isPattern_iff h).1
  unfold patText
  rw[h,cond_true]
  obtain ⟨x,hx⟩:=List.length_eq_one_iff.1 g1
  have:=g3 (fun w hw=>by cases hw) x (by rw[hx];simp)
  rw[hx];exact this
 |false=>unfold patText;rw[h];exact nsp_empty
theorem spec_PatternText.eq {k:Nat} (hk:BIG<=k) {l:List Int} (hl:l.length<1048577):spec_PatternText.f k l=some (patText l):=by
 have hB:BIG=1073741824:=rfl
 refine (bind_s (spec_IsPattern.eq hk hl)).trans ?_
 unfold patText
 cases h:isPattern l with
 |false=>rfl
 |true=>
  obtain ⟨h1,h2⟩:=isPattern_iff h
  refine (bif_f rfl).trans ((spec_PatternText.loop k h2 _ l.length k 0 [] (by omega) (by omega) h1 (by simp) (by simp[total])).trans ?_)
  rw[List.drop_zero]
  obtain ⟨g1,_,_⟩:=fold_pile l [] h1
  exact chk_t (dec_t (by rw[g1];decide))
theorem impl_PatternText.eq {k:Nat} (hk:BIG<=k) {l:List Int} (hl:l.length<1048577):impl_PatternText.f k l=some (patText l):=by
 have hB:BIG=1073741824:=rfl
 refine (bind_s (impl_IsPattern.eq hk hl)).trans ?_
 unfold patText
 cases h:isPattern l with
 |false=>rfl
 |true=>
  obtain ⟨h1,h2⟩:=isPattern_iff h
  refine (bif_f rfl).trans ((impl_PatternText.loop k h2 _ l.length k 0 [] (by omega) (by omega) h1 (by simp) (by simp[total])).trans ?_)
  rw[List.drop_zero]
  obtain ⟨g1,_,_⟩:=fold_pile l [] h1
  exact chk_t (dec_t (by rw[g1];decide))
end Go.Proofs.YtbmmhdmljajcfaaGreatDoor
