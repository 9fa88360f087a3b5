/- Plain laws of the program's functions, joined. Conditions: as each theorem says. -/
import Derived.Test.YtbmmhdmljajcfaaGreatDoorKit
import Derived.Test.YtbmmhdmljajcfaaGreatDoorFImplConsoleLine
import Derived.Test.YtbmmhdmljajcfaaGreatDoorPP0
import Derived.Test.YtbmmhdmljajcfaaGreatDoorVExt
import Derived.Test.YtbmmhdmljajcfaaGreatDoorNote
import Derived.Test.YtbmmhdmljajcfaaGreatDoorFFnConsole
import Derived.Test.YtbmmhdmljajcfaaGreatDoorNoteF
set_option linter.unusedVariables false
set_option linter.unusedSimpArgs false
set_option linter.unusedSectionVars false
namespace Go.Proofs.YtbmmhdmljajcfaaGreatDoor
open Go Go.Proofs.YtbmmhdmljajcfaaGreatDoor.V
def E_:ByteArray:=⟨#[50,51,52,53,54,55,56,57,84,74,81,75,65]⟩
def Q9:ByteArray:=⟨#[99,100,104,115]⟩
def zF (a:Int):ByteArray:=
 bif a==400 then ⟨#[114]⟩ else bif decide (a>=300) then E_.extract (a-300).toNat ((a-300)+1).toNat++(⟨#[43]⟩:ByteArray)
 else bif decide (a>=200) then E_.extract (a-200).toNat ((a-200)+1).toNat else Q9.extract (a-100).toNat ((a-100)+1).toNat
theorem BD {a:Int} (h:jW a=true):(100<=a/\a<=103)\/(200<=a/\a<=212)\/(300<=a/\a<=312)\/a=400:=by
 unfold jW kH at h
 simp only[Bool.or_eq_true,Bool.and_eq_true,decide_eq_true_eq,beq_iff_eq] at h
 omega
theorem Hz {R:Type} {x:Int} (h0:0<=x) (h1:x<=12) (X:Option R):(ay ((decide (0<=(IntKind.wrap .i64 (x+1))))&&(decide ((IntKind.wrap .i64 (x+1))<=13)))<|ay ((decide (0<=x))&&(decide (x<=(IntKind.wrap .i64 (x+1)))))<|X)=X:=by
 rw[wrap_i64 (n:=x+1) (by omega) (by omega)]
 exact (af (bi (ae (by omega)) (ae (by omega)))).trans (af (bi (ae (by omega)) (ae (by omega))))
theorem O8 {R:Type} {x:Int} (h0:0<=x) (h1:x<=3) (X:Option R):(ay ((decide (0<=(IntKind.wrap .i64 (x+1))))&&(decide ((IntKind.wrap .i64 (x+1))<=4)))<|ay ((decide (0<=x))&&(decide (x<=(IntKind.wrap .i64 (x+1)))))<|X)=X:=by
 rw[wrap_i64 (n:=x+1) (by omega) (by omega)]
 exact (af (bi (ae (by omega)) (ae (by omega)))).trans (af (bi (ae (by omega)) (ae (by omega))))
theorem Fa (x:ByteArray) (n:Int) (h0:0<=n) (h:n+1<=x.size):(x.extract n.toNat (n+1).toNat).size=1:=by rw[ByteArray.size_extract];omega
theorem iP.eq (k:Nat) {a:Int} (h:jW a=true):iP.f k a=some (zF a):=by
 have e1:E_.size=13:=rfl
 have hc:=BD h
 unfold iP.f zF
 by_cases h4:a=400
 ·subst h4;rfl
 have YE:(a==(400:Int))=false:=by simp[h4]
 rw[YE,cond_false,cond_false]
 by_cases h3:a>=300
 ·rw[ai (ae h3),ai (ae h3),wrap_i64 (n:=a-300) (by omega) (by omega),Hz (by omega) (by omega),wrap_i64 (by omega) (by omega)]
  refine af (ae ?_)
  have:=Fa E_ (a-300) (by omega) (by omega)
  show (E_.extract _ _).size+_<=_
  rw[this];decide
 rw[ab (aH h3),ab (aH h3)]
 by_cases h2:a>=200
 ·rw[ai (ae h2),ai (ae h2),wrap_i64 (n:=a-200) (by omega) (by omega),Hz (by omega) (by omega),wrap_i64 (by omega) (by omega)]
  rfl
 rw[ab (aH h2),ab (aH h2),wrap_i64 (n:=a-100) (by omega) (by omega),O8 (by omega) (by omega),wrap_i64 (by omega) (by omega)]
 rfl
def N9 (a:Int):Nat:=if a= -1 then 1 else if a= -2\/a= -3 then 3 else if a>=300/\a≠400 then 2 else 1
def sS (b:ByteArray):Prop:= ∀x∈b.data.toList,x≠32
theorem rL {a b:ByteArray} (h:sS a) (h':sS b):sS (a++b):=fun x hx=>by
 rw[yG] at hx
 rcases List.mem_append.1 hx with h1|h1
 ·exact h x h1
 ·exact h' x h1
theorem JM {s:ByteArray} (h:sS s) (a b:Nat):sS (s.extract a b):=fun x hx=>by
 rw[ByteArray.data_extract,Array.toList_extract] at hx
 exact h x (List.mem_of_mem_drop (List.mem_of_mem_take (by simpa[List.extract_eq_take_drop] using hx)))
theorem rM {c:UInt8} (h:c≠32):sS ⟨#[c]⟩:=fun x hx=>by
 have:x=c:=by simpa using hx
 rw[this];exact h
theorem D1:sS ByteArray.empty:=fun x hx=>by cases hx
theorem K7:sS E_:=by unfold sS;decide+kernel
theorem Q_:sS Q9:=by unfold sS;decide+kernel
theorem HA {a:Int} (h:jW a=true):(zF a).size=N9 a/\sS (zF a):=by
 have e1:E_.size=13:=rfl
 have e2:Q9.size=4:=rfl
 have hc:=BD h
 unfold zF N9
 rw[if_neg (by omega),if_neg (by omega)]
 by_cases h4:a=400
 ·subst h4;exact ⟨rfl,rM (by decide)⟩
 have YE:(a==(400:Int))=false:=by simp[h4]
 rw[YE,cond_false]
 by_cases h3:a>=300
 ·rw[ai (ae h3),if_pos ⟨h3,h4⟩]
  refine ⟨?_,rL (JM K7 _ _) (rM (by decide))⟩
  rw[ByteArray.size_append,Fa E_ _ (by omega) (by omega)];rfl
 rw[ab (aH h3),if_neg (by omega)]
 by_cases h2:a>=200
 ·rw[ai (ae h2)]
  exact ⟨Fa E_ _ (by omega) (by omega),JM K7 _ _⟩
 rw[ab (aH h2)]
 exact ⟨Fa Q9 _ (by omega) (by omega),JM Q_ _ _⟩
def D2 (c:UInt8) (x y:ByteArray):ByteArray:=((((⟨#[40]⟩:ByteArray)++x)++(⟨#[c]⟩:ByteArray))++y)++(⟨#[41]⟩:ByteArray)
def iJ (p:List ByteArray) (a:Int):List ByteArray:=
 bif a== -1 then p.set (p.length-1) ((⟨#[33]⟩:ByteArray)++p.getD (p.length-1) ByteArray.empty)
 else bif a== -2 then p.take (p.length-2)++[D2 38 (p.getD (p.length-2) ByteArray.empty) (p.getD (p.length-1) ByteArray.empty)]
 else bif a== -3 then p.take (p.length-2)++[D2 124 (p.getD (p.length-2) ByteArray.empty) (p.getD (p.length-1) ByteArray.empty)]
 else p++[zF a]
def total:List ByteArray->Nat
 | []=>0
 |b::l=>b.size+total l
theorem nB: ∀(l l':List ByteArray),total (l++l')=total l+total l'
 | [],l'=>by simp[total]
 |b::l,l'=>by simp only[List.cons_append,total,nB l l'];omega
theorem ur: ∀(l:List ByteArray) (j:Nat),(l.getD j ByteArray.empty).size<=total l
 | [],j=>by simp
 |b::l,0=>by simp[total]
 |b::l,j+1=>by have:=ur l j;simp only[List.getD_cons_succ,total];omega
theorem BE {p:List ByteArray} (h:1<=p.length): ∃q x,p=q++[x]:=
 ⟨p.dropLast,p.getLast (List.ne_nil_of_length_pos h),(List.dropLast_concat_getLast _).symm⟩
theorem O9 {p:List ByteArray} (h:2<=p.length): ∃q x y,p=q++[x]++[y]:=by
 obtain ⟨q,y,rfl⟩:=BE (p:=p) (by omega)
 obtain ⟨q,x,rfl⟩:=BE (p:=q) (by simp at h;omega)
 exact ⟨q,x,y,rfl⟩
theorem zG {d a:Int} (h:il d a=true):jW a=true\/(a= -1/\1<=d)\/((a= -2\/a= -3)/\2<=d):=by
 unfold il at h
 simp only[Bool.or_eq_true,Bool.and_eq_true,decide_eq_true_eq,beq_iff_eq] at h
 rcases h with (h|h)|h
 ·exact .inl h
 ·exact .inr (.inl h)
 ·exact .inr (.inr h)
theorem tr {p:List ByteArray} {a:Int} (h:il (p.length:Int) a=true):total (iJ p a)=total p+N9 a/\((iJ p a).length:Int)=j6 p.length a/\((∀w∈p,sS w)-> ∀w∈iJ p a,sS w):=by
 rcases zG h with hl| ⟨rfl,hd⟩| ⟨ha,hd⟩
 ·obtain ⟨h1,h2,h3⟩:=wV hl
  obtain ⟨s1,s2⟩:=HA hl
  have e:iJ p a=p++[zF a]:=by
   unfold iJ
   rw[show (a==(-1:Int))=false by simp[h1],show (a==(-2:Int))=false by simp[h2],show (a==(-3:Int))=false by simp[h3]];rfl
  rw[e]
  refine ⟨by rw[nB];simp only[total];omega,?_,fun hp w hw=> ?_⟩
  ·unfold j6;rw[hl,cond_true,List.length_append,List.length_singleton];omega
  ·rcases List.mem_append.1 hw with hw|hw
   ·exact hp w hw
   ·rw[List.mem_singleton.1 hw];exact s2
 ·obtain ⟨q,x,rfl⟩:=BE (p:=p) (by omega)
  have e:iJ (q++[x]) (-1)=q++[(⟨#[33]⟩:ByteArray)++x]:=by
   show (q++[x]).set _ _=_
   rw[List.length_append,List.length_singleton,Nat.add_sub_cancel,show (q++[x]).getD q.length ByteArray.empty=x by simp[List.getD],List.set_append_right _ _ (Nat.le_refl _),Nat.sub_self];rfl
  rw[e]
  refine ⟨?_,?_,fun hp w hw=> ?_⟩
  ·rw[nB,nB];simp only[total,ByteArray.size_append]
   rw[show (⟨#[33]⟩:ByteArray).size=1 from rfl,show N9 (-1)=1 from rfl];omega
  ·unfold j6;rw[show jW (-1)=false by decide];simp
  ·rcases List.mem_append.1 hw with hw|hw
   ·exact hp w (List.mem_append_left _ hw)
   ·rw[List.mem_singleton.1 hw];exact rL (rM (by decide)) (hp x (by simp))
 ·obtain ⟨q,x,y,rfl⟩:=O9 (p:=p) (by omega)
  have hlen:(q++[x]++[y]).length=q.length+2:=by simp
  have g1:(q++[x]++[y]).getD (q.length+2-2) ByteArray.empty=x:=by simp[List.getD]
  have g2:(q++[x]++[y]).getD (q.length+2-1) ByteArray.empty=y:=by simp[List.getD]
  have g3:(q++[x]++[y]).take (q.length+2-2)=q:=by simp
  obtain ⟨c,hc,e⟩: ∃c,c≠32/\iJ (q++[x]++[y]) a=q++[D2 c x y]:=by
   rcases ha with rfl|rfl
   ·refine ⟨38,by decide,?_⟩
    show (q++[x]++[y]).take _++[D2 38 _ _] =_
    rw[hlen,g1,g2,g3]
   ·refine ⟨124,by decide,?_⟩
    show (q++[x]++[y]).take _++[D2 124 _ _] =_
    rw[hlen,g1,g2,g3]
  rw[e]
  refine ⟨?_,?_,fun hp w hw=> ?_⟩
  ·have hw3:N9 a=3:=by rcases ha with rfl|rfl<;>rfl
   rw[nB,nB,nB,hw3];simp only[total,D2,ByteArray.size_append]
   rw[show (⟨#[40]⟩:ByteArray).size=1 from rfl,show (⟨#[41]⟩:ByteArray).size=1 from rfl,show (⟨#[c]⟩:ByteArray).size=1 from rfl];omega
  ·rw[hlen]
   have:j6 ((q.length+2:Nat):Int) a=((q.length+2:Nat):Int)-1:=by
    unfold j6
    rcases ha with rfl|rfl
    ·rw[show jW (-2)=false by decide];rfl
    ·rw[show jW (-3)=false by decide];rfl
   rw[this,List.length_append,List.length_singleton];omega
  ·rcases List.mem_append.1 hw with hw|hw
   ·exact hp w (by simp[hw])
   ·rw[List.mem_singleton.1 hw]
    exact rL (rL (rL (rL (rM (by decide)) (hp x (by simp))) (rM hc)) (hp y (by simp))) (rM (by decide))
theorem O_ (a:Int):N9 a<=3/\1<=N9 a:=by unfold N9;split<;>(try split)<;>(try split)<;>omega
theorem Pa {n:Nat} (h:n<=1000):decide (n*16<=room)=true:=ae (by unfold room;omega)
theorem BF {d:Nat} (h:1<=d) (h':d<=1000):IntKind.wrap .i64 ((d:Int)-1)=((d-1:Nat):Int):=by rw[wrap_i64 (by omega) (by omega)];omega
theorem HB {d:Nat} (h:2<=d) (h':d<=1000):IntKind.wrap .i64 ((d:Int)-2)=((d-2:Nat):Int):=by rw[wrap_i64 (by omega) (by omega)];omega
theorem JN {R:Type} {p:List ByteArray} {a:Int} (h:il (p.length:Int) a=true) (hp:p.length<=100) (hB:total p<=100) (K:List ByteArray->Option R) (E:Option R) (hE:jW a=true->E=K (p++[zF a])):
 (bif (a==(-1)) then
   ay ((decide (0<=(IntKind.wrap .i64 ((p.length:Int)-1))))&&(decide ((IntKind.wrap .i64 ((p.length:Int)-1))<(p.length:Int))))<|
   ay (decide ((⟨#[33]⟩:ByteArray).size+(p.getD ((IntKind.wrap .i64 ((p.length:Int)-1)).toNat) ByteArray.empty).size<=fa))<|
   ay ((decide (0<=(IntKind.wrap .i64 ((p.length:Int)-1))))&&(decide ((IntKind.wrap .i64 ((p.length:Int)-1))<(p.length:Int))))<|
   K (p.set ((IntKind.wrap .i64 ((p.length:Int)-1)).toNat) ((⟨#[33]⟩:ByteArray)++(p.getD ((IntKind.wrap .i64 ((p.length:Int)-1)).toNat) ByteArray.empty)))
 else
  bif (a==(-2)) then
   ay ((decide (0<=(IntKind.wrap .i64 ((p.length:Int)-2))))&&(decide ((IntKind.wrap .i64 ((p.length:Int)-2))<=(p.length:Int))))<|
   ay (decide (0<=(IntKind.wrap .i64 ((p.length:Int)-2))))<|
   ay ((decide (0<=(IntKind.wrap .i64 ((p.length:Int)-2))))&&(decide ((IntKind.wrap .i64 ((p.length:Int)-2))<(p.length:Int))))<|
   ay (decide ((⟨#[40]⟩:ByteArray).size+(p.getD ((IntKind.wrap .i64 ((p.length:Int)-2)).toNat) ByteArray.empty).size<=fa))<|
   ay (decide (((⟨#[40]⟩:ByteArray)++(p.getD ((IntKind.wrap .i64 ((p.length:Int)-2)).toNat) ByteArray.empty)).size+(⟨#[38]⟩:ByteArray).size<=fa))<|
   ay ((decide (0<=(IntKind.wrap .i64 ((p.length:Int)-1))))&&(decide ((IntKind.wrap .i64 ((p.length:Int)-1))<(p.length:Int))))<|
   ay (decide ((((⟨#[40]⟩:ByteArray)++(p.getD ((IntKind.wrap .i64 ((p.length:Int)-2)).toNat) ByteArray.empty))++(⟨#[38]⟩:ByteArray)).size+(p.getD ((IntKind.wrap .i64 ((p.length:Int)-1)).toNat) ByteArray.empty).size<=fa))<|
   ay (decide (((((⟨#[40]⟩:ByteArray)++(p.getD ((IntKind.wrap .i64 ((p.length:Int)-2)).toNat) ByteArray.empty))++(⟨#[38]⟩:ByteArray))++(p.getD ((IntKind.wrap .i64 ((p.length:Int)-1)).toNat) ByteArray.empty)).size+(⟨#[41]⟩:ByteArray).size<=fa))<|
   ay (decide ((((p.take ((IntKind.wrap .i64 ((p.length:Int)-2)).toNat)).length)+1)*16<=room))<|
   K ((p.take ((IntKind.wrap .i64 ((p.length:Int)-2)).toNat))++([((((⟨#[40]⟩:ByteArray)++(p.getD ((IntKind.wrap .i64 ((p.length:Int)-2)).toNat) ByteArray.empty))++(⟨#[38]⟩:ByteArray))++(p.getD ((IntKind.wrap .i64 ((p.length:Int)-1)).toNat) ByteArray.empty))++(⟨#[41]⟩:ByteArray)]))
  else
   bif (a==(-3)) then
    ay ((decide (0<=(IntKind.wrap .i64 ((p.length:Int)-2))))&&(decide ((IntKind.wrap .i64 ((p.length:Int)-2))<=(p.length:Int))))<|
    ay (decide (0<=(IntKind.wrap .i64 ((p.length:Int)-2))))<|
    ay ((decide (0<=(IntKind.wrap .i64 ((p.length:Int)-2))))&&(decide ((IntKind.wrap .i64 ((p.length:Int)-2))<(p.length:Int))))<|
    ay (decide ((⟨#[40]⟩:ByteArray).size+(p.getD ((IntKind.wrap .i64 ((p.length:Int)-2)).toNat) ByteArray.empty).size<=fa))<|
    ay (decide (((⟨#[40]⟩:ByteArray)++(p.getD ((IntKind.wrap .i64 ((p.length:Int)-2)).toNat) ByteArray.empty)).size+(⟨#[124]⟩:ByteArray).size<=fa))<|
    ay ((decide (0<=(IntKind.wrap .i64 ((p.length:Int)-1))))&&(decide ((IntKind.wrap .i64 ((p.length:Int)-1))<(p.length:Int))))<|
    ay (decide ((((⟨#[40]⟩:ByteArray)++(p.getD ((IntKind.wrap .i64 ((p.length:Int)-2)).toNat) ByteArray.empty))++(⟨#[124]⟩:ByteArray)).size+(p.getD ((IntKind.wrap .i64 ((p.length:Int)-1)).toNat) ByteArray.empty).size<=fa))<|
    ay (decide (((((⟨#[40]⟩:ByteArray)++(p.getD ((IntKind.wrap .i64 ((p.length:Int)-2)).toNat) ByteArray.empty))++(⟨#[124]⟩:ByteArray))++(p.getD ((IntKind.wrap .i64 ((p.length:Int)-1)).toNat) ByteArray.empty)).size+(⟨#[41]⟩:ByteArray).size<=fa))<|
    ay (decide ((((p.take ((IntKind.wrap .i64 ((p.length:Int)-2)).toNat)).length)+1)*16<=room))<|
    K ((p.take ((IntKind.wrap .i64 ((p.length:Int)-2)).toNat))++([((((⟨#[40]⟩:ByteArray)++(p.getD ((IntKind.wrap .i64 ((p.length:Int)-2)).toNat) ByteArray.empty))++(⟨#[124]⟩:ByteArray))++(p.getD ((IntKind.wrap .i64 ((p.length:Int)-1)).toNat) ByteArray.empty))++(⟨#[41]⟩:ByteArray)]))
   else E)=K (iJ p a):=by
 have z (c:UInt8):(⟨#[c]⟩:ByteArray).size=1:=rfl
 rcases zG h with hl| ⟨rfl,hd⟩| ⟨ha,hd⟩
 ·obtain ⟨h1,h2,h3⟩:=wV hl
  unfold iJ
  rw[show (a==(-1:Int))=false by simp[h1],show (a==(-2:Int))=false by simp[h2],show (a==(-3:Int))=false by simp[h3],cond_false,cond_false,cond_false,cond_false,cond_false,cond_false]
  exact hE hl
 ·have hd:1<=p.length:=by omega
  have g1:=ur p (p.length-1)
  refine (ai rfl).trans ?_
  rw[BF hd (by omega),show (((p.length-1:Nat):Int)).toNat=p.length-1 from Int.toNat_natCast _]
  rw[af (bi (ae (by omega)) (ae (by omega))),af (ae (by rw[z];unfold fa;omega)),af (bi (ae (by omega)) (ae (by omega)))]
  rfl
 ·have hd:2<=p.length:=by omega
  have g1:=ur p (p.length-1)
  have g2:=ur p (p.length-2)
  have hB':1000<=fa:=by unfold fa;omega
  rcases ha with rfl|rfl
  ·refine (ab rfl).trans ((ai rfl).trans ?_)
   rw[BF (by omega) (by omega),HB hd (by omega),show (((p.length-1:Nat):Int)).toNat=p.length-1 from Int.toNat_natCast _,show (((p.length-2:Nat):Int)).toNat=p.length-2 from Int.toNat_natCast _]
   rw[af (bi (ae (by omega)) (ae (by omega))),af (ae (by omega)),af (bi (ae (by omega)) (ae (by omega))),af (ae (by rw[z];omega)),af (ae (by simp only[ByteArray.size_append,z];omega)),af (bi (ae (by omega)) (ae (by omega))),af (ae (by simp only[ByteArray.size_append,z];omega)),af (ae (by simp only[ByteArray.size_append,z];omega)),af (Pa (by rw[List.length_take];omega))]
   rfl
  ·refine (ab rfl).trans ((ab rfl).trans ((ai rfl).trans ?_))
   rw[BF (by omega) (by omega),HB hd (by omega),show (((p.length-1:Nat):Int)).toNat=p.length-1 from Int.toNat_natCast _,show (((p.length-2:Nat):Int)).toNat=p.length-2 from Int.toNat_natCast _]
   rw[af (bi (ae (by omega)) (ae (by omega))),af (ae (by omega)),af (bi (ae (by omega)) (ae (by omega))),af (ae (by rw[z];omega)),af (ae (by simp only[ByteArray.size_append,z];omega)),af (bi (ae (by omega)) (ae (by omega))),af (ae (by simp only[ByteArray.size_append,z];omega)),af (ae (by simp only[ByteArray.size_append,z];omega)),af (Pa (by rw[List.length_take];omega))]
   rfl
theorem aR.loop {R:Type} (k:Nat) {l:List Int} (hl:l.length<=20) (e0:List ByteArray->Option R): ∀(m n i:Nat) (p:List ByteArray),i+m=l.length->m<n->mA (l.drop i) p.length=true->p.length<=i->total p<=3*i->
 aR.l5 k l (l.length:Int) e0 n (i:Int) p=e0 ((l.drop i).foldl iJ p):=by
 intro m
 induction m with
 |zero=>
  intro n i p hi hn Hx hp ht
  obtain ⟨n,rfl⟩: ∃j,n=j+1:=⟨n-1,by omega⟩
  rw[aR.bp]
  unfold aR.s5
  rw[ab (aH (by omega)),List.drop_of_length_le (by omega)];rfl
 |succ m ih=>
  intro n i p hi hn Hx hp ht
  obtain ⟨n,rfl⟩: ∃j,n=j+1:=⟨n-1,by omega⟩
  have gr:i<l.length:=by omega
  have hd:=drop_cons gr
  have hg:l.getD ((i:Int)).toNat 0=l[i]:=by rw[Int.toNat_natCast];exact aD 0 gr
  rw[hd] at Hx ⊢
  generalize l[i] =a at Hx hg
  have Hx:(il p.length a&&mA (l.drop (i+1)) (j6 p.length a))=true:=Hx
  obtain ⟨h1,h2⟩:=Bool.and_eq_true_iff.1 Hx
  obtain ⟨f1,f2,_⟩:=tr h1
  have hw:=O_ a
  have um:(iJ p a).length<=i+1:=by have:=(wU h1 (by omega)).2;omega
  rw[aR.bp]
  unfold aR.s5
  rw[ai (ae (by omega)),af (bi (ae (by omega)) (ae (by omega))),hg,aL (by omega)]
  rw[<- f2] at h2
  refine (JN h1 (by omega) (by omega) (fun q=>aR.l5 k l (l.length:Int) e0 n ((i+1:Nat):Int) q) _ fun hl'=> ?_).trans ?_
  ·rw[aa (iP.eq k hl'),af (Pa (by omega))]
  ·exact ih n (i+1) _ (by omega) (by omega) h2 um (by omega)
theorem uu: ∀(l:List Int) (p:List ByteArray),mA l p.length=true->(l.foldl iJ p).length=1/\total (l.foldl iJ p)=total p+(l.map N9).sum/\((∀w∈p,sS w)-> ∀w∈l.foldl iJ p,sS w)
 | [],p,h=>by
   have h:((p.length:Int)==1)=true:=h
   have h':=eq_of_beq h
   refine ⟨by show p.length=1;omega,by simp,fun hp=>hp⟩
 |a::l,p,h=>by
  have h:(il p.length a&&mA l (j6 p.length a))=true:=h
  obtain ⟨h1,h2⟩:=Bool.and_eq_true_iff.1 h
  obtain ⟨f1,f2,f3⟩:=tr h1
  rw[<- f2] at h2
  obtain ⟨g1,g2,g3⟩:=uu l (iJ p a) h2
  refine ⟨g1,?_,fun hp=>g3 (f3 hp)⟩
  rw[List.foldl_cons,g2,f1];simp;omega
def li (l:List Int):ByteArray:=bif fu l then (l.foldl iJ []).getD 0 ByteArray.empty else ByteArray.empty
theorem nN {l:List Int} (h:fu l=true):mA l 0=true/\l.length<=20:=by
 unfold fu at h
 obtain ⟨h1,h2⟩:=Bool.and_eq_true_iff.1 h
 have:=of_decide_eq_true h2
 exact ⟨h1,by omega⟩
theorem Fc {l:List Int} (h:fu l=true):(li l).size=(l.map N9).sum:=by
 obtain ⟨g1,g2,_⟩:=uu l [] (nN h).1
 unfold li
 rw[h,cond_true]
 obtain ⟨x,hx⟩:=List.length_eq_one_iff.1 g1
 rw[hx] at g2 ⊢
 simp[total] at g2
 simpa using g2
theorem Pb: ∀l:List Int,(l.map N9).sum<=3*l.length/\l.length<=(l.map N9).sum
 | []=>by simp
 |a::l=>by have:=Pb l;have:=O_ a;simp only[List.map_cons,List.sum_cons,List.length_cons];omega
theorem JO (l:List Int):(li l).size<=60:=by
 cases h:fu l with
 |true=>rw[Fc h];have:=Pb l;have:=(nN h).2;omega
 |false=>unfold li;rw[h];show ByteArray.empty.size<=60;decide
theorem HC (l:List Int):sS (li l):=by
 cases h:fu l with
 |true=>
  obtain ⟨g1,_,g3⟩:=uu l [] (nN h).1
  unfold li
  rw[h,cond_true]
  obtain ⟨x,hx⟩:=List.length_eq_one_iff.1 g1
  have:=g3 (fun w hw=>by cases hw) x (by rw[hx];simp)
  rw[hx];exact this
 |false=>unfold li;rw[h];exact D1
theorem aR.eq {k:Nat} (hk:cO<=k) {l:List Int} (hl:l.length<1048577):aR.f k l=some (li l):=by
 have hB:cO=1073741824:=rfl
 refine (aa (bq.eq hk hl)).trans ?_
 unfold li
 cases h:fu l with
 |false=>rfl
 |true=>
  obtain ⟨h1,h2⟩:=nN h
  refine (ab rfl).trans ((aR.loop k h2 _ l.length k 0 [] (by omega) (by omega) h1 (by simp) (by simp[total])).trans ?_)
  rw[List.drop_zero]
  obtain ⟨g1,_,_⟩:=uu l [] h1
  exact af (ae (by rw[g1];decide))
end Go.Proofs.YtbmmhdmljajcfaaGreatDoor
namespace Go.Proofs.YtbmmhdmljajcfaaGreatDoor
open Go Go.Proofs.YtbmmhdmljajcfaaGreatDoor.V Go.Proofs.YtbmmhdmljajcfaaGreatDoor.yl
def pP (s:ByteArray):Bool×Nat×List Int:=n6 (s.size+1) s 0 []
def jw (s:ByteArray):List Int×Bool:=bif Nat.ble s.size 100&&(pP s).1&&((li (pP s).2.2).toList==s.toList) then ((pP s).2.2,true) else ([],false)
theorem D3 {s:ByteArray} {n i:Nat} {l:List Int} (hi:i<=s.size) (h:(n6 n s i l).1=true):(n6 n s i l).2.2.length<=l.length+s.size:=by
 have:=Bg s n i l (n6 n s i l).2.1 (n6 n s i l).2.2 hi (by rw[<- h])
 omega
theorem Fe (s:ByteArray):(jw s).1.length<1048577:=by
 unfold jw
 cases h:(Nat.ble s.size 100&&(pP s).1&&((li (pP s).2.2).toList==s.toList)) with
 |false=>show ([]:List Int).length<_;decide
 |true=>
  simp only[Bool.and_eq_true] at h
  have:=D3 (Nat.zero_le _) h.1.2
  have YF:=Nat.le_of_ble_eq_true h.1.1
  show (pP s).2.2.length<_
  simp only[List.length_nil] at this
  unfold pP
  omega
theorem gJ.eq {k:Nat} (hk:cO<=k) {s:ByteArray} (hs:s.size<1048577):gJ.f k s=some (jw s):=by
 show Bb (aR.f k) s=_
 unfold Bb jw
 cases h1:Nat.ble s.size 100 with
 |false=>rfl
 |true=>
  rw[cond_true,Bool.true_and]
  have YF:=Nat.le_of_ble_eq_true h1
  have hl:=D3 (s:=s) (n:=s.size+1) (l:=[]) (Nat.zero_le s.size)
  unfold pP
  revert hl
  rcases n6 (s.size+1) s 0 [] with ⟨ok,i1,l1⟩
  intro hl
  cases ok with
  |false=>rfl
  |true=>
   have:=hl rfl
   refine (aa (aR.eq hk (by simp at this;omega))).trans ?_
   show (bif _ then _ else _)=some (bif true&&_ then _ else _)
   cases (li l1).toList==s.toList<;>rfl
def Ff (c:Int) (w:ByteArray) (ns l:List Int):Bool×List Int×List Int:=bif c==78 then ((bJ w).2,ns++[(bJ w).1],l) else bif c==99 then (decide (hD w>=0),ns++[hD w],l) else bif c==104 then ((cb w).2,ns,(cb w).1) else ((jw w).2,ns,(jw w).1)
def K8 (s:ByteArray):List ByteArray->Nat->List Int->List Int->List Int×List Int×Bool
 | [],_,ns,l=>(ns,l,true)
 |w::ws,i,ns,l=>bif (Ff (sb s i) w ns l).1 then K8 s ws (i+1) (Ff (sb s i) w ns l).2.1 (Ff (sb s i) w ns l).2.2 else ([],[],false)
def operands (s:ByteArray) (ws:List ByteArray):List Int×List Int×Bool:=bif (ws.length:Int) != (s.size:Int) then ([],[],false) else K8 s ws 0 [] []
theorem cS.eq {k:Nat} (hk:cO<=k) {s:ByteArray} {ws:List ByteArray} (hl:ws.length<1048577) (hs: ∀w∈ws,w.size<1048577):cS.f k s ws=some (operands s ws):=by
 unfold operands
 cases hc:((ws.length:Int) != (s.size:Int)) with
 |true=>exact ai hc
 |false=>
  have he:(ws.length:Int)=(s.size:Int):=by simpa using hc
  refine (ab hc).trans ?_
  have key: ∀(m i n:Nat) (ns l:List Int),i+m=ws.length->m<n->ns.length<=i->cS.l5 k s ws (ws.length:Int) (fun x5 x6=>some (([]:List Int),([]:List Int),false)) (fun x7 x8=>some (x7,x8,true)) n (i:Int) ns l=some (K8 s (ws.drop i) i ns l):=by
   intro m
   induction m with
   |zero=>
    intro i n ns l hi hn Ra
    obtain ⟨n,rfl⟩: ∃n',n=n' +1:=⟨n-1,by omega⟩
    rw[List.drop_of_length_le (by omega)]
    exact (cS.bp ..).trans (ab (aH (by omega)))
   |succ m ih=>
    intro i n ns l hi hn Ra
    obtain ⟨n,rfl⟩: ∃n',n=n' +1:=⟨n-1,by omega⟩
    have Bc:i<ws.length:=by omega
    have hw:=hs ws[i] (List.getElem_mem Bc)
    refine (cS.bp ..).trans ((ai (ae (by omega))).trans ((af (bP Bc)).trans ((af (bP (show i<s.size by omega))).trans ?_)))
    rw[Int.toNat_natCast,aD _ Bc,aL (by omega),drop_cons Bc]
    unfold K8
    unfold Ff
    cases sb s i==78 with
    |true=>
     refine (ai rfl).trans ((aa (iO.eq hw)).trans ((af (mN (by omega))).trans ?_))
     simp only[cond_true]
     cases (bJ ws[i]).2 with
     |false=>rfl
     |true=>exact (ab rfl).trans (ih (i+1) n _ _ (by omega) (by omega) (by simp;omega))
    |false=>
     refine (ab rfl).trans ?_
     cases sb s i==99 with
     |true=>
      refine (ai rfl).trans ((aa (dZ.eq ..)).trans ((af (mN (by omega))).trans ?_))
      simp only[cond_true,cond_false]
      cases decide (hD ws[i]>=0) with
      |false=>rfl
      |true=>exact (ab rfl).trans (ih (i+1) n _ _ (by omega) (by omega) (by simp;omega))
     |false=>
      refine (ab rfl).trans ?_
      cases sb s i==104 with
      |true=>
       refine (ai rfl).trans ((aa (bI.eq hk hw)).trans ?_)
       simp only[cond_true,cond_false]
       cases (cb ws[i]).2 with
       |false=>rfl
       |true=>exact (ab rfl).trans (ih (i+1) n _ _ (by omega) (by omega) (by omega))
      |false=>
       refine (ab rfl).trans ((aa (gJ.eq hk hw)).trans ?_)
       simp only[cond_true,cond_false]
       cases (jw ws[i]).2 with
       |false=>rfl
       |true=>exact (ab rfl).trans (ih (i+1) n _ _ (by omega) (by omega) (by omega))
  exact key ws.length 0 k [] [] (by omega) (bV hk hl) (by simp)
def pQ (s o:ByteArray):ByteArray:=bif s.toList==ByteArray.empty.toList then o else s
theorem fS.eq (k:Nat) (s o:ByteArray):fS.f k s o=some (pQ s o):=by
 unfold fS.f pQ
 cases s.toList==ByteArray.empty.toList<;>rfl
def yJ:List ByteArray:=[⟨#[110,101,119]⟩,⟨#[116,97,107,101]⟩,⟨#[115,101,116,116,108,101]⟩,⟨#[114,117,108,101,115]⟩,⟨#[116,97,98,108,101]⟩,⟨#[103,97,109,101]⟩,⟨#[99,97,110]⟩,⟨#[114,101,99,111,114,100]⟩,⟨#[115,104,101,101,116]⟩,⟨#[97,117,100,105,116]⟩,⟨#[98,101,103,105,110]⟩,⟨#[112,108,97,121]⟩,⟨#[97,117,116,111]⟩,⟨#[115,101,101]⟩,⟨#[109,101,108,100,115]⟩,⟨#[108,101,102,116]⟩,⟨#[107,105,110,100]⟩,⟨#[99,111,117,110,116]⟩,⟨#[119,105,110,115]⟩]
theorem eP {w x:ByteArray} (h:w≠x):(w.toList==x.toList)=false:=by
 rw[ku]
 exact aH fun e=>h (uq e)
theorem C7 (k:Nat) {w:ByteArray} (h:w∉yJ):cE.f k w=some (ByteArray.empty,false):=by
 unfold yJ at h
 simp only[List.mem_cons,List.not_mem_nil,or_false,not_or] at h
 obtain ⟨h1,h2,h3,h4,h5,h6,h7,h8,h9,N1,h11,Ji,TD,h14,h15,XV,h17,XU,h19⟩:=h
 unfold cE.f
 rw[eP h1,eP h2,eP h3,eP h4,eP h5,eP h6,eP h7,eP h8,eP h9,eP N1,eP h11,eP Ji,eP TD,eP h14,eP h15,eP XV,eP h17,eP XU,eP h19]
 rfl
theorem cm.eq {k:Nat} (hk:cO<=k) {r:Rl} (hr:r.sm) {l:List Int} (hl:l.length<1048577) (sR:Int):r.ap (cm.f k) l sR=some (yE r.ok r.n l sR):=by
 refine (aa (rB hk hr)).trans ?_
 unfold yE
 cases r.ok with
 |false=>rfl
 |true=>
  cases hn:((l.length:Int) != r.n) with
  |true=>exact (ab rfl).trans (ai rfl)
  |false=>
   refine (ab rfl).trans ((ab rfl).trans ?_)
   have h:=scan (B:=List (List gR)×List Int) l (fun m b i=>cm.l5 k sR l (l.length:Int) (fun x3 x4=>(aJ.f k l).bind fun r5=>ay (decide ((x3.length+1)*64<=room))<|some (x3++([[.int (2:Int),.int (0:Int),.ints r5,.ints x4]]))) m i b.1 b.2) (fun _ _=>true) (zB sR) (fun b=>some (b.1++[[.int 2,.int 0,.ints l,.ints b.2]])) (fun _ _=>none) (fun i b=>b.1.length=i/\b.2.length=i)
    (fun m b i h hI=>by
      obtain ⟨XY,YB⟩:=hI
      refine (cm.bp ..).trans ((ai (ae (by omega))).trans ((af (bP h)).trans ?_))
      rw[Int.toNat_natCast,aD _ h]
      refine (aa (gH.eq hk ..)).trans ((af (ae (by simp[room];omega))).trans ((af (ae (by simp[room];omega))).trans ?_))
      rw[aL (by omega)]
      subst XY
      rfl)
    (fun b i h hI _=>by simp[zB];omega)
    (fun m b hI=>(cm.bp ..).trans ((ab (aH (by omega))).trans ((aa (aJ.eq k hl)).trans ((af (ae (by simp[room];omega))).trans rfl))))
    l.length 0 k ([],[]) (by omega) (bV hk hl) (by simp)
   refine h.trans ?_
   rw[List.drop_zero,bX]
   rfl
def oo:Rl:=⟨3,5,true,true,[206],[212],1,200⟩
theorem BG:oo.ok=true:=by decide+kernel
theorem qN:oo.sm:=⟨by decide,by decide⟩
def pb:Tb:=⟨oo,[],false,[],w8,[],[]⟩
theorem D4:pb.sm:=⟨qN,by show ([]:List Int).length<_;simp,by show ([]:List Int).length<_;simp,qK,by show ([]:List Int).length<_;simp,by show ([]:List (List Int)).length<_;simp,fun y hy=>by cases hy⟩
theorem Pc {k:Nat} (hk:cO<=k):oo.ap (lH.f k)=some (pb.u4 true):=by
 refine (aa (rB hk qN)).trans ?_
 rw[BG]
 exact (ab rfl).trans (aa (bY.eq k qN))
theorem Pd {k:Nat} (hk:cO<=k):oo.ap (fx.f k)=some (pb.u4 true):=by
 refine (aa (rA hk qN)).trans ?_
 rw[BG]
 exact (ab rfl).trans (aa (dY.eq k qN))
def pc:List (List gR)->Tb->Option Tb
 | [],t=>some t
 |e::l,t=>bif (iG t (gi e 0) (gi e 1) (gl e 2) (gl e 3)).2 then pc l (iG t (gi e 0) (gi e 1) (gl e 2) (gl e 3)).1 else none
theorem D5: ∀(l:List (List gR)) {t u:Tb},t.sm->pc l t=some u->u.sm
 | [],t,u,h,e=>by cases e;exact h
 |e::l,t,u,h,e1=>by
  unfold pc at e1
  cases hb:(iG t (gi e 0) (gi e 1) (gl e 2) (gl e 3)).2 with
  |true=>rw[hb] at e1;exact D5 l (vf h ..) e1
  |false=>rw[hb] at e1;cases e1
def orZ {R:Type} (o:Option Tb) (f:Tb->Option R) (z:Option R):Option R:=match o with
 |some u=>f u
 |none=>z
theorem aP.loop {R:Type} {k:Nat} (hk:cO<=k) (es:List (List gR)) (hs:es.length<1048577) (e0 e1:Int->Int->Bool->Bool->Int->Int->Bool->Int->Int->Bool->Bool->Int->Int->Int->Int->Int->List Int->List Int->List Int->List Int->List Int->List Int->List (List Int)->List Int->List Int->List Int->List (List Int)->Option R) (Z:Option R) (he: ∀u:Tb,u.pm e0=Z): ∀(m i n:Nat) (t:Tb),t.sm->i+m=es.length->m<n->t.pm (aP.l7 k (es.length:Int) es e0 e1 n (i:Int))=orZ (pc (es.drop i) t) (fun u=>u.pm e1) Z
 |m,i,0,t,_,_,h=>absurd h (by omega)
 |0,i,n+1,t,ht,hi,_=>by
  rw[List.drop_eq_nil_of_le (by omega)]
  exact (ab (aH (by omega))).trans rfl
 |m+1,i,n+1,t,ht,hi,hn=>by
  have hq:i<es.length:=by omega
  rw[drop_cons hq]
  have et:es.getD ((i:Int)).toNat [] =es[i]:=by rw[Int.toNat_natCast,aD [] hq]
  have ha:=iD.eq hk ht (gi es[i] 0) (gi es[i] 1) (gl es[i] 2) (gl es[i] 3)
  have N_:=vf ht (gi es[i] 0) (gi es[i] 1) (gl es[i] 2) (gl es[i] 3)
  unfold pc
  generalize iG t (gi es[i] 0) (gi es[i] 1) (gl es[i] 2) (gl es[i] 3)=q at ha N_ ⊢
  have ih:=aP.loop hk es hs e0 e1 Z he m (i+1) n q.1 N_ (by omega) (by omega)
  rw[<- aL (by omega)] at ih
  rw[<- et] at ha
  refine (ai (ae (by omega))).trans ((af (bP hq)).trans ((aa ha).trans ?_))
  cases hb:q.2 with
  |false=>exact (ai rfl).trans (he t)
  |true=>exact (ab rfl).trans ih
def BH (ns:List Int):List (List gR):=yE oo.ok oo.n ns 5
def yK (t:Tb) (ns:List Int):Option Tb:=pc (BH ns) t
theorem MT {ns:List Int} (h:ns.length<1000000):(BH ns).length<1048577:=by
 have:=JD oo.ok oo.n ns 5
 show (yE oo.ok oo.n ns 5).length<_
 omega
abbrev T28:Type:=Int×Int×Bool×Bool×List Int×List Int×Int×Int×List Int×Bool×List Int×Int×Int×Bool×Bool×List Int×List Int×Int×Int×List (List Int)×List Int×List Int×Int×Int×Int×List Int×List (List Int)×Bool
def JP (t:Tb) (r:Bool×T28) (o:Option Tb):Prop:=(∃(u:Tb) (b:Bool),r=(true,u.u4 b)/\o=bif b then some u else none)\/(r=(false,t.u4 false)/\o=none)
def yL (p:Tb×Bool):Option Tb:=bif p.2 then some p.1 else none
theorem JQ {k:Nat} (hk:cO<=k) {t:Tb} (h:t.sm) {ns:List Int} (hn:ns.length<1000000): ∃r,t.ap (aP.f k) ⟨#[98,101,103,105,110]⟩ ns=some r/\JP t r (yK t ns):=by
 have hd:=cm.eq hk qN (l:=ns) (by omega) 5
 have hl:=MT hn
 have lp:=fun e0 e1 Z he=>aP.loop (R:=Bool×T28) hk (BH ns) hl e0 e1 Z he (BH ns).length 0 k t h (by omega) (bV hk hl)
 rw[List.drop_zero] at lp
 have pre:t.ap (aP.f k) ⟨#[98,101,103,105,110]⟩ ns=orZ (pc (BH ns) t) (fun u=>some (true,u.u4 true)) (some (false,t.u4 false)):=by
  refine (ab (by decide+kernel)).trans ((ai (by decide+kernel)).trans ((aa (ah.eq hk h)).trans ((aa (a:=oo.tp) rfl).trans ((aa hd).trans ?_))))
  refine (lp _ _ (some (false,t.u4 false)) (fun u=>rfl)).trans ?_
  cases pc (BH ns) t<;>rfl
 unfold yK
 rw[pre]
 cases pc (BH ns) t with
 |none=>exact ⟨_,rfl,.inr ⟨rfl,rfl⟩⟩
 |some u=>exact ⟨_,rfl,.inl ⟨u,true,rfl,rfl⟩⟩
theorem aP.new {k:Nat} (hk:cO<=k) {t:Tb} (ns:List Int): ∃r,t.ap (aP.f k) ⟨#[110,101,119]⟩ ns=some r/\JP t r (some pb):=
 ⟨_,(ai (by decide+kernel)).trans ((aa (a:=oo.tp) rfl).trans ((aa (Pc hk)).trans rfl)),.inl ⟨pb,true,rfl,rfl⟩⟩
theorem xe {t:Tb} (p:Tb×Bool):JP t (true,p.1.u4 p.2) (yL p):= .inl ⟨p.1,p.2,rfl,rfl⟩
theorem aP.YG {k:Nat} (hk:cO<=k) {t:Tb} (h:t.sm) (c:Int): ∃r,t.ap (aP.f k) ⟨#[112,108,97,121]⟩ [c] =some r/\JP t r (yL (fO t c)):=by
 have he:=fD.eq hk h c
 generalize fO t c=p at he
 exact ⟨_,(ab (by decide+kernel)).trans ((ab (by decide+kernel)).trans ((ai (by decide+kernel)).trans ((af (ae (by simp))).trans ((aa he).trans rfl)))),xe p⟩
theorem aP.take {k:Nat} (hk:cO<=k) {t:Tb} (h:t.sm) (ns:List Int): ∃r,t.ap (aP.f k) ⟨#[116,97,107,101]⟩ ns=some r/\JP t r (yL (fo t (-1))):=by
 have he:=fE.eq hk h
 generalize fo t (-1)=p at he
 exact ⟨_,(ab (by decide+kernel)).trans ((ab (by decide+kernel)).trans ((ab (by decide+kernel)).trans ((ai (by decide+kernel)).trans ((aa he).trans rfl)))),xe p⟩
theorem aP.settle {k:Nat} (hk:cO<=k) {t:Tb} (h:t.sm) (ns:List Int): ∃r,t.ap (aP.f k) ⟨#[115,101,116,116,108,101]⟩ ns=some r/\JP t r (yL (fh t)):=by
 have he:=fF.eq hk h
 generalize fh t=p at he
 exact ⟨_,(ab (by decide+kernel)).trans ((ab (by decide+kernel)).trans ((ab (by decide+kernel)).trans ((ab (by decide+kernel)).trans ((ai (by decide+kernel)).trans ((aa he).trans rfl))))),xe p⟩
def tu (t:Tb) (n:Int):Tb×Bool:=bif choice t.g n != -1 then fO t (choice t.g n) else fo t (-1)
theorem aP.YH {k:Nat} (hk:cO<=k) {t:Tb} (h:t.sm) (n:Int): ∃r,t.ap (aP.f k) ⟨#[97,117,116,111]⟩ [n] =some r/\JP t r (yL (tu t n)):=by
 have hc:=dk.eq hk h.2.2.2.1 n
 have h1:=fD.eq hk h (choice t.g n)
 have h2:=fE.eq hk h
 have pre: ∀X,_=X->t.ap (aP.f k) ⟨#[97,117,116,111]⟩ [n] =X:=fun X hX=>(ab (by decide+kernel)).trans ((ab (by decide+kernel)).trans ((ab (by decide+kernel)).trans ((ab (by decide+kernel)).trans ((ab (by decide+kernel)).trans ((af (ae (by simp))).trans ((aa hc).trans hX))))))
 unfold tu
 cases hb:(choice t.g n != -1) with
 |true=>
  generalize fO t (choice t.g n)=p at h1
  exact ⟨_,pre _ ((ai hb).trans ((aa h1).trans rfl)),xe p⟩
 |false=>
  generalize fo t (-1)=p at h2
  exact ⟨_,pre _ ((ab hb).trans ((aa h2).trans rfl)),xe p⟩
abbrev Oa (l:List Int):Prop:=l.Pairwise fun a b=>a<b
abbrev JR (l:List Int):Prop:=l.Pairwise fun a b=>a<=b
theorem D6 (c:Int) {v:List Int} (hs:JR v): ∀k,k<=v.length->(∀j (h:j<v.length),j<oi c v k->v[j]<=c)/\ ∀j (h:j<v.length),oi c v k<=j->j<k->c<v[j]
 |0,_=>⟨fun j h h1=>by simp[oi] at h1,fun j h h1 h2=>by omega⟩
 |k+1,hk=>by
  obtain ⟨h1,h2⟩:=D6 c hs k (by omega)
  have V_:k<v.length:=by omega
  have e:v.getD k 0=v[k]:=aD _ V_
  unfold oi
  rw[e]
  by_cases hc:v[k]>c
  ·rw[ae hc]
   refine ⟨h1,fun j h h3 h4=> ?_⟩
   by_cases hj:j=k
   ·subst hj;exact hc
   ·exact h2 j h h3 (by omega)
  ·rw[aH hc]
   simp only[cond_false]
   refine ⟨fun j h h3=> ?_,fun j h h3 h4=>by omega⟩
   by_cases hj:j=k
   ·subst hj;omega
   ·have:=List.pairwise_iff_getElem.1 hs j k h V_ (by omega)
    omega
theorem Pe (c:Int) {v:List Int} (hs:JR v):JR (qI v c):=by
 obtain ⟨h1,h2⟩:=D6 c hs v.length (Nat.le_refl _)
 have hp:=wT c v v.length
 unfold qI
 generalize oi c v v.length=p at h1 h2 hp
 refine List.pairwise_append.2 ⟨hs.sublist (List.take_sublist _ _),List.pairwise_cons.2 ⟨fun x hx=> ?_,hs.sublist (List.drop_sublist _ _)⟩,fun a ha b hb=> ?_⟩
 ·obtain ⟨i,hi,rfl⟩:=List.getElem_of_mem hx
  rw[List.length_drop] at hi
  rw[List.getElem_drop]
  have:=h2 (p+i) (by omega) (by omega) (by omega)
  omega
 ·obtain ⟨i,hi,rfl⟩:=List.getElem_of_mem ha
  rw[List.length_take] at hi
  rw[List.getElem_take]
  have:=h1 i (by omega) (by omega)
  rcases List.mem_cons.1 hb with rfl|hb
  ·exact this
  ·obtain ⟨j,hj,rfl⟩:=List.getElem_of_mem hb
   rw[List.length_drop] at hj
   rw[List.getElem_drop]
   have:=h2 (p+j) (by omega) (by omega) (by omega)
   omega
theorem JS (c:Int) (v:List Int):(qI v c).Perm (c::v):=by
 unfold qI
 refine List.perm_middle.trans ?_
 rw[List.take_append_drop]
theorem yM: ∀(l v:List Int),JR v->JR (l.foldl qI v)/\(l.foldl qI v).Perm (v++l)
 | [],v,h=>⟨h,by simp⟩
 |a::l,v,h=>by
  obtain ⟨h1,h2⟩:=yM l (qI v a) (Pe a h)
  refine ⟨h1,h2.trans ?_⟩
  exact ((JS a v).append_right l).trans (by simpa using List.perm_middle.symm)
theorem qm (l:List Int):(cW l).Perm l:=by
 have:=(yM l [] List.Pairwise.nil).2
 rw[List.nil_append] at this
 exact this
theorem Fg (l:List Int):JR (cW l):=(yM l [] List.Pairwise.nil).1
theorem T0 {l:List Int} (h:JR l) (hn:l.Nodup):Oa l:=by
 refine List.pairwise_iff_getElem.2 fun i j hi hj Wr=> ?_
 have h1:=List.pairwise_iff_getElem.1 h i j hi hj Wr
 have h2:=List.pairwise_iff_getElem.1 hn i j hi hj Wr
 omega
theorem MU {v:List Int} {c:Int} (h: ∀x∈v,x<c):qI v c=v++[c]:=by
 have e:oi c v v.length=v.length:=by
  cases hv:v.length with
  |zero=>rfl
  |succ k=>
   unfold oi
   have hk:k<v.length:=by omega
   rw[aD _ hk,aH (by have:=h _ (List.getElem_mem hk);omega)]
   rfl
 unfold qI
 rw[e,List.take_length,List.drop_length]
theorem D7: ∀(l v:List Int),Oa (v++l)->l.foldl qI v=v++l
 | [],v,h=>by simp
 |a::l,v,h=>by
  rw[List.foldl_cons,MU (fun x hx=>(List.pairwise_append.1 h).2.2 x hx a (by simp)),D7 l (v++[a]) (by simpa using h)]
  simp
theorem Fh {l:List Int} (h:Oa l):cW l=l:=by
 have:=D7 l [] (by simpa using h)
 simpa[cW] using this
def xf (f:List Int->Nat):List Int->Nat
 | []=>f []
 |a::l=>xf f l+xf (fun x=>f (a::x)) l
def pick:Nat->List Int->List Int
 |_,[]=>[]
 |n,a::l=>bif n%2==1 then a::pick (n/2) l else pick (n/2) l
def pd (f:Nat->Nat):Nat->Nat
 |0=>0
 |n+1=>pd f n+f n
theorem vW {f g:Nat->Nat}: ∀n,(∀i,i<n->f i=g i)->pd f n=pd g n
 |0,_=>rfl
 |n+1,h=>by rw[pd,pd,vW n (fun i hi=>h i (by omega)),h n (by omega)]
theorem zH (f:Nat->Nat): ∀n,pd f (2*n)=pd (fun i=>f (2*i)) n+pd (fun i=>f (2*i+1)) n
 |0=>rfl
 |n+1=>by
  have ih:=zH f n
  rw[show 2*(n+1)=2*n+1+1 by omega,pd,pd,pd,pd,ih]
  omega
theorem yN: ∀(l:List Int) (f:List Int->Nat),pd (fun i=>f (pick i l)) (2^l.length)=xf f l
 | [],f=>by simp[pd,pick,xf]
 |a::l,f=>by
  rw[List.length_cons,Nat.pow_succ,Nat.mul_comm,zH]
  have e1:pd (fun i=>f (pick (2*i) (a::l))) (2^l.length)=pd (fun i=>f (pick i l)) (2^l.length):=vW _ fun i _=>by
   show f (bif 2*i%2==1 then a::pick (2*i/2) l else pick (2*i/2) l)=_
   rw[show 2*i%2=0 by omega,show 2*i/2=i by omega];rfl
  have e2:pd (fun i=>f (pick (2*i+1) (a::l))) (2^l.length)=pd (fun i=>f (a::pick i l)) (2^l.length):=vW _ fun i _=>by
   show f (bif (2*i+1)%2==1 then a::pick ((2*i+1)/2) l else pick ((2*i+1)/2) l)=_
   rw[show (2*i+1)%2=1 by omega,show (2*i+1)/2=i by omega];rfl
  rw[e1,e2,yN l f,yN l fun x=>f (a::x)]
  rfl
theorem BI: ∀(n:Nat) (l:List Int),(pick n l).Sublist l
 |_,[]=>List.Sublist.slnil
 |n,a::l=>by
  unfold pick
  cases n%2==1 with
  |true=>exact (BI (n/2) l).cons_cons a
  |false=>exact (BI (n/2) l).cons a
theorem rN: ∀(l:List Int) {f g:List Int->Nat},(∀x,x.Sublist l->f x=g x)->xf f l=xf g l
 | [],f,g,h=>h [] List.Sublist.slnil
 |a::l,f,g,h=>by
  unfold xf
  rw[rN l (fun x hx=>h x (hx.cons a)),rN l (f:=fun x=>f (a::x)) (g:=fun x=>g (a::x)) (fun x hx=>h _ (hx.cons_cons a))]
theorem uv: ∀(l:List Int),xf (fun _=>0) l=0
 | []=>rfl
 |a::l=>by unfold xf;rw[uv l]
def Ob (x m:List Int):Nat:=(x==m).toNat
theorem AP: ∀(l m:List Int),Oa l->Oa m->xf (fun x=>Ob x m) l=(m.all fun c=>aU l c).toNat
 | [],[],_,_=>rfl
 | [],b::m,_,_=>rfl
 |a::l,[],h,_=>by
  unfold xf
  rw[AP l [] (List.pairwise_cons.1 h).2 List.Pairwise.nil]
  have:(fun x=>Ob (a::x) [])=fun _=>0:=by funext x;rfl
  rw[this,uv];rfl
 |a::l,b::m,h,hm=>by
  obtain ⟨h1,h2⟩:=List.pairwise_cons.1 h
  obtain ⟨m1,m2⟩:=List.pairwise_cons.1 hm
  unfold xf
  rw[AP l (b::m) h2 hm]
  have al:aU l a=false:=rz.2 fun hh=>by have:=h1 a hh;omega
  have hc: ∀c,aU (a::l) c=((a==c)||aU l c):=fun c=>by simp[aU]
  have gt: ∀(t:List Int),(∀c∈t,a<c)->(t.all fun c=>aU (a::l) c)=t.all fun c=>aU l c:=fun t ht=>by
   rw[Bool.eq_iff_iff,List.all_eq_true,List.all_eq_true]
   refine forall_congr' fun c=>forall_congr' fun Ws=> ?_
   have:(a==c)=false:=by have:=ht c Ws;simp;omega
   rw[hc,this,Bool.false_or]
  by_cases e:a=b
  ·subst e
   have e1:(fun x=>Ob (a::x) (a::m))=fun x=>Ob x m:=by
    funext x
    unfold Ob
    rw[List.cons_beq_cons,beq_self_eq_true,Bool.true_and]
   rw[e1,AP l m h2 m2,List.all_cons,al,Bool.false_and,List.all_cons,hc,beq_self_eq_true,gt m m1]
   simp
  ·have e1:(fun x=>Ob (a::x) (b::m))=fun _=>0:=by
    funext x
    unfold Ob
    rw[List.cons_beq_cons,beq_eq_false_iff_ne.2 e];rfl
   rw[e1,uv,Nat.add_zero]
   congr 1
   by_cases hab:a<b
   ·exact (gt (b::m) fun c Ws=>by
     rcases List.mem_cons.1 Ws with rfl|Ws
     ·exact hab
     ·have:=m1 c Ws;omega).symm
   ·have nb:aU l b=false:=rz.2 fun hh=>by have:=h1 b hh;omega
    have nb2:aU (a::l) b=false:=by rw[hc,nb,beq_eq_false_iff_ne.2 e];rfl
    rw[List.all_cons,List.all_cons,nb,nb2,Bool.false_and,Bool.false_and]
def yO (r:Int):List (List Int):=[[r,r+13,r+26,r+39],[r,r+13,r+26],[r,r+13,r+39],[r,r+26,r+39],[r+13,r+26,r+39]]
def qO (c:Int) (m:Nat):List Int:=(List.range m).map fun (i:Nat)=>c+(i:Int)
def JT (c:Nat):List (List Int):=(List.range (11-c%13)).map fun (j:Nat)=>qO (c:Int) (j+3)
def jb:List (List Int):=((List.range 13).flatMap fun (r:Nat)=>yO (r:Int))++(List.range 52).flatMap JT
def YI:List (List Int)->Bool
 | []=>true
 |x::l=> !(l.any fun y=>x==y)&&YI l
theorem K9 {x:List Int}: ∀ {l:List (List Int)},YI l=true->(l.map (Ob x)).sum=(l.any fun y=>x==y).toNat
 | [],_=>rfl
 |y::l,h=>by
  obtain ⟨h1,h2⟩:=aE h
  rw[List.map_cons,List.sum_cons,K9 h2,List.any_cons]
  unfold Ob
  by_cases e:x=y
  ·subst e
   have:(l.any fun y=>x==y)=false:=by simpa using h1
   rw[this];simp
  ·rw[beq_eq_false_iff_ne.2 e];simp
theorem HD:YI jb=true:=by kernel_rfl
def T1:List Int->Bool
 | []=>true
 |a::l=>(l.all fun b=>decide (a<b))&&T1 l
theorem HE: ∀ {l:List Int},T1 l=true->Oa l
 | [],_=>List.Pairwise.nil
 |a::l,h=>by
  obtain ⟨h1,h2⟩:=aE h
  exact List.pairwise_cons.2 ⟨fun b hb=>of_decide_eq_true (List.all_eq_true.1 h1 b hb),HE h2⟩
theorem Fi:(jb.all T1)=true:=by kernel_rfl
def BJ (x:List Int):Bool:=x.all fun c=>bu c==bu (x.getD 0 0)
def oO (x:List Int):Bool:=dx x&&kH (x.length:Int) 3 4&&BJ x
def Wt (x:List Int):Bool:=x.zipIdx.all fun y=>(br y.1==br (x.getD 0 0))&&(y.1==x.getD 0 0+(y.2:Int))
def oP (x:List Int):Bool:=dx x&& !decide ((x.length:Int)<3)&&Wt (cW x)
def jc (x:List Int):Bool:=oO x||oP x
theorem HF:(jb.all jc)=true:=by kernel_rfl
theorem HG {c:Int} (h:be c=true):br c=c/13/\0<=c/\c<=51:=by
 have:=dF.1 h
 unfold br
 rw[h,cond_true,Int.tdiv_eq_ediv_of_nonneg this.1]
 exact ⟨rfl,this⟩
theorem pe {c:Int} (h:be c=true):bu c=c%13/\0<=c/\c<=51:=by
 have:=dF.1 h
 unfold bu
 rw[h,cond_true,Int.tmod_eq_emod_of_nonneg this.1]
 exact ⟨rfl,this⟩
theorem HH {r:Nat} (hr:r<13) {x:List Int} (h:x∈yO (r:Int)):x∈jb:=List.mem_append_left _ (List.mem_flatMap.2 ⟨r,List.mem_range.2 hr,h⟩)
theorem Rb {x:List Int} (h:oO x=true) (ha:Oa x):x∈jb:=by
 unfold oO at h
 simp only[Bool.and_eq_true] at h
 obtain ⟨⟨h1,h2⟩,h3⟩:=h
 have h2:=eA.1 h2
 have hc:=(i_.1 h1).1
 unfold BJ at h3
 rw[List.all_eq_true] at h3
 match x,h2,hc,h3,ha with
 | [a,b,c],_,hc,h3,ha=>
   have ra:=pe (hc a (by simp))
   have rb:=pe (hc b (by simp))
   have rc:=pe (hc c (by simp))
   have q1:=h3 b (by simp)
   have q2:=h3 c (by simp)
   simp only[List.getD_cons_zero,beq_iff_eq] at q1 q2
   simp only[List.pairwise_cons,List.mem_cons,List.not_mem_nil,or_false,forall_eq_or_imp,forall_eq] at ha
   obtain ⟨⟨p1,p2⟩,p3,_⟩:=ha
   obtain ⟨r,hr⟩: ∃r:Nat,(r:Int)=a%13:=⟨(a%13).toNat,by omega⟩
   refine HH (r:=r) (by omega) ?_
   have:(a=r/\b=r+13/\c=r+26)\/(a=r/\b=r+13/\c=r+39)\/(a=r/\b=r+26/\c=r+39)\/(a=r+13/\b=r+26/\c=r+39):=by omega
   unfold yO
   rcases this with ⟨rfl,rfl,rfl⟩| ⟨rfl,rfl,rfl⟩| ⟨rfl,rfl,rfl⟩| ⟨rfl,rfl,rfl⟩<;>simp
 | [a,b,c,d],_,hc,h3,ha=>
   have ra:=pe (hc a (by simp))
   have rb:=pe (hc b (by simp))
   have rc:=pe (hc c (by simp))
   have rd:=pe (hc d (by simp))
   have q1:=h3 b (by simp)
   have q2:=h3 c (by simp)
   have q3:=h3 d (by simp)
   simp only[List.getD_cons_zero,beq_iff_eq] at q1 q2 q3
   simp only[List.pairwise_cons,List.mem_cons,List.not_mem_nil,or_false,forall_eq_or_imp,forall_eq] at ha
   obtain ⟨⟨p1,p2,p3⟩,⟨p4,p5⟩,p6,_⟩:=ha
   obtain ⟨r,hr⟩: ∃r:Nat,(r:Int)=a%13:=⟨(a%13).toNat,by omega⟩
   refine HH (r:=r) (by omega) ?_
   have:a=r/\b=r+13/\c=r+26/\d=r+39:=by omega
   unfold yO
   obtain ⟨rfl,rfl,rfl,rfl⟩:=this
   simp
 | [],h2,_,_,_=>simp at h2
 | [_],h2,_,_,_=>simp at h2
 | [_,_],h2,_,_,_=>simp at h2
 |_::_::_::_::_::_,h2,_,_,_=>simp at h2;omega
theorem Rc {x:List Int} (h:oP x=true) (ha:Oa x):x∈jb:=by
 unfold oP at h
 rw[Fh ha] at h
 simp only[Bool.and_eq_true,Bool.not_eq_true',decide_eq_false_iff_not] at h
 obtain ⟨⟨h1,h2⟩,h3⟩:=h
 have hc:=(i_.1 h1).1
 have hl:3<=x.length:=by omega
 have h0:x.getD 0 0=x[0]:=aD _ (by omega)
 unfold Wt at h3
 rw[List.all_eq_true,h0] at h3
 have each: ∀i (hi:i<x.length),br x[i] =br x[0]/\x[i] =x[0]+(i:Int):=fun i hi=>by
  have:=h3 (x[i],i) (by rw[List.mem_zipIdx_iff_getElem?];simp[hi])
  simpa using this
 have e0:=HG (hc x[0] (List.getElem_mem _))
 have el:=HG (hc x[x.length-1] (List.getElem_mem _))
 obtain ⟨es,ee⟩:=each (x.length-1) (by omega)
 obtain ⟨c,hcn⟩: ∃c:Nat,(c:Int)=x[0]:=⟨x[0].toNat,by omega⟩
 have hx:x=qO (c:Int) x.length:=by
  apply List.ext_getElem
  ·simp[qO]
  ·intro i h1 h2
   have e:(qO (c:Int) x.length)[i] =(c:Int)+(i:Int):=by simp[qO]
   rw[(each i h1).2,e,hcn]
 have hm:x.length-3<11-c%13:=by omega
 rw[hx]
 refine List.mem_append_right _ (List.mem_flatMap.2 ⟨c,List.mem_range.2 (by omega),?_⟩)
 unfold JT
 refine List.mem_map.2 ⟨x.length-3,List.mem_range.2 hm,?_⟩
 rw[show x.length-3+3=x.length by omega]
theorem Fj {l l':List Int} (h:l.Perm l') (c:Int):aU l c=aU l' c:=by
 rw[Bool.eq_iff_iff,mz,mz,h.mem_iff]
def kJ (b:ByteArray) (n:Int):ByteArray:=(b++(⟨#[32]⟩:ByteArray))++gP n
theorem yP {b:ByteArray} {n:Int} (hn:ry .i64 n):(kJ b n).size<=b.size+22:=by
 have:=iI hn
 unfold kJ
 rw[ByteArray.size_append,ByteArray.size_append]
 have e:(⟨#[32]⟩:ByteArray).size=1:=rfl
 omega
theorem xg (b:ByteArray) (n:Int):b++((⟨#[32]⟩:ByteArray)++gP n)=kJ b n:=(ByteArray.append_assoc).symm
theorem yQ {n:Nat} (h:n<1048577):ry .i64 (n:Int):=ru ⟨by omega,by omega⟩
theorem kw {n:Nat} (h:n<=4294967296):decide (n<=fa)=true:=ae (by unfold fa;omega)
theorem Pf (x:UInt8):(⟨#[x]⟩:ByteArray).size=1:=rfl
theorem cw.loop {R:Type} {k:Nat} (hk:cO<=k) {v:List (List Int)} (hv:Bl v) (e0:ByteArray->Option R) {b:ByteArray} (hb:b.size<=1000):cw.l5 k v (v.length:Int) e0 k b 0=e0 (v.foldl (fun b h=>kJ b (h.length:Int)) b):=by
 have h:=scan (B:=ByteArray) v (fun n b i=>cw.l5 k v (v.length:Int) e0 n b i) (fun _ _=>true) (fun b h=>kJ b (h.length:Int)) e0 (fun _ _=>none) (fun i b=>b.size<=1000+22*i)
  (fun n b i h hI=>by
    have hl:=hv.1
    have hw:=yQ (hv.2 v[i] (List.getElem_mem h))
    have hi:=iI hw
    refine (cw.bp ..).trans ((ai (ae (by omega))).trans ((af (bP h)).trans ?_))
    rw[Int.toNat_natCast,aD _ h,aL (by omega)]
    refine (aa (aF.eq k hw)).trans ((af (kw (by rw[Pf];omega))).trans ((af (kw (by rw[ByteArray.size_append,Pf];omega))).trans ?_))
    rw[xg];rfl)
  (fun b i h hI _=>by have:=yP (b:=b) (yQ (hv.2 v[i] (List.getElem_mem h)));show (kJ b (v[i].length:Int)).size<=_;omega)
  (fun n b hI=>(cw.bp ..).trans (ab (aH (by omega))))
  v.length 0 k b (by omega) (bV hk hv.1) (by omega)
 refine h.trans ?_
 rw[List.drop_zero,bX]
theorem K_ {α:Type} (f:α->Int): ∀(v:List α) (b:ByteArray),(∀x∈v,ry .i64 (f x))->(v.foldl (fun b x=>kJ b (f x)) b).size<=b.size+22*v.length
 | [],b,_=>by simp
 |x::v,b,h=>by
  have h1:=yP (b:=b) (h x (by simp))
  have h2:=K_ f v (kJ b (f x)) (fun y hy=>h y (List.mem_cons_of_mem _ hy))
  rw[List.foldl_cons,List.length_cons];omega
def tv (g:Gm):ByteArray:=(gP g.tn++(⟨#[58]⟩:ByteArray))++lL (g.hp.getD (g.hp.length-1) 0)
def BK (g:Gm):ByteArray:=bif dy g then ((g.hs.foldl (fun b h=>kJ b (h.length:Int)) (tv g))++(⟨#[47]⟩:ByteArray))++gP (g.st.length:Int) else ByteArray.empty
theorem ux {g:Gm} (h:dy g=true):ry .i64 g.tn/\0<g.hp.length/\g.hs.length<=6:=by
 obtain ⟨h1,h2,h3,h4,h5,h6,h7⟩:=fg.1 h
 have:=(om h1).1
 exact ⟨ru ⟨by omega,by omega⟩,h4,by omega⟩
theorem HI {g:Gm} (h:dy g=true):(tv g).size<=39:=by
 have h1:=iI (ux h).1
 have h2:=mB (g.hp.getD (g.hp.length-1) 0)
 unfold tv
 rw[ByteArray.size_append,ByteArray.size_append,Pf];omega
theorem La {l:List Int} (h:0<l.length) (hl:l.length<1048577):(decide ((0:Int)<=IntKind.wrap .i64 ((l.length:Int)-1))&&decide (IntKind.wrap .i64 ((l.length:Int)-1)<(l.length:Int)))=true/\(IntKind.wrap .i64 ((l.length:Int)-1)).toNat=l.length-1:=by
 rw[wrap_i64 (by omega) (by omega)]
 exact ⟨bi (ae (by omega)) (ae (by omega)),by omega⟩
theorem cw.eq {k:Nat} (hk:cO<=k) {g:Gm} (hg:g.sm):g.ap (cw.f k)=some (BK g):=by
 refine (aa (cQ.eq hk hg)).trans ?_
 unfold BK
 cases h:dy g with
 |false=>rfl
 |true=>
  obtain ⟨n1,n2,n3⟩:=ux h
  obtain ⟨l1,l2⟩:=La n2 hg.2.2.2
  have hi:=iI n1
  have hc:=mB (g.hp.getD (g.hp.length-1) 0)
  have hs:g.st.length<1048577:=hg.2.2.1
  have hf:=K_ (fun h:List Int=>(h.length:Int)) g.hs (tv g) (fun x hx=>yQ (hg.2.1.2 x hx))
  have hh:=HI h
  refine (ab rfl).trans ((aa (aF.eq k n1)).trans ((af (kw (by rw[Pf];omega))).trans ((af l1).trans ?_)))
  rw[l2]
  refine (aa (eO.eq ..)).trans ((af (kw (by rw[ByteArray.size_append,Pf];omega))).trans ((cw.loop hk hg.2.1 _ (b:=tv g) (by omega)).trans ((af (kw (by rw[Pf];omega))).trans ((aa (aF.eq k (yQ hs))).trans ((af (kw ?_)).trans rfl)))))
  have:=iI (yQ hs)
  rw[ByteArray.size_append,Pf];omega
def vX (v:List (List Int)):List Int:=v.map fun h=>(h.length:Int)
theorem ff.eq {k:Nat} (hk:cO<=k) {v:List (List Int)} (hv:v.length<1048577):ff.f k v=some (vX v):=by
 have h:=scan (B:=List Int) v (fun n b i=>ff.l3 k v (v.length:Int) (fun x1=>some x1) n i b) (fun _ _=>true) (fun b h=>b++[(h.length:Int)]) (fun x1=>some x1) (fun _ _=>none) (fun i b=>b.length<=i)
  (fun n b i h hI=>by
    refine (ff.aA ..).trans ((ai (ae (by omega))).trans ((af (bP h)).trans ((af (mN (by omega))).trans ?_)))
    rw[Int.toNat_natCast,aD _ h,aL (by omega)];rfl)
  (fun b i h hI _=>by simp;omega)
  (fun n b hI=>(ff.aA ..).trans (ab (aH (by omega))))
  v.length 0 k [] (by omega) (bV hk hv) (by simp)
 refine h.trans ?_
 rw[List.drop_zero,bX,nu,List.nil_append];rfl
abbrev Pk:Type:=Int×List Int×Int×Int×Int×List Int×Int×Int×Bool
def Fl (g:Gm) (me:Int):Pk:=bif dy g&&kH me 0 ((g.hs.length:Int)-1) then (me,cW (g.hs.getD me.toNat []),g.hp.getD (g.hp.length-1) 0,(g.hp.length:Int),(g.st.length:Int),vX g.hs,g.tn,g.mv,true) else (0,[],0,0,0,[],0,0,false)
theorem kT.eq {k:Nat} (hk:cO<=k) {g:Gm} (hg:g.sm) (me:Int):g.ap (kT.f k) me=some (Fl g me):=by
 refine (aa (cQ.eq hk hg)).trans ?_
 unfold Fl
 cases h:dy g with
 |false=>rfl
 |true=>
  obtain ⟨n1,n2,n3⟩:=ux h
  obtain ⟨l1,l2⟩:=La n2 hg.2.2.2
  refine (ab rfl).trans ((aa (an.eq ..)).trans ?_)
  rw[wrap_i64 (n:=(g.hs.length:Int)-1) (by omega) (by omega)]
  cases hm:kH me 0 ((g.hs.length:Int)-1) with
  |false=>rfl
  |true=>
   have hr:=eA.1 hm
   have gr:me.toNat<g.hs.length:=by omega
   have hy:(g.hs.getD me.toNat []).length<1048577:=by rw[aD _ gr];exact hg.2.1.2 _ (List.getElem_mem gr)
   refine (ab rfl).trans ((af (bi (ae (by omega)) (ae (by omega)))).trans ((aa (aX.eq hk hy)).trans ((af l1).trans ((aa (ff.eq hk hg.2.1.1)).trans ?_))))
   rw[l2];rfl
def tz (me:Int) (hand:List Int) (top:Int) (sizes:List Int):ByteArray:=sizes.foldl kJ ((((gP me++(⟨#[58]⟩:ByteArray))++im hand)++(⟨#[32]⟩:ByteArray))++nM top)
theorem cx.eq {k:Nat} (hk:cO<=k) {me:Int} {hand:List Int} (top x y:Int) {sizes:List Int} (u w:Int) (h1:ry .i64 me) (h2:hand.length<1048577) (h3:sizes.length<1048577) (h4: ∀n∈sizes,ry .i64 n):cx.f k me hand top x y sizes u w=some (tz me hand top sizes):=by
 have hi:=iI h1
 have hh:=zD hand
 have ho:=BB top
 have loop: ∀b:ByteArray,b.size<=20000000->cx.l6 k sizes (sizes.length:Int) (fun x6=>some x6) k b 0=some (sizes.foldl kJ b):=fun b hb=>by
  have h:=scan (B:=ByteArray) sizes (fun n b i=>cx.l6 k sizes (sizes.length:Int) (fun x6=>some x6) n b i) (fun _ _=>true) kJ (fun x6=>some x6) (fun _ _=>none) (fun i b=>b.size<=20000000+22*i)
   (fun n b i h hI=>by
     have hw:=h4 sizes[i] (List.getElem_mem h)
     have hi:=iI hw
     refine (cx.iz ..).trans ((ai (ae (by omega))).trans ((af (bP h)).trans ?_))
     rw[Int.toNat_natCast,aD _ h,aL (by omega)]
     refine (aa (aF.eq k hw)).trans ((af (kw (by rw[Pf];omega))).trans ((af (kw (by rw[ByteArray.size_append,Pf];omega))).trans ?_))
     rw[xg];rfl)
   (fun b i h hI _=>by have:=yP (b:=b) (h4 sizes[i] (List.getElem_mem h));show (kJ b sizes[i]).size<=_;omega)
   (fun n b hI=>(cx.iz ..).trans (ab (aH (by omega))))
   sizes.length 0 k b (by omega) (bV hk h3) (by omega)
  refine h.trans ?_
  rw[List.drop_zero,bX]
 have tail: ∀t:ByteArray,t.size<=17->((aF.f k me).bind fun r3=>
  ay (decide (r3.size+(⟨#[58]⟩:ByteArray).size<=fa))<|
  (eb.f k hand).bind fun r4=>
  ay (decide ((r3++(⟨#[58]⟩:ByteArray)).size+r4.size<=fa))<|
  ay (decide (((r3++(⟨#[58]⟩:ByteArray))++r4).size+(⟨#[32]⟩:ByteArray).size<=fa))<|
  ay (decide ((((r3++(⟨#[58]⟩:ByteArray))++r4)++(⟨#[32]⟩:ByteArray)).size+t.size<=fa))<|
  cx.l6 k sizes (sizes.length:Int) (fun x6=>some x6) k ((((r3++(⟨#[58]⟩:ByteArray))++r4)++(⟨#[32]⟩:ByteArray))++t) 0)=some (sizes.foldl kJ ((((gP me++(⟨#[58]⟩:ByteArray))++im hand)++(⟨#[32]⟩:ByteArray))++t)):=fun t ht=>by
  refine (aa (aF.eq k h1)).trans ((af (kw (by rw[Pf];omega))).trans ((aa (eb.eq hk h2)).trans ((af (kw ?_)).trans ((af (kw ?_)).trans ((af (kw ?_)).trans (loop _ ?_))))))
  all_goals (simp only[ByteArray.size_append,Pf];omega)
 refine (aa (aT.eq ..)).trans ?_
 unfold tz nM
 unfold nM at ho
 cases hc:be top with
 |true=>
  rw[hc] at ho
  exact (ai rfl).trans ((aa (eO.eq ..)).trans (tail _ ho))
 |false=>exact (ab rfl).trans (tail _ (by decide))
def X4:ByteArray:=⟨#[110,111]⟩
def rO (g:Gm) (me:Int):ByteArray:=bif dy g&&kH me 0 ((g.hs.length:Int)-1) then tz me (cW (g.hs.getD me.toNat [])) (g.hp.getD (g.hp.length-1) 0) (vX g.hs) else X4
theorem Re {k:Nat} {g:Gm} (hg:g.sm) (me:Int) {P:Option Pk} {T:Int->List Int->Int->Int->Int->List Int->Int->Int->Option ByteArray} (hP:P=some (Fl g me)) (hT: ∀ {me:Int} {hand:List Int} (top x y:Int) {sizes:List Int} (u w:Int),ry .i64 me->hand.length<1048577->sizes.length<1048577->(∀n∈sizes,ry .i64 n)->T me hand top x y sizes u w=some (tz me hand top sizes)):
 (P.bind fun r1=>bif (!(t8 r1)) then some (⟨#[110,111]⟩:ByteArray) else (T r1.1 r1.2.1 (t2 r1).1 (t3 r1).1 (t4 r1).1 (t5 r1).1 (t6 r1).1 (t7 r1).1).bind fun r2=>some r2)=some (rO g me):=by
 subst hP
 unfold rO Fl
 cases h:(dy g&&kH me 0 ((g.hs.length:Int)-1)) with
 |false=>rfl
 |true=>
  obtain ⟨h1,h2⟩:=aE h
  have hr:=eA.1 h2
  have n3:=(ux h1).2.2
  have gr:me.toNat<g.hs.length:=by omega
  have hy:(g.hs.getD me.toNat []).length<1048577:=by rw[aD _ gr];exact hg.2.1.2 _ (List.getElem_mem gr)
  have xh:=(qm (g.hs.getD me.toNat [])).length_eq
  show ((T me (cW (g.hs.getD me.toNat [])) (g.hp.getD (g.hp.length-1) 0) (g.hp.length:Int) (g.st.length:Int) (vX g.hs) g.tn g.mv).bind fun r2=>some r2)=_
  refine (aa (hT (me:=me) (hand:=cW (g.hs.getD me.toNat [])) (g.hp.getD (g.hp.length-1) 0) _ _ (sizes:=vX g.hs) _ _ (ru ⟨by omega,by omega⟩) (by omega) ?_ ?_)).trans rfl
  ·unfold vX;rw[List.length_map];omega
  ·intro n hn
   unfold vX at hn
   obtain ⟨x,hx,rfl⟩:=List.mem_map.1 hn
   exact yQ (hg.2.1.2 x hx)
theorem Fm {n:Nat} (h:n<1048577):ry .i64 (n:Int):=ru ⟨by omega,by omega⟩
theorem HJ {a b c:Nat} (ha:a<1048577) (hb:b<1048577) (hc:c<1048577): ∀n∈[(a:Int),(b:Int),(c:Int)],ry .i64 n:=fun n hn=>by
 simp only[List.mem_cons,List.not_mem_nil,or_false] at hn
 rcases hn with rfl|rfl|rfl
 ·exact Fm ha
 ·exact Fm hb
 ·exact Fm hc
def onB (b:Bool):ByteArray:=bif b then ⟨#[32,111,110]⟩ else ⟨#[32,111,102,102]⟩
def AQ (t:Tb):ByteArray:=zC [(t.dG.length:Int),(t.rd.length:Int),(t.gx.length:Int)] ⟨#[32]⟩++onB t.on
theorem JU {t:Tb} (h:t.sm):(zC [(t.dG.length:Int),(t.rd.length:Int),(t.gx.length:Int)] ⟨#[32]⟩).size<=66:=by
 have hw:=HJ (show t.dG.length<1048577 from h.2.1) (show t.rd.length<1048577 from h.2.2.2.2.1) (show t.gx.length<1048577 from h.2.2.2.2.2.1)
 exact Bz (sep:=⟨#[32]⟩) hw (Nat.le_refl 1)
theorem gW.eq {k:Nat} (hk:cO<=k) {t:Tb} (h:t.sm):t.ap (gW.f k)=some (AQ t):=by
 have hw:=HJ (show t.dG.length<1048577 from h.2.1) (show t.rd.length<1048577 from h.2.2.2.2.1) (show t.gx.length<1048577 from h.2.2.2.2.2.1)
 have hl:[(t.dG.length:Int),(t.rd.length:Int),(t.gx.length:Int)].length<1048577:=by simp
 have mL:=JU h
 obtain ⟨r,dG,on,lK,g,rd,gx⟩:=t
 unfold AQ
 cases on with
 |true=>exact (ai rfl).trans ((aa (aV.eq (sep:=⟨#[32]⟩) hk hl hw (Nat.le_refl 1))).trans (af (ae (show (zC _ _).size+3<=9223372036854775807 by omega))))
 |false=>exact (ab rfl).trans ((aa (aV.eq (sep:=⟨#[32]⟩) hk hl hw (Nat.le_refl 1))).trans (af (ae (show (zC _ _).size+4<=9223372036854775807 by omega))))
def HK (l:List Int):ByteArray:=zC l ⟨#[44]⟩
theorem Rf (l:List (List Int)): ∀(b:List ByteArray),l.foldl (fun b a=>b++[HK a]) b=b++l.map HK:=by
 induction l with
 |nil=>intro b;simp
 |cons a l ih=>intro b;rw[List.foldl_cons,ih];simp
theorem bG.eq {k:Nat} (hk:cO<=k) {a0:List (List Int)} (h0:a0.length<1048577) (h1: ∀y∈a0,y.length<1048577) (h2: ∀y∈a0,∀n∈y,ry .i64 n):bG.f k a0=some (tm (a0.map HK) ⟨#[32]⟩):=by
 have hs: ∀y∈a0.map HK,y.size<=33554432:=fun y hy=>by
  obtain ⟨x,hx,rfl⟩:=List.mem_map.1 hy
  have e1:=h1 x hx
  have e2:(HK x).size<=22*x.length:=Bz (h2 x hx) (Nat.le_refl 1)
  omega
 have hl:(a0.map HK).length<1048577:=by simpa using h0
 unfold bG.f tm
 rw[List.length_map]
 cases ((a0.length:Int)==0) with
 |true=>rfl
 |false=>
  refine (ab rfl).trans ?_
  have h:=scan (B:=List ByteArray) a0 (fun m b i=>bG.l5 k a0 (a0.length:Int) (fun x2=>(strings_Join.f k x2 (⟨#[32]⟩:ByteArray)).bind fun r3=>some r3) m i b) (fun _ _=>true) (fun b a=>b++[HK a]) (fun x2=>(strings_Join.f k x2 (⟨#[32]⟩:ByteArray)).bind fun r3=>some r3) (fun _ _=>none) (fun i b=>b.length=i)
   (fun m b i h hI=>by
     have hm:=List.getElem_mem h
     refine (bG.bp ..).trans ((ai (ae (by omega))).trans ((af (bP h)).trans ?_))
     rw[Int.toNat_natCast,aD _ h,aL (by omega)]
     exact (aa (aV.eq (sep:=⟨#[44]⟩) hk (h1 _ hm) (h2 _ hm) (Nat.le_refl 1))).trans (af (ae (by simp[room];omega))))
   (fun b i h hI _=>by simp;omega)
   (fun m b hI=>(bG.bp ..).trans (ab (aH (by omega))))
   a0.length 0 k [] (by omega) (bV hk h0) rfl
  refine h.trans ?_
  rw[List.drop_zero,bX,Rf,List.nil_append]
  exact aa (strings_Join.eq k hl hs (by decide))
theorem Pg (l:List (List Int)): ∀(b:List ByteArray),l.foldl (fun b a=>b++[im a]) b=b++l.map im:=by
 induction l with
 |nil=>intro b;simp
 |cons a l ih=>intro b;rw[List.foldl_cons,ih];simp
theorem bH.eq {k:Nat} (hk:cO<=k) {a0:List (List Int)} (h0:a0.length<1048577) (h1: ∀y∈a0,y.length<1048577):bH.f k a0=some (tm (a0.map im) ⟨#[32]⟩):=by
 have hs: ∀y∈a0.map im,y.size<=33554432:=fun y hy=>by
  obtain ⟨x,hx,rfl⟩:=List.mem_map.1 hy
  have:=zD x
  have:=h1 x hx
  omega
 have hl:(a0.map im).length<1048577:=by simpa using h0
 unfold bH.f tm
 rw[List.length_map]
 cases ((a0.length:Int)==0) with
 |true=>rfl
 |false=>
 refine (ab rfl).trans ?_
 have h:=scan (B:=List ByteArray) a0 (fun m b i=>bH.l5 k a0 (a0.length:Int) (fun x2=>(strings_Join.f k x2 (⟨#[32]⟩:ByteArray)).bind fun r3=>some r3) m i b) (fun _ _=>true) (fun b a=>b++[im a]) (fun x2=>(strings_Join.f k x2 (⟨#[32]⟩:ByteArray)).bind fun r3=>some r3) (fun _ _=>none) (fun i b=>b.length=i)
  (fun m b i h hI=>by
    refine (bH.bp ..).trans ((ai (ae (by omega))).trans ((af (bP h)).trans ?_))
    rw[Int.toNat_natCast,aD _ h,aL (by omega)]
    exact (aa (eb.eq hk (h1 _ (List.getElem_mem h)))).trans (af (ae (by simp[room];omega))))
  (fun b i h hI _=>by simp;omega)
  (fun m b hI=>(bH.bp ..).trans (ab (aH (by omega))))
  a0.length 0 k [] (by omega) (bV hk h0) rfl
 refine h.trans ?_
 rw[List.drop_zero,bX,Pg,List.nil_append]
 exact aa (strings_Join.eq k hl hs (by decide))
def lexB:List Int->List Int->Bool
 | [],[]=>false
 | [],_::_=>true
 |_::_,[]=>false
 |a::x,b::y=>bif a==b then lexB x y else decide (a<b)
theorem BL (x y:List Int): ∀i,i<=x.length->i<=y.length->(∀j,j<i->x.getD j 0=y.getD j 0)->lexB x y=lexB (x.drop i) (y.drop i):=by
 intro i
 induction i with
 |zero=>intro _ _ _;rfl
 |succ i ih=>
  intro hx hy he
  rw[ih (by omega) (by omega) (fun j hj=>he j (by omega)),drop_cons (l:=x) (by omega),drop_cons (l:=y) (by omega)]
  have:=he i (by omega)
  rw[aD _ (by omega),aD _ (by omega)] at this
  rw[lexB,this]
  simp
def oD (x:List Int) (v:List (List Int)):Nat->Nat
 |0=>0
 |j+1=>bif lexB x (v.getD j []) then oD x v j else j+1
theorem AR (x:List Int) (v:List (List Int)): ∀j,oD x v j<=j
 |0=>Nat.le_refl _
 |j+1=>by
  have:=AR x v j
  unfold oD
  cases lexB x (v.getD j [])<;>simp only[cond_true,cond_false]<;>omega
def qn (v:List (List Int)) (x:List Int):List (List Int):=v.take (oD x v v.length)++x::v.drop (oD x v v.length)
theorem HL (v:List (List Int)) (x:List Int):(qn v x).length=v.length+1:=by
 have:=AR x v v.length
 unfold qn
 simp only[List.length_append,List.length_take,List.length_cons,List.length_drop]
 omega
theorem Ph {v:List (List Int)} {x y:List Int} (h:y∈qn v x):y=x\/y∈v:=by
 unfold qn at h
 rcases List.mem_append.1 h with h|h
 ·exact .inr (List.mem_of_mem_take h)
 ·rcases List.mem_cons.1 h with h|h
  ·exact .inl h
  ·exact .inr (List.mem_of_mem_drop h)
theorem MV (l:List (List Int)): ∀v,(l.foldl qn v).length=v.length+l.length:=by
 induction l with
 |nil=>intro v;simp
 |cons x l ih=>intro v;rw[List.foldl_cons,ih,HL,List.length_cons];omega
theorem D8 {y:List Int}: ∀ {l v:List (List Int)},y∈l.foldl qn v->y∈v\/y∈l
 | [],v,h=> .inl h
 |x::l,v,h=>by
  rw[List.foldl_cons] at h
  rcases D8 h with h|h
  ·rcases Ph h with h|h
   ·exact .inr (by simp[h])
   ·exact .inl h
  ·exact .inr (by simp[h])
theorem D9 {i:Nat} (h:i<4611686018427387904):IntKind.wrap .i64 (((i+1:Nat):Int)-1)=(i:Int):=by
 rw[wrap_i64 (by omega) (by omega)];omega
def nk (l:List Int) (r:Int) (s:Nat) (acc:List Int):List Int:=bif aU l ((s:Int)*13+r) then acc++[(s:Int)*13+r] else acc
def vh (l:List Int) (r:Int):List Int:=Jg (nk l r) 4 0 []
theorem uy (l:List Int) (r:Int) (s:Nat) (acc:List Int):(nk l r s acc).length<=acc.length+1:=by
 unfold nk
 cases aU l ((s:Int)*13+r)<;>simp
theorem MW (l:List Int) (r:Int):(vh l r).length<=4:=by
 show (nk l r 3 (nk l r 2 (nk l r 1 (nk l r 0 [])))).length<=4
 have h0:=uy l r 0 []
 have h1:=uy l r 1 (nk l r 0 [])
 have h2:=uy l r 2 (nk l r 1 (nk l r 0 []))
 have h3:=uy l r 3 (nk l r 2 (nk l r 1 (nk l r 0 [])))
 simp only[List.length_nil] at h0
 omega
def Fp (s:List Int):List (List Int):=bif s.length==4 then [fM s (s.getD 0 0),fM s (s.getD 1 0),fM s (s.getD 2 0),fM s (s.getD 3 0)] else []
def zI (l:List Int) (r:Int):List (List Int):=(bif Nat.ble 3 (vh l r).length then [vh l r] else [])++Fp (vh l r)
theorem MX (l:List Int) (r:Int):(zI l r).length<=5:=by
 unfold zI Fp
 cases Nat.ble 3 (vh l r).length<;>cases ((vh l r).length==4)<;>simp
theorem MY {l:List Int} {r:Int} {y:List Int} (h:y∈zI l r):y.length<=4:=by
 have h4:=MW l r
 unfold zI Fp at h
 have w:=fun c=>s_ (vh l r) c
 rcases List.mem_append.1 h with h|h
 ·cases hb:Nat.ble 3 (vh l r).length with
  |true=>rw[hb] at h;simp at h;rw[h];exact h4
  |false=>rw[hb] at h;simp at h
 ·cases hb:((vh l r).length==4) with
  |true=>
   rw[hb] at h
   simp only[cond_true,List.mem_cons,List.not_mem_nil,or_false] at h
   rcases h with rfl|rfl|rfl|rfl
   ·exact Nat.le_trans (w _) h4
   ·exact Nat.le_trans (w _) h4
   ·exact Nat.le_trans (w _) h4
   ·exact Nat.le_trans (w _) h4
  |false=>rw[hb] at h;simp at h
def vi (h:Int->Bool) (c:Nat):Nat->Nat->List Int->List (List Int)
 |0,_,_=>[]
 |m+1,j,u=>bif h ((c:Int)+(j:Int)) then (bif Nat.ble 3 (j+1) then [u++[(c:Int)+(j:Int)]] else [])++vi h c m (j+1) (u++[(c:Int)+(j:Int)]) else []
theorem D_ (h:Int->Bool) (c:Nat): ∀m j u,(vi h c m j u).length<=m
 |0,_,_=>Nat.le_refl _
 |m+1,j,u=>by
  have:=D_ h c m (j+1) (u++[(c:Int)+(j:Int)])
  unfold vi
  cases h ((c:Int)+(j:Int)) with
  |false=>simp
  |true=>cases Nat.ble 3 (j+1)<;>simp<;>omega
theorem Ea (h:Int->Bool) (c:Nat): ∀m j u,u.length=j-> ∀y∈vi h c m j u,y.length<=j+m
 |0,_,_,_=>fun y hy=>by cases hy
 |m+1,j,u,hu=>fun y hy=>by
  have ih:=Ea h c m (j+1) (u++[(c:Int)+(j:Int)]) (by simp[hu])
  unfold vi at hy
  cases hh:h ((c:Int)+(j:Int)) with
  |false=>rw[hh] at hy;cases hy
  |true=>
   rw[hh,cond_true] at hy
   rcases List.mem_append.1 hy with hy|hy
   ·cases hb:Nat.ble 3 (j+1) with
    |true=>rw[hb] at hy;simp at hy;rw[hy];simp;omega
    |false=>rw[hb] at hy;cases hy
   ·have:=ih y hy;omega
def Fq (l:List Int):Bool:=dx l&&decide ((l.length:Int)<=12)
def MZ (l:List Int):List (List Int):=((List.range' 0 13).flatMap fun (r:Nat)=>zI l (r:Int))++(List.range' 0 52).flatMap fun c=>vi (aU l) c (13-c%13) 0 []
def lY (l:List Int):List (List Int):=bif Fq l then (MZ l).foldl qn [] else []
theorem HM (l:List Int): ∀m r,((List.range' r m).flatMap fun (r:Nat)=>zI l (r:Int)).length<=5*m
 |0,r=>by simp
 |m+1,r=>by
  have h1:=HM l m (r+1)
  have h2:=MX l (r:Int)
  rw[List.range'_succ,List.flatMap_cons,List.length_append];omega
theorem zJ {l y:List Int} (h:y∈lY l):y.length<=13:=by
 unfold lY at h
 cases hg:Fq l with
 |false=>rw[hg] at h;cases h
 |true=>
  rw[hg,cond_true] at h
  rcases D8 h with h|h
  ·cases h
  ·unfold MZ at h
   rcases List.mem_append.1 h with h|h
   ·obtain ⟨r,_,h⟩:=List.mem_flatMap.1 h
    have:=MY h;omega
   ·obtain ⟨c,_,h⟩:=List.mem_flatMap.1 h
    have:=Ea (aU l) c (13-c%13) 0 [] rfl y h
    omega
theorem zK (l:List Int):(lY l).length<=1000:=by
 have hf: ∀m c,((List.range' c m).flatMap fun c=>vi (aU l) c (13-c%13) 0 []).length<=13*m:=by
  intro m
  induction m with
  |zero=>intro c;simp
  |succ m ih=>
   intro c
   have h1:=ih (c+1)
   have h2:=D_ (aU l) c (13-c%13) 0 []
   rw[List.range'_succ,List.flatMap_cons,List.length_append];omega
 have h1:=HM l 13 0
 have h2:=hf 52 0
 unfold lY
 cases Fq l with
 |false=>simp
 |true=>
  rw[cond_true,MV]
  unfold MZ
  rw[List.length_append]
  simp only[List.length_nil]
  omega
theorem lex_asymm: ∀ {x y:List Int},lexB x y=true->lexB y x=false
 | [],[],h=>by cases h
 | [],_::_,_=>rfl
 |_::_,[],h=>by cases h
 |a::x,b::y,h=>by
  rw[lexB] at h ⊢
  by_cases e:a=b
  ·subst e
   rw[beq_self_eq_true,cond_true] at h ⊢
   exact lex_asymm h
  ·rw[beq_eq_false_iff_ne.2 e,cond_false] at h
   rw[beq_eq_false_iff_ne.2 (Ne.symm e),cond_false]
   have:=of_decide_eq_true h
   exact decide_eq_false (by omega)
theorem HN: ∀ {x y:List Int},lexB x y=false->lexB y x=false->x=y
 | [],[],_,_=>rfl
 | [],_::_,h,_=>by cases h
 |_::_,[],_,h=>by cases h
 |a::x,b::y,h,h'=>by
  rw[lexB] at h h'
  by_cases e:a=b
  ·subst e
   rw[beq_self_eq_true,cond_true] at h h'
   rw[HN h h']
  ·rw[beq_eq_false_iff_ne.2 e,cond_false] at h
   rw[beq_eq_false_iff_ne.2 (Ne.symm e),cond_false] at h'
   have:=of_decide_eq_false h;have:=of_decide_eq_false h'
   omega
theorem lex_trans: ∀ {x y z:List Int},lexB y x=false->lexB z y=false->lexB z x=false
 | [],_,[],_,_=>rfl
 | [],_,_::_,_,_=>rfl
 |_::_,[],[],h,_=>by cases h
 |_::_,_::_,[],_,h=>by cases h
 |_::_,[],_::_,h,_=>by cases h
 |a::x,b::y,c::z,h,h'=>by
  rw[lexB] at h h' ⊢
  by_cases e:b=a
  ·subst e
   rw[beq_self_eq_true,cond_true] at h
   by_cases e2:c=b
   ·subst e2
    rw[beq_self_eq_true,cond_true] at h' ⊢
    exact lex_trans h h'
   ·rw[beq_eq_false_iff_ne.2 e2,cond_false] at h' ⊢
    exact h'
  ·rw[beq_eq_false_iff_ne.2 e,cond_false] at h
   have:=of_decide_eq_false h
   by_cases e2:c=b
   ·subst e2
    rw[beq_eq_false_iff_ne.2 e,cond_false]
    exact decide_eq_false (by omega)
   ·rw[beq_eq_false_iff_ne.2 e2,cond_false] at h'
    have:=of_decide_eq_false h'
    rw[beq_eq_false_iff_ne.2 (by omega),cond_false]
    exact decide_eq_false (by omega)
def T2 (x y:List Int):Prop:=lexB y x=false
theorem BM {x:List Int} {v:List (List Int)}: ∀k j,oD x v k<=j->j<k->lexB x (v.getD j [])=true
 |0,j,_,h=>absurd h (by omega)
 |k+1,j,h1,h2=>by
  unfold oD at h1
  cases hb:lexB x (v.getD k []) with
  |false=>rw[hb,cond_false] at h1;omega
  |true=>
   rw[hb,cond_true] at h1
   by_cases e:j=k
   ·subst e;exact hb
   ·exact BM k j h1 (by omega)
theorem Lb {x:List Int} {v:List (List Int)}: ∀k j,j+1=oD x v k->lexB x (v.getD j [])=false
 |0,j,h=>by simp[oD] at h
 |k+1,j,h=>by
  unfold oD at h
  cases hb:lexB x (v.getD k []) with
  |true=>rw[hb,cond_true] at h;exact Lb k j h
  |false=>
   rw[hb,cond_false] at h
   obtain rfl:j=k:=by omega
   exact hb
theorem HO {v:List (List Int)} (hv:v.Pairwise T2) (x:List Int):(qn v x).Pairwise T2:=by
 have hp:=AR x v v.length
 have X5: ∀j (h:j<v.length),v.getD j [] =v[j]:=fun j h=>aD _ h
 have before: ∀y∈v.take (oD x v v.length),T2 y x:=fun y hy=>by
  obtain ⟨j,hj,rfl⟩:=List.getElem_of_mem hy
  rw[List.length_take] at hj
  rw[List.getElem_take]
  have hq:lexB x (v.getD (oD x v v.length-1) [])=false:=Lb v.length _ (by omega)
  rw[X5 _ (by omega)] at hq
  by_cases e:j=oD x v v.length-1
  ·subst e;exact hq
  ·exact lex_trans ((List.pairwise_iff_getElem.1 hv) j (oD x v v.length-1) (by omega) (by omega) (by omega)) hq
 have after: ∀y∈v.drop (oD x v v.length),T2 x y:=fun y hy=>by
  obtain ⟨j,hj,rfl⟩:=List.getElem_of_mem hy
  rw[List.length_drop] at hj
  rw[List.getElem_drop]
  have:=BM (x:=x) (v:=v) v.length (oD x v v.length+j) (by omega) (by omega)
  rw[X5 _ (by omega)] at this
  exact lex_asymm this
 unfold qn
 refine List.pairwise_append.2 ⟨hv.sublist (List.take_sublist _ _),List.pairwise_cons.2 ⟨after,hv.sublist (List.drop_sublist _ _)⟩,fun a ha b hb=> ?_⟩
 rcases List.mem_cons.1 hb with rfl|hb
 ·exact before a ha
 ·exact lex_trans (before a ha) (after b hb)
theorem M0 (v:List (List Int)) (x:List Int):(qn v x).Perm (x::v):=by
 unfold qn
 have:=List.perm_middle (a:=x) (l₁:=v.take (oD x v v.length)) (l₂:=v.drop (oD x v v.length))
 rwa [List.take_append_drop] at this
theorem rP: ∀(l v:List (List Int)),v.Pairwise T2->(l.foldl qn v).Pairwise T2
 | [],_,h=>h
 |x::l,v,h=>rP l _ (HO h x)
theorem vY: ∀(l v:List (List Int)),(l.foldl qn v).Perm (l++v)
 | [],_=>List.Perm.refl _
 |x::l,v=>(vY l (qn v x)).trans (((M0 v x).append_left l).trans List.perm_middle)
theorem Ft {a b:List (List Int)} (h:a.Perm b):a.foldl qn [] =b.foldl qn []:=by
 have h1:=vY a []
 have h2:=vY b []
 rw[List.append_nil] at h1 h2
 exact List.Perm.eq_of_pairwise (le:=T2) (fun x y _ _ hx hy=>(HN hx hy).symm ▸ rfl) (rP a [] List.Pairwise.nil) (rP b [] List.Pairwise.nil) (h1.trans (h.trans h2.symm))
theorem cU.eq {k:Nat} (hk:cO<=k) {x:List Int} (y:List Int) (hx:x.length<1048577):cU.f k x y=some (lexB x y):=by
 have key: ∀(m i n:Nat),i+m=x.length->m<n->i<=y.length->(∀j,j<i->x.getD j 0=y.getD j 0)->cU.l2 k x y (x.length:Int) (fun x1=>some x1) (some (decide ((x.length:Int)<(y.length:Int)))) n (i:Int)=some (lexB x y):=by
  intro m
  induction m with
  |zero=>
   intro i n hi hn hy he
   obtain ⟨n,rfl⟩: ∃n',n=n' +1:=⟨n-1,by omega⟩
   refine (cU.fQ ..).trans ((ab (aH (by omega))).trans ?_)
   rw[BL x y i (by omega) hy he,List.drop_of_length_le (by omega)]
   by_cases h:i=y.length
   ·rw[List.drop_of_length_le (by omega),aH (by omega)];rfl
   ·rw[drop_cons (l:=y) (by omega),ae (by omega)];rfl
  |succ m ih=>
   intro i n hi hn hy he
   obtain ⟨n,rfl⟩: ∃n',n=n' +1:=⟨n-1,by omega⟩
   have QO:i<x.length:=by omega
   by_cases X1:i=y.length
   ·refine (cU.fQ ..).trans ((ai (ae (by omega))).trans ((ai (by simp[X1])).trans ?_))
    rw[BL x y i (by omega) (by omega) he,drop_cons (l:=x) QO,List.drop_of_length_le (l:=y) (by omega)];rfl
   ·have Wu:i<y.length:=by omega
    have lG:((i:Int)==(y.length:Int))=false:=by simp;omega
    by_cases e:x.getD i 0=y.getD i 0
    ·refine (cU.fQ ..).trans ((ai (ae (by omega))).trans ((ab lG).trans ((af (bP QO)).trans ((af (bP Wu)).trans ((ab (by rw[Int.toNat_natCast,e];simp)).trans ?_)))))
     rw[aL (by omega)]
     exact ih (i+1) n (by omega) (by omega) (by omega) (fun j hj=>by
      by_cases h:j=i
      ·subst h;exact e
      ·exact he j (by omega))
    ·refine (cU.fQ ..).trans ((ai (ae (by omega))).trans ((ab lG).trans ((af (bP QO)).trans ((af (bP Wu)).trans ((ai (by rw[Int.toNat_natCast];simpa using e)).trans ((af (bP QO)).trans ((af (bP Wu)).trans ?_)))))))
     rw[Int.toNat_natCast,BL x y i (by omega) hy he,drop_cons (l:=x) QO,drop_cons (l:=y) Wu,lexB]
     rw[aD _ QO,aD _ Wu] at e ⊢
     have:(x[i]==y[i])=false:=by simpa using e
     rw[this];rfl
 exact key x.length 0 k (by omega) (bV hk hx) (Nat.zero_le _) (fun j hj=>by omega)
theorem au.put_eq {R:Type} {k:Nat} (hk:cO<=k) {v:List (List Int)} {x:List Int} (hv:v.length<1048576) (hx:x.length<1048577) (e0:Int->Option R): ∀(j n:Nat),j<=v.length->j<n->au.QY k v x e0 n (j:Int)=e0 ((oD x v j:Nat):Int):=by
 intro j
 induction j with
 |zero=>
  intro n hj hn
  obtain ⟨n,rfl⟩: ∃n',n=n' +1:=⟨n-1,by omega⟩
  exact (au.Ha ..).trans (ab (aH (by omega)))
 |succ j ih=>
  intro n hj hn
  obtain ⟨n,rfl⟩: ∃n',n=n' +1:=⟨n-1,by omega⟩
  have step:au.QY k v x e0 (n+1) ((j+1:Nat):Int)=bif lexB x (v.getD j []) then au.QY k v x e0 n (j:Int) else e0 ((j+1:Nat):Int):=by
   refine (au.Ha ..).trans ((ai (ae (by omega))).trans ?_)
   rw[D9 (by omega)]
   exact (af (bP (by omega))).trans (aa (by rw[Int.toNat_natCast];exact cU.eq hk _ hx))
  rw[step]
  unfold oD
  cases lexB x (v.getD j []) with
  |true=>exact ih n (by omega) (by omega)
  |false=>rfl
theorem cY.eq {k:Nat} (hk:cO<=k) {x:List Int} (hx:x.length<1048577):cY.f k x=some (oO x):=by
 unfold oO
 refine (aa (aB.eq hk (by omega))).trans ?_
 cases dx x with
 |false=>rfl
 |true=>
  refine (ab rfl).trans ((aa (an.eq ..)).trans ?_)
  cases hr:kH (x.length:Int) 3 4 with
  |false=>rfl
  |true=>
   have hr:=eA.1 hr
   refine (ab rfl).trans ?_
   have h:=scan (B:=Unit) x (fun m _ i=>cY.l4 k x x (x.length:Int) (some false) (some true) m i) (fun _ a=>bu a==bu (x.getD 0 0)) (fun b _=>b) (fun _=>some true) (fun _ _=>some false) (fun _ _=>True)
    (fun m b i h hI=>by
      refine (cY.hO ..).trans ((ai (ae (by omega))).trans ((af (bP h)).trans ((aa (bN.eq ..)).trans ((af (ae (by omega))).trans ((aa (bN.eq ..)).trans ?_)))))
      rw[Int.toNat_natCast,aD _ h,aL (by omega)]
      unfold bne
      cases (bu x[i]==bu (x.getD 0 0))<;>rfl)
    (fun b i h hI hp=>trivial)
    (fun m b hI=>(cY.hO ..).trans (ab (aH (by omega))))
    x.length 0 k () (by omega) (bV hk hx) trivial
   refine h.trans ?_
   rw[List.drop_zero,rr]
   unfold BJ
   cases (x.all fun c=>bu c==bu (x.getD 0 0))<;>rfl
theorem bT.loop {k:Nat} (hk:cO<=k) (v:List Int) (hv:v.length<1048577) (hc: ∀c∈v,be c=true) (h0:0<v.length): ∀(m i n:Nat),i+m=v.length->m<n->bT.l5 k (v.length:Int) v (some false) (some true) n (i:Int)=some (((v.drop i).zipIdx i).all fun y=>(br y.1==br (v.getD 0 0))&&(y.1==v.getD 0 0+(y.2:Int)))
 |m,i,0,_,h=>absurd h (by omega)
 |0,i,n+1,hi,_=>by
  rw[List.drop_eq_nil_of_le (by omega)]
  exact (bT.bp ..).trans ((ab (aH (by omega))).trans rfl)
 |m+1,i,n+1,hi,hn=>by
  have Bc:i<v.length:=by omega
  have ih:=bT.loop hk v hv hc h0 m (i+1) n (by omega) (by omega)
  have c0:=dF.1 (hc (v.getD 0 0) (o3 0 h0))
  rw[drop_cons Bc,List.zipIdx_cons,List.all_cons,<- Option.some_inj.2 rfl]
  refine (bT.bp ..).trans ((ai (ae (by omega))).trans ((af (bP Bc)).trans ((aa (aZ.eq ..)).trans ((af (ae (by omega))).trans ((aa (aZ.eq ..)).trans ?_)))))
  rw[Int.toNat_natCast,aD _ Bc,aL (by omega),wrap_i64 (n:=v.getD 0 0+(i:Int)) (by omega) (by omega)]
  unfold bne
  cases (br v[i]==br (v.getD 0 0)) with
  |false=>rfl
  |true=>
   refine (ab rfl).trans ((af (ae (by omega))).trans ?_)
   cases (v[i]==v.getD 0 0+(i:Int)) with
   |false=>rfl
   |true=>exact (ab rfl).trans (by rw[ih];rfl)
theorem bT.eq {k:Nat} (hk:cO<=k) {x:List Int} (hx:x.length<1048577):bT.f k x=some (oP x):=by
 unfold oP
 refine (aa (aB.eq hk (by omega))).trans ?_
 cases hh:dx x with
 |false=>rfl
 |true=>
  refine (ab rfl).trans ?_
  by_cases h3:(x.length:Int)<3
  ·rw[ae h3];rfl
  ·rw[aH h3]
   have hp:=qm x
   have hl:=hp.length_eq
   refine (ab rfl).trans ((aa (aX.eq hk hx)).trans ?_)
   refine (bT.loop hk (cW x) (by omega) (fun c hc=>(i_.1 hh).1 c (hp.mem_iff.1 hc)) (by omega) (cW x).length 0 k (by omega) (bV hk (by omega))).trans ?_
   rw[List.drop_zero]
   rfl
theorem YJ (q:Nat) (h:q<4096):sD .and .i64 (q:Int) 1=((q%2:Nat):Int):=by
 have e:(BitVec.ofInt 64 (q:Int) &&& BitVec.ofInt 64 1).toNat=q%2:=by
  rw[BitVec.ofInt_natCast,show (BitVec.ofInt 64 1)=BitVec.ofNat 64 1 from rfl,BitVec.toNat_and,BitVec.toNat_ofNat,BitVec.toNat_ofNat,Nat.mod_eq_of_lt (show q<2^64 by omega),show 1%2^64=1 from rfl,Nat.and_one_is_mod]
 show IntKind.wrap .i64 (((BitVec.ofInt 64 (q:Int) &&& BitVec.ofInt 64 1).toNat:Nat):Int)=_
 rw[e,wrap_i64 (by omega) (by omega)]
theorem au.own {R:Type} {k:Nat} (hk:cO<=k) {s:List Int} (hs:s.length<=12) {q:Nat} (hq:q<4096) (e0:List Int->Option R): ∀(m i n:Nat) (u:List Int),i+m=s.length->m<n->u.length<=i->au.l9 k (q:Int) (s.length:Int) s e0 n (i:Int) u=e0 (u++pick (q/2^i) (s.drop i))
 |m,i,0,u,_,h,_=>absurd h (by omega)
 |0,i,n+1,u,hi,_,_=>by
  rw[List.drop_eq_nil_of_le (by omega)]
  have e:pick (q/2^i) [] =[]:=by unfold pick;rfl
  rw[e,List.append_nil]
  exact (au.pI ..).trans (ab (aH (by omega)))
 |m+1,i,n+1,u,hi,hn,hu=>by
  have Bc:i<s.length:=by omega
  have hqi:q/2^i<4096:=Nat.lt_of_le_of_lt (Nat.div_le_self _ _) hq
  have ew:((q:Int)).fdiv (2^(min ((i:Int)).toNat (IntKind.bits .i64)))=((q/2^i:Nat):Int):=by
   rw[Int.toNat_natCast,show min i (IntKind.bits .i64)=i from Nat.min_eq_left (by show i<=64;omega)]
   rw[Int.fdiv_eq_ediv_of_nonneg _ (by exact Int.pow_nonneg (by decide))]
   rw[show ((2:Int)^i)=((2^i:Nat):Int) by simp]
   exact (Int.natCast_ediv q (2^i)).symm
  have ed:q/2^i/2=q/2^(i+1):=by rw[Nat.div_div_eq_div_mul,Nat.pow_succ]
  rw[drop_cons Bc]
  have ep:pick (q/2^i) (s[i]::s.drop (i+1))=bif q/2^i%2==1 then s[i]::pick (q/2^(i+1)) (s.drop (i+1)) else pick (q/2^(i+1)) (s.drop (i+1)):=by
   rw[<- ed];rfl
  rw[ep]
  refine (au.pI ..).trans ((ai (ae (by omega))).trans ((af (bP Bc)).trans ((af (ae (by omega))).trans ?_)))
  rw[ew,YJ _ hqi,Int.toNat_natCast,aD _ Bc,aL (by omega)]
  by_cases hb:q/2^i%2=1
  ·rw[hb]
   refine (ai rfl).trans ((af (mN (by omega))).trans ((au.own hk hs hq e0 m (i+1) n (u++[s[i]]) (by omega) (by omega) (by simp;omega)).trans ?_))
   simp
  ·have Jp:q/2^i%2=0:=by omega
   rw[Jp]
   exact (ab rfl).trans (au.own hk hs hq e0 m (i+1) n u (by omega) (by omega) (by omega))
def xi (s:List Int):Nat->Nat->List (List Int)
 |_,0=>[]
 |q,m+1=>(bif jc (pick q s) then [pick q s] else [])++xi s (q+1) m
theorem au.HP {R:Type} {k:Nat} (hk:cO<=k) {s:List Int} (hs:s.length<=12) {T:Nat} (hT:T<=4096) (e0:List (List Int)->Option R): ∀(m q n:Nat) (v:List (List Int)),q+m=T->m<n->v.length<=q->au.l5 k (T:Int) s e0 n (q:Int) v=e0 ((xi s q m).foldl qn v)
 |m,q,0,v,_,h,_=>absurd h (by omega)
 |0,q,n+1,v,hi,_,_=>(au.bp ..).trans (ab (aH (by omega)))
 |m+1,q,n+1,v,hi,hn,hv=>by
  have QN:(pick q s).length<=12:=Nat.le_trans (BI q s).length_le hs
  have ME: ∀E:List Int->Option R,au.l9 k (q:Int) (s.length:Int) s E k 0 [] =E (pick q s):=fun E=>by
   have:=au.own hk hs (q:=q) (by omega) E s.length 0 k [] (by omega) (by simp[cO] at hk;omega) (by simp)
   rw[Nat.pow_zero,Nat.div_one,List.drop_zero,List.nil_append] at this
   exact this
  have ew:=aL (i:=q) (by omega)
  have put: ∀E:Int->Option R,au.QY k v (pick q s) E k (v.length:Int)=E ((oD (pick q s) v v.length:Nat):Int):=fun E=>au.put_eq hk (by omega) (by omega) E v.length k (Nat.le_refl _) (bV hk (by omega))
  have hX:(v++([[]]:List (List Int))).length=v.length+1:=by simp
  have hj:=AR (pick q s) v v.length
  have Wv:qn v (pick q s)=v.take (oD (pick q s) v v.length)++pick q s::v.drop (oD (pick q s) v v.length):=rfl
  generalize oD (pick q s) v v.length=j at put hj Wv
  have body: ∀(rec:Int->List (List Int)->Option R),
   (ay (decide ((v.length+1)*24<=room))<|
   ay ((decide (0<=((v++([[]]:List (List Int))).length:Int)))&&(decide (((v++([[]]:List (List Int))).length:Int)<=((v++([[]]:List (List Int))).length:Int))))<|
   ay ((decide (0<=(IntKind.wrap .i64 ((j:Int)+1))))&&(decide ((IntKind.wrap .i64 ((j:Int)+1))<=((v++([[]]:List (List Int))).length:Int))))<|
   ay ((decide (0<=((v++([[]]:List (List Int))).length:Int)))&&(decide (((v++([[]]:List (List Int))).length:Int)<=((v++([[]]:List (List Int))).length:Int))))<|
   ay ((decide (0<=(j:Int)))&&(decide ((j:Int)<=((v++([[]]:List (List Int))).length:Int))))<|
   ay (((IntKind.wrap .i64 ((j:Int)+1)).toNat)==(j:Int).toNat+1&&(((v++([[]]:List (List Int))).length:Int).toNat)==((v++([[]]:List (List Int))).length)&&(((v++([[]]:List (List Int))).length:Int).toNat)==((v++([[]]:List (List Int))).length)&&decide ((j:Int).toNat<((v++([[]]:List (List Int))).length)))<|
   ay ((decide (0<=(j:Int)))&&(decide ((j:Int)<((((v++([[]]:List (List Int))).take (j:Int).toNat)++[]::((v++([[]]:List (List Int))).drop (j:Int).toNat).dropLast).length:Int))))<|
   ay ((j:Int).toNat==(j:Int).toNat)<|
   rec (IntKind.wrap .i64 ((q:Int)+1)) ((((v++([[]]:List (List Int))).take (j:Int).toNat)++[]::((v++([[]]:List (List Int))).drop (j:Int).toNat).dropLast).set (j:Int).toNat (pick q s)))=rec ((q+1:Nat):Int) (qn v (pick q s)):=fun rec=>by
   have hlen:(((v++([[]]:List (List Int))).take j)++[]::((v++([[]]:List (List Int))).drop j).dropLast).length=v.length+1:=by
    simp only[List.length_append,List.length_take,List.length_cons,List.length_dropLast,List.length_drop,List.length_nil];omega
   have hw:(((v++([[]]:List (List Int))).take j)++[]::((v++([[]]:List (List Int))).drop j).dropLast).set j (pick q s)=qn v (pick q s):=by
    rw[Wv,List.take_append_of_le_length hj,List.drop_append_of_le_length hj,List.dropLast_concat,List.set_append_right _ _ (by rw[List.length_take];omega)]
    rw[List.length_take,show j-min j v.length=0 by omega];rfl
   rw[aL (i:=j) (by omega),ew,Int.toNat_natCast,Int.toNat_natCast,Int.toNat_natCast,hX]
   refine (af (EQ (by omega))).trans ((af (bi (ae (by omega)) (ae (by omega)))).trans ((af (bi (ae (by omega)) (ae (by omega)))).trans ((af (bi (ae (by omega)) (ae (by omega)))).trans ((af (bi (ae (by omega)) (ae (by omega)))).trans ((af (bi (bi (bi (by simp) (by simp)) (by simp)) (ae (by omega)))).trans ((af (bi (ae (by omega)) (ae (by rw[hlen];omega)))).trans ((af (by simp)).trans ?_)))))))
   rw[hw]
  have next: ∀(w1:List (List Int)),w1.length<=q+1->au.l5 k (T:Int) s e0 n ((q+1:Nat):Int) w1=e0 ((xi s (q+1) m).foldl qn w1):=fun w1 Vm=>au.HP hk hs hT e0 m (q+1) n w1 (by omega) (by omega) Vm
  have Bc:=HL v (pick q s)
  have h0:au.l5 k (T:Int) s e0 (n+1) (q:Int) v=_:=(au.bp ..).trans ((ai (ae (by omega))).trans ((ME _).trans (aa (cY.eq hk (by omega)))))
  rw[h0,xi]
  cases h1:oO (pick q s) with
  |true=>
   have hm:jc (pick q s)=true:=by unfold jc;rw[h1];rfl
   rw[hm]
   exact (ab rfl).trans ((put _).trans ((body _).trans (next _ (by omega))))
  |false=>
   simp only[bT.eq hk (show (pick q s).length<1048577 by omega)]
   cases h2:oP (pick q s) with
   |true=>
    have hm:jc (pick q s)=true:=by unfold jc;rw[h1,h2];rfl
    rw[hm]
    exact (ai rfl).trans ((aa rfl).trans ((ab rfl).trans ((put _).trans ((body _).trans (next _ (by omega))))))
   |false=>
    have hm:jc (pick q s)=false:=by unfold jc;rw[h1,h2];rfl
    rw[hm]
    exact (ai rfl).trans ((aa rfl).trans ((ai rfl).trans (by rw[ew];exact next v (by omega))))
theorem zL (s:List Int) (a:List Int): ∀m q,(xi s q m).count a+pd (fun i=>(jc (pick i s)&&pick i s==a).toNat) q=pd (fun i=>(jc (pick i s)&&pick i s==a).toNat) (q+m)
 |0,q=>by simp[xi]
 |m+1,q=>by
  have ih:=zL s a m (q+1)
  have e:pd (fun i=>(jc (pick i s)&&pick i s==a).toNat) (q+1)=pd (fun i=>(jc (pick i s)&&pick i s==a).toNat) q+(jc (pick q s)&&pick q s==a).toNat:=rfl
  have e2:(bif jc (pick q s) then [pick q s] else []).count a=(jc (pick q s)&&pick q s==a).toNat:=by
   cases jc (pick q s) with
   |false=>rfl
   |true=>rw[cond_true,List.count_singleton];cases pick q s==a<;>rfl
  rw[show q+(m+1)=q+1+m by omega,<- ih,e,xi,List.count_append,e2]
  omega
def hasAll (l m:List Int):Bool:=m.all fun c=>aU l c
theorem JV {s:List Int} (hs:Oa s) (a:List Int):(xi s 0 (2^s.length)).count a=(jb.filter (hasAll s)).count a:=by
 have h:=zL s a (2^s.length) 0
 rw[Nat.zero_add,show pd (fun i=>(jc (pick i s)&&pick i s==a).toNat) 0=0 from rfl,Nat.add_zero,yN s fun x=>(jc x&&x==a).toNat] at h
 rw[h]
 by_cases ha:a∈jb
 ·have hm:jc a=true:=List.all_eq_true.1 HF a ha
  have hA:Oa a:=HE (List.all_eq_true.1 Fi a ha)
  have e:xf (fun x=>(jc x&&x==a).toNat) s=xf (fun x=>Ob x a) s:=rN s fun x _=>by
   show _=(x==a).toNat
   by_cases e:x=a
   ·subst e;rw[hm];simp
   ·rw[beq_eq_false_iff_ne.2 e,Bool.and_false]
  rw[e,AP s a hs hA]
  have hc:jb.count a=1:=by
   have h1:=K9 (x:=a) HD
   have h2:(jb.any fun y=>a==y)=true:=List.any_eq_true.2 ⟨a,ha,by simp⟩
   rw[h2] at h1
   rw[<- show (jb.map (Ob a)).sum=jb.count a from ?_,h1];rfl
   generalize jb=L
   induction L with
   |nil=>rfl
   |cons y L ih=>
    rw[List.map_cons,List.sum_cons,ih,List.count_cons]
    unfold Ob
    by_cases e:a=y
    ·subst e;simp;omega
    ·rw[beq_eq_false_iff_ne.2 e,beq_eq_false_iff_ne.2 (Ne.symm e)];simp
  cases hb:hasAll s a with
  |true=>rw[List.count_filter hb,hc];unfold hasAll at hb;rw[hb];rfl
  |false=>
   rw[List.count_eq_zero_of_not_mem (fun hh=>by rw[(List.mem_filter.1 hh).2] at hb;cases hb)]
   unfold hasAll at hb;rw[hb];rfl
 ·rw[List.count_eq_zero_of_not_mem (fun hh=>ha (List.mem_filter.1 hh).1)]
  rw[<- uv s]
  refine rN s fun x hx=> ?_
  by_cases e:x=a
  ·subst e
   have hm:jc x=false:=by
    cases hm:jc x with
    |false=>rfl
    |true=>
     exfalso
     have hA:Oa x:=hs.sublist hx
     unfold jc at hm
     rcases (Bool.or_eq_true ..).mp hm with h1|h1
     ·exact ha (Rb h1 hA)
     ·exact ha (Rc h1 hA)
   rw[hm];rfl
  ·rw[beq_eq_false_iff_ne.2 e,Bool.and_false];rfl
theorem yR {α:Type} {f g:α->List (List Int)}: ∀ {L:List α},(∀x∈L,(f x).Perm (g x))->(L.flatMap f).Perm (L.flatMap g)
 | [],_=>List.Perm.refl _
 |x::L,h=>by
  rw[List.flatMap_cons,List.flatMap_cons]
  exact (h x (by simp)).append (yR fun y hy=>h y (List.mem_cons_of_mem _ hy))
theorem Pj (r:Int):fM [r,r+13,r+26,r+39] r=[r+13,r+26,r+39]/\fM [r,r+13,r+26,r+39] (r+13)=[r,r+26,r+39]/\fM [r,r+13,r+26,r+39] (r+26)=[r,r+13,r+39]/\fM [r,r+13,r+26,r+39] (r+39)=[r,r+13,r+26]:=by
 have t: ∀(a b:Int),a≠b->(a != b)=true:=fun a b h=>by simpa using h
 have f: ∀a:Int,(a != a)=false:=fun a=>by simp
 have q: ∀(a b:Int) (l:List Int),(a != b)=true->(a::l).filter (fun x=>x != b)=a::l.filter fun x=>x != b:=fun a b l h=>List.filter_cons_of_pos h
 have z: ∀(a:Int) (l:List Int),(a::l).filter (fun x=>x != a)=l.filter fun x=>x != a:=fun a l=>List.filter_cons_of_neg (by rw[f];exact Bool.false_ne_true)
 unfold fM
 refine ⟨?_,?_,?_,?_⟩
 ·rw[z,q _ _ _ (t _ _ (by omega)),q _ _ _ (t _ _ (by omega)),q _ _ _ (t _ _ (by omega))];rfl
 ·rw[q _ _ _ (t _ _ (by omega)),z,q _ _ _ (t _ _ (by omega)),q _ _ _ (t _ _ (by omega))];rfl
 ·rw[q _ _ _ (t _ _ (by omega)),q _ _ _ (t _ _ (by omega)),z,q _ _ _ (t _ _ (by omega))];rfl
 ·rw[q _ _ _ (t _ _ (by omega)),q _ _ _ (t _ _ (by omega)),q _ _ _ (t _ _ (by omega)),z];rfl
theorem M1 (l:List Int) (r:Int):(zI l r).Perm ((yO r).filter (hasAll l)):=by
 have e0:((0:Nat):Int)*13+r=r:=by omega
 have e1:((1:Nat):Int)*13+r=r+13:=by omega
 have e2:((2:Nat):Int)*13+r=r+26:=by omega
 have e3:((3:Nat):Int)*13+r=r+39:=by omega
 obtain ⟨w0,w1,w2,w3⟩:=Pj r
 have hA:vh l r=nk l r 3 (nk l r 2 (nk l r 1 (nk l r 0 []))):=rfl
 unfold zI Fp yO
 rw[hA]
 unfold nk hasAll
 rw[e0,e1,e2,e3]
 cases h0:aU l r<;>cases h1:aU l (r+13)<;>cases h2:aU l (r+26)<;>cases h3:aU l (r+39)<;>simp[h0,h1,h2,h3,List.filter_cons,Nat.ble]
 rw[w0,w1,w2,w3]
 exact ((List.reverse_perm [[r,r+13,r+26],[r,r+13,r+39],[r,r+26,r+39],[r+13,r+26,r+39]]))
theorem JW (c:Int) (j:Nat):qO c j++[c+(j:Int)] =qO c (j+1):=by
 unfold qO
 rw[List.range_succ,List.map_append];rfl
theorem Eb {h:Int->Bool} {c:Int} {m:Nat}:(qO c m).all h=(List.range m).all fun (i:Nat)=>h (c+(i:Int)):=by
 unfold qO;rw[List.all_map];rfl
theorem zM (h:Int->Bool) (c:Nat): ∀m j,((List.range j).all fun (i:Nat)=>h ((c:Int)+(i:Int)))=true->vi h c m j (qO (c:Int) j)=(((List.range' (j+1) m).filter fun t=>Nat.ble 3 t).map (qO (c:Int))).filter fun x=>x.all h
 |0,j,_=>rfl
 |m+1,j,hj=>by
  have step:((List.range (j+1)).all fun (i:Nat)=>h ((c:Int)+(i:Int)))=h ((c:Int)+(j:Int)):=by
   rw[List.range_succ,List.all_append,hj];simp
  unfold vi
  cases hb:h ((c:Int)+(j:Int)) with
  |false=>
   rw[cond_false]
   symm
   refine List.filter_eq_nil_iff.2 fun x hx sV=> ?_
   obtain ⟨t,ht,rfl⟩:=List.mem_map.1 hx
   have ht:=(List.mem_range'_1.1 (List.mem_filter.1 ht).1)
   rw[Eb] at sV
   have:=List.all_eq_true.1 sV j (List.mem_range.2 (by omega))
   rw[hb] at this;cases this
  |true=>
   rw[cond_true,JW,zM h c m (j+1) (by rw[step,hb]),List.range'_succ]
   cases h3:Nat.ble 3 (j+1) with
   |false=>rw[List.filter_cons_of_neg (by rw[h3];exact Bool.false_ne_true)];rfl
   |true=>
    rw[List.filter_cons_of_pos h3,List.map_cons,List.filter_cons_of_pos (by rw[Eb,step,hb])]
    rfl
theorem Rg (l:List Int) (c:Nat):vi (aU l) c (13-c%13) 0 [] =(JT c).filter (hasAll l):=by
 have h:=zM (aU l) c (13-c%13) 0 rfl
 have e: ∀m,m<14->(List.range' (0+1) m).filter (fun t=>Nat.ble 3 t)=(List.range (m-2)).map (· +3):=by decide
 have hm:c%13<13:=Nat.mod_lt _ (by omega)
 rw[show qO (c:Int) 0=[] from rfl,e _ (by omega),List.map_map,show 13-c%13-2=11-c%13 by omega] at h
 exact h
theorem Pm (l:List Int):(MZ l).Perm (jb.filter (hasAll l)):=by
 unfold MZ jb
 rw[List.filter_append,List.filter_flatMap,List.filter_flatMap,List.range_eq_range',List.range_eq_range']
 refine List.Perm.append (yR fun r _=>M1 l (r:Int)) (yR fun c _=> ?_)
 rw[Rg]
theorem HQ {l l':List Int} (h:l.Perm l'):hasAll l=hasAll l':=by
 funext m
 unfold hasAll
 congr 1
 funext c
 exact Fj h c
theorem au.eq {k:Nat} (hk:cO<=k) {l:List Int} (hl:l.length<1048577):au.f k l=some (lY l):=by
 unfold lY Fq
 cases hh:dx l with
 |false=>exact (aa (aB.eq hk (by omega))).trans (ai (by rw[hh];rfl))
 |true=>
  by_cases Ji:(l.length:Int)<=12
  ·have hp:=qm l
   have xh:=hp.length_eq
   have qh:=(i_.1 hh).2
   have YK:Oa (cW l):=T0 (Fg l) (hp.nodup_iff.2 qh)
   have Ww:(2:Nat)^(cW l).length<=4096:=by
    have:=Nat.pow_le_pow_right (n:=2) (by omega) (show (cW l).length<=12 by omega)
    simpa using this
   have ew:IntKind.wrap .i64 (1*2^(min ((((cW l).length:Nat):Int).toNat) (IntKind.bits .i64)))=((2^(cW l).length:Nat):Int):=by
    rw[Int.toNat_natCast,show min (cW l).length (IntKind.bits .i64)=(cW l).length from Nat.min_eq_left (by show _<=64;omega),Int.one_mul]
    rw[show ((2:Int)^(cW l).length)=((2^(cW l).length:Nat):Int) by simp]
    generalize 2^(cW l).length=P at Ww
    rw[wrap_i64 (by omega) (by omega)]
   have Wx:(xi (cW l) 0 (2^(cW l).length)).Perm (MZ l):=(List.perm_iff_count.2 fun a=>JV YK a).trans (by rw[HQ hp];exact (Pm l).symm)
   have g:=au.HP hk (s:=cW l) (by omega) Ww (fun x9=>Option.some x9) (2^(cW l).length) 0 k [] (by omega) (by simp[cO] at hk;omega) (by simp)
   rw[Ft Wx] at g
   rw[ae Ji]
   exact (aa (aB.eq hk (by omega))).trans ((ab (by rw[hh];rfl)).trans ((ab (aH (by omega))).trans ((aa (aX.eq hk hl)).trans ((af (ae (by omega))).trans (by rw[ew];exact g)))))
  ·rw[aH Ji]
   exact (aa (aB.eq hk (by omega))).trans ((ab (by rw[hh];rfl)).trans (ai (ae (by omega))))
end Go.Proofs.YtbmmhdmljajcfaaGreatDoor
namespace Go.Proofs.YtbmmhdmljajcfaaGreatDoor
open Go Go.Proofs.YtbmmhdmljajcfaaGreatDoor.V Go.Proofs.YtbmmhdmljajcfaaGreatDoor.yl
abbrev M2 (l:List Int):Int:=jv l
def qo (l m:List Int):List Int:=m.foldl fM l
theorem vZ: ∀(m l:List Int),(qo l m).length<=l.length
 | [],l=>Nat.le_refl _
 |c::m,l=>Nat.le_trans (vZ m (fM l c)) (s_ l c)
def BN:List Int->List Int->Bool->Bool
 | [],_,b=>b
 |c::cs,l,b=>BN cs (fM l c) (b&&aU l c)
def qp:List (List Int)->List Int->Int->Int
 | [],_,o=>o
 |m::ms,l,o=>bif BN m l true then qp ms l (if qp ms (qo l m) (M2 (qo l m))<o then qp ms (qo l m) (M2 (qo l m)) else o) else qp ms l o
theorem Ec {H:List Int->Int->Option Bool} {X:List Int->Int->Option (List Int)} (hH: ∀l c,l.length<1048577->H l c=some (aU l c)) (hX: ∀l c,l.length<1048577->X l c=some (fM l c)): ∀(m l:List Int) (b:Bool),l.length<1048577->sW H X m l b=some (qo l m,BN m l b)
 | [],l,b,_=>rfl
 |c::m,l,b,hl=>by
  have e:(bif b then H l c else some false)=some (b&&aU l c):=by
   cases b with
   |true=>rw[cond_true,hH l c hl];rfl
   |false=>rfl
  exact (aa e).trans ((aa (hX l c hl)).trans (Ec hH hX m (fM l c) (b&&aU l c) (Nat.lt_of_le_of_lt (s_ l c) hl)))
theorem uz {V:List Int->Option Int} {H:List Int->Int->Option Bool} {X:List Int->Int->Option (List Int)} (hV: ∀l,l.length<1048577->V l=some (M2 l)) (hH: ∀l c,l.length<1048577->H l c=some (aU l c)) (hX: ∀l c,l.length<1048577->X l c=some (fM l c)): ∀(ms:List (List Int)) (l:List Int) (o:Int),l.length<1048577->iF V H X ms l o=some (qp ms l o)
 | [],l,o,_=>rfl
 |m::ms,l,o,hl=>by
  have X0:(qo l m).length<1048577:=Nat.lt_of_le_of_lt (vZ m l) hl
  refine (aa (Ec hH hX m l true hl)).trans ?_
  unfold qp
  cases BN m l true with
  |false=>exact (ab rfl).trans (uz hV hH hX ms l o hl)
  |true=>exact (ai rfl).trans ((aa (hV _ X0)).trans ((aa (uz hV hH hX ms _ _ X0)).trans (uz hV hH hX ms l _ hl)))
def qP (l:List Int):Int:=bif !dx l||decide (12<(l.length:Int)) then-1 else qp (lY l) l (M2 l)
theorem jT.eq {k:Nat} (hk:cO<=k) {l:List Int} (hl:l.length<1048577):jT.f k l=some (qP l):=by
 unfold qP
 refine (aa (aB.eq hk (by omega))).trans ?_
 cases h:(!dx l||decide (12<(l.length:Int))) with
 |true=>rfl
 |false=>
  have hc:(decide ((lY l).length<1000000)&&(lY l).all (fun m=>decide (m.length<1000000)))=true:=bi (ae (by have:=zK l;omega)) (List.all_eq_true.2 fun m hm=>ae (by have:=zJ hm;omega))
  exact (ab rfl).trans ((aa (au.eq hk hl)).trans ((ai hc).trans ((aa (aJ.eq k hl)).trans ((aa (dr.eq hk hl)).trans (uz (fun l h=>dr.eq hk h) (fun l c h=>fK.eq hk c (by omega)) (fun l c h=>db.eq hk c h) _ l _ hl)))))
theorem xj (l:List Int): -1<=qP l/\qP l<=520:=by
 have key: ∀(ms:List (List Int)) (x:List Int) (o:Int),x.length<=52->0<=o->o<=520->0<=qp ms x o/\qp ms x o<=520:=by
  intro ms
  induction ms with
  |nil=>intro x o _ h1 h2;exact ⟨h1,h2⟩
  |cons m ms ih=>
   intro x o hx h1 h2
   have hl:=vZ m x
   have hs:=rG (qo x m)
   have hr:=ih (qo x m) (M2 (qo x m)) (by omega) hs.1 (by show jv _<=520;omega)
   unfold qp
   cases BN m x true with
   |false=>exact ih x o hx h1 h2
   |true=>
    refine ih x _ hx ?_ ?_
    ·split<;>omega
    ·split<;>omega
 unfold qP
 cases h:(!dx l||decide (12<(l.length:Int))) with
 |true=>simp
 |false=>
  simp only[Bool.or_eq_false_iff,Bool.not_eq_false'] at h
  have h52:=ul h.1
  have hs:=rG l
  have:=key (lY l) l (M2 l) h52 hs.1 (by show jv _<=520;omega)
  simp only[cond_false];omega
def BO (a b t:Int):Bool:=be a&&be b&&bif br a==br b then decide (a>b) else br a==t
theorem kU.eq (k:Nat) (a b t:Int):kU.f k a b t=some (BO a b t):=by
 unfold kU.f BO
 simp only[aT.eq,aZ.eq,bN.eq,Option.bind_some]
 cases ha:be a<;>cases hb:be b<;>cases hs:(br a==br b)<;>try rfl
 have h1:=n8 ha
 have h2:=n8 hb
 have n1:=dF.1 ha
 have n2:=dF.1 hb
 have e1:=Int.tmod_eq_emod_of_nonneg (b:=13) n1.1
 have e2:=Int.tmod_eq_emod_of_nonneg (b:=13) n2.1
 have e3:=Int.tdiv_eq_ediv_of_nonneg (b:=13) n1.1
 have e4:=Int.tdiv_eq_ediv_of_nonneg (b:=13) n2.1
 have hs:=eq_of_beq hs
 show some (decide (bu a>bu b))=some (decide (a>b))
 congr 2
 exact propext ⟨fun h=>by omega,fun h=>by omega⟩
def tA (l:List Int) (t:Int) (i:Nat) (b:Int):Int:=bif BO (l.getD i 0) (l.getD b.toNat 0) t then (i:Int) else b
def n9 (l:List Int) (t:Int):Int:=bif ((l.length:Int)==0)|| !dx l then-1 else Jg (tA l t) (l.length-1) 1 0
theorem xk {l:List Int} (hl:l.length<1048577) (t:Int): -1<=n9 l t/\n9 l t<=1048577:=by
 have key: ∀(m i:Nat) (b:Int),0<=b->b<=1048577->i+m<=1048577->0<=Jg (tA l t) m i b/\Jg (tA l t) m i b<=1048577:=by
  intro m
  induction m with
  |zero=>intro i b h1 h2 _;exact ⟨h1,h2⟩
  |succ m ih=>
   intro i b h1 h2 h3
   show 0<=Jg (tA l t) m (i+1) (tA l t i b)/\_
   have:0<=tA l t i b/\tA l t i b<=1048577:=by
    unfold tA
    cases BO (l.getD i 0) (l.getD b.toNat 0) t
    ·exact ⟨h1,h2⟩
    ·exact ⟨by show (0:Int)<=(i:Int);omega,by show (i:Int)<=1048577;omega⟩
   exact ih (i+1) _ this.1 this.2 (by omega)
 unfold n9
 cases (((l.length:Int)==0)|| !dx l) with
 |true=>simp
 |false=>
  have:=key (l.length-1) 1 0 (by omega) (by omega) (by omega)
  simp only[cond_false];omega
theorem Rh {l:List Int} {t:Int} {i:Nat} {b:Int} (hi:i<l.length) (hb:0<=b/\b<(l.length:Int)):0<=tA l t i b/\tA l t i b<(l.length:Int):=by
 unfold tA
 cases BO (l.getD i 0) (l.getD b.toNat 0) t
 ·exact hb
 ·exact ⟨by show (0:Int)<=(i:Int);omega,by show (i:Int)<_;omega⟩
theorem dn.eq {k:Nat} (hk:cO<=k) {l:List Int} (hl:l.length<1048577) (t:Int):dn.f k l t=some (n9 l t):=by
 unfold n9
 cases h0:((l.length:Int)==0) with
 |true=>exact ai h0
 |false=>
  have lG:=beq_eq_false_iff_ne.1 h0
  refine (ab h0).trans ((aa (aB.eq hk (by omega))).trans ?_)
  cases dx l with
  |false=>rfl
  |true=>
   refine (ab rfl).trans ?_
   have h:=upto (B:=Int) l.length (fun n b i=>dn.l5 k l t l (l.length:Int) (fun x1=>some x1) n b i) (tA l t) (fun x1=>some x1) (fun _ b=>0<=b/\b<(l.length:Int))
    (fun n b i hi hI=>by
      refine (dn.bp ..).trans ((ai (ae (by omega))).trans ((af (bP hi)).trans ((af (bi (ae hI.1) (ae hI.2))).trans ?_)))
      rw[Int.toNat_natCast,aL (by omega)]
      refine (aa (kU.eq ..)).trans ?_
      unfold tA
      cases BO (l.getD i 0) (l.getD b.toNat 0) t<;>rfl)
    (fun b i hi hI=>Rh hi hI)
    (fun n b _=>(dn.bp ..).trans (ab (aH (by omega))))
    l.length 0 k 0 (by omega) (bV hk hl) ⟨by omega,by omega⟩
   refine h.trans ?_
   obtain ⟨n,hn⟩: ∃n,l.length=n+1:=⟨l.length-1,by omega⟩
   rw[hn,show n+1-1=n by omega]
   show some (Jg (tA l t) n 1 (tA l t 0 0))=_
   have e:tA l t 0 0=0:=by
    unfold tA BO
    rw[show (0:Int).toNat=0 from rfl,beq_self_eq_true,show decide (l.getD 0 0>l.getD 0 0)=false from aH (by omega)]
    simp
   rw[e];rfl
theorem Ed {A B R:Type} (v:List A) (N:Nat) (hN:N<=v.length) (L:Nat->B->Int->Option R) (p:B->A->Bool) (g:B->A->B) (e:B->Option R) (z:B->A->Option R) (I:Nat->B->Prop)
 (step: ∀n b i (h:i<v.length),i<N->I i b->L (n+1) b (i:Int)=bif p b v[i] then L n (g b v[i]) ((i+1:Nat):Int) else z b v[i])
 (keep: ∀b i (h:i<v.length),i<N->I i b->p b v[i] =true->I (i+1) (g b v[i]))
 (dead: ∀b,¬I N b): ∀(m i n:Nat) (b:B),i+m=N->m<n->I i b->L n b (i:Int)=run p g e z (v.drop i) b:=by
 intro m
 induction m with
 |zero=>
  intro i n b hi hn hI
  obtain rfl:i=N:=by omega
  exact absurd hI (dead b)
 |succ m ih=>
  intro i n b hi hn hI
  obtain ⟨n,rfl⟩: ∃n',n=n' +1:=⟨n-1,by omega⟩
  have Bc:i<v.length:=by omega
  rw[step n b i Bc (by omega) hI,drop_cons Bc]
  show _=bif p b v[i] then _ else _
  cases hp:p b v[i] with
  |false=>rfl
  |true=>exact ih (i+1) n _ (by omega) (by omega) (keep b i Bc (by omega) hI hp)
theorem zN: ∀(l seen:List Int) (a:Int),o6 seen (l++[a])=(o6 seen l&&(be a&& !aU (seen++l) a))
 | [],seen,a=>by simp[o6]
 |b::l,seen,a=>by
  rw[List.cons_append]
  unfold o6
  rw[zN l (seen++[b]) a,List.append_assoc,List.singleton_append]
  simp only[Bool.and_assoc]
theorem zO {l:List Int} {a:Int} (h:dx l=true) (h2:(be a&& !aU l a)=true):dx (l++[a])=true:=by
 unfold dx at h ⊢
 rw[zN,h,List.nil_append,h2];rfl
theorem Ee {l:List Int} (h:l.length=53): ¬dx l=true:=fun hh=>by have:=ul hh;omega
theorem bx.any {k:Nat} (hk:cO<=k) (l:List Int):bx.f k l=some (dx l):=by
 by_cases hl:l.length<1073741824
 ·exact bx.eq hk hl
 have h:=Ed (B:=List Int) l 53 (by omega) (fun m b i=>bx.l2 k l (some false) (some true) m i) (fun b a=>be a&& !aU b a) (fun b a=>b++[a]) (fun _=>some true) (fun _ _=>some false) (fun i b=>b=l.take i/\dx b=true)
  (fun m b i h YL hI=>by
    obtain ⟨hI,_⟩:=hI
    subst hI
    refine (bx.fQ ..).trans ((ai (ae (by omega))).trans ((af (bP h)).trans ?_))
    rw[Int.toNat_natCast,aD _ h,aL (by omega)]
    refine (aa (cP.eq ..)).trans ?_
    cases be l[i] with
    |false=>rfl
    |true=>
     refine (ab rfl).trans ((af (bi (ae (by omega)) (ae (by omega)))).trans ((af (bP h)).trans ((aa (bU.eq hk _ (by rw[List.length_take];omega))).trans ?_)))
     cases aU (l.take i) l[i]<;>rfl)
  (fun b i h YL hI hp=>by
    obtain ⟨hI,hh⟩:=hI
    subst hI
    exact ⟨(List.take_succ_eq_append_getElem h).symm,zO hh hp⟩)
  (fun b hI=>by
    obtain ⟨hI,hh⟩:=hI
    subst hI
    exact Ee (by rw[List.length_take];omega) hh)
  53 0 k [] (by omega) (by simp[cO] at hk;omega) ⟨rfl,rfl⟩
 refine h.trans ?_
 rw[List.drop_zero,sX (fun b=>b) _ (fun _ _=>rfl)]
 rfl
theorem aB.any {k:Nat} (hk:cO<=k) {l:List Int} (hlen:l.length<4611686018427387904):aB.f k l=some (dx l):=by
 by_cases hl:l.length<1073741824
 ·exact aB.eq hk hl
 have h:=Ed (B:=List Bool×List Int) l 53 (by omega) (fun m b i=>aB.l3 k l (l.length:Int) (some false) (some true) m i b.1) (fun b a=>be a&& !aU b.2 a) (fun b a=>(b.1.set a.toNat true,b.2++[a])) (fun _=>some true) (fun _ _=>some false)
  (fun i b=>(b.2=l.take i/\dx b.2=true)/\b.1.length=52/\ ∀c,be c=true->b.1.getD c.toNat false=aU b.2 c)
  (fun m b i h YL hI=>by
    obtain ⟨_,hI⟩:=hI
    refine (aB.aA ..).trans ((ai (ae (by omega))).trans ((af (bP h)).trans ?_))
    rw[Int.toNat_natCast,aD _ h,aL (by omega)]
    refine (aa (aT.eq ..)).trans ?_
    cases hc:be l[i] with
    |false=>rfl
    |true=>
     have hb:=dF.1 hc
     refine (ab rfl).trans ((af (bi (ae (by omega)) (ae (by omega)))).trans ?_)
     rw[hI.2 _ hc]
     cases aU b.2 l[i] with
     |true=>rfl
     |false=>exact (ab rfl).trans (af (bi (ae (by omega)) (ae (by omega)))))
  (fun b i h YL hI hp=>by
    obtain ⟨⟨h1,h2⟩,hI⟩:=hI
    have hp':=hp
    obtain ⟨hc,_⟩:=Bool.and_eq_true_iff.1 hp
    have hb:=dF.1 hc
    refine ⟨⟨by show b.2++[l[i]] =_;rw[h1];exact (List.take_succ_eq_append_getElem h).symm,zO h2 hp'⟩,by simpa using hI.1,fun c Hf=> ?_⟩
    have pJ:=dF.1 Hf
    rw[wR,<- hI.2 c Hf]
    by_cases e:l[i] =c
    ·subst e
     rw[Bd _ _ (by omega)]
     simp
    ·have e1:(l[i]==c)=false:=by simp[e]
     have e2: ¬l[i].toNat=c.toNat:=by omega
     rw[e1,Bool.or_false,List.getD_eq_getElem?_getD,List.getElem?_set,if_neg e2,<- List.getD_eq_getElem?_getD])
  (fun b hI=>by
    obtain ⟨⟨h1,h2⟩,_⟩:=hI
    rw[h1] at h2
    exact Ee (by rw[List.length_take];omega) h2)
  53 0 k (List.replicate 52 false,[]) (by omega) (by simp[cO] at hk;omega) ⟨⟨rfl,rfl⟩,by simp,fun c hc=>by
   have hb:=dF.1 hc
   rw[List.getD_eq_getElem?_getD,List.getElem?_replicate]
   have:c.toNat<52:=by omega
   simp[this,aU]⟩
 refine Eq.trans ?_ (h.trans ?_)
 ·rfl
 ·rw[List.drop_zero]
  exact sX (fun b:List Bool×List Int=>b.2) _ (fun _ _=>rfl) l _
abbrev YN (l:List (List Int)):Prop:=l.length<2097152/\ ∀y∈l,y.length<1048577
theorem bK.any {k:Nat} (hk:cO<=k) {l:List (List Int)} (hl:YN l):bK.f k l=some (dx l.flatten):=by
 have h:=scan (B:=List Int) l (fun m b i=>bK.l3 k l (l.length:Int) (fun x1=>(aB.f k x1).bind fun r2=>some r2) m i b) (fun _ _=>true) (fun b a=>b++a) (fun x1=>(aB.f k x1).bind fun r2=>some r2) (fun _ _=>none) (fun i b=>b.length<=i*1048576)
  (fun m b i h hI=>by
    have:=hl.1
    have:=hl.2 _ (List.getElem_mem h)
    refine (bK.aA ..).trans ((ai (ae (by omega))).trans ((af (bP h)).trans ?_))
    rw[Int.toNat_natCast,aD _ h,aL (by omega)]
    exact af (mN (by omega)))
  (fun b i h hI _=>by
    have:=hl.2 _ (List.getElem_mem h)
    rw[List.length_append];omega)
  (fun m b hI=>(bK.aA ..).trans (ab (aH (by omega))))
  l.length 0 k [] (by omega) (mR hk (by have:=hl.1;omega)) (by simp)
 refine h.trans ?_
 rw[List.drop_zero,bX,uj,List.nil_append]
 exact aa (aB.any hk (by have:=tb l hl.2;have:=hl.1;omega))
theorem bg.any {k:Nat} (hk:cO<=k) {l:List (List Int)} (hl:YN l):bg.f k l=some (l.flatten.length:Int):=by
 have h:=scan (B:=Int) l (fun m b i=>bg.l3 k l (l.length:Int) (fun x1=>some x1) m b i) (fun _ _=>true) (fun b a=>b+(a.length:Int)) (fun x1=>some x1) (fun _ _=>none) (fun i b=>0<=b/\b<=(i:Int)*1048576)
  (fun m b i h hI=>by
    have:=hl.1
    have:=hl.2 _ (List.getElem_mem h)
    refine (bg.aA ..).trans ((ai (ae (by omega))).trans ((af (bP h)).trans ?_))
    rw[Int.toNat_natCast,aD _ h,aL (by omega),wrap_i64 (by omega) (by omega)]
    rfl)
  (fun b i h hI _=>by
    have:=hl.2 _ (List.getElem_mem h)
    omega)
  (fun m b hI=>(bg.aA ..).trans (ab (aH (by omega))))
  l.length 0 k 0 (by omega) (mR hk (by have:=hl.1;omega)) (by simp)
 refine h.trans ?_
 rw[List.drop_zero,bX,yx,Int.zero_add]
theorem mK.any {k:Nat} (hk:cO<=k) {l:List (List Int)} (hl:YN l):mK.f k l=some (whole l):=by
 refine (aa (bK.any hk hl)).trans ?_
 unfold whole
 cases dx l.flatten with
 |false=>rfl
 |true=>exact (ai rfl).trans (aa (bg.any hk hl))
def pR (t:Tb):Bool:= !t.on||whole (t.g.hs++[t.g.st,t.g.hp])
theorem gX.eq {k:Nat} (hk:cO<=k) {t:Tb} (h:t.sm):t.ap (gX.f k)=some (pR t):=by
 have h2:=h.2.2.2.1.2.1
 have h2a:=h2.1
 have h3:t.g.st.length<1048577:=h.2.2.2.1.2.2.1
 have h4:t.g.hp.length<1048577:=h.2.2.2.1.2.2.2
 unfold pR
 rcases Bool.eq_false_or_eq_true t.on with ho|ho
 ·have e:(!t.on||whole (t.g.hs++[t.g.st,t.g.hp]))=whole (t.g.hs++[t.g.st,t.g.hp]):=by rw[ho];rfl
  rw[e]
  refine (ab (by rw[ho];rfl)).trans ((aa (bm.eq hk h2)).trans ((af (EQ (by omega))).trans ((aa (mK.any hk ⟨by simp;omega,fun y hy=> ?_⟩)).trans rfl)))
  rcases List.mem_append.1 hy with hy|hy
  ·exact h2.2 y hy
  ·simp only[List.mem_cons,List.not_mem_nil,or_false] at hy
   rcases hy with rfl|rfl
   ·exact h3
   ·exact h4
 ·have e:(!t.on||whole (t.g.hs++[t.g.st,t.g.hp]))=true:=by rw[ho];rfl
  rw[e]
  exact (ai (by rw[ho];rfl)).trans rfl
def Fu (t:Tb):ByteArray:=bif !pR t then ⟨#[99,97,114,100,115]⟩ else bif !((t.rd.length:Int)==t.g.mv) then ⟨#[114,101,99,111,114,100]⟩ else bif !js t.r.n t.gx then ⟨#[115,104,101,101,116]⟩ else bif !bW t then ⟨#[116,97,98,108,101]⟩ else ByteArray.empty
theorem kt.eq {k:Nat} (hk:cO<=k) {t:Tb} (h:t.sm):t.ap (kt.f k)=some (Fu t):=by
 unfold Fu
 refine (aa (gX.eq hk h)).trans ?_
 cases pR t with
 |false=>rfl
 |true=>
  refine (ab rfl).trans ?_
  show (bif !((t.rd.length:Int)==t.g.mv) then _ else _)=_
  cases ((t.rd.length:Int)==t.g.mv) with
  |false=>rfl
  |true=>
   refine (ab rfl).trans ((aa (aa (cg.eq hk t.r.n h.2.2.2.2.2.1 h.2.2.2.2.2.2))).trans ?_)
   cases js t.r.n t.gx with
   |false=>rfl
   |true=>
    refine (ab rfl).trans ((aa (gm.eq hk (Tb.vP h))).trans ?_)
    cases bW t<;>rfl
def nO (n:List Int) (c:Int):List Int:=n.set (bu c).toNat (n.getD (bu c).toNat 0+1)
def qQ (l:List Int):List Int:=l.foldl nO (List.replicate 13 0)
structure sJ (n:List Int) (l:List Int):Prop where
 len:n.length=13
 at': ∀r:Nat,r<13->n.getD r 0=((l.filter fun c=>bu c==(r:Int)).length:Int)
theorem sJ.zero:sJ (List.replicate 13 0) []:=⟨by simp,fun r hr=>by rw[List.getD_eq_getElem?_getD,List.getElem?_replicate];simp[hr]⟩
theorem sJ.snoc {n l:List Int} (h:sJ n l) {c:Int} (hc:be c=true):sJ (nO n c) (l++[c]):=by
 have hr:0<=bu c/\bu c<=12:=by
  have:=dF.1 hc
  have e:bu c=c.tmod 13:=by unfold bu;rw[hc];rfl
  have h1:=Int.tmod_eq_emod_of_nonneg (b:=13) this.1
  omega
 refine ⟨by unfold nO;rw[List.length_set];exact h.len,fun r gr=> ?_⟩
 rw[List.filter_append,List.length_append]
 unfold nO
 by_cases e:(bu c).toNat=r
 ·have e1:(bu c==(r:Int))=true:=by simp;omega
  rw[e,Bd _ _ (by rw[h.len];exact gr),h.at' r gr]
  simp[List.filter_cons,e1]
 ·have e1:(bu c==(r:Int))=false:=by simp;omega
  rw[List.getD_eq_getElem?_getD,List.getElem?_set,if_neg e,<- List.getD_eq_getElem?_getD,h.at' r gr]
  simp[List.filter_cons,e1]
theorem sJ.le {n l:List Int} (h:sJ n l) {r:Nat} (hr:r<13):0<=n.getD r 0/\n.getD r 0<=(l.length:Int):=by
 rw[h.at' r hr]
 have:=List.length_filter_le (fun c=>bu c==(r:Int)) l
 omega
theorem Pn {l:List Int} (hl: ∀c∈l,be c=true): ∀i,i<=l.length->sJ ((l.take i).foldl nO (List.replicate 13 0)) (l.take i):=by
 intro i
 induction i with
 |zero=>intro _;exact sJ.zero
 |succ i ih=>
  intro h
  have e:l.take (i+1)=l.take i++[l[i]'(by omega)]:=List.take_succ_eq_append_getElem (by omega)
  rw[e,List.foldl_append]
  exact (ih (by omega)).snoc (hl _ (List.getElem_mem _))
theorem T3 {l:List Int} (hl: ∀c∈l,be c=true):sJ (qQ l) l:=by
 have:=Pn hl l.length (Nat.le_refl _)
 rwa [List.take_length] at this
theorem HR {c:Int} (hc:be c=true):0<=bu c/\bu c<=12:=by
 have:=dF.1 hc
 have e:bu c=c.tmod 13:=by unfold bu;rw[hc];rfl
 have h1:=Int.tmod_eq_emod_of_nonneg (b:=13) this.1
 omega
def down (n:List Int) (c:Int):Nat->List Int
 |0=>[]
 |j+1=>bif n.getD j 0==c then (j:Int)::down n c j else down n c j
def pf (n:List Int) (c:Int):Nat->List Int
 |0=>[]
 |j+1=>bif n.getD j 0==c then c::pf n c j else pf n c j
def nl (n:List Int):List Int:=down n 4 13++(down n 3 13++(down n 2 13++down n 1 13))
def jm (n:List Int):List Int:=pf n 4 13++(pf n 3 13++(pf n 2 13++pf n 1 13))
theorem HS (n:List Int) (c:Int): ∀j,(down n c j).length<=j/\(pf n c j).length<=j
 |0=>⟨Nat.le_refl _,Nat.le_refl _⟩
 |j+1=>by
  have:=HS n c j
  unfold down pf
  cases (n.getD j 0==c)<;>simp<;>omega
theorem aG.T4 {R:Type} {k:Nat} (c:Int) {n:List Int} (e0:LI->LI->Option R): ∀(j m:Nat) (v3 v4:LI),j<=13->j<m->v3.length+j<=1000->v4.length+j<=1000->aG.G0 k c n e0 m ((j:Int)-1) v3 v4=e0 (v3++down n c j) (v4++pf n c j):=by
 intro j
 induction j with
 |zero=>
  intro m v3 v4 hj hm h3 h4
  obtain ⟨m,rfl⟩: ∃m',m=m' +1:=⟨m-1,by omega⟩
  refine (aG.n5 ..).trans ((ab (aH (by omega))).trans ?_)
  unfold down pf
  rw[List.append_nil,List.append_nil]
 |succ j ih=>
  intro m v3 v4 hj hm h3 h4
  obtain ⟨m,rfl⟩: ∃m',m=m' +1:=⟨m-1,by omega⟩
  have e:((j+1:Nat):Int)-1=(j:Int):=by omega
  rw[e]
  refine (aG.n5 ..).trans ((ai (ae (by omega))).trans ((af (bi (ae (by omega)) (ae (by omega)))).trans ?_))
  rw[Int.toNat_natCast,wrap_i64 (by omega) (by omega)]
  unfold down pf
  cases hb:(n.getD j 0==c) with
  |true=>
   refine (ai rfl).trans ((af (mN (by omega))).trans ((af (mN (by omega))).trans ((ih m _ _ (by omega) (by omega) (by simp;omega) (by simp;omega)).trans ?_)))
   simp
  |false=>exact (ab rfl).trans (ih m _ _ (by omega) (by omega) (by omega) (by omega))
theorem aG.Wy {R:Type} {k:Nat} (hk:100<k) {n:List Int} (e0:LI->LI->Option R):aG.l9 k n e0 k 4 [] [] =e0 (nl n) (jm n):=by
 have d:=fun c=>HS n c 13
 obtain ⟨q,rfl⟩: ∃q,k=q+5:=⟨k-5,by omega⟩
 have one: ∀(m:Nat) (v0:Int) (v3 v4:LI),1<=v0->v0<=4->v3.length<=100->v4.length<=100->aG.l9 (q+5) n e0 (m+1) v0 v3 v4=aG.l9 (q+5) n e0 m (v0-1) (v3++down n v0 13) (v4++pf n v0 13):=fun m v0 v3 v4 h0 h1 h3 h4=>by
  refine (aG.pI ..).trans ((ai (ae (by omega))).trans ((aG.T4 v0 _ 13 _ _ _ (by omega) (by omega) (by omega) (by omega)).trans ?_))
  rw[wrap_i64 (by omega) (by omega)]
 have d4:=d 4;have d3:=d 3;have d2:=d 2
 show aG.l9 (q+5) n e0 (q+4+1) 4 [] [] =_
 rw[one (q+4) 4 [] [] (by omega) (by omega) (by simp) (by simp)]
 show aG.l9 (q+5) n e0 (q+3+1) 3 _ _=_
 rw[one (q+3) 3 _ _ (by omega) (by omega) (by simp;omega) (by simp;omega)]
 show aG.l9 (q+5) n e0 (q+2+1) 2 _ _=_
 rw[one (q+2) 2 _ _ (by omega) (by omega) (by simp;omega) (by simp;omega)]
 show aG.l9 (q+5) n e0 (q+1+1) 1 _ _=_
 rw[one (q+1) 1 _ _ (by omega) (by omega) (by simp;omega) (by simp;omega)]
 refine (aG.pI ..).trans ((ab rfl).trans ?_)
 unfold nl jm
 simp only[List.nil_append,List.append_assoc]
theorem aG.eq {k:Nat} (hk:cO<=k) {l:List Int} (hl:l.length<1048577) (hc: ∀c∈l,be c=true):aG.f k l=some (nl (qQ l),jm (qQ l)):=by
 have h:=scan (B:=List Int) l (fun m b i=>aG.l3 k l (l.length:Int) (fun x2=>aG.l9 k x2 (fun x5 x6=>some (x5,x6)) k 4 [] []) m i b) (fun _ _=>true) nO (fun x2=>aG.l9 k x2 (fun x5 x6=>some (x5,x6)) k 4 [] []) (fun _ _=>none) (fun i b=>sJ b (l.take i)/\i<=l.length)
  (fun m b i h hI=>by
    have hr:=HR (hc _ (List.getElem_mem h))
    have hb:=hI.1.le (r:=(bu l[i]).toNat) (by omega)
    rw[List.length_take] at hb
    refine (aG.aA ..).trans ((ai (ae (by omega))).trans ((af (bP h)).trans ?_))
    rw[Int.toNat_natCast,aD _ h,aL (by omega)]
    refine (aa (bN.eq ..)).trans ((af (bi (ae (by omega)) (ae (by omega)))).trans ((af (bi (ae (by omega)) (ae (by omega)))).trans ?_))
    rw[wrap_i64 (by omega) (by omega)]
    rfl)
  (fun b i h hI _=>⟨by rw[List.take_succ_eq_append_getElem h];exact hI.1.snoc (hc _ (List.getElem_mem h)),by omega⟩)
  (fun m b hI=>(aG.aA ..).trans (ab (aH (by omega))))
  l.length 0 k (List.replicate 13 0) (by omega) (bV hk hl) ⟨sJ.zero,Nat.zero_le _⟩
 refine h.trans ?_
 rw[List.drop_zero,bX]
 exact aG.Wy (by simp[cO] at hk;omega) _
def pG (n:List Int) (h:Int) (j:Nat):Bool:=n.getD (bif decide (h-(j:Int)<0) then 12 else (h-(j:Int)).toNat) 0==1
def nC (n:List Int):Nat->Int
 |0=> -1
 |j+1=>bif pG n ((j:Int)+3) 0&&(pG n ((j:Int)+3) 1&&(pG n ((j:Int)+3) 2&&(pG n ((j:Int)+3) 3&&pG n ((j:Int)+3) 4))) then (j:Int)+3 else nC n j
def JX (r:List Int):Int:=bif ((r.length:Int) != 5) then-1 else bif r.getD 0 0-r.getD 4 0==4 then r.getD 0 0 else bif decide (r=[12,3,2,1,0]) then 3 else-1
def has (n:List Int) (c:Int):Int:=n.foldl (fun b a=>bif a==c then b+1 else b) 0
def BP (l:List Int):Bool:=l.all fun c=>br c==br (l.getD 0 0)
theorem dC.flush {R:Type} {k:Nat} (hk:cO<=k) {l:List Int} (hl:l.length<1048577) (h0:0<l.length) (e0:Bool->Option R):dC.l6 k l l (l.length:Int) e0 k true 0=e0 (BP l):=by
 have h:=scan (B:=Bool) l (fun m b i=>dC.l6 k l l (l.length:Int) e0 m b i) (fun _ _=>true) (fun b a=>b&&(br a==br (l.getD 0 0))) e0 (fun _ _=>none) (fun i b=>True)
  (fun m b i h hI=>by
    refine (dC.iz ..).trans ((ai (ae (by omega))).trans ((af (bP h)).trans ?_))
    rw[Int.toNat_natCast,aD _ h,aL (by omega)]
    cases b with
    |true=>exact (ai rfl).trans ((aa (aZ.eq ..)).trans ((af (ae (by omega))).trans (aa (aZ.eq ..))))
    |false=>rfl)
  (fun b i h hI hp=>trivial)
  (fun m b hI=>(dC.iz ..).trans (ab (aH (by omega))))
  l.length 0 k true (by omega) (bV hk hl) trivial
 refine h.trans ?_
 rw[List.drop_zero,bX]
 have key: ∀(q:List Int) (b:Bool),q.foldl (fun b a=>b&&(br a==br (l.getD 0 0))) b=(b&&q.all fun c=>br c==br (l.getD 0 0)):=by
  intro q
  induction q with
  |nil=>intro b;simp
  |cons a q ih=>intro b;rw[List.foldl_cons,ih,List.all_cons,Bool.and_assoc]
 rw[key,Bool.true_and];rfl
def gp (n:List Int) (c:Int):Nat:=(n.filter fun a=>a==c).length
theorem oQ (a:Int) (n:List Int) (c:Int):gp (a::n) c=(a==c).toNat+gp n c:=by
 unfold gp
 rw[List.filter_cons]
 cases (a==c)<;>simp;omega
theorem Fw (n:List Int) (c:Int):has n c=(gp n c:Int):=by
 have key: ∀(n:List Int) (b:Int),n.foldl (fun b a=>bif a==c then b+1 else b) b=b+(gp n c:Int):=by
  intro n
  induction n with
  |nil=>intro b;simp[gp]
  |cons a n ih=>
   intro b
   rw[List.foldl_cons,ih,oQ]
   cases (a==c)<;>simp<;>omega
 unfold has
 rw[key];omega
theorem HT (n:List Int) (c:Int): ∀j,j<=n.length->(down n c j).length=gp (n.take j) c
 |0,_=>by simp[down,gp]
 |j+1,h=>by
  have ih:=HT n c j (by omega)
  have e:n.take (j+1)=n.take j++[n[j]'(by omega)]:=List.take_succ_eq_append_getElem (by omega)
  rw[e,show down n c (j+1)=bif n.getD j 0==c then (j:Int)::down n c j else down n c j from rfl]
  unfold gp at ih ⊢
  rw[List.filter_append,List.length_append,<- ih,aD _ (by omega),List.filter_cons]
  cases (n[j]'(by omega)==c)<;>simp
theorem yS (n:List Int) (c:Int): ∀j,pf n c j=List.replicate (down n c j).length c
 |0=>rfl
 |j+1=>by
  have ih:=yS n c j
  unfold down pf
  rw[ih]
  cases (n.getD j 0==c)<;>simp[List.replicate_succ]
theorem qR {n:List Int} (hn:n.length=13) (c:Int):pf n c 13=List.replicate (gp n c) c/\(down n c 13).length=gp n c:=by
 have h:=HT n c 13 (by omega)
 rw[List.take_of_length_le (by omega)] at h
 exact ⟨by rw[yS,h],h⟩
theorem Lc: ∀(n:List Int),(∀x∈n,0<=x/\x<=4)->n.sum=4*(gp n 4:Int)+(3*(gp n 3:Int)+(2*(gp n 2:Int)+(gp n 1:Int)))
 | [],_=>by simp[gp]
 |a::n,h=>by
  have ih:=Lc n (fun x hx=>h x (by simp[hx]))
  have ha:=h a (by simp)
  rw[List.sum_cons,ih,oQ,oQ,oQ,oQ]
  have:a=0\/a=1\/a=2\/a=3\/a=4:=by omega
  rcases this with rfl|rfl|rfl|rfl|rfl<;>simp<;>omega
theorem rQ: ∀(c h:List Int),c.Nodup->(∀x∈c,x∈h)->c.length<=h.length
 | [],h,_,_=>Nat.zero_le _
 |a::c,h,hn,hx=>by
  have hn:=List.nodup_cons.1 hn
  have ha:a∈h:=hx a (by simp)
  have:=rQ c (h.erase a) hn.2 (fun x hx'=>(List.mem_erase_of_ne (by rintro rfl;exact hn.1 hx')).2 (hx x (by simp[hx'])))
  have h2:=List.length_erase_of_mem ha
  have h3:=List.length_pos_of_mem ha
  rw[List.length_cons]
  omega
theorem BQ {n:List Int} {c:Int}: ∀ {j r:Nat},r<j->(n.getD r 0==c)=true->(r:Int)∈down n c j
 |0,r,h,_=>by omega
 |j+1,r,h,he=>by
  unfold down
  by_cases e:r=j
  ·subst e;rw[he];simp
  ·have:=BQ (n:=n) (c:=c) (j:=j) (r:=r) (by omega) he
   cases (n.getD j 0==c)
   ·exact this
   ·exact List.mem_cons_of_mem _ this
theorem Po {n:List Int} (hn:n.length=13) {h:Int} (h0:3<=h) (h1:h<=12) (hs:(pG n h 0&&(pG n h 1&&(pG n h 2&&(pG n h 3&&pG n h 4))))=true):5<=gp n 1:=by
 rw[<- (qR hn 1).2]
 obtain ⟨s0,hs⟩:=Bool.and_eq_true_iff.1 hs
 obtain ⟨s1,hs⟩:=Bool.and_eq_true_iff.1 hs
 obtain ⟨s2,hs⟩:=Bool.and_eq_true_iff.1 hs
 obtain ⟨s3,s4⟩:=Bool.and_eq_true_iff.1 hs
 have one: ∀(j:Nat),0<=h-(j:Int)->pG n h j=true->h-(j:Int)∈down n 1 13:=fun j hj hb=>by
  unfold pG at hb
  rw[aH (by omega),cond_false] at hb
  have:=BQ (j:=13) (by omega) hb
  rwa [Int.toNat_of_nonneg hj] at this
 have m0:=one 0 (by omega) s0
 have m1:=one 1 (by omega) s1
 have m2:=one 2 (by omega) s2
 have m3:=one 3 (by omega) s3
 by_cases h3:h=3
 ·subst h3
  have m4:(12:Int)∈down n 1 13:=BQ (n:=n) (c:=1) (j:=13) (r:=12) (by omega) s4
  exact rQ [3,2,1,0,12] _ (by decide) (fun x hx=>by
   simp only[List.mem_cons,List.not_mem_nil,or_false] at hx
   rcases hx with rfl|rfl|rfl|rfl|rfl
   ·exact m0
   ·exact m1
   ·exact m2
   ·exact m3
   ·exact m4)
 ·have m4:=one 4 (by omega) s4
  refine rQ [h-(0:Nat),h-(1:Nat),h-(2:Nat),h-(3:Nat),h-(4:Nat)] _ ?_ (fun x hx=> ?_)
  ·simp only[List.nodup_cons,List.mem_cons,List.not_mem_nil,or_false,not_or]
   refine ⟨⟨?_,?_,?_,?_⟩,⟨?_,?_,?_⟩,⟨?_,?_⟩,?_,not_false,List.nodup_nil⟩<;>omega
  ·simp only[List.mem_cons,List.not_mem_nil,or_false] at hx
   rcases hx with rfl|rfl|rfl|rfl|rfl
   ·exact m0
   ·exact m1
   ·exact m2
   ·exact m3
   ·exact m4
theorem Ld {n:List Int} (hn:n.length=13): ∀j,j<=10->nC n j= -1\/(3<=nC n j/\5<=gp n 1)
 |0,_=> .inl rfl
 |j+1,h=>by
  unfold nC
  cases hb:(pG n ((j:Int)+3) 0&&(pG n ((j:Int)+3) 1&&(pG n ((j:Int)+3) 2&&(pG n ((j:Int)+3) 3&&pG n ((j:Int)+3) 4)))) with
  |true=>exact .inr ⟨by simp only[cond_true];omega,Po hn (by omega) (by omega) hb⟩
  |false=>exact Ld hn j (by omega)
def M3:Nat->Nat->List (List Int)
 |0,0=>[[]]
 |0,_+1=>[]
 |m+1,0=>(M3 m 0).map fun v=>0::v
 |m+1,s+1=>(M3 m (s+1)).map (fun v=>0::v)++(M3 m s).map fun v=>1::v
theorem HU: ∀(n:List Int) (s:Nat),(∀x∈n,x=0\/x=1)->gp n 1=s->n∈M3 n.length s
 | [],s,hx,hs=>by
   have:s=0:=by simpa[gp] using hs.symm
   subst this
   simp[M3]
 |a::n,s,hx,hs=>by
  have ih:=fun s=>HU n s (fun x h=>hx x (by simp[h]))
  rw[oQ] at hs
  rcases hx a (by simp) with rfl|rfl
  ·have hs:gp n 1=s:=by simpa using hs
   have:=ih s hs
   cases s with
   |zero=>exact List.mem_map.2 ⟨n,this,rfl⟩
   |succ s=>exact List.mem_append.2 (.inl (List.mem_map.2 ⟨n,this,rfl⟩))
  ·have hs:1+gp n 1=s:=by simpa using hs
   obtain ⟨s,rfl⟩: ∃s',s=s' +1:=⟨s-1,by omega⟩
   exact List.mem_append.2 (.inr (List.mem_map.2 ⟨n,ih s (by omega),rfl⟩))
set_option maxRecDepth 100000 in
set_option maxHeartbeats 4000000 in
theorem Ri:(M3 13 5).all (fun n=>JX (down n 1 13)==nC n 10)=true:=by decide+kernel
def SC (p fl m4 m3 n2 m2:Bool):Int:=
 bif p&&fl then 8 else bif m4 then 7 else bif m3&&n2 then 6 else bif fl then 5 else bif p then 4 else bif m3 then 3 else bif m2&&n2 then 2 else bif m2 then 1 else 0
def Le (p fl h4 h3 Vn Wz:Bool):Int:=
 bif p&&fl then 8 else bif h4 then 7 else bif h3&&Vn then 6 else bif fl then 5 else bif p then 4 else bif h3 then 3 else bif Wz then 2 else bif Vn then 1 else 0
structure WA (n:List Int):Prop where
 len:n.length=13
 str:JX (nl n)=nC n 10
 l1:1<=(jm n).length
 l2:((jm n).getD 0 0==3)=true\/((jm n).getD 0 0==2)=true->2<=(jm n).length
 kind: ∀fl,SC (decide (nC n 10>=0)) fl ((jm n).getD 0 0==4) ((jm n).getD 0 0==3) ((jm n).getD 1 0==2) ((jm n).getD 0 0==2)=Le (decide (nC n 10>=0)) fl (has n 4==1) (has n 3==1) (has n 2==1) (has n 2==2)
 top: ∀fl,(decide (nC n 10>=0))=(Le (decide (nC n 10>=0)) fl (has n 4==1) (has n 3==1) (has n 2==1) (has n 2==2)==4||Le (decide (nC n 10>=0)) fl (has n 4==1) (has n 3==1) (has n 2==1) (has n 2==2)==8)
 rl:(nl n).length<=52
theorem Rj {n:List Int} (hn:n.length=13) (hx: ∀x∈n,0<=x/\x<=4) (hs:n.sum=5):WA n:=by
 have jY:=Lc n hx
 rw[hs] at jY
 obtain ⟨c4,d4⟩:=qR hn 4
 obtain ⟨c3,d3⟩:=qR hn 3
 obtain ⟨c2,d2⟩:=qR hn 2
 obtain ⟨c1,d1⟩:=qR hn 1
 have hm:jm n=List.replicate (gp n 4) 4++(List.replicate (gp n 3) 3++(List.replicate (gp n 2) 2++List.replicate (gp n 1) 1)):=by unfold jm;rw[c4,c3,c2,c1]
 have hr:(nl n).length=gp n 4+(gp n 3+(gp n 2+gp n 1)):=by unfold nl;simp only[List.length_append];rw[d4,d3,d2,d1]
 have h4:=Fw n 4
 have h3:=Fw n 3
 have h2:=Fw n 2
 have hd:=Ld hn 10 (Nat.le_refl _)
 by_cases h5:gp n 1=5
 ·have e4:gp n 4=0:=by omega
  have e3:gp n 3=0:=by omega
  have e2:gp n 2=0:=by omega
  have h01: ∀x∈n,x=0\/x=1:=by
   intro x hxn
   have:=hx x hxn
   have no: ∀c,gp n c=0->x≠c:=fun c hc e=>by
    unfold gp at hc
    have:=List.length_eq_zero_iff.1 hc
    have WB:x∈n.filter fun a=>a==c:=List.mem_filter.2 ⟨hxn,by simpa using e⟩
    rw[this] at WB;cases WB
   have:=no 4 e4;have:=no 3 e3;have:=no 2 e2
   omega
  have jn:JX (down n 1 13)=nC n 10:=by
   have:=List.all_eq_true.1 Ri n (by have:=HU n 5 h01 h5;rwa [hn] at this)
   exact eq_of_beq this
  have hrk:nl n=down n 1 13:=by
   have z: ∀c,gp n c=0->down n c 13=[]:=fun c hc=>List.length_eq_zero_iff.1 (by rw[(qR hn c).2];exact hc)
   unfold nl
   rw[z 4 e4,z 3 e3,z 2 e2];rfl
  rw[e4,e3,e2,h5] at hm
  have hm:jm n=[1,1,1,1,1]:=hm
  rw[e4] at h4;rw[e3] at h3;rw[e2] at h2
  refine ⟨hn,by rw[hrk];exact jn,by rw[hm];decide,fun h=>by rw[hm];decide,fun fl=> ?_,fun fl=> ?_,by omega⟩
  ·rw[hm,h4,h3,h2]
   generalize decide (nC n 10>=0)=p
   revert p fl;decide
  ·rw[h4,h3,h2]
   generalize decide (nC n 10>=0)=p
   revert p fl;decide
 ·have jn:nC n 10= -1:=by
   rcases hd with h| ⟨_,h⟩
   ·exact h
   ·omega
  have hl5:(((nl n).length:Int) != 5)=true:=by
   rw[hr]
   simp
   omega
  have hI:JX (nl n)= -1:=by unfold JX;rw[hl5];rfl
  have q4:gp n 4=0\/gp n 4=1:=by omega
  have q3:gp n 3=0\/gp n 3=1:=by omega
  have q2:gp n 2=0\/gp n 2=1\/gp n 2=2:=by omega
  have T5:(gp n 4=1/\gp n 3=0/\gp n 2=0/\gp n 1=1)\/(gp n 4=0/\gp n 3=1/\gp n 2=1/\gp n 1=0)\/(gp n 4=0/\gp n 3=1/\gp n 2=0/\gp n 1=2)\/(gp n 4=0/\gp n 3=0/\gp n 2=2/\gp n 1=1)\/(gp n 4=0/\gp n 3=0/\gp n 2=1/\gp n 1=3):=by
   rcases q4 with q4|q4<;>rcases q3 with q3|q3<;>rcases q2 with q2|q2|q2<;>rw[q4,q3,q2] at jY ⊢ <;>omega
  rcases T5 with ⟨e4,e3,e2,e1⟩| ⟨e4,e3,e2,e1⟩| ⟨e4,e3,e2,e1⟩| ⟨e4,e3,e2,e1⟩| ⟨e4,e3,e2,e1⟩
  all_goals
   rw[e4,e3,e2,e1] at hm
   rw[e4] at h4;rw[e3] at h3;rw[e2] at h2
   refine ⟨hn,by rw[hI,jn],by rw[hm];decide,fun h=>by rw[hm];decide,fun fl=> ?_,fun fl=> ?_,by omega⟩
   ·rw[hm,h4,h3,h2,jn];revert fl;decide
   ·rw[h4,h3,h2,jn];revert fl;decide
theorem Lf: ∀(l:List Int) (n:List Int),n.length=13->(∀c∈l,be c=true)->(l.foldl nO n).sum=n.sum+(l.length:Int)
 | [],n,_,_=>by simp
 |c::l,n,hn,hc=>by
  have hr:=HR (hc c (by simp))
  have gr:(bu c).toNat<n.length:=by omega
  rw[List.foldl_cons,Lf l (nO n c) (by unfold nO;rw[List.length_set];exact hn) (fun x hx=>hc x (by simp[hx])),List.length_cons]
  have key: ∀(n:List Int) (i:Nat),i<n.length->(n.set i (n.getD i 0+1)).sum=n.sum+1:=by
   intro n
   induction n with
   |nil=>intro i h;simp at h
   |cons a n ih=>
    intro i h
    cases i with
    |zero=>simp;omega
    |succ i=>
     have:=ih i (by simpa using h)
     simp only[List.set_cons_succ,List.sum_cons,List.getD_cons_succ]
     rw[this];omega
  unfold nO
  rw[key n _ gr];omega
theorem yT {l:List Int} (h:dx l=true) (h5:l.length=5):WA (qQ l):=by
 obtain ⟨hc,qh⟩:=i_.1 h
 have ho:=T3 hc
 refine Rj ho.len (fun x hx=> ?_) ?_
 ·obtain ⟨r,hr,rfl⟩:=List.getElem_of_mem hx
  rw[ho.len] at hr
  have e:=ho.at' r hr
  rw[aD _ (by rw[ho.len];exact hr)] at e
  rw[e]
  have h4:(l.filter fun c=>bu c==(r:Int)).length<=4:=by
   refine rQ _ [(r:Int),(r:Int)+13,(r:Int)+26,(r:Int)+39] (qh.filter _) (fun x hx=> ?_)
   obtain ⟨h1,h2⟩:=List.mem_filter.1 hx
   have hcx:=hc x h1
   have hb:=dF.1 hcx
   have er:bu x=x.tmod 13:=by unfold bu;rw[hcx];rfl
   have h3:=Int.tmod_eq_emod_of_nonneg (b:=13) hb.1
   have h2:bu x=(r:Int):=by simpa using h2
   simp only[List.mem_cons,List.not_mem_nil,or_false]
   omega
  omega
 ·have:=Lf l (List.replicate 13 0) (by simp) hc
  unfold qQ
  rw[this,h5];rfl
def nP (l:List Int):Int:=Le (decide (nC (qQ l) 10>=0)) (BP l) (has (qQ l) 4==1) (has (qQ l) 3==1) (has (qQ l) 2==1) (has (qQ l) 2==2)
def yU (l:List Int):Int:=bif dx l&&((l.length:Int)==5) then nP l else-1
def mV (l:List Int):List Int:=bif dx l&&((l.length:Int)==5) then (bif decide (nC (qQ l) 10>=0) then [nP l,nC (qQ l) 10] else [nP l]++nl (qQ l)) else []
theorem Pp (p fl m4 m3 n2 m2 d1:Bool) (h1:m3=true\/m2=true->d1=true):(bif p then bif fl then some (8:Int) else bif m4 then some 7 else
 bif m3 then ay d1<|bif n2 then some 6 else bif fl then some 5 else bif p then some 4 else bif m3 then some 3 else bif m2 then ay d1<|bif n2 then some 2 else bif m2 then some 1 else some 0 else bif m2 then some 1 else some 0
 else bif fl then some 5 else bif p then some 4 else bif m3 then some 3 else bif m2 then ay d1<|bif n2 then some 2 else bif m2 then some 1 else some 0 else bif m2 then some 1 else some 0
 else bif m4 then some 7 else
  bif m3 then ay d1<|bif n2 then some 6 else bif fl then some 5 else bif p then some 4 else bif m3 then some 3 else bif m2 then ay d1<|bif n2 then some 2 else bif m2 then some 1 else some 0 else bif m2 then some 1 else some 0
  else bif fl then some 5 else bif p then some 4 else bif m3 then some 3 else bif m2 then ay d1<|bif n2 then some 2 else bif m2 then some 1 else some 0 else bif m2 then some 1 else some 0)=some (SC p fl m4 m3 n2 m2):=by
 revert p fl m4 m3 n2 m2 d1;decide
theorem gf.eq {k:Nat} (hk:cO<=k) {r:List Int} (hr: ∀x∈r,0<=x/\x<=12) (hl:r.length<1048577):gf.f k r=some (JX r):=by
 unfold gf.f JX
 cases h5:((r.length:Int) != 5) with
 |true=>rfl
 |false=>
  have h5':r.length=5:=by have:(r.length:Int)=5:=by simpa using h5
                          omega
  have g0:=hr _ (o3 (l:=r) (i:=0) 0 (by omega))
  have g4:=hr _ (o3 (l:=r) (i:=4) 0 (by omega))
  refine (ab rfl).trans ((af (ae (by omega))).trans ((af (ae (by omega))).trans ?_))
  rw[wrap_i64 (by omega) (by omega)]
  cases (r.getD 0 0-r.getD 4 0==4) with
  |true=>exact (ai rfl).trans (af (ae (by omega)))
  |false=>
   refine (ab rfl).trans ((aa (aI.eq hk [12,3,2,1,0] (by omega))).trans ?_)
   unfold yz
   cases decide (r=[12,3,2,1,0])<;>rfl
theorem qS (n:List Int) (c:Int): ∀j,∀x∈down n c j,0<=x/\x<(j:Int)
 |0,x,h=>by cases h
 |j+1,x,h=>by
  unfold down at h
  cases hb:(n.getD j 0==c) with
  |true=>
   rw[hb,cond_true] at h
   rcases List.mem_cons.1 h with rfl|h
   ·omega
   ·have:=qS n c j x h;omega
  |false=>
   rw[hb,cond_false] at h
   have:=qS n c j x h;omega
theorem yV (n:List Int): ∀x∈nl n,0<=x/\x<=12:=fun x hx=>by
 unfold nl at hx
 simp only[List.mem_append] at hx
 rcases hx with h|h|h|h
 ·have:=qS n 4 13 x h;omega
 ·have:=qS n 3 13 x h;omega
 ·have:=qS n 2 13 x h;omega
 ·have:=qS n 1 13 x h;omega
theorem dC.eq {k:Nat} (hk:cO<=k) {l:List Int} (hl:l.length<1048577):dC.f k l=some (yU l):=by
 unfold yU
 refine (aa (aB.eq hk (by omega))).trans ?_
 cases h1:dx l with
 |false=>rfl
 |true=>
  refine (ab rfl).trans ?_
  show (bif !((l.length:Int)==5) then _ else _)=_
  cases h2:((l.length:Int)==5) with
  |false=>rfl
  |true=>
   have h5:l.length=5:=by have:(l.length:Int)=5:=by simpa using h2
                          omega
   have hF:=yT h1 h5
   have hc:=(i_.1 h1).1
   have es:=gf.eq hk (yV (qQ l)) (by have:=hF.rl;omega)
   rw[hF.str] at es
   have c0:decide (0<((jm (qQ l)).length:Int))=true:=ae (by have:=hF.l1;omega)
   refine (ab rfl).trans ((aa (aG.eq hk hl hc)).trans ((dC.flush hk hl (by omega) _).trans ((aa es).trans ?_)))
   have key:=Pp (decide (nC (qQ l) 10>=0)) (BP l) ((jm (qQ l)).getD 0 0==4) ((jm (qQ l)).getD 0 0==3) ((jm (qQ l)).getD 1 0==2) ((jm (qQ l)).getD 0 0==2) (decide (1<((jm (qQ l)).length:Int))) (fun h=>ae (by have:=hF.l2 h;omega))
   rw[hF.kind] at key
   simp only[c0,af]
   exact key
theorem ml.eq {k:Nat} (hk:cO<=k) {l:List Int} (hl:l.length<1048577):ml.f k l=some (mV l):=by
 refine (aa (dC.eq hk hl)).trans ?_
 unfold yU mV
 cases h1:(dx l&&((l.length:Int)==5)) with
 |false=>rfl
 |true=>
  obtain ⟨h1,h2⟩:=Bool.and_eq_true_iff.1 h1
  have h5:l.length=5:=by have:(l.length:Int)=5:=by simpa using h2
                         omega
  have hF:=yT h1 h5
  have hc:=(i_.1 h1).1
  have es:=gf.eq hk (yV (qQ l)) (by have:=hF.rl;omega)
  rw[hF.str] at es
  have hn: ¬nP l<0:=by
   unfold nP
   generalize decide (nC (qQ l) 10>=0)=p
   generalize BP l=fl
   generalize (has (qQ l) 4==1)=h4
   generalize (has (qQ l) 3==1)=h3
   generalize (has (qQ l) 2==1)=Vn
   generalize (has (qQ l) 2==2)=Wz
   revert p fl h4 h3 Vn Wz;decide
  simp only[cond_true]
  refine (ab (aH hn)).trans ((aa (aG.eq hk hl hc)).trans ((aa es).trans ?_))
  cases h4:decide (nC (qQ l) 10>=0) with
  |true=>rfl
  |false=>exact (ab rfl).trans (af (mN (by have:=hF.rl;simp only[];omega)))
def M4:List ByteArray:=[(⟨#[104,105,103,104]⟩:ByteArray),(⟨#[112,97,105,114]⟩:ByteArray),(⟨#[116,119,111]⟩:ByteArray),(⟨#[116,104,114,101,101]⟩:ByteArray),(⟨#[115,116,114,97,105,103,104,116]⟩:ByteArray),(⟨#[102,108,117,115,104]⟩:ByteArray),(⟨#[102,117,108,108]⟩:ByteArray),(⟨#[102,111,117,114]⟩:ByteArray),(⟨#[115,116,114,97,105,103,104,116,102,108,117,115,104]⟩:ByteArray)]
def kindName (c:Int):ByteArray:=M4.getD c.toNat ByteArray.empty
theorem HV (c:Int):(kindName c).size<=13:=by
 unfold kindName
 rcases Nat.lt_or_ge c.toNat 9 with h|h
 ·have:c.toNat=0\/c.toNat=1\/c.toNat=2\/c.toNat=3\/c.toNat=4\/c.toNat=5\/c.toNat=6\/c.toNat=7\/c.toNat=8:=by omega
  rcases this with h|h|h|h|h|h|h|h|h<;>rw[h]<;>decide
 ·rw[List.getD_eq_getElem?_getD,List.getElem?_eq_none (by exact h)]
  exact Nat.zero_le _
theorem jU.eq (k:Nat) {c:Int} (h:0<=c/\c<=8):jU.f k c=some (kindName c):=by
 refine (aa (an.eq ..)).trans ((ab ?_).trans (af (bi (ae h.1) (ae (by omega)))))
 rw[eA.2 h];rfl
theorem Pq (l:List Int):0<=nP l/\nP l<=8:=by
 unfold nP
 generalize decide (nC (qQ l) 10>=0)=p
 generalize BP l=fl
 generalize (has (qQ l) 4==1)=h4
 generalize (has (qQ l) 3==1)=h3
 generalize (has (qQ l) 2==1)=Vn
 generalize (has (qQ l) 2==2)=Wz
 revert p fl h4 h3 Vn Wz;decide
theorem Lg (n:List Int): ∀j,nC n j<=(j:Int)+2
 |0=>by simp[nC]
 |j+1=>by
  have:=Lg n j
  unfold nC
  cases (pG n ((j:Int)+3) 0&&(pG n ((j:Int)+3) 1&&(pG n ((j:Int)+3) 2&&(pG n ((j:Int)+3) 3&&pG n ((j:Int)+3) 4))))<;>simp only[cond_true,cond_false]<;>omega
theorem HW (l:List Int):mV l=[]\/ ∃c x r,mV l=c::x::r/\0<=c/\c<=8/\(∀y∈x::r,0<=y/\y<=12)/\r.length<=51:=by
 unfold mV
 cases h1:(dx l&&((l.length:Int)==5)) with
 |false=>exact .inl rfl
 |true=>
  obtain ⟨h1,h2⟩:=Bool.and_eq_true_iff.1 h1
  have h5:l.length=5:=by have:(l.length:Int)=5:=by simpa using h2
                         omega
  have hF:=yT h1 h5
  obtain ⟨k0,k8⟩:=Pq l
  right
  simp only[cond_true]
  by_cases h4:nC (qQ l) 10>=0
  ·rw[ae h4]
   have:=Lg (qQ l) 10
   refine ⟨nP l,nC (qQ l) 10,[],rfl,k0,k8,fun y hy=> ?_,by simp⟩
   simp only[List.mem_cons,List.not_mem_nil,or_false] at hy
   subst hy;omega
  ·rw[aH h4]
   have hr:=yV (qQ l)
   have hl:=hF.rl
   have hl1:1<=(nl (qQ l)).length:=by
    have h:=hF.l1
    have e:(nl (qQ l)).length=(jm (qQ l)).length:=by
     unfold nl jm
     simp only[List.length_append,yS,List.length_replicate]
    omega
   cases hq:nl (qQ l) with
   |nil=>rw[hq] at hl1;simp at hl1
   |cons x r=>
    rw[hq] at hr hl
    exact ⟨nP l,x,r,rfl,k0,k8,hr,by simpa using hl⟩
def AS (l:List Int):ByteArray:=bif ((mV l).length:Int)==0 then ⟨#[45]⟩ else kindName ((mV l).getD 0 0)++(⟨#[58]⟩:ByteArray)++zC ((mV l).drop 1) ⟨#[44]⟩
theorem iZ.eq {k:Nat} (hk:cO<=k) {l:List Int} (hl:l.length<1048577):iZ.f k l=some (AS l):=by
 refine (aa (ml.eq hk hl)).trans ?_
 unfold AS
 rcases HW l with h| ⟨c,x,r,h,c0,c8,hr,N7⟩
 ·rw[h];rfl
 ·rw[h]
  have h0:(((c::x::r).length:Int)==0)=false:=by simp;omega
  have hw: ∀n∈x::r,ry .i64 n:=fun n hn=>ru (by have:=hr n hn;omega)
  have h1:=Bz (l:=x::r) (sep:=⟨#[44]⟩) hw (Nat.le_refl 1)
  have h2:=HV c
  have h3:(⟨#[58]⟩:ByteArray).size=1:=rfl
  simp only[List.length_cons] at h1
  have et:((c::x::r).take (((c::x::r).length:Int).toNat)).drop 1=x::r:=by
   rw[Int.toNat_natCast,List.take_length];rfl
  have hj:=aV.eq hk (l:=x::r) (sep:=⟨#[44]⟩) (by simp only[List.length_cons];omega) hw (Nat.le_refl 1)
  refine Eq.trans ?_ (congrArg some (ab h0).symm)
  refine (ab h0).trans ((af (ae (by simp only[List.length_cons];omega))).trans ((aa (jU.eq k (c:=(c::x::r).getD 0 0) ⟨c0,c8⟩)).trans ((af (ae (by show (kindName c).size+_<=_;simp only[fa];omega))).trans ((af (bi (ae (by omega)) (ae (by omega)))).trans ((af (ae (by simp only[List.length_cons];omega))).trans ?_)))))
  rw[et]
  refine (aa hj).trans (af (ae ?_))
  show (kindName c++(⟨#[58]⟩:ByteArray)).size+_<=_
  rw[ByteArray.size_append]
  simp only[fa];omega
def xl (l:List Int):List Int:=Jg (fun i b=>bif mT l (i:Int) then b++[(i:Int)] else b) 52 0 []
theorem dm.eq {k:Nat} (hk:cO<=k) {l:List Int} (hl:l.length<1048577):dm.f k l=some (xl l):=by
 have h:=upto (B:=List Int) 52 (fun m b i=>dm.l3 k l (fun x2=>some x2) m i b) (fun i b=>bif mT l (i:Int) then b++[(i:Int)] else b) (fun x=>some x) (fun i b=>b.length<=i)
  (fun m b i h hI=>by
    refine (dm.aA ..).trans ?_
    refine (ai (ae (by omega))).trans ((aa (bF.eq hk _ hl)).trans ?_)
    rw[aL (by omega)]
    cases mT l (i:Int) with
    |false=>rfl
    |true=>exact (ai rfl).trans (af (ae (by simp[room];omega))))
  (fun b i h hI=>by cases mT l (i:Int)<;>simp<;>omega)
  (fun m b hI=>(dm.aA ..).trans (ab (aH (by omega))))
  52 0 k [] (by omega) (by simp[cO] at hk;omega) (by simp)
 exact h
theorem Li (g:Nat->List Int->List Int) (hg: ∀i b,(g i b).length<=b.length+1): ∀(m i:Nat) (b:List Int),(Jg g m i b).length<=b.length+m
 |0,i,b=>Nat.le_refl _
 |m+1,i,b=>by
  have:=Li g hg m (i+1) (g i b)
  have:=hg i b
  show (Jg g m (i+1) (g i b)).length<=_
  omega
theorem Fx (l:List Int):(xl l).length<=52:=by
 have:=Li (fun i b=>bif mT l (i:Int) then b++[(i:Int)] else b) (fun i b=>by cases mT l (i:Int)<;>simp) 52 0 []
 simpa[xl] using this
def SD:ByteArray:=⟨#[98,111,116,104]⟩
def SE:ByteArray:=⟨#[115,117,105,116]⟩
def SF:ByteArray:=⟨#[114,97,110,107]⟩
def uA (b1 b2:Bool):ByteArray:=bif b1&&b2 then SD else bif b1 then SE else bif b2 then SF else ByteArray.empty
theorem iX.eq (k:Nat) (n e:Int) (b1 b2:Bool) (w f:List Int) (t l:Int):iX.f k n e b1 b2 w f t l=some (uA b1 b2):=by cases b1<;>cases b2<;>rfl
def rR (l:List Int):ByteArray:=bif ((l.length:Int)==0) then ⟨#[45]⟩ else li l
theorem gd.eq {k:Nat} (hk:cO<=k) {l:List Int} (hl:l.length<1048577):gd.f k l=some (rR l):=by
 unfold gd.f rR
 cases (l.length:Int)==0 with
 |true=>rfl
 |false=>exact (ab rfl).trans (aa (aR.eq hk hl))
theorem nQ (l:List Int):(rR l).size<=60/\sS (rR l):=by
 unfold rR
 cases (l.length:Int)==0 with
 |true=>exact ⟨by show (⟨#[45]⟩:ByteArray).size<=60;decide,rM (by decide)⟩
 |false=>exact ⟨JO l,HC l⟩
theorem sK (b1 b2:Bool):(uA b1 b2).size<=4/\sS (uA b1 b2):=by
 have h1:sS SD:=by unfold sS;decide+kernel
 have h2:sS SE:=by unfold sS;decide+kernel
 have h3:sS SF:=by unfold sS;decide+kernel
 cases b1<;>cases b2
 ·exact ⟨by decide,D1⟩
 ·exact ⟨by decide,h3⟩
 ·exact ⟨by decide,h2⟩
 ·exact ⟨by decide,h1⟩
theorem HX: ∀(m u:Nat),u<m-> ∀x∈Go.Lib.decDigits u,x≠32:=by
 have WC: ∀d:Nat,d<10->UInt8.ofNat (48+d)≠32:=fun d hd=>by
  have:d=0\/d=1\/d=2\/d=3\/d=4\/d=5\/d=6\/d=7\/d=8\/d=9:=by omega
  rcases this with rfl|rfl|rfl|rfl|rfl|rfl|rfl|rfl|rfl|rfl<;>decide+kernel
 intro m
 induction m with
 |zero=>intro u h;omega
 |succ m ih=>
  intro u hu x hx
  rw[Go.Lib.decDigits] at hx
  by_cases h:u<10
  ·rw[dif_pos h] at hx
   rw[List.mem_singleton.1 hx];exact WC u h
  ·rw[dif_neg h] at hx
   rcases List.mem_append.1 hx with hx|hx
   ·exact ih (u/10) (by omega) x hx
   ·rw[List.mem_singleton.1 hx];exact WC _ (by omega)
theorem uB (n:Int):sS (gP n):=by
 intro x hx
 have hx:x∈(Go.Lib.itoa n).toArray.toList:=hx
 unfold Go.Lib.itoa at hx
 split at hx
 ·rcases List.mem_cons.1 (show x∈45::Go.Lib.decDigits n.natAbs from hx) with rfl|hx
  ·decide
  ·exact HX _ _ (Nat.lt_succ_self _) x hx
 ·exact HX _ _ (Nat.lt_succ_self _) x hx
def uC (r:Rl):List ByteArray:=[⟨#[112,108,97,121,101,114,115,61]⟩++gP r.n,⟨#[101,97,99,104,61]⟩++gP r.e,⟨#[109,97,116,99,104,61]⟩++uA r.b1 r.b2,⟨#[119,105,108,100,61]⟩++rR r.w,⟨#[115,107,105,112,61]⟩++rR r.f,⟨#[116,97,107,101,61]⟩++gP r.t,⟨#[108,105,109,105,116,61]⟩++gP r.l]
def spB:ByteArray:=⟨#[32]⟩
def yW (r:Rl):ByteArray:=bif r.ok then oY (uC r) spB else ByteArray.empty
theorem SG {r:Rl} (h:r.ok=true):ry .i64 r.n/\ry .i64 r.e/\ry .i64 r.t/\ry .i64 r.l/\(r.b1||r.b2)=true/\2<=r.n/\r.n<=6:=by
 unfold Rl.ok oz kH at h
 simp only[Bool.and_eq_true,decide_eq_true_eq] at h
 have w (n:Int) (h1: -9223372036854775808<=n) (h2:n<=9223372036854775807):ry .i64 n:=by simp[ry,Lit.wf,IntKind.min,IntKind.max,IntKind.signed,IntKind.bits];omega
 obtain ⟨⟨⟨⟨⟨⟨⟨h1,h2⟩,⟨h3,h4⟩⟩,h5⟩,_⟩,_⟩,⟨h6,h7⟩⟩,⟨h8,h9⟩⟩:=h
 exact ⟨w _ (by omega) (by omega),w _ (by omega) (by omega),w _ (by omega) (by omega),w _ (by omega) (by omega),h5,h1,h2⟩
theorem Av {r:Rl} (h:r.ok=true): ∀w∈uC r,w.size<=68/\sS w:=by
 obtain ⟨w1,w2,w3,w4,_⟩:=SG h
 have g (p x:ByteArray) (hp:p.size<=8) (hn:sS p) (hx:x.size<=60/\sS x):(p++x).size<=68/\sS (p++x):=⟨by rw[ByteArray.size_append];omega,rL hn hx.2⟩
 have i1:=iI w1
 have i2:=iI w2
 have i3:=iI w3
 have i4:=iI w4
 have r1:=sK r.b1 r.b2
 intro w hw
 simp only[uC,List.mem_cons,List.not_mem_nil,or_false] at hw
 rcases hw with rfl|rfl|rfl|rfl|rfl|rfl|rfl
 ·exact g _ _ (by decide) (by unfold sS;decide+kernel) ⟨by omega,uB _⟩
 ·exact g _ _ (by decide) (by unfold sS;decide+kernel) ⟨by omega,uB _⟩
 ·exact g _ _ (by decide) (by unfold sS;decide+kernel) ⟨by omega,r1.2⟩
 ·exact g _ _ (by decide) (by unfold sS;decide+kernel) (nQ _)
 ·exact g _ _ (by decide) (by unfold sS;decide+kernel) (nQ _)
 ·exact g _ _ (by decide) (by unfold sS;decide+kernel) ⟨by omega,uB _⟩
 ·exact g _ _ (by decide) (by unfold sS;decide+kernel) ⟨by omega,uB _⟩
theorem iY.eq {k:Nat} (hk:cO<=k) {r:Rl} (h:r.sm):iY.f k r.n r.e r.b1 r.b2 r.w r.f r.t r.l=some (yW r):=by
 refine (aa (cd.eq hk r.n r.e r.b1 r.b2 r.t r.l h.1 h.2)).trans ?_
 unfold yW
 show (bif !r.ok then _ else _)=_
 cases hr:r.ok with
 |false=>rfl
 |true=>
  obtain ⟨w1,w2,w3,w4,_⟩:=SG hr
  have i1:=iI w1
  have i2:=iI w2
  have i3:=iI w3
  have i4:=iI w4
  have r1:=(sK r.b1 r.b2).1
  have m1:=(nQ r.w).1
  have m2:=(nQ r.f).1
  have hM:1000<=fa:=by unfold fa;omega
  have z8:(⟨#[112,108,97,121,101,114,115,61]⟩:ByteArray).size=8:=rfl
  have z1:(⟨#[101,97,99,104,61]⟩:ByteArray).size=5:=rfl
  have z2:(⟨#[109,97,116,99,104,61]⟩:ByteArray).size=6:=rfl
  have z3:(⟨#[119,105,108,100,61]⟩:ByteArray).size=5:=rfl
  have z4:(⟨#[115,107,105,112,61]⟩:ByteArray).size=5:=rfl
  have z5:(⟨#[116,97,107,101,61]⟩:ByteArray).size=5:=rfl
  have z6:(⟨#[108,105,109,105,116,61]⟩:ByteArray).size=6:=rfl
  refine (ab rfl).trans ((aa (aF.eq k w1)).trans ((af (ae (by omega))).trans ((aa (aF.eq k w2)).trans ((af (ae (by omega))).trans ((aa (iX.eq ..)).trans ((af (ae (by omega))).trans ?_))))))
  refine (aa (gd.eq hk h.1)).trans ((af (ae (by omega))).trans ((aa (gd.eq hk h.2)).trans ((af (ae (by omega))).trans ((aa (aF.eq k w3)).trans ((af (ae (by omega))).trans ((aa (aF.eq k w4)).trans ((af (ae (by omega))).trans ?_)))))))
  exact aa (strings_Join.eq k (l:=uC r) (sep:=spB) (by show 7<_;decide) (fun y hy=>by have:=(Av hr y hy).1;omega) (by decide))
abbrev Tb.Vo (t:Tb) (e:ByteArray):Int×Int×Bool×Bool×List Int×List Int×Int×Int×List Int×Bool×List Int×Int×Int×Bool×Bool×List Int×List Int×Int×Int×List (List Int)×List Int×List Int×Int×Int×Int×List Int×List (List Int)×ByteArray:=(t.r.n,t.r.e,t.r.b1,t.r.b2,t.r.w,t.r.f,t.r.t,t.r.l,t.dG,t.on,t.lK,t.g.r.n,t.g.r.e,t.g.r.b1,t.g.r.b2,t.g.r.w,t.g.r.f,t.g.r.t,t.g.r.l,t.g.hs,t.g.st,t.g.hp,t.g.tn,t.g.mv,t.g.ps,t.rd,t.gx,e)
abbrev Tb.ws (t:Tb):Prop:= ∀y∈t.gx,∀n∈y,ry .i64 n
def iq:ByteArray:=⟨#[119,104,97,116]⟩
def okB:ByteArray:=⟨#[111,107]⟩
def pg (t:Tb) (o:Option Tb):Tb×ByteArray:=match o with
 |some u=>(u,okB)
 |none=>(t,X4)
def jZ (t:Tb):Nat->ByteArray
 |3=>pQ (yW t.r) ⟨#[45]⟩
 |4=>AQ t
 |5=>pQ (BK t.g) ⟨#[45]⟩
 |6=>im (cJ t.g)
 |7=>xd t.rd
 |8=>pQ (tm (t.gx.map HK) ⟨#[32]⟩) ⟨#[45]⟩
 |_=>pQ (Fu t) okB
def kL (l:List Int):Nat->ByteArray
 |14=>tm ((lY l).map im) ⟨#[32]⟩
 |15=>gP (qP l)
 |16=>AS l
 |_=>gP ((xl l).length:Int)
def jd (t:Tb) (i:Nat) (ws:List ByteArray):Tb×ByteArray:=match i,ws with
 |0,[]=>pg t (some pb)
 |1,[]=>pg t (yL (fo t (-1)))
 |2,[]=>pg t (yL (fh t))
 |3,[]=>(t,jZ t 3)
 |4,[]=>(t,jZ t 4)
 |5,[]=>(t,jZ t 5)
 |6,[]=>(t,jZ t 6)
 |7,[]=>(t,jZ t 7)
 |8,[]=>(t,jZ t 8)
 |9,[]=>(t,jZ t 9)
 |10,[a,b,c]=>bif JI [a,b,c] then pg t (yK t (O0 [a,b,c])) else (t,iq)
 |11,[a]=>bif decide (hD a>=0) then pg t (yL (fO t (hD a))) else (t,iq)
 |12,[a]=>bif (bJ a).2 then pg t (yL (tu t (bJ a).1)) else (t,iq)
 |13,[a]=>bif (bJ a).2 then (t,rO t.g (bJ a).1) else (t,iq)
 |14,[a]=>bif (cb a).2 then (t,kL (cb a).1 14) else (t,iq)
 |15,[a]=>bif (cb a).2 then (t,kL (cb a).1 15) else (t,iq)
 |16,[a]=>bif (cb a).2 then (t,kL (cb a).1 16) else (t,iq)
 |17,[a]=>bif (jw a).2 then (t,kL (jw a).1 17) else (t,iq)
 |18,[a,b]=>bif (cb a).2&&(bJ b).2 then (t,gP (n9 (cb a).1 (bJ b).1)) else (t,iq)
 |_,_=>(t,iq)
def ki (w:ByteArray):Nat:=yJ.findIdx fun x=>decide (w=x)
def gS (t:Tb) (s:ByteArray):Tb×ByteArray:=match kX s with
 | []=>(t,iq)
 |w::ws=>bif decide ((s.size:Int)>200) then (t,iq) else jd t (ki w) ws
theorem HY {w:ByteArray} (h:w∉yJ):ki w=19:=by
 unfold ki
 exact List.findIdx_eq_length.2 fun x hx=>aH fun e=>h (e ▸ hx)
theorem HZ {t:Tb} (ws:List ByteArray):jd t 19 ws=(t,iq):=by unfold jd;rfl
theorem Ps {k:Nat} (hk:cO<=k) {t:Tb} (h:t.sm) (hw:t.ws):
 (∀ns l,t.ap (ek.f k) ⟨#[114,117,108,101,115]⟩ ns l=some (jZ t 3))/\(∀ns l,t.ap (ek.f k) ⟨#[116,97,98,108,101]⟩ ns l=some (jZ t 4))/\(∀ns l,t.ap (ek.f k) ⟨#[103,97,109,101]⟩ ns l=some (jZ t 5))/\(∀ns l,t.ap (ek.f k) ⟨#[99,97,110]⟩ ns l=some (jZ t 6))/\(∀ns l,t.ap (ek.f k) ⟨#[114,101,99,111,114,100]⟩ ns l=some (jZ t 7))/\(∀ns l,t.ap (ek.f k) ⟨#[115,104,101,101,116]⟩ ns l=some (jZ t 8))/\(∀ns l,t.ap (ek.f k) ⟨#[97,117,100,105,116]⟩ ns l=some (jZ t 9)):=by
 have hg:=h.2.2.2.1
 have hp:(cJ t.g).length<1048577:=by have:=oA t.g;omega
 refine ⟨fun ns l=> ?_,fun ns l=> ?_,fun ns l=> ?_,fun ns l=> ?_,fun ns l=> ?_,fun ns l=> ?_,fun ns l=> ?_⟩
 ·exact (ai (by decide+kernel)).trans ((aa (iY.eq hk h.1)).trans (aa (fS.eq ..)))
 ·exact (ab (by decide+kernel)).trans ((ai (by decide+kernel)).trans (aa (gW.eq hk h)))
 ·exact (ab (by decide+kernel)).trans ((ab (by decide+kernel)).trans ((ai (by decide+kernel)).trans ((aa (cw.eq hk hg)).trans (aa (fS.eq ..)))))
 ·exact (ab (by decide+kernel)).trans ((ab (by decide+kernel)).trans ((ab (by decide+kernel)).trans ((ab (by decide+kernel)).trans ((ai (by decide+kernel)).trans ((aa (bL.eq hk hg)).trans (aa (eb.eq hk hp)))))))
 ·exact (ab (by decide+kernel)).trans ((ab (by decide+kernel)).trans ((ab (by decide+kernel)).trans ((ab (by decide+kernel)).trans ((ab (by decide+kernel)).trans ((ai (by decide+kernel)).trans (aa (iE.eq hk h.2.2.2.2.1)))))))
 ·exact (ab (by decide+kernel)).trans ((ab (by decide+kernel)).trans ((ab (by decide+kernel)).trans ((ab (by decide+kernel)).trans ((ab (by decide+kernel)).trans ((ab (by decide+kernel)).trans ((ai (by decide+kernel)).trans ((aa (bG.eq hk h.2.2.2.2.2.1 h.2.2.2.2.2.2 hw)).trans (aa (fS.eq ..)))))))))
 ·exact (ab (by decide+kernel)).trans ((ab (by decide+kernel)).trans ((ab (by decide+kernel)).trans ((ab (by decide+kernel)).trans ((ab (by decide+kernel)).trans ((ab (by decide+kernel)).trans ((ab (by decide+kernel)).trans ((ai (by decide+kernel)).trans ((aa (kt.eq hk h)).trans (aa (fS.eq ..))))))))))
theorem uD {k:Nat} (hk:cO<=k) {t:Tb} {l:List Int} (hl:l.length<1048577):
 (∀ns,t.ap (ek.f k) ⟨#[109,101,108,100,115]⟩ ns l=some (kL l 14))/\(∀ns,t.ap (ek.f k) ⟨#[108,101,102,116]⟩ ns l=some (kL l 15))/\(∀ns,t.ap (ek.f k) ⟨#[107,105,110,100]⟩ ns l=some (kL l 16))/\(∀ns,t.ap (ek.f k) ⟨#[99,111,117,110,116]⟩ ns l=some (kL l 17)):=by
 have hm:=zK l
 have Vh: ∀y∈lY l,y.length<1048577:=fun y hy=>by have:=zJ hy;omega
 have ho:=xj l
 have hs:=Fx l
 refine ⟨fun ns=> ?_,fun ns=> ?_,fun ns=> ?_,fun ns=> ?_⟩
 ·exact (ab (by decide+kernel)).trans ((ab (by decide+kernel)).trans ((ab (by decide+kernel)).trans ((ab (by decide+kernel)).trans ((ab (by decide+kernel)).trans ((ab (by decide+kernel)).trans ((ab (by decide+kernel)).trans ((ab (by decide+kernel)).trans ((ai (by decide+kernel)).trans ((aa (au.eq hk hl)).trans (aa (bH.eq hk (by omega) Vh)))))))))))
 ·exact (ab (by decide+kernel)).trans ((ab (by decide+kernel)).trans ((ab (by decide+kernel)).trans ((ab (by decide+kernel)).trans ((ab (by decide+kernel)).trans ((ab (by decide+kernel)).trans ((ab (by decide+kernel)).trans ((ab (by decide+kernel)).trans ((ab (by decide+kernel)).trans ((ai (by decide+kernel)).trans ((aa (jT.eq hk hl)).trans (aa (aF.eq k (ru ⟨by omega,by omega⟩)))))))))))))
 ·exact (ab (by decide+kernel)).trans ((ab (by decide+kernel)).trans ((ab (by decide+kernel)).trans ((ab (by decide+kernel)).trans ((ab (by decide+kernel)).trans ((ab (by decide+kernel)).trans ((ab (by decide+kernel)).trans ((ab (by decide+kernel)).trans ((ab (by decide+kernel)).trans ((ab (by decide+kernel)).trans ((ai (by decide+kernel)).trans (aa (iZ.eq hk hl))))))))))))
 ·exact (ab (by decide+kernel)).trans ((ab (by decide+kernel)).trans ((ab (by decide+kernel)).trans ((ab (by decide+kernel)).trans ((ab (by decide+kernel)).trans ((ab (by decide+kernel)).trans ((ab (by decide+kernel)).trans ((ab (by decide+kernel)).trans ((ab (by decide+kernel)).trans ((ab (by decide+kernel)).trans ((ab (by decide+kernel)).trans ((ai (by decide+kernel)).trans ((aa (dm.eq hk hl)).trans (aa (aF.eq k (ru ⟨by omega,by omega⟩)))))))))))))))
theorem M5 {k:Nat} (hk:cO<=k) {t:Tb} {l:List Int} (hl:l.length<1048577) (n:Int):t.ap (ek.f k) ⟨#[119,105,110,115]⟩ [n] l=some (gP (n9 l n)):=by
 have ht:=xk hl n
 exact (ab (by decide+kernel)).trans ((ab (by decide+kernel)).trans ((ab (by decide+kernel)).trans ((ab (by decide+kernel)).trans ((ab (by decide+kernel)).trans ((ab (by decide+kernel)).trans ((ab (by decide+kernel)).trans ((ab (by decide+kernel)).trans ((ab (by decide+kernel)).trans ((ab (by decide+kernel)).trans ((ab (by decide+kernel)).trans ((ab (by decide+kernel)).trans ((af (ae (by simp))).trans ((aa (dn.eq hk hl n)).trans (aa (aF.eq k (ru ⟨by omega,by omega⟩))))))))))))))))
theorem Pt {k:Nat} (hk:cO<=k) {t:Tb} (h:t.sm) (n:Int) (l:List Int):t.ap (ek.f k) ⟨#[115,101,101]⟩ [n] l=some (rO t.g n):=by
 exact (ab (by decide+kernel)).trans ((ab (by decide+kernel)).trans ((ab (by decide+kernel)).trans ((ai (by decide+kernel)).trans ((af (ae (by simp))).trans (Re (k:=k) h.2.2.2.1 n (kT.eq hk h.2.2.2.1 n) @fun me hand top x y sizes u w h1 h2 h3 h4=>cx.eq hk top x y u w h1 h2 h3 h4)))))
theorem yX (w:ByteArray):(w.toList==w.toList)=true:=beq_self_eq_true _
theorem Fz (w:ByteArray) (ws:List ByteArray):((w::ws).take (((w::ws).length:Int).toNat)).drop 1=ws:=by
 rw[Int.toNat_natCast,List.take_length];rfl
section
variable {k:Nat} (hk:cO<=k) {t:Tb} (ht:t.sm) {s:ByteArray} (hs:s.size<1048577) {w:ByteArray} {ws:List ByteArray} (hw:kX s=w::ws) (h2: ¬((s.size:Int)>200))
include hk ht hs hw h2
theorem FC:ws.length<1048577/\ ∀x∈ws,x.size<1048577:=by
 have h1:=E9 s
 have h3:=Hy s
 rw[hw] at h1 h3
 rw[List.length_cons] at h1
 exact ⟨by omega,fun x hx=>by have:=h3 x (List.mem_cons_of_mem _ hx);omega⟩
theorem ph.M6 {K:ByteArray} (T6:cE.f k w=some (K,false)):t.ap (cL.f k) s=some (t.Vo iq):=by
 refine (aa (cD.eq hk hs)).trans ?_
 rw[hw]
 exact (ab (aH h2)).trans ((ab (by rw[List.length_cons];simp;omega)).trans ((af (ae (by rw[List.length_cons];omega))).trans ((aa T6).trans ((ai rfl).trans (aa (ah.eq hk ht))))))
theorem ph.T7 {K:ByteArray} (T6:cE.f k w=some (K,true)) (ho:(operands K ws).2.2=false):t.ap (cL.f k) s=some (t.Vo iq):=by
 obtain ⟨q1,q2⟩:=FC hk ht hs hw h2
 refine (aa (cD.eq hk hs)).trans ?_
 rw[hw]
 refine (ab (aH h2)).trans ((ab (by rw[List.length_cons];simp;omega)).trans ((af (ae (by rw[List.length_cons];omega))).trans ((aa T6).trans ((ab rfl).trans ((af (bi (ae (by omega)) (ae (by omega)))).trans ((af (ae (by rw[List.length_cons];omega))).trans ?_))))))
 rw[Fz]
 exact (aa (cS.eq hk q1 q2)).trans ((ai (by show (!(operands K ws).2.2)=true;rw[ho];rfl)).trans (aa (ah.eq hk ht)))
theorem ph.change {K:ByteArray} {ns l:List Int} {o:Option Tb} (T6:cE.f k w=some (K,true)) (ho:operands K ws=(ns,l,true)) (Ef:w=⟨#[110,101,119]⟩\/w=⟨#[98,101,103,105,110]⟩\/w=⟨#[112,108,97,121]⟩\/w=⟨#[116,97,107,101]⟩\/w=⟨#[115,101,116,116,108,101]⟩\/w=⟨#[97,117,116,111]⟩) (hc: ∃r,t.ap (aP.f k) w ns=some r/\JP t r o):t.ap (cL.f k) s=some ((pg t o).1.Vo (pg t o).2):=by
 obtain ⟨q1,q2⟩:=FC hk ht hs hw h2
 obtain ⟨r,hr,hq⟩:=hc
 refine (aa (cD.eq hk hs)).trans ?_
 rw[hw]
 refine (ab (aH h2)).trans ((ab (by rw[List.length_cons];simp;omega)).trans ((af (ae (by rw[List.length_cons];omega))).trans ((aa T6).trans ((ab rfl).trans ((af (bi (ae (by omega)) (ae (by omega)))).trans ((af (ae (by rw[List.length_cons];omega))).trans ?_))))))
 rw[Fz]
 refine (aa ((cS.eq hk q1 q2).trans (congrArg some ho))).trans ((ab rfl).trans ((af (ae (by rw[List.length_cons];omega))).trans ?_))
 rcases Ef with rfl|rfl|rfl|rfl|rfl|rfl
 ·refine (ai (yX ⟨#[110,101,119]⟩)).trans ((af (ae (by rw[List.length_cons];omega))).trans ((aa hr).trans ?_))
  rcases hq with ⟨u,b,rfl,rfl⟩| ⟨rfl,rfl⟩
  ·refine (ai rfl).trans ?_
   cases b with
   |true=>exact ab rfl
   |false=>exact (ai rfl).trans (aa (ah.eq hk ht))
  ·exact (ab rfl).trans (aa (ah.eq hk ht))
 ·refine (ab (eP (w:=⟨#[98,101,103,105,110]⟩) (x:=⟨#[110,101,119]⟩) (by decide))).trans ((ai (yX ⟨#[98,101,103,105,110]⟩)).trans ((af (ae (by rw[List.length_cons];omega))).trans ((aa hr).trans ?_)))
  rcases hq with ⟨u,b,rfl,rfl⟩| ⟨rfl,rfl⟩
  ·refine (ai rfl).trans ?_
   cases b with
   |true=>exact ab rfl
   |false=>exact (ai rfl).trans (aa (ah.eq hk ht))
  ·exact (ab rfl).trans (aa (ah.eq hk ht))
 ·refine (ab (eP (w:=⟨#[112,108,97,121]⟩) (x:=⟨#[110,101,119]⟩) (by decide))).trans ((ab (eP (w:=⟨#[112,108,97,121]⟩) (x:=⟨#[98,101,103,105,110]⟩) (by decide))).trans ((ai (yX ⟨#[112,108,97,121]⟩)).trans ((af (ae (by rw[List.length_cons];omega))).trans ((aa hr).trans ?_))))
  rcases hq with ⟨u,b,rfl,rfl⟩| ⟨rfl,rfl⟩
  ·refine (ai rfl).trans ?_
   cases b with
   |true=>exact ab rfl
   |false=>exact (ai rfl).trans (aa (ah.eq hk ht))
  ·exact (ab rfl).trans (aa (ah.eq hk ht))
 ·refine (ab (eP (w:=⟨#[116,97,107,101]⟩) (x:=⟨#[110,101,119]⟩) (by decide))).trans ((ab (eP (w:=⟨#[116,97,107,101]⟩) (x:=⟨#[98,101,103,105,110]⟩) (by decide))).trans ((ab (eP (w:=⟨#[116,97,107,101]⟩) (x:=⟨#[112,108,97,121]⟩) (by decide))).trans ((ai (yX ⟨#[116,97,107,101]⟩)).trans ((af (ae (by rw[List.length_cons];omega))).trans ((aa hr).trans ?_)))))
  rcases hq with ⟨u,b,rfl,rfl⟩| ⟨rfl,rfl⟩
  ·refine (ai rfl).trans ?_
   cases b with
   |true=>exact ab rfl
   |false=>exact (ai rfl).trans (aa (ah.eq hk ht))
  ·exact (ab rfl).trans (aa (ah.eq hk ht))
 ·refine (ab (eP (w:=⟨#[115,101,116,116,108,101]⟩) (x:=⟨#[110,101,119]⟩) (by decide))).trans ((ab (eP (w:=⟨#[115,101,116,116,108,101]⟩) (x:=⟨#[98,101,103,105,110]⟩) (by decide))).trans ((ab (eP (w:=⟨#[115,101,116,116,108,101]⟩) (x:=⟨#[112,108,97,121]⟩) (by decide))).trans ((ab (eP (w:=⟨#[115,101,116,116,108,101]⟩) (x:=⟨#[116,97,107,101]⟩) (by decide))).trans ((ai (yX ⟨#[115,101,116,116,108,101]⟩)).trans ((af (ae (by rw[List.length_cons];omega))).trans ((aa hr).trans ?_))))))
  rcases hq with ⟨u,b,rfl,rfl⟩| ⟨rfl,rfl⟩
  ·refine (ai rfl).trans ?_
   cases b with
   |true=>exact ab rfl
   |false=>exact (ai rfl).trans (aa (ah.eq hk ht))
  ·exact (ab rfl).trans (aa (ah.eq hk ht))
 ·refine (ab (eP (w:=⟨#[97,117,116,111]⟩) (x:=⟨#[110,101,119]⟩) (by decide))).trans ((ab (eP (w:=⟨#[97,117,116,111]⟩) (x:=⟨#[98,101,103,105,110]⟩) (by decide))).trans ((ab (eP (w:=⟨#[97,117,116,111]⟩) (x:=⟨#[112,108,97,121]⟩) (by decide))).trans ((ab (eP (w:=⟨#[97,117,116,111]⟩) (x:=⟨#[116,97,107,101]⟩) (by decide))).trans ((ab (eP (w:=⟨#[97,117,116,111]⟩) (x:=⟨#[115,101,116,116,108,101]⟩) (by decide))).trans ((ai (yX ⟨#[97,117,116,111]⟩)).trans ((af (ae (by rw[List.length_cons];omega))).trans ((aa hr).trans ?_)))))))
  rcases hq with ⟨u,b,rfl,rfl⟩| ⟨rfl,rfl⟩
  ·refine (ai rfl).trans ?_
   cases b with
   |true=>exact ab rfl
   |false=>exact (ai rfl).trans (aa (ah.eq hk ht))
  ·exact (ab rfl).trans (aa (ah.eq hk ht))
theorem ph.answer {K:ByteArray} {ns l:List Int} {x:ByteArray} (T6:cE.f k w=some (K,true)) (ho:operands K ws=(ns,l,true)) (Ef:w≠⟨#[110,101,119]⟩/\w≠⟨#[98,101,103,105,110]⟩/\w≠⟨#[112,108,97,121]⟩/\w≠⟨#[116,97,107,101]⟩/\w≠⟨#[115,101,116,116,108,101]⟩/\w≠⟨#[97,117,116,111]⟩) (hc:t.ap (ek.f k) w ns l=some x):t.ap (cL.f k) s=some (t.Vo x):=by
 obtain ⟨q1,q2⟩:=FC hk ht hs hw h2
 obtain ⟨i1,i2,i3,i4,i5,i6⟩:=Ef
 refine (aa (cD.eq hk hs)).trans ?_
 rw[hw]
 refine (ab (aH h2)).trans ((ab (by rw[List.length_cons];simp;omega)).trans ((af (ae (by rw[List.length_cons];omega))).trans ((aa T6).trans ((ab rfl).trans ((af (bi (ae (by omega)) (ae (by omega)))).trans ((af (ae (by rw[List.length_cons];omega))).trans ?_))))))
 rw[Fz]
 refine (aa ((cS.eq hk q1 q2).trans (congrArg some ho))).trans ((ab rfl).trans ((af (ae (by rw[List.length_cons];omega))).trans ?_))
 exact (ab (eP i1)).trans ((ab (eP i2)).trans ((ab (eP i3)).trans ((ab (eP i4)).trans ((ab (eP i5)).trans ((ab (eP i6)).trans ((aa (ah.eq hk ht)).trans ((af (ae (by rw[List.length_cons];omega))).trans (aa hc))))))))
end
theorem eU {K:ByteArray} {ws:List ByteArray} (h:ws.length≠K.size):(operands K ws).2.2=false:=by
 unfold operands
 rw[show ((ws.length:Int) != (K.size:Int))=true by simp;omega];rfl
theorem cL.eq {k:Nat} (hk:cO<=k) {t:Tb} (ht:t.sm) (hT:t.ws) {s:ByteArray} (hs:s.size<1048577):t.ap (cL.f k) s=some ((gS t s).1.Vo (gS t s).2):=by
 have e0:kX s=[]->gS t s=(t,iq):=fun h=>by unfold gS;rw[h]
 have e1: ∀w ws,kX s=w::ws->gS t s=bif decide ((s.size:Int)>200) then (t,iq) else jd t (ki w) ws:=fun w ws h=>by unfold gS;rw[h]
 cases hw:kX s with
 |nil=>
  rw[e0 hw]
  refine (aa (cD.eq hk hs)).trans ?_
  rw[hw]
  by_cases h2:(s.size:Int)>200
  ·exact (ai (ae h2)).trans (aa (ah.eq hk ht))
  ·exact (ab (aH h2)).trans ((ai rfl).trans (aa (ah.eq hk ht)))
 |cons w ws=>
  rw[e1 w ws hw]
  by_cases h2:(s.size:Int)>200
  ·rw[ae h2]
   refine (aa (cD.eq hk hs)).trans ?_
   exact (ai (ae h2)).trans (aa (ah.eq hk ht))
  ·rw[aH h2,cond_false]
   have no:=fun {K} h=>ph.M6 (K:=K) hk ht hs hw h2 h
   have qq:=fun {K} h h'=>ph.T7 (K:=K) hk ht hs hw h2 h h'
   have Vp:=fun {K ns l o} h h' hi hc=>ph.change (K:=K) (ns:=ns) (l:=l) (o:=o) hk ht hs hw h2 h h' hi hc
   have M7:=fun {K ns l x} h h' hi hc=>ph.answer (K:=K) (ns:=ns) (l:=l) (x:=x) hk ht hs hw h2 h h' hi hc
   obtain ⟨a3,a4,a5,a6,a7,a8,a9⟩:=Ps hk ht hT
   by_cases Ef:w∈yJ
   ·unfold yJ at Ef
    simp only[List.mem_cons,List.not_mem_nil,or_false] at Ef
    rcases Ef with rfl|rfl|rfl|rfl|rfl|rfl|rfl|rfl|rfl|rfl|rfl|rfl|rfl|rfl|rfl|rfl|rfl|rfl|rfl
    ·have e:ki ⟨#[110,101,119]⟩=0:=by decide+kernel
     rw[e]
     have sh:=(by kernel_rfl:cE.f k ⟨#[110,101,119]⟩=some (ByteArray.empty,true))
     match ws,hw with
     | [],_=>exact Vp (ns:=[]) (l:=[]) sh rfl ((.inl rfl)) (aP.new hk [])
     |_::_,_=>exact qq sh (eU (by rw[List.length_cons];exact Nat.succ_ne_zero _))
    ·have e:ki ⟨#[116,97,107,101]⟩=1:=by decide+kernel
     rw[e]
     have sh:=(by kernel_rfl:cE.f k ⟨#[116,97,107,101]⟩=some (ByteArray.empty,true))
     match ws,hw with
     | [],_=>exact Vp (ns:=[]) (l:=[]) sh rfl ((.inr (.inr (.inr (.inl rfl))))) (aP.take hk ht [])
     |_::_,_=>exact qq sh (eU (by rw[List.length_cons];exact Nat.succ_ne_zero _))
    ·have e:ki ⟨#[115,101,116,116,108,101]⟩=2:=by decide+kernel
     rw[e]
     have sh:=(by kernel_rfl:cE.f k ⟨#[115,101,116,116,108,101]⟩=some (ByteArray.empty,true))
     match ws,hw with
     | [],_=>exact Vp (ns:=[]) (l:=[]) sh rfl ((.inr (.inr (.inr (.inr (.inl rfl)))))) (aP.settle hk ht [])
     |_::_,_=>exact qq sh (eU (by rw[List.length_cons];exact Nat.succ_ne_zero _))
    ·have e:ki ⟨#[114,117,108,101,115]⟩=3:=by decide+kernel
     rw[e]
     have sh:=(by kernel_rfl:cE.f k ⟨#[114,117,108,101,115]⟩=some (ByteArray.empty,true))
     match ws,hw with
     | [],_=>exact M7 (ns:=[]) (l:=[]) sh rfl ⟨by decide,by decide,by decide,by decide,by decide,by decide⟩ (a3 [] [])
     |_::_,_=>exact qq sh (eU (by rw[List.length_cons];exact Nat.succ_ne_zero _))
    ·have e:ki ⟨#[116,97,98,108,101]⟩=4:=by decide+kernel
     rw[e]
     have sh:=(by kernel_rfl:cE.f k ⟨#[116,97,98,108,101]⟩=some (ByteArray.empty,true))
     match ws,hw with
     | [],_=>exact M7 (ns:=[]) (l:=[]) sh rfl ⟨by decide,by decide,by decide,by decide,by decide,by decide⟩ (a4 [] [])
     |_::_,_=>exact qq sh (eU (by rw[List.length_cons];exact Nat.succ_ne_zero _))
    ·have e:ki ⟨#[103,97,109,101]⟩=5:=by decide+kernel
     rw[e]
     have sh:=(by kernel_rfl:cE.f k ⟨#[103,97,109,101]⟩=some (ByteArray.empty,true))
     match ws,hw with
     | [],_=>exact M7 (ns:=[]) (l:=[]) sh rfl ⟨by decide,by decide,by decide,by decide,by decide,by decide⟩ (a5 [] [])
     |_::_,_=>exact qq sh (eU (by rw[List.length_cons];exact Nat.succ_ne_zero _))
    ·have e:ki ⟨#[99,97,110]⟩=6:=by decide+kernel
     rw[e]
     have sh:=(by kernel_rfl:cE.f k ⟨#[99,97,110]⟩=some (ByteArray.empty,true))
     match ws,hw with
     | [],_=>exact M7 (ns:=[]) (l:=[]) sh rfl ⟨by decide,by decide,by decide,by decide,by decide,by decide⟩ (a6 [] [])
     |_::_,_=>exact qq sh (eU (by rw[List.length_cons];exact Nat.succ_ne_zero _))
    ·have e:ki ⟨#[114,101,99,111,114,100]⟩=7:=by decide+kernel
     rw[e]
     have sh:=(by kernel_rfl:cE.f k ⟨#[114,101,99,111,114,100]⟩=some (ByteArray.empty,true))
     match ws,hw with
     | [],_=>exact M7 (ns:=[]) (l:=[]) sh rfl ⟨by decide,by decide,by decide,by decide,by decide,by decide⟩ (a7 [] [])
     |_::_,_=>exact qq sh (eU (by rw[List.length_cons];exact Nat.succ_ne_zero _))
    ·have e:ki ⟨#[115,104,101,101,116]⟩=8:=by decide+kernel
     rw[e]
     have sh:=(by kernel_rfl:cE.f k ⟨#[115,104,101,101,116]⟩=some (ByteArray.empty,true))
     match ws,hw with
     | [],_=>exact M7 (ns:=[]) (l:=[]) sh rfl ⟨by decide,by decide,by decide,by decide,by decide,by decide⟩ (a8 [] [])
     |_::_,_=>exact qq sh (eU (by rw[List.length_cons];exact Nat.succ_ne_zero _))
    ·have e:ki ⟨#[97,117,100,105,116]⟩=9:=by decide+kernel
     rw[e]
     have sh:=(by kernel_rfl:cE.f k ⟨#[97,117,100,105,116]⟩=some (ByteArray.empty,true))
     match ws,hw with
     | [],_=>exact M7 (ns:=[]) (l:=[]) sh rfl ⟨by decide,by decide,by decide,by decide,by decide,by decide⟩ (a9 [] [])
     |_::_,_=>exact qq sh (eU (by rw[List.length_cons];exact Nat.succ_ne_zero _))
    ·have e:ki ⟨#[98,101,103,105,110]⟩=10:=by decide+kernel
     rw[e]
     have sh:=(by kernel_rfl:cE.f k ⟨#[98,101,103,105,110]⟩=some (⟨#[78,78,78]⟩,true))
     match ws,hw with
     | [],_=>exact qq sh (eU (by decide))
     | [a],_=>exact qq sh (eU (by show 1≠3;decide))
     | [a,b],_=>exact qq sh (eU (by show 2≠3;decide))
     |a::b::c::d::r,_=>exact qq sh (eU (by rw[List.length_cons,List.length_cons,List.length_cons,List.length_cons];show _+1+1+1+1≠3;omega))
     | [a,b,c],hw=>
       have hc:jd t 10 [a,b,c] =bif JI [a,b,c] then pg t (yK t (O0 [a,b,c])) else (t,iq):=rfl
       rw[hc]
       have op:operands ⟨#[78,78,78]⟩ [a,b,c] =bif (bJ a).2 then (bif (bJ b).2 then (bif (bJ c).2 then (O0 [a,b,c],[],true) else ([],[],false)) else ([],[],false)) else ([],[],false):=rfl
       have en:JI [a,b,c] =((bJ a).2&&((bJ b).2&&((bJ c).2&&true))):=rfl
       rw[en]
       cases ha:(bJ a).2 with
       |false=>rw[ha] at op;exact qq sh (by rw[op];rfl)
       |true=>
        rw[ha] at op
        cases hb:(bJ b).2 with
        |false=>rw[hb] at op;exact qq sh (by rw[op];rfl)
        |true=>
         rw[hb] at op
         cases hc:(bJ c).2 with
         |false=>rw[hc] at op;exact qq sh (by rw[op];rfl)
         |true=>
          rw[hc] at op
          exact Vp sh op ((.inr (.inl rfl))) (JQ hk ht (by show 3<1000000;decide))
    ·have e:ki ⟨#[112,108,97,121]⟩=11:=by decide+kernel
     rw[e]
     have sh:=(by kernel_rfl:cE.f k ⟨#[112,108,97,121]⟩=some (⟨#[99]⟩,true))
     match ws,hw with
     | [],_=>exact qq sh (eU (by decide))
     |a::b::r,_=>exact qq sh (eU (by rw[List.length_cons,List.length_cons];show _+1+1≠1;omega))
     | [a],hw=>
       have hc:jd t 11 [a] =bif decide (hD a>=0) then pg t (yL (fO t (hD a))) else (t,iq):=rfl
       rw[hc]
       have op:operands ⟨#[99]⟩ [a] =bif decide (hD a>=0) then ([hD a],[],true) else ([],[],false):=rfl
       cases hb:decide (hD a>=0) with
       |false=>rw[hb] at op;exact qq sh (by rw[op];rfl)
       |true=>
        rw[hb] at op
        exact Vp sh op ((.inr (.inr (.inl rfl)))) (aP.YG hk ht (hD a))
    ·have e:ki ⟨#[97,117,116,111]⟩=12:=by decide+kernel
     rw[e]
     have sh:=(by kernel_rfl:cE.f k ⟨#[97,117,116,111]⟩=some (⟨#[78]⟩,true))
     match ws,hw with
     | [],_=>exact qq sh (eU (by decide))
     |a::b::r,_=>exact qq sh (eU (by rw[List.length_cons,List.length_cons];show _+1+1≠1;omega))
     | [a],hw=>
       have hc:jd t 12 [a] =bif (bJ a).2 then pg t (yL (tu t (bJ a).1)) else (t,iq):=rfl
       rw[hc]
       have op:operands ⟨#[78]⟩ [a] =bif (bJ a).2 then ([(bJ a).1],[],true) else ([],[],false):=rfl
       cases hb:(bJ a).2 with
       |false=>rw[hb] at op;exact qq sh (by rw[op];rfl)
       |true=>
        rw[hb] at op
        exact Vp sh op ((.inr (.inr (.inr (.inr (.inr rfl)))))) (aP.YH hk ht (bJ a).1)
    ·have e:ki ⟨#[115,101,101]⟩=13:=by decide+kernel
     rw[e]
     have sh:=(by kernel_rfl:cE.f k ⟨#[115,101,101]⟩=some (⟨#[78]⟩,true))
     match ws,hw with
     | [],_=>exact qq sh (eU (by decide))
     |a::b::r,_=>exact qq sh (eU (by rw[List.length_cons,List.length_cons];show _+1+1≠1;omega))
     | [a],hw=>
       have hc:jd t 13 [a] =bif (bJ a).2 then (t,rO t.g (bJ a).1) else (t,iq):=rfl
       rw[hc]
       have op:operands ⟨#[78]⟩ [a] =bif (bJ a).2 then ([(bJ a).1],[],true) else ([],[],false):=rfl
       cases hb:(bJ a).2 with
       |false=>rw[hb] at op;exact qq sh (by rw[op];rfl)
       |true=>
        rw[hb] at op
        exact M7 sh op ⟨by decide,by decide,by decide,by decide,by decide,by decide⟩ (Pt hk ht (bJ a).1 [])
    ·have e:ki ⟨#[109,101,108,100,115]⟩=14:=by decide+kernel
     rw[e]
     have sh:=(by kernel_rfl:cE.f k ⟨#[109,101,108,100,115]⟩=some (⟨#[104]⟩,true))
     match ws,hw with
     | [],_=>exact qq sh (eU (by decide))
     |a::b::r,_=>exact qq sh (eU (by rw[List.length_cons,List.length_cons];show _+1+1≠1;omega))
     | [a],hw=>
       have hc:jd t 14 [a] =bif (cb a).2 then (t,kL (cb a).1 14) else (t,iq):=rfl
       rw[hc]
       have op:operands ⟨#[104]⟩ [a] =bif (cb a).2 then ([],(cb a).1,true) else ([],[],false):=rfl
       cases hb:(cb a).2 with
       |false=>rw[hb] at op;exact qq sh (by rw[op];rfl)
       |true=>
        rw[hb] at op
        exact M7 sh op ⟨by decide,by decide,by decide,by decide,by decide,by decide⟩ ((uD hk (t:=t) (Nat.lt_of_le_of_lt (lM a) (by decide))).1 [])
    ·have e:ki ⟨#[108,101,102,116]⟩=15:=by decide+kernel
     rw[e]
     have sh:=(by kernel_rfl:cE.f k ⟨#[108,101,102,116]⟩=some (⟨#[104]⟩,true))
     match ws,hw with
     | [],_=>exact qq sh (eU (by decide))
     |a::b::r,_=>exact qq sh (eU (by rw[List.length_cons,List.length_cons];show _+1+1≠1;omega))
     | [a],hw=>
       have hc:jd t 15 [a] =bif (cb a).2 then (t,kL (cb a).1 15) else (t,iq):=rfl
       rw[hc]
       have op:operands ⟨#[104]⟩ [a] =bif (cb a).2 then ([],(cb a).1,true) else ([],[],false):=rfl
       cases hb:(cb a).2 with
       |false=>rw[hb] at op;exact qq sh (by rw[op];rfl)
       |true=>
        rw[hb] at op
        exact M7 sh op ⟨by decide,by decide,by decide,by decide,by decide,by decide⟩ ((uD hk (t:=t) (Nat.lt_of_le_of_lt (lM a) (by decide))).2.1 [])
    ·have e:ki ⟨#[107,105,110,100]⟩=16:=by decide+kernel
     rw[e]
     have sh:=(by kernel_rfl:cE.f k ⟨#[107,105,110,100]⟩=some (⟨#[104]⟩,true))
     match ws,hw with
     | [],_=>exact qq sh (eU (by decide))
     |a::b::r,_=>exact qq sh (eU (by rw[List.length_cons,List.length_cons];show _+1+1≠1;omega))
     | [a],hw=>
       have hc:jd t 16 [a] =bif (cb a).2 then (t,kL (cb a).1 16) else (t,iq):=rfl
       rw[hc]
       have op:operands ⟨#[104]⟩ [a] =bif (cb a).2 then ([],(cb a).1,true) else ([],[],false):=rfl
       cases hb:(cb a).2 with
       |false=>rw[hb] at op;exact qq sh (by rw[op];rfl)
       |true=>
        rw[hb] at op
        exact M7 sh op ⟨by decide,by decide,by decide,by decide,by decide,by decide⟩ ((uD hk (t:=t) (Nat.lt_of_le_of_lt (lM a) (by decide))).2.2.1 [])
    ·have e:ki ⟨#[99,111,117,110,116]⟩=17:=by decide+kernel
     rw[e]
     have sh:=(by kernel_rfl:cE.f k ⟨#[99,111,117,110,116]⟩=some (⟨#[112]⟩,true))
     match ws,hw with
     | [],_=>exact qq sh (eU (by decide))
     |a::b::r,_=>exact qq sh (eU (by rw[List.length_cons,List.length_cons];show _+1+1≠1;omega))
     | [a],hw=>
       have hc:jd t 17 [a] =bif (jw a).2 then (t,kL (jw a).1 17) else (t,iq):=rfl
       rw[hc]
       have op:operands ⟨#[112]⟩ [a] =bif (jw a).2 then ([],(jw a).1,true) else ([],[],false):=rfl
       cases hb:(jw a).2 with
       |false=>rw[hb] at op;exact qq sh (by rw[op];rfl)
       |true=>
        rw[hb] at op
        exact M7 sh op ⟨by decide,by decide,by decide,by decide,by decide,by decide⟩ ((uD hk (t:=t) (Fe a)).2.2.2 [])
    ·have e:ki ⟨#[119,105,110,115]⟩=18:=by decide+kernel
     rw[e]
     have sh:=(by kernel_rfl:cE.f k ⟨#[119,105,110,115]⟩=some (⟨#[104,78]⟩,true))
     match ws,hw with
     | [],_=>exact qq sh (eU (by decide))
     | [a],_=>exact qq sh (eU (by show 1≠2;decide))
     |a::b::c::r,_=>exact qq sh (eU (by rw[List.length_cons,List.length_cons,List.length_cons];show _+1+1+1≠2;omega))
     | [a,b],hw=>
       have hc:jd t 18 [a,b] =bif (cb a).2&&(bJ b).2 then (t,gP (n9 (cb a).1 (bJ b).1)) else (t,iq):=rfl
       rw[hc]
       have op:operands ⟨#[104,78]⟩ [a,b] =bif (cb a).2 then (bif (bJ b).2 then ([(bJ b).1],(cb a).1,true) else ([],[],false)) else ([],[],false):=rfl
       cases hb:(cb a).2 with
       |false=>rw[hb] at op;exact qq sh (by rw[op];rfl)
       |true=>
        rw[hb] at op
        cases AK:(bJ b).2 with
        |false=>rw[AK] at op;exact qq sh (by rw[op];rfl)
        |true=>
         rw[AK] at op
         exact M7 sh op ⟨by decide,by decide,by decide,by decide,by decide,by decide⟩ (M5 hk (t:=t) (Nat.lt_of_le_of_lt (lM a) (by decide)) (bJ b).1)
   ·rw[HY Ef,HZ]
    exact no (C7 k Ef)
theorem nD {Pr:Tb->Prop} {t:Tb} {o:Option Tb} (h:Pr t) (ho: ∀u,o=some u->Pr u):Pr (pg t o).1:=by
 cases o with
 |none=>exact h
 |some u=>exact ho u rfl
theorem uF {Pr:Tb->Prop} {p:Tb×Bool} (h:Pr p.1): ∀u,yL p=some u->Pr u:=fun u e=>by
 unfold yL at e
 cases hb:p.2 with
 |true=>rw[hb] at e;cases e;exact h
 |false=>rw[hb] at e;cases e
theorem nR {Pr:Tb->Prop} {b:Bool} {x y:Tb×ByteArray} (h1:Pr x.1) (h2:Pr y.1):Pr (bif b then x else y).1:=by cases b<;>assumption
theorem H0 {Pr:Tb->Prop} {t:Tb} (h:Pr t) (hf:Pr pb) (hm: ∀m,Pr (fo t m).1) (hs:Pr (fh t).1) (hp: ∀c,Pr (fO t c).1) (hb: ∀ns u,yK t ns=some u->Pr u) (i:Nat) (ws:List ByteArray):Pr (jd t i ws).1:=by
 unfold jd
 split
 ·exact nD h fun u e=>by cases e;exact hf
 ·exact nD h (uF (hm (-1)))
 ·exact nD h (uF hs)
 ·exact h
 ·exact h
 ·exact h
 ·exact h
 ·exact h
 ·exact h
 ·exact h
 ·exact nR (nD h (hb _)) h
 ·exact nR (nD h (uF (hp _))) h
 ·refine nR (nD h (uF ?_)) h
  unfold tu
  cases (choice t.g _ != -1) with
  |true=>exact hp _
  |false=>exact hm (-1)
 ·exact nR h h
 ·exact nR h h
 ·exact nR h h
 ·exact nR h h
 ·exact nR h h
 ·exact nR h h
 ·exact h
theorem xm {Pr:Tb->Prop} {t:Tb} (h:Pr t) (hf:Pr pb) (hm: ∀m,Pr (fo t m).1) (hs:Pr (fh t).1) (hp: ∀c,Pr (fO t c).1) (hb: ∀ns u,yK t ns=some u->Pr u) (s:ByteArray):Pr (gS t s).1:=by
 unfold gS
 split
 ·exact h
 ·exact nR h (H0 h hf hm hs hp hb _ _)
theorem BR {t:Tb} (h:t.sm) (s:ByteArray):(gS t s).1.sm:=xm (Pr:=Tb.sm) h D4 (fun m=>pO h m) (ql h) (fun c=>tj h c) (fun ns u e=>D5 _ h e) s
def qT (z x:Tb):Prop:=bW x=true\/x=z
theorem nE {z t u:Tb} {ok:Bool} (h:qT z t):qT z (done t u ok).1:=by
 unfold done
 cases hc:(ok&&bW t&&bW u) with
 |false=>exact h
 |true=>exact .inl (Bool.and_eq_true_iff.1 hc).2
theorem vj {z t:Tb} (h:qT z t) (c:Int):qT z (fO t c).1:=by
 unfold fO
 cases be c with
 |true=>exact nE h
 |false=>exact h
theorem Aw {z t:Tb} (h:qT z t) (a b:Int) (ss bs:List Int):qT z (iG t a b ss bs).1:=by
 unfold iG
 cases (a==1) with
 |true=>exact nE h
 |false=>
  cases (a==2) with
  |true=>exact nE h
  |false=>
   cases (a==3) with
   |true=>exact vj h b
   |false=>
    cases (a==4) with
    |true=>exact nE h
    |false=>
     cases (a==5) with
     |true=>exact nE h
     |false=>exact h
theorem zP {z:Tb}: ∀(l:List (List gR)) {t u:Tb},qT z t->pc l t=some u->qT z u
 | [],t,u,h,e=>by cases e;exact h
 |e::l,t,u,h,e1=>by
  unfold pc at e1
  cases hb:(iG t (gi e 0) (gi e 1) (gl e 2) (gl e 3)).2 with
  |true=>rw[hb] at e1;exact zP l (Aw h ..) e1
  |false=>rw[hb] at e1;cases e1
theorem xn:bW pb=true:=by
 unfold bW js pb
 rw[show oo.ok=true from BG,aH (by show ¬((([]:List Int).length:Int)>oo.n);decide)]
 decide+kernel
theorem xp {z t:Tb} (h:qT z t) (s:ByteArray):qT z (gS t s).1:=xm (Pr:=qT z) h (.inl xn) (fun m=>nE h) (nE h) (fun c=>vj h c) (fun ns u e=>zP _ h e) s
theorem zQ {t:Tb} (h:bW t=true):t.gx.length<=50/\(∀y∈t.gx,y.length<=6)/\t.ws:=by
 have h3:=(o8 h).2.2.1
 have hr:=fun {r}=>C2 (r:=r) h3
 unfold js at h3
 simp only[Bool.and_eq_true,decide_eq_true_eq] at h3
 refine ⟨by have:=h3.1.2;omega,fun y hy=>by have:=hr hy;omega,fun y hy n hn=> ?_⟩
 have h4:=List.all_eq_true.1 h3.2 y hy
 unfold kK Bo at h4
 simp only[Bool.and_eq_true] at h4
 have h5:=eA.1 (List.all_eq_true.1 h4.1.2 n hn)
 exact ru ⟨by omega,by omega⟩
def zR:Tb:=⟨⟨0,0,false,false,[],[],0,0⟩,[],false,[],w8,[],[]⟩
theorem Pu:zR.sm:=⟨⟨by decide,by decide⟩,by show ([]:List Int).length<_;simp,by show ([]:List Int).length<_;simp,qK,by show ([]:List Int).length<_;simp,by show ([]:List (List Int)).length<_;simp,fun y hy=>by cases hy⟩
theorem BS {t:Tb} (h:qT zR t):t.gx.length<=50/\(∀y∈t.gx,y.length<=6)/\t.ws/\t.rd.length<=400:=by
 rcases h with h|rfl
 ·obtain ⟨h1,h2,h3⟩:=zQ h
  exact ⟨h1,h2,h3,by have:=(o8 h).2.2.2.1;omega⟩
 ·exact ⟨Nat.zero_le _,(fun y hy=>by cases hy),(fun y hy=>by cases hy),Nat.zero_le _⟩
section
variable {k:Nat} (hk:cO<=k)
include hk
variable {t:Tb} (ht:t.sm) (hT:t.ws)
include ht
variable {s:ByteArray} (hs:s.size<1048577) {w:ByteArray} {ws:List ByteArray} (hw:kX s=w::ws) (h2: ¬((s.size:Int)>200))
include hs hw h2
end
def tB:List ByteArray->List ByteArray
 | []=>[]
 | [w]=>bif E8 w then [w] else []
 |w::x::l=>w::tB (x::l)
theorem JY {l:List ByteArray} (h:l≠[]) (w:ByteArray):tB (w::l)=w::tB l:=by
 cases l with
 |nil=>exact absurd rfl h
 |cons x l=>rfl
theorem H2: ∀ {l:List ByteArray},l≠[]->tB l=bif E8 (l.getD (l.length-1) ByteArray.empty) then l else l.take (l.length-1)
 | [],h=>absurd rfl h
 | [w],_=>by
   show (bif E8 w then [w] else [])=bif E8 w then [w] else []
   rfl
 |w::x::l,_=>by
  have ih:=H2 (l:=x::l) (by simp)
  rw[tB,ih]
  have e:(w::x::l).getD ((w::x::l).length-1) ByteArray.empty=(x::l).getD ((x::l).length-1) ByteArray.empty:=by
   simp only[List.length_cons,Nat.add_sub_cancel,List.getD_cons_succ]
  rw[e]
  have e2:(w::x::l).take ((w::x::l).length-1)=w::(x::l).take ((x::l).length-1):=by
   simp only[List.length_cons,Nat.add_sub_cancel,List.take_succ_cons]
  rw[e2]
  cases E8 ((x::l).getD ((x::l).length-1) ByteArray.empty)<;>rfl
theorem M8 {l:List ByteArray}: ∀w∈tB l,w∈l:=by
 induction l with
 |nil=>intro w h;cases h
 |cons v l ih=>
  cases l with
  |nil=>
   intro w h
   unfold tB at h
   cases hb:E8 v with
   |true=>rw[hb] at h;exact h
   |false=>rw[hb] at h;cases h
  |cons x l=>
   intro w h
   rw[tB] at h
   rcases List.mem_cons.1 h with rfl|h
   ·simp
   ·exact List.mem_cons_of_mem _ (ih w h)
def kF (s:ByteArray):List ByteArray:=tB (words s 10)
theorem H3 (s:ByteArray): ∀w∈kF s,w.size<=s.size:=fun w hw=>AO s 10 _ _ _ w (M8 w hw)
theorem Lj (s:ByteArray) (c:Int) (m a i:Nat):vQ s c m a i≠[]:=fun e=>by
 have:=(xc s c m a i).2
 rw[e] at this;simp at this
def rS:List ByteArray->Tb->List ByteArray
 | [],_=>[]
 |l::ls,t=>(gS t l).2::rS ls (gS t l).1
theorem BT: ∀(ls:List ByteArray) (t:Tb),(rS ls t).length=ls.length
 | [],_=>rfl
 |l::ls,t=>by rw[rS,List.length_cons,List.length_cons,BT ls]
theorem bw.loop {R:Type} {k:Nat} (hk:cO<=k) (ls:List ByteArray) (hl:ls.length<1048578) (hs: ∀w∈ls,w.size<1048577) (e0:List ByteArray->Option R): ∀(m i n:Nat) (t:Tb) (acc:List ByteArray),t.sm->qT zR t->acc.length<=i->i+m=ls.length->m<n->t.pm (bw.l8 k ls (ls.length:Int) e0 n (i:Int)) acc=e0 (acc++rS (ls.drop i) t)
 |m,i,0,t,acc,_,_,_,_,h=>absurd h (by omega)
 |0,i,n+1,t,acc,ht,hg,ha,hi,_=>by
  rw[List.drop_eq_nil_of_le (by omega)]
  exact (ab (aH (by omega))).trans (by rw[rS,List.append_nil])
 |m+1,i,n+1,t,acc,ht,hg,ha,hi,hn=>by
  have hq:i<ls.length:=by omega
  rw[drop_cons hq]
  have et:ls.getD ((i:Int)).toNat ByteArray.empty=ls[i]:=by rw[Int.toNat_natCast,aD _ hq]
  have he:=cL.eq hk ht (BS hg).2.2.1 (hs ls[i] (List.getElem_mem hq))
  have N_:=BR ht ls[i]
  have MD:=xp hg ls[i]
  unfold rS
  generalize gS t ls[i] =q at he N_ MD ⊢
  have ih:=bw.loop hk ls hl hs e0 m (i+1) n q.1 (acc++[q.2]) N_ MD (by simp;omega) (by omega) (by omega)
  rw[<- aL (by omega),List.append_assoc] at ih
  rw[<- et] at he
  have hr:=Q8 (n:=acc.length+1) (by omega)
  exact (ai (ae (by omega))).trans ((af (bP hq)).trans ((aa he).trans ((af hr).trans ih)))
def FE (s:ByteArray):List ByteArray×Bool:=bif decide (((kF s).length:Int)>60) then ([],false) else (rS (kF s) zR,true)
theorem bw.eq {k:Nat} (hk:cO<=k) {s:ByteArray} (hs:s.size<1048577):bw.f k s=some (FE s):=by
 have hle:=H3 s
 have hwl:=yI s 10
 have lG:words s 10≠[]:=Lj _ _ _ _ _
 have FF:0<(words s 10).length:=List.length_pos_iff.2 lG
 have ht:=H2 lG
 have ew:IntKind.wrap .i64 (((words s 10).length:Int)-1)=(((words s 10).length-1:Nat):Int):=by rw[wrap_i64 (by omega) (by omega)];omega
 have go: ∀ls:List ByteArray,kF s=ls-> ∀A:Option (List ByteArray×Bool),A=((fun x4=>some (x4,true)):List ByteArray->Option (List ByteArray×Bool)) ([]++rS (ls.drop 0) zR)->(bif decide ((ls.length:Int)>60) then some ([],false) else A)=some (FE s):=fun ls e A hA=>by
  unfold FE
  rw[e]
  cases h:decide ((ls.length:Int)>60) with
  |true=>rfl
  |false=>rw[cond_false,hA,List.drop_zero];rfl
 have lp:=fun (ls:List ByteArray) (e:kF s=ls) (h60:ls.length<1048578) e0=>bw.loop (R:=List ByteArray×Bool) hk ls h60 (fun w hw=>by have:=hle w (e ▸ hw);omega) e0 ls.length 0 k zR [] Pu (.inr rfl) (by simp) (by omega) (by simp[cO] at hk;omega)
 refine (aa (a_.eq hk 10 hs)).trans ?_
 rw[ew,Int.toNat_natCast]
 refine (af (bi (ae (by omega)) (ae (by omega)))).trans ?_
 have en:(((words s 10).getD ((words s 10).length-1) ByteArray.empty).toList==ByteArray.empty.toList)= !E8 ((words s 10).getD ((words s 10).length-1) ByteArray.empty):=by unfold E8;rw[Bool.not_not]
 rw[en]
 cases hb:E8 ((words s 10).getD ((words s 10).length-1) ByteArray.empty) with
 |true=>
  have e:kF s=words s 10:=by unfold kF;rw[ht,hb];rfl
  exact (ab rfl).trans (go _ e _ (lp _ e (by omega) _))
 |false=>
  have e:kF s=((words s 10).take ((words s 10).length-1)).drop 0:=by unfold kF;rw[ht,hb,List.drop_zero];rfl
  have el:((((words s 10).take ((words s 10).length-1)).drop 0).length:Int)=((words s 10).length-1:Nat)-0:=by rw[List.drop_zero,List.length_take];omega
  refine (ai rfl).trans ((af (bi (ae (by omega)) (ae (by omega)))).trans ((af (ae (by omega))).trans ?_))
  have h1:=go _ e _ (lp _ e (by rw[List.drop_zero,List.length_take];omega) (fun x4=>some (x4,true)))
  rw[el] at h1
  exact h1
structure vk (b:List Int) (i:Int):Prop where
 len:b.length<1048577
 X5:0<=i
theorem Pv (a:Int):0<=sD .and .i64 a 255/\sD .and .i64 a 255<=255:=by
 have e:(BitVec.ofInt 64 a &&& BitVec.ofInt 64 255).toNat<=255:=by
  rw[BitVec.toNat_and]
  exact Nat.and_le_right
 show 0<=IntKind.wrap .i64 (((BitVec.ofInt 64 a &&& BitVec.ofInt 64 255).toNat:Nat):Int)/\IntKind.wrap .i64 (((BitVec.ofInt 64 a &&& BitVec.ofInt 64 255).toNat:Nat):Int)<=255
 rw[wrap_i64 (by omega) (by omega)]
 omega
theorem gv.ok (k:Nat) {b:List Int} {i:Int} (h:Int) (hc:vk b i): ∃x i' h',gv.f k b i h=some (x,b,i',h')/\vk b i' /\0<=x/\x<=255:=by
 have h1:=hc.len
 have h2:=hc.X5
 by_cases hi:i<(b.length:Int)
 ·refine ⟨_,_,_,(ai (ae hi)).trans ((af (bi (ae h2) (ae hi))).trans rfl),⟨h1,?_⟩,Pv _⟩
  rw[wrap_i64 (by omega) (by omega)];omega
 ·exact ⟨_,_,_,(ab (aH hi)).trans rfl,hc,Pv _⟩
theorem H4 {x n:Int} (h0:0<=x) (hn:0<n):0<=x.tmod n/\x.tmod n<n:=by
 rw[Int.tmod_eq_emod_of_nonneg h0]
 exact ⟨Int.emod_nonneg _ (by omega),Int.emod_lt_of_pos _ hn⟩
theorem aC.ok (k:Nat) {b:List Int} {i:Int} (h n:Int) (hc:vk b i): ∃x i' h',aC.f k b i h n=some (x,b,i',h')/\vk b i' /\0<=x/\(0<n->x<n)/\(n<=0->x=0):=by
 by_cases h0:n<=0
 ·exact ⟨0,i,h,(ai (ae h0)).trans rfl,hc,by omega,by omega,fun _=>rfl⟩
 ·have hn:(!decide (n=0))=true:=by rw[aH (by omega)];rfl
  by_cases h1:n<=256
  ·obtain ⟨x,i',h',e,c1,p1,p2⟩:=gv.ok k h hc
   have hb:=H4 p1 (n:=n) (by omega)
   exact ⟨_,_,_,(ab (aH h0)).trans ((ai (ae h1)).trans ((aa e).trans (af hn))),c1,hb.1,fun _=>hb.2,by omega⟩
  ·obtain ⟨x,i',h',e,c1,p1,p2⟩:=gv.ok k h hc
   obtain ⟨y,i2,h2,e2,c2,q1,q2⟩:=gv.ok k h' c1
   obtain ⟨z,i3,h3,e3,c3,r1,r2⟩:=gv.ok k h2 c2
   refine ⟨_,_,_,(ab (aH h0)).trans ((ab (aH h1)).trans ((aa e).trans ((aa e2).trans ((aa e3).trans (af hn))))),c3,?_⟩
   rw[wrap_i64 (n:=x*65536) (by omega) (by omega),wrap_i64 (n:=y*256) (by omega) (by omega),wrap_i64 (n:=x*65536+y*256) (by omega) (by omega),wrap_i64 (by omega) (by omega)]
   have hb:=H4 (x:=x*65536+y*256+z) (n:=n) (by omega) (by omega)
   exact ⟨hb.1,fun _=>hb.2,by omega⟩
theorem aQ.ok (k:Nat) {b:List Int} {i:Int} (h n:Int) (hc:vk b i): ∃x i' h',aQ.f k b i h n=some (x,b,i',h')/\vk b i':=by
 obtain ⟨x,i',h',e,c1,_⟩:=aC.ok k h n hc
 exact ⟨_,_,_,aa e,c1⟩
theorem mg.ok (k:Nat) {b:List Int} {i:Int} (h:Int) {l:List Int} (hl:0<l.length) (hc:vk b i): ∃x i' h',mg.f k b i h l=some (x,b,i',h')/\vk b i' /\x∈l:=by
 obtain ⟨x,i',h',e,c1,p1,p2,_⟩:=aC.ok k h (l.length:Int) hc
 have p2:=p2 (by omega)
 exact ⟨_,_,_,(aa e).trans (af (bi (ae p1) (ae p2))),c1,o3 0 (by omega)⟩
theorem dU.ok {k:Nat} (hk:cO<=k) {a:List Int} (ha:a.length<1048577): ∃h,dU.f k a=some (a,0,h)/\vk a 0:=by
 have key: ∀(e0:Int->Option (List Int×Int×Int)) (m i n:Nat) (h:Int),i+m=a.length->m<n-> ∃h',dU.l3 k a e0 n h (i:Int)=e0 h':=by
  intro e0 m
  induction m with
  |zero=>
   intro i n h hi hn
   obtain ⟨n,rfl⟩: ∃n',n=n' +1:=⟨n-1,by omega⟩
   exact ⟨h,(dU.aA ..).trans (ab (aH (by omega)))⟩
  |succ m ih=>
   intro i n h hi hn
   obtain ⟨n,rfl⟩: ∃n',n=n' +1:=⟨n-1,by omega⟩
   by_cases h4:(i:Int)<4000
   ·obtain ⟨h',e⟩:=ih (i+1) n _ (by omega) (by omega)
    refine ⟨h',(dU.aA ..).trans ((ai (ae (by omega))).trans ((ai (ae h4)).trans ((af (bP (by omega))).trans ?_)))⟩
    rw[aL (by omega)];exact e
   ·exact ⟨h,(dU.aA ..).trans ((ai (ae (by omega))).trans (ab (aH h4)))⟩
 obtain ⟨h,e⟩:=key _ a.length 0 k _ (by omega) (bV hk ha)
 exact ⟨h,e,ha,by omega⟩
theorem gb.ok (k:Nat) {b:List Int} {i:Int} (h:Int) (hc:vk b i): ∃x i' h',gb.f k b i h=some (x,b,i',h')/\vk b i' /\(100<=x/\x<=103\/200<=x/\x<=212\/300<=x/\x<=312\/x=400):=by
 obtain ⟨x,i1,h1,e1,c1,x1,x2,_⟩:=aC.ok k h 4 hc
 obtain ⟨y,i2,h2,e2,c2,y1,y2,_⟩:=aC.ok k h1 13 c1
 obtain ⟨z,i3,h3,e3,c3,z1,z2,_⟩:=aC.ok k h2 13 c2
 have x2:=x2 (by omega)
 have y2:=y2 (by omega)
 have z2:=z2 (by omega)
 obtain ⟨u,i4,h4,e4,c4,u1⟩:=mg.ok k h3 (l:=[IntKind.wrap .i64 (100+x),IntKind.wrap .i64 (200+y),IntKind.wrap .i64 (300+z),400]) (by simp) c3
 refine ⟨_,_,_,(aa e1).trans ((aa e2).trans ((aa e3).trans (aa e4))),c4,?_⟩
 rw[wrap_i64 (n:=100+x) (by omega) (by omega),wrap_i64 (n:=200+y) (by omega) (by omega),wrap_i64 (n:=300+z) (by omega) (by omega)] at u1
 simp only[List.mem_cons,List.not_mem_nil,or_false] at u1
 show 100<=u/\u<=103\/_
 omega
def H5 (x:List Int):Prop:= ∀(l:List Int) (e:Int),0<=e->mA (x++l) e=mA l (e+1)
theorem Eg {x:Int} (h:jW x=true):H5 [x]:=fun l e he=>by
 show (il e x&&mA l (j6 e x))=_
 unfold il j6
 rw[h];rfl
theorem Pw {x:List Int} (h:H5 x):H5 (x++[-1]):=fun l e he=>by
 rw[List.append_assoc,h _ _ he]
 show (il (e+1) (-1)&&mA l (j6 (e+1) (-1)))=_
 have e1:il (e+1) (-1)=true:=by unfold il;rw[ae (show (1:Int)<=e+1 by omega)];rfl
 rw[e1];rfl
theorem Px {x y:List Int} {z:Int} (hx:H5 x) (hy:H5 y) (hz:z= -2\/z= -3):H5 ((x++y)++[z]):=fun l e he=>by
 rw[List.append_assoc,List.append_assoc,hx _ _ he,hy _ _ (by omega)]
 show (il (e+1+1) z&&mA l (j6 (e+1+1) z))=_
 have e1:il (e+1+1) z=true/\j6 (e+1+1) z=e+1:=by
  rcases hz with rfl|rfl
  ·unfold il j6;rw[ae (show (2:Int)<=e+1+1 by omega)];exact ⟨rfl,show e+1+1-1=e+1 by omega⟩
  ·unfold il j6;rw[ae (show (2:Int)<=e+1+1 by omega)];exact ⟨rfl,show e+1+1-1=e+1 by omega⟩
 rw[e1.1,e1.2];rfl
theorem Rk {x:List Int} (h:H5 x) (hl:x.length<=20):fu x=true:=by
 have:=h [] 0 (by omega)
 rw[List.append_nil] at this
 unfold fu
 rw[this,ae (by omega)];rfl
theorem Lk {x:Int} (h:100<=x/\x<=103\/200<=x/\x<=212\/300<=x/\x<=312\/x=400):jW x=true:=by
 unfold jW
 rcases h with h|h|h|h
 ·rw[eA.2 h];rfl
 ·rw[eA.2 h];simp
 ·rw[eA.2 h];simp
 ·rw[h];simp
theorem bA.ok (k:Nat): ∀(d n:Nat) {b:List Int} {i:Int} (h:Int),vk b i->d<n->d<=20-> ∃x i' h',bA.g k n b i h (d:Int)=some (x,b,i',h')/\vk b i' /\0<x.length/\x.length+1<=2^(d+1)/\H5 x
 |d,0,b,i,h,_,hn,_=>absurd hn (by omega)
 |0,n+1,b,i,h,hc,_,_=>by
  obtain ⟨x,i1,h1,e1,c1,q⟩:=gb.ok k h hc
  exact ⟨[x],i1,h1,show (gb.f k b i h).bind (fun r1=>some ([r1.1],r1.2.1,(t2 r1).1,(t3 r1)))=some ([x],b,i1,h1) from aa e1,c1,by simp,by simp,Eg (Lk q)⟩
 |d+1,n+1,b,i,h,hc,hn,hd=>by
  have hp:(2:Nat)^(d+1)<=2097152:=by
   have:=Nat.pow_le_pow_right (n:=2) (by omega) (show d+1<=21 by omega)
   simpa using this
  have TX:(2:Nat)^(d+1+1)=2*2^(d+1):=by rw[Nat.pow_succ];omega
  have um:1<=(2:Nat)^d:=Nat.one_le_two_pow
  have hp3:(2:Nat)^(d+1)=2*2^d:=by rw[Nat.pow_succ];omega
  have ew:IntKind.wrap .i64 (((d+1:Nat):Int)-1)=(d:Int):=by rw[wrap_i64 (by omega) (by omega)];omega
  obtain ⟨t,i1,h1,e1,c1⟩:=aQ.ok k h 4 hc
  have h0:(((d+1:Nat):Int)==0)=false:=by simp;omega
  have step:bA.g k (n+1) b i h ((d+1:Nat):Int)=(aQ.f k b i h 4).bind fun r2=>
   bif r2.1 then
    (gb.f k r2.2.1 (t2 r2).1 (t3 r2)).bind fun r3=>
    some ([r3.1],r3.2.1,(t2 r3).1,(t3 r3))
   else
    (aQ.f k r2.2.1 (t2 r2).1 (t3 r2) 4).bind fun r4=>
    bif r4.1 then
     (bA.g k n r4.2.1 (t2 r4).1 (t3 r4) (IntKind.wrap .i64 (((d+1:Nat):Int)-1))).bind fun r5=>
     ay (decide ((r5.1.length+1)*8<=room))<|
     some (r5.1++[(-1)],r5.2.1,(t2 r5).1,(t3 r5))
    else
     (bA.g k n r4.2.1 (t2 r4).1 (t3 r4) (IntKind.wrap .i64 (((d+1:Nat):Int)-1))).bind fun r6=>
     (bA.g k n r6.2.1 (t2 r6).1 (t3 r6) (IntKind.wrap .i64 (((d+1:Nat):Int)-1))).bind fun r7=>
     ay (decide ((r6.1.length+r7.1.length)*8<=room))<|
     (aC.f k r7.2.1 (t2 r7).1 (t3 r7) 2).bind fun r8=>
     ay (decide ((((r6.1++r7.1).length)+1)*8<=room))<|
     some ((r6.1++r7.1)++[IntKind.wrap .i64 ((-2)-r8.1)],r8.2.1,(t2 r8).1,(t3 r8)):=by
   show bA.b k (bA.g k n) b i h _=_
   unfold bA.b
   rw[h0];rfl
  rw[ew] at step
  rw[step]
  clear step
  cases t with
  |true=>
   obtain ⟨x,i2,h2,e2,c2,q⟩:=gb.ok k h1 c1
   exact ⟨[x],i2,h2,(aa e1).trans ((ai rfl).trans (aa e2)),c2,by simp,by rw[TX];simp;omega,Eg (Lk q)⟩
  |false=>
   obtain ⟨t2,i2,h2,e2,c2⟩:=aQ.ok k h1 4 c1
   obtain ⟨x,i3,h3,e3,c3,l1,l2,q1⟩:=bA.ok k d n h2 c2 (by omega) (by omega)
   cases t2 with
   |true=>
    refine ⟨x++[-1],i3,h3,(aa e1).trans ((ab rfl).trans ((aa e2).trans ((ai rfl).trans ?_))),c3,by simp,by rw[List.length_append,TX];simp;omega,Pw q1⟩
    exact (aa e3).trans (af (mN (show x.length+1<=17592186044416 by omega)))
   |false=>
    obtain ⟨y,i4,h4,e4,c4,m1,m2,q2⟩:=bA.ok k d n h3 c3 (by omega) (by omega)
    obtain ⟨z,i5,h5,e5,c5,z1,z2,_⟩:=aC.ok k h4 2 c4
    have z2:=z2 (by omega)
    have ez:IntKind.wrap .i64 ((-2)-z)= -2-z:=wrap_i64 (by omega) (by omega)
    refine ⟨(x++y)++[IntKind.wrap .i64 ((-2)-z)],i5,h5,(aa e1).trans ((ab rfl).trans ((aa e2).trans ((ab rfl).trans ?_))),c5,by rw[List.length_append,List.length_singleton];omega,by rw[List.length_append,List.length_append,TX,List.length_singleton];omega,?_⟩
    ·exact (aa e3).trans ((aa e4).trans ((af (mN (show x.length+y.length<=17592186044416 by omega))).trans ((aa e5).trans (af (mN (show (x++y).length+1<=17592186044416 by rw[List.length_append];omega))))))
    ·rw[ez];exact Px q1 q2 (by omega)
theorem bA.two {k:Nat} (hk:cO<=k) {d:Nat} (hd:d<=2) {b:List Int} {i:Int} (h:Int) (hc:vk b i): ∃x i' h',bA.f k b i h (d:Int)=some (x,b,i',h')/\vk b i' /\0<x.length/\x.length<=7/\fu x=true:=by
 obtain ⟨x,i',h',e,c,l1,l2,q⟩:=bA.ok k d k h hc (by simp[cO] at hk;omega) (by omega)
 have:(2:Nat)^(d+1)<=8:=by
  have:=Nat.pow_le_pow_right (n:=2) (by omega) (show d+1<=3 by omega)
  simpa using this
 exact ⟨x,i',h',e,c,l1,by omega,Rk q (by omega)⟩
theorem oE:ja [] =true:=rfl
theorem pS {x:List Int} (h:fu x=true):ja x=true:=by unfold ja;rw[h,Bool.or_true]
theorem hJ.ok {k:Nat} (hk:cO<=k) {b:List Int} {i:Int} (h:Int) (hc:vk b i): ∃(r:Rl) (i' h':Int),hJ.f k b i h=some (r.n,r.e,r.b1,r.b2,r.w,r.f,r.t,r.l,b,i',h')/\vk b i' /\r.ok=true/\r.w.length<=7/\r.f.length<=7:=by
 obtain ⟨x1,i1,h1,e1,c1,p1,q1,_⟩:=aC.ok k h 4 hc
 obtain ⟨x2,i2,h2,e2,c2,p2,q2,_⟩:=aC.ok k h1 6 c1
 obtain ⟨x3,i3,h3,e3,c3⟩:=aQ.ok k h2 2 c2
 obtain ⟨x4,i4,h4,e4,c4,p4,q4,_⟩:=aC.ok k h3 2 c3
 obtain ⟨x5,i5,h5,e5,c5,p5,q5,_⟩:=aC.ok k h4 60 c4
 obtain ⟨x6,i6,h6,e6,c6⟩:=aQ.ok k h5 2 c5
 have q1:=q1 (by omega)
 have q2:=q2 (by omega)
 have q4:=q4 (by omega)
 have q5:=q5 (by omega)
 have w1:IntKind.wrap .i64 (2+x1)=2+x1:=wrap_i64 (by omega) (by omega)
 have w2:IntKind.wrap .i64 (1+x2)=1+x2:=wrap_i64 (by omega) (by omega)
 have w4:IntKind.wrap .i64 (1+x4)=1+x4:=wrap_i64 (by omega) (by omega)
 have w5:IntKind.wrap .i64 (20+x5)=20+x5:=wrap_i64 (by omega) (by omega)
 have fin: ∀(w f:List Int) (i' h':Int),vk b i'->ja w=true->ja f=true->w.length<=7->f.length<=7->hJ.f k b i h=some (IntKind.wrap .i64 (2+x1),IntKind.wrap .i64 (1+x2),x3,true,w,f,IntKind.wrap .i64 (1+x4),IntKind.wrap .i64 (20+x5),b,i',h')-> ∃(r:Rl) (i' h':Int),hJ.f k b i h=some (r.n,r.e,r.b1,r.b2,r.w,r.f,r.t,r.l,b,i',h')/\vk b i' /\r.ok=true/\r.w.length<=7/\r.f.length<=7:=fun w f i' h' c hw hf lw lf e=>by
  refine ⟨⟨2+x1,1+x2,x3,true,w,f,1+x4,20+x5⟩,i',h',by rw[e,w1,w2,w4,w5],c,?_,lw,lf⟩
  unfold Rl.ok oz
  rw[eA.2 (show 2<=2+x1/\2+x1<=6 by omega),eA.2 (show 1<=1+x2/\1+x2<=8 by omega),eA.2 (show 1<=1+x4/\1+x4<=4 by omega),eA.2 (show 1<=20+x5/\20+x5<=400 by omega),hw,hf]
  cases x3<;>rfl
 have pre: ∀X,(bif x6 then
  (bA.f k b i6 h6 1).bind fun r7=>
  (aQ.f k r7.2.1 (t2 r7).1 (t3 r7) 2).bind fun r8=>
  bif r8.1 then
   (bA.f k r8.2.1 (t2 r8).1 (t3 r8) 1).bind fun r9=>
   some (IntKind.wrap .i64 (2+x1),IntKind.wrap .i64 (1+x2),x3,true,r7.1,r9.1,IntKind.wrap .i64 (1+x4),IntKind.wrap .i64 (20+x5),r9.2.1,(t2 r9).1,(t3 r9))
  else
   some (IntKind.wrap .i64 (2+x1),IntKind.wrap .i64 (1+x2),x3,true,r7.1,[],IntKind.wrap .i64 (1+x4),IntKind.wrap .i64 (20+x5),r8.2.1,(t2 r8).1,(t3 r8))
  else
   (aQ.f k b i6 h6 2).bind fun mO=>
   bif mO.1 then
    (bA.f k mO.2.1 (t2 mO).1 (t3 mO) 1).bind fun ke=>
    some (IntKind.wrap .i64 (2+x1),IntKind.wrap .i64 (1+x2),x3,true,[],ke.1,IntKind.wrap .i64 (1+x4),IntKind.wrap .i64 (20+x5),ke.2.1,(t2 ke).1,(t3 ke))
   else
    some (IntKind.wrap .i64 (2+x1),IntKind.wrap .i64 (1+x2),x3,true,[],[],IntKind.wrap .i64 (1+x4),IntKind.wrap .i64 (20+x5),mO.2.1,(t2 mO).1,(t3 mO)))=X->hJ.f k b i h=X:=fun X hX=>
  (aa e1).trans ((aa e2).trans ((aa e3).trans ((aa e4).trans ((aa e5).trans ((aa e6).trans hX)))))
 cases x6 with
 |true=>
  obtain ⟨w,i7,h7,e7,c7,_,lw,hw⟩:=bA.two hk (d:=1) (by omega) h6 c6
  obtain ⟨x8,i8,h8,e8,c8⟩:=aQ.ok k h7 2 c7
  cases x8 with
  |true=>
   obtain ⟨f,i9,h9,e9,c9,_,lf,hf⟩:=bA.two hk (d:=1) (by omega) h8 c8
   exact fin w f i9 h9 c9 (pS hw) (pS hf) lw lf (pre _ ((ai rfl).trans ((aa e7).trans ((aa e8).trans ((ai rfl).trans (aa e9))))))
  |false=>exact fin w [] i8 h8 c8 (pS hw) oE lw (by simp) (pre _ ((ai rfl).trans ((aa e7).trans ((aa e8).trans (ab rfl)))))
 |false=>
  obtain ⟨x8,i8,h8,e8,c8⟩:=aQ.ok k h6 2 c6
  cases x8 with
  |true=>
   obtain ⟨f,i9,h9,e9,c9,_,lf,hf⟩:=bA.two hk (d:=1) (by omega) h8 c8
   exact fin [] f i9 h9 c9 oE (pS hf) (by simp) lf (pre _ ((ab rfl).trans ((aa e8).trans ((ai rfl).trans (aa e9)))))
  |false=>exact fin [] [] i8 h8 c8 oE oE (by simp) (by simp) (pre _ ((ab rfl).trans ((aa e8).trans (ab rfl))))
abbrev H6 (r:Rl):Tb:=⟨r,[],false,[],w8,[],[]⟩
theorem Py {r:Rl} (h:r.sm):(H6 r).sm:=⟨h,by show ([]:List Int).length<_;simp,by show ([]:List Int).length<_;simp,qK,by show ([]:List Int).length<_;simp,by show ([]:List (List Int)).length<_;simp,fun y hy=>by cases hy⟩
theorem fx.made {k:Nat} (hk:cO<=k) {r:Rl} (h:r.sm) (ho:r.ok=true):r.ap (fx.f k)=some ((H6 r).u4 true):=by
 refine (aa (rA hk h)).trans ?_
 rw[ho]
 exact (ab rfl).trans (aa (dY.eq k h))
theorem H7 {r:Rl} (ho:r.ok=true):bW (H6 r)=true:=by
 have hn:=(om ho).1
 unfold bW js
 rw[ho,aH (by show ¬((([]:List Int).length:Int)>r.n);simp;omega),eA.2 hn]
 rfl
theorem nF {t u:Tb} {ok:Bool} (h:bW t=true):bW (done t u ok).1=true:=by
 unfold done
 cases hc:(ok&&bW t&&bW u) with
 |false=>exact h
 |true=>exact (Bool.and_eq_true_iff.1 hc).2
abbrev Tb.YO {E:Type} (t:Tb) (e:E):Int×Int×Bool×Bool×List Int×List Int×Int×Int×List Int×Bool×List Int×Int×Int×Bool×Bool×List Int×List Int×Int×Int×List (List Int)×List Int×List Int×Int×Int×Int×List Int×List (List Int)×E:=(t.r.n,t.r.e,t.r.b1,t.r.b2,t.r.w,t.r.f,t.r.t,t.r.l,t.dG,t.on,t.lK,t.g.r.n,t.g.r.e,t.g.r.b1,t.g.r.b2,t.g.r.w,t.g.r.f,t.g.r.t,t.g.r.l,t.g.hs,t.g.st,t.g.hp,t.g.tn,t.g.mv,t.g.ps,t.rd,t.gx,e)
theorem JZ (t:Tb) (s:Int):(jt t s).1.r=t.r:=by
 unfold jt done
 cases (!t.on&&bW t&&bW {t with dG:=t.dG++[s]})<;>rfl
theorem BU {t:Tb} (h:bW t=true) (c:Int):bW (fO t c).1=true:=by
 unfold fO
 cases be c with
 |true=>exact nF h
 |false=>exact h
theorem bC.loop {R:Type} {k:Nat} (hk:cO<=k) (s:Int) (e0:Int->Int->Bool->Bool->List Int->List Int->Int->Int->List Int->Bool->List Int->Int->Int->Bool->Bool->List Int->List Int->Int->Int->List (List Int)->List Int->List Int->Int->Int->Int->List Int->List (List Int)->List Int->List Int->Option R): ∀(m j n:Nat) (t:Tb) (ss bs:List Int),t.sm->bW t=true->m<n->(j:Int)+(m:Int)=t.r.n->t.r.n<=6->ss.length=j->bs.length=j->
 ∃(u:Tb) (YP Vq:List Int),t.ap (bC.l4 k s e0 n (j:Int)) ss bs=u.ap e0 YP Vq/\u.sm/\bW u=true
 |m,j,0,t,ss,bs,_,_,hn,_,_,_,_=>absurd hn (by omega)
 |0,j,n+1,t,ss,bs,ht,ho,hn,hm,h6,hs,hb=>⟨t,ss,bs,(bC.hO ..).trans (ab (aH (by omega))),ht,ho⟩
 |m+1,j,n+1,t,ss,bs,ht,ho,hn,hm,h6,hs,hb=>by
  have e1:=d_.eq hk (j:Int) (IntKind.wrap .i64 (s+(j:Int))) 5
  generalize th [(j:Int),IntKind.wrap .i64 (s+(j:Int)),5] =x at e1
  have e2:=fB.eq hk ht x
  have N_:=tf ht x
  have hT:bW (jt t x).1=true:=nF ho
  have k1:=JZ t x
  generalize jt t x=q at e2 N_ k1 hT
  obtain ⟨u,YP,Vq,e,h1,h2⟩:=bC.loop hk s e0 m (j+1) n q.1 (ss++[IntKind.wrap .i64 (s+(j:Int))]) (bs++[5]) N_ hT (by omega) (by rw[k1];omega) (by rw[k1];omega) (by simp;omega) (by simp;omega)
  refine ⟨u,YP,Vq,?_,h1,h2⟩
  rw[<- aL (by omega)] at e
  exact (bC.hO ..).trans ((ai (ae (by omega))).trans ((aa e1).trans ((aa e2).trans ((af (mN (by omega))).trans ((af (mN (by omega))).trans e)))))
theorem bC.ok {k:Nat} (hk:cO<=k) {t:Tb} (ht:t.sm) (hT:bW t=true) (s:Int): ∃u:Tb,t.ap (bC.f k) s=some u.tp/\u.sm/\bW u=true:=by
 have hn:=(om (o8 hT).1).1
 have lp:=fun e0=>bC.loop (R:=Int×Int×Bool×Bool×List Int×List Int×Int×Int×List Int×Bool×List Int×Int×Int×Bool×Bool×List Int×List Int×Int×Int×List (List Int)×List Int×List Int×Int×Int×Int×List Int×List (List Int)) hk s e0 t.r.n.toNat 0 k t [] [] ht hT (by simp[cO] at hk;omega) (by omega) (by omega) rfl rfl
 obtain ⟨u,ss,bs,e,us,uT⟩:=lp _
 have e2:=jK.eq hk us ss bs
 have h2:=zA us ss bs
 have h3:bW (ju u ss bs).1=true:=nF uT
 generalize ju u ss bs=q at e2 h2 h3
 exact ⟨q.1,e.trans (aa e2),h2,h3⟩
theorem jM.ok {k:Nat} (hk:cO<=k) {b:List Int} {i:Int} (h:Int) (hc:vk b i) {t:Tb} (ht:t.sm) (hT:bW t=true): ∃(u:Tb) (i' h':Int),t.ap (jM.f k b i h)=some (u.YO (b,i',h'))/\vk b i' /\u.sm/\bW u=true:=by
 have ep:=cr.eq hk ht.2.2.2.1
 have et:=iN.eq hk ht
 have h2:=pO ht (-1)
 have h3:bW (fo t (-1)).1=true:=nF hT
 generalize fo t (-1)=q at et h2 h3
 by_cases hp:((cJ t.g).length:Int)>0
 ·obtain ⟨o,i1,h1,e1,c1⟩:=aQ.ok k h 4 hc
  cases o with
  |true=>exact ⟨q.1,i1,h1,(aa ep).trans ((ai (ae hp)).trans ((aa e1).trans ((ab rfl).trans (aa et)))),c1,h2,h3⟩
  |false=>
   obtain ⟨x,i2,Yz,e2,c2,p1,p2,_⟩:=aC.ok k h1 ((cJ t.g).length:Int) c1
   have p2:=p2 (by omega)
   have es:=jL.eq hk ht ((cJ t.g).getD x.toNat 0)
   have h4:=tj ht ((cJ t.g).getD x.toNat 0)
   have h5:=BU hT ((cJ t.g).getD x.toNat 0)
   generalize fO t ((cJ t.g).getD x.toNat 0)=p at es h4 h5
   exact ⟨p.1,i2,Yz,(aa ep).trans ((ai (ae hp)).trans ((aa e1).trans ((ai rfl).trans ((aa e2).trans ((af (bi (ae p1) (ae p2))).trans (aa es)))))),c2,h4,h5⟩
 ·exact ⟨q.1,i,h,(aa ep).trans ((ab (aH hp)).trans (aa et)),hc,h2,h3⟩
theorem cA.loop {R:Type} {k:Nat} (hk:cO<=k) (e0:List Int->Int->Int->Int->Int->Bool->Bool->Int->Int->Bool->Int->Int->Bool->Bool->Int->Int->Int->Int->Int->List Int->List Int->List Int->List Int->List Int->List Int->List (List Int)->List Int->List Int->List Int->List (List Int)->Option R): ∀(m n:Nat) {b:List Int} {i:Int} (h:Int) (t:Tb),vk b i->m<n->m<=100->t.sm->bW t=true->
 ∃(u:Tb) (i' h':Int),t.pm (cA.l10 k e0 n (m:Int) b i h)=u.pm (e0 b i' h')/\vk b i' /\u.sm/\bW u=true
 |m,0,b,i,h,t,_,hn,_,_,_=>absurd hn (by omega)
 |0,n+1,b,i,h,t,hc,hn,hm,ht,hT=>⟨t,i,h,(cA.G9 ..).trans (ab (aH (by omega))),hc,ht,hT⟩
 |m+1,n+1,b,i,h,t,hc,hn,hm,ht,hT=>by
  have ew:IntKind.wrap .i64 (((m+1:Nat):Int)-1)=(m:Int):=by rw[wrap_i64 (by omega) (by omega)];omega
  obtain ⟨q,i1,h1,e1,c1,q1,q2⟩:=jM.ok hk h hc ht hT
  obtain ⟨u,i',h',e,c',u1,u2⟩:=cA.loop hk e0 m n h1 q c1 (by omega) (by omega) q1 q2
  rw[<- ew] at e
  exact ⟨u,i',h',(cA.G9 ..).trans ((ai (ae (by omega))).trans ((aa e1).trans e)),c',u1,u2⟩
theorem cA.ok {k:Nat} (hk:cO<=k) {b:List Int} {i:Int} (h:Int) (hc:vk b i): ∃(t:Tb) (i' h':Int),cA.f k b i h=some (t.YO (b,i',h'))/\vk b i' /\t.sm/\bW t=true:=by
 obtain ⟨r0,i1,h1,e1,c1,X6,lw,lf⟩:=hJ.ok hk h hc
 obtain ⟨o,i2,h2,e2,c2⟩:=aQ.ok k h1 2 c1
 have rest: ∀(r:Rl) {i3:Int} (h3:Int),vk b i3->r.ok=true->r.sm-> ∃(t:Tb) (i' h':Int),((r.ap (fx.f k)).bind fun h_=>
  (aQ.f k b i3 h3 6).bind fun Mc=>
  bif Mc.1 then
   (d_.f k 0 3 5).bind fun Yr=>
   (fB.f k h_.1 h_.2.1 (t2 h_).1 (t3 h_).1 (t4 h_).1 (t5 h_).1 (t6 h_).1 (t7 h_).1 (t8 h_).1 (t9 h_).1 (t9 h_.2).1 (t9 (t2 h_)).1 (t9 (t3 h_)).1 (t9 (t4 h_)).1 (t9 (t5 h_)).1 (t9 (t6 h_)).1 (t9 (t7 h_)).1 (t9 (t8 h_)).1 (t9 (t9 h_)).1 (t9 (t9 h_.2)).1 (t9 (t9 (t2 h_))).1 (t9 (t9 (t3 h_))).1 (t9 (t9 (t4 h_))).1 (t9 (t9 (t5 h_))).1 (t9 (t9 (t6 h_))).1 (t9 (t9 (t7 h_))).1 (t9 (t9 (t8 h_))).1 Yr).bind fun np=>
   some (np.1,np.2.1,(t2 np).1,(t3 np).1,(t4 np).1,(t5 np).1,(t6 np).1,(t7 np).1,(t8 np).1,(t9 np).1,(t9 np.2).1,(t9 (t2 np)).1,(t9 (t3 np)).1,(t9 (t4 np)).1,(t9 (t5 np)).1,(t9 (t6 np)).1,(t9 (t7 np)).1,(t9 (t8 np)).1,(t9 (t9 np)).1,(t9 (t9 np.2)).1,(t9 (t9 (t2 np))).1,(t9 (t9 (t3 np))).1,(t9 (t9 (t4 np))).1,(t9 (t9 (t5 np))).1,(t9 (t9 (t6 np))).1,(t9 (t9 (t7 np))).1,(t9 (t9 (t8 np))).1,Mc.2.1,(t2 Mc).1,(t3 Mc))
  else
   (aC.f k Mc.2.1 (t2 Mc).1 (t3 Mc) 900).bind fun QW=>
   (bC.f k h_.1 h_.2.1 (t2 h_).1 (t3 h_).1 (t4 h_).1 (t5 h_).1 (t6 h_).1 (t7 h_).1 (t8 h_).1 (t9 h_).1 (t9 h_.2).1 (t9 (t2 h_)).1 (t9 (t3 h_)).1 (t9 (t4 h_)).1 (t9 (t5 h_)).1 (t9 (t6 h_)).1 (t9 (t7 h_)).1 (t9 (t8 h_)).1 (t9 (t9 h_)).1 (t9 (t9 h_.2)).1 (t9 (t9 (t2 h_))).1 (t9 (t9 (t3 h_))).1 (t9 (t9 (t4 h_))).1 (t9 (t9 (t5 h_))).1 (t9 (t9 (t6 h_))).1 (t9 (t9 (t7 h_))).1 (t9 (t9 (t8 h_))).1 QW.1).bind fun OJ=>
   (aC.f k QW.2.1 (t2 QW).1 (t3 QW) 10).bind fun QX=>
   cA.l10 k (fun VH VI VJ Th Ti Tj Tk Tl Tm Tn VL VM VN VO VP VQ VR VS VT VU VV VW VX VY VZ V0 V1 V2 V3 V4=>
    (aQ.f k VH VI VJ 2).bind fun Ot=>
    bif Ot.1 then
     (gg.f k Th Ti Tj Tk VU VV Tl Tm VW Tn VX VL VM VN VO VY VZ VP VQ V0 V1 V2 VR VS VT V3 V4).bind fun nr=>
     some (nr.1,nr.2.1,(t2 nr).1,(t3 nr).1,(t4 nr).1,(t5 nr).1,(t6 nr).1,(t7 nr).1,(t8 nr).1,(t9 nr).1,(t9 nr.2).1,(t9 (t2 nr)).1,(t9 (t3 nr)).1,(t9 (t4 nr)).1,(t9 (t5 nr)).1,(t9 (t6 nr)).1,(t9 (t7 nr)).1,(t9 (t8 nr)).1,(t9 (t9 nr)).1,(t9 (t9 nr.2)).1,(t9 (t9 (t2 nr))).1,(t9 (t9 (t3 nr))).1,(t9 (t9 (t4 nr))).1,(t9 (t9 (t5 nr))).1,(t9 (t9 (t6 nr))).1,(t9 (t9 (t7 nr))).1,(t9 (t9 (t8 nr))).1,Ot.2.1,(t2 Ot).1,(t3 Ot))
    else
     some (Th,Ti,Tj,Tk,VU,VV,Tl,Tm,VW,Tn,VX,VL,VM,VN,VO,VY,VZ,VP,VQ,V0,V1,V2,VR,VS,VT,V3,V4,Ot.2.1,(t2 Ot).1,(t3 Ot))) k QX.1 QX.2.1 (t2 QX).1 (t3 QX) OJ.1 OJ.2.1 (t2 OJ).1 (t3 OJ).1 (t6 OJ).1 (t7 OJ).1 (t9 OJ).1 (t9 (t2 OJ)).1 (t9 (t3 OJ)).1 (t9 (t4 OJ)).1 (t9 (t5 OJ)).1 (t9 (t8 OJ)).1 (t9 (t9 OJ)).1 (t9 (t9 (t4 OJ))).1 (t9 (t9 (t5 OJ))).1 (t9 (t9 (t6 OJ))).1 (t4 OJ).1 (t5 OJ).1 (t8 OJ).1 (t9 OJ.2).1 (t9 (t6 OJ)).1 (t9 (t7 OJ)).1 (t9 (t9 OJ.2)).1 (t9 (t9 (t2 OJ))).1 (t9 (t9 (t3 OJ))).1 (t9 (t9 (t7 OJ))).1 (t9 (t9 (t8 OJ))))=some (t.YO (b,i',h'))/\vk b i' /\t.sm/\bW t=true:=fun r {i3} h3 c3 ro rs=>by
  have T8:=fx.made hk rs ro
  have YQ:=Py rs
  have nT:=H7 ro
  obtain ⟨o,i4,h4,e4,c4⟩:=aQ.ok k h3 6 c3
  cases o with
  |true=>
   have e5:=d_.eq hk 0 3 5
   generalize th [(0:Int),3,5] =x at e5
   have e6:=fB.eq hk YQ x
   have s1:=tf YQ x
   have s2:bW (jt (H6 r) x).1=true:=nF nT
   generalize jt (H6 r) x=q at e6 s1 s2
   exact ⟨q.1,i4,h4,(aa T8).trans ((aa e4).trans ((ai rfl).trans ((aa e5).trans (aa e6)))),c4,s1,s2⟩
  |false=>
   obtain ⟨y,i5,h5,e5,c5,_⟩:=aC.ok k h4 900 c4
   obtain ⟨u,eu,us,uT⟩:=bC.ok hk YQ nT y
   obtain ⟨z,i6,h6,e6,c6,p1,p2,_⟩:=aC.ok k h5 10 c5
   have p2:=p2 (by omega)
   have lp:=fun e0=>cA.loop (R:=Int×Int×Bool×Bool×List Int×List Int×Int×Int×List Int×Bool×List Int×Int×Int×Bool×Bool×List Int×List Int×Int×Int×List (List Int)×List Int×List Int×Int×Int×Int×List Int×List (List Int)×List Int×Int×Int) hk e0 z.toNat k h6 u c6 (by simp[cO] at hk;omega) (by omega) us uT
   rw[show ((z.toNat:Nat):Int)=z by omega] at lp
   obtain ⟨v,i7,h7,e7,c7,vs,vT⟩:=lp _
   obtain ⟨o2,i8,h8,e8,c8⟩:=aQ.ok k h7 2 c7
   have e9:=gg.eq hk vs
   have s1:=ql vs
   have s2:bW (fh v).1=true:=nF vT
   generalize fh v=q at e9 s1 s2
   cases o2 with
   |true=>exact ⟨q.1,i8,h8,(aa T8).trans ((aa e4).trans ((ab rfl).trans ((aa e5).trans ((aa eu).trans ((aa e6).trans (e7.trans ((aa e8).trans ((ai rfl).trans (aa e9))))))))),c8,s1,s2⟩
   |false=>exact ⟨v,i8,h8,(aa T8).trans ((aa e4).trans ((ab rfl).trans ((aa e5).trans ((aa eu).trans ((aa e6).trans (e7.trans ((aa e8).trans (ab rfl)))))))),c8,vs,vT⟩
 cases o with
 |true=>
  obtain ⟨x,i3,h3,e3,c3,p1,p2,_⟩:=aC.ok k h2 6 c2
  have p2:=p2 (by omega)
  have ex:IntKind.wrap .i64 (1+x)=1+x:=wrap_i64 (by omega) (by omega)
  obtain ⟨t,i',h',e,c',s1,s2⟩:=rest {r0 with l:=IntKind.wrap .i64 (1+x)} h3 c3 (by
   rw[ex]
   unfold Rl.ok oz at X6 ⊢
   simp only[Bool.and_eq_true] at X6 ⊢
   exact ⟨X6.1,eA.2 ⟨by omega,by omega⟩⟩) ⟨by show r0.w.length<_;omega,by show r0.f.length<_;omega⟩
  exact ⟨t,i',h',(aa e1).trans ((aa e2).trans ((ai rfl).trans ((aa e3).trans e))),c',s1,s2⟩
 |false=>
  obtain ⟨t,i',h',e,c',s1,s2⟩:=rest r0 h2 c2 X6 ⟨by omega,by omega⟩
  exact ⟨t,i',h',(aa e1).trans ((aa e2).trans ((ab rfl).trans e)),c',s1,s2⟩
theorem eY.refl {k:Nat} (hk:cO<=k) {t:Tb} (h:t.sm):t.ap (t.ap (eY.f k))=some true:=by
 have e1:=dW.eq hk t.r h.1
 have e2:=aI.eq hk (a:=t.dG) t.dG (by have:=h.2.1;omega)
 have e3:=aI.eq hk (a:=t.lK) t.lK (by have:=h.2.2.1;omega)
 have e4:=dD.eq hk t.g h.2.2.2.1
 have e5:=aI.eq hk (a:=t.rd) t.rd (by have:=h.2.2.2.2.1;omega)
 have e6:=bQ.eq hk (a:=t.gx) t.gx h.2.2.2.2.2
 rw[show yA t.r t.r=true by simp[yA,yz]] at e1
 rw[show yz t.dG t.dG=true by simp[yz]] at e2
 rw[show yz t.lK t.lK=true by simp[yz]] at e3
 rw[show Hm t.g t.g=true by simp[Hm,yA,yz,Hl]] at e4
 rw[show yz t.rd t.rd=true by simp[yz]] at e5
 rw[show Hl t.gx t.gx=true by simp[Hl]] at e6
 exact (aa e1).trans ((ai rfl).trans ((aa e2).trans ((ai rfl).trans ((ai (beq_self_eq_true t.on)).trans ((aa e3).trans ((ai rfl).trans ((aa e4).trans ((ai rfl).trans ((aa e5).trans ((ai rfl).trans (aa e6)))))))))))
theorem jx (a b:ByteArray):(a++b).size=a.size+b.size:=ByteArray.size_append
theorem BV {n:Int} (h: -1<=n):1<=(gP n).size:=by
 by_cases e:n= -1
 ·subst e;decide+kernel
 ·obtain ⟨m,rfl⟩: ∃m:Nat,n=(m:Int):=⟨n.toNat,by omega⟩
  rw[<- iA];exact List.length_pos_iff.2 (yH m).2.2
theorem one_pos (c:Int):1<=(nM c).size:=by
 unfold nM
 cases h:be c with
 |false=>rw[cond_false];decide
 |true=>
  obtain ⟨a,b,e,_⟩:=zE h
  rw[cond_true,<- iA,e];simp
theorem Rm (c:Int):1<=(vS c).size:=by
 unfold vS
 cases h:be c with
 |false=>cases c== -1<;>simp only[cond_true,cond_false]<;>decide
 |true=>
  obtain ⟨a,b,e,_⟩:=zE h
  rw[cond_true,<- iA,e];simp
theorem BW {f:ByteArray->Int->ByteArray} (hf: ∀b c,b.size+1<=(f b c).size): ∀(l:List Int) (b:ByteArray),b.size+l.length<=(l.foldl f b).size
 | [],b=>Nat.le_refl _
 |c::l,b=>by
  have h1:=hf b c
  have h2:=BW hf l (f b c)
  rw[List.foldl_cons,List.length_cons];omega
theorem H8 {l:List Int} (h:((l.length:Int)==0)=false):1<=l.length:=by have:=beq_eq_false_iff_ne.1 h;omega
theorem xq (l:List Int):1<=(im l).size:=by
 unfold im
 cases h:((l.length:Int)==0) with
 |true=>rw[cond_true];decide
 |false=>
  have:=BW (f:=cat) (fun b c=>by have:=one_pos c;show _<=(b++nM c).size;rw[jx];omega) l ByteArray.empty
  have:=H8 h
  rw[cond_false];omega
theorem H9 (l:List Int):1<=(xd l).size:=by
 unfold xd
 cases h:((l.length:Int)==0) with
 |true=>rw[cond_true];decide
 |false=>
  have:=BW (f:=vU) (fun b c=>by have:=Rm c;show _<=(b++vS c).size;rw[jx];omega) l ByteArray.empty
  have:=H8 h
  rw[cond_false];omega
theorem J0 {l:List ByteArray} (h: ∀y∈l,1<=y.size) (sep:ByteArray):1<=(tm l sep).size:=by
 unfold tm
 cases hb:((l.length:Int)==0) with
 |true=>rw[cond_true];decide
 |false=>
  have lG:l≠[]:=fun e=>by rw[e] at hb;cases hb
  have e:=List.dropLast_concat_getLast lG
  have hx:=h (l.getLast lG) (List.getLast_mem lG)
  rw[cond_false,<- e]
  by_cases hd:l.dropLast=[]
  ·rw[hd,List.nil_append,D0];exact hx
  ·rw[Bw hd,jx];omega
theorem rT (s:ByteArray) {o:ByteArray} (h:1<=o.size):1<=(pQ s o).size:=by
 have e:=BA s
 unfold E8 at e
 unfold pQ
 cases hb:s.toList==ByteArray.empty.toList with
 |true=>exact h
 |false=>
  rw[hb] at e
  have:(s.size==0)=false:=by simpa using e.symm
  have:=beq_eq_false_iff_ne.1 this
  rw[cond_false];omega
theorem kY (t:Tb) (i:Nat):1<=(jZ t i).size:=by
 unfold jZ
 split
 ·exact rT _ (by decide)
 ·unfold AQ;rw[jx];have:3<=(onB t.on).size:=by cases t.on<;>decide
  omega
 ·exact rT _ (by decide)
 ·exact xq _
 ·exact H9 _
 ·exact rT _ (by decide)
 ·exact rT _ (by decide)
theorem pT (l:List Int) (i:Nat):1<=(kL l i).size:=by
 unfold kL
 split
 ·exact J0 (fun y hy=>by obtain ⟨x,_,rfl⟩:=List.mem_map.1 hy;exact xq x) _
 ·exact BV (xj l).1
 ·unfold AS
  cases ((mV l).length:Int)==0 with
  |true=>rw[cond_true];decide
  |false=>rw[cond_false,jx,jx];have:(⟨#[58]⟩:ByteArray).size=1:=rfl
          omega
 ·exact BV (by omega)
theorem zS: ∀(l:List Int) (b:ByteArray),b.size<=(l.foldl kJ b).size
 | [],b=>Nat.le_refl _
 |n::l,b=>by
  have:=zS l (kJ b n)
  have h2:b.size<=(kJ b n).size:=by unfold kJ;rw[jx,jx];omega
  rw[List.foldl_cons];omega
theorem H_ (g:Gm) (me:Int):1<=(rO g me).size:=by
 unfold rO
 cases dy g&&kH me 0 ((g.hs.length:Int)-1) with
 |false=>show 1<=X4.size;decide
 |true=>
  rw[cond_true]
  unfold tz
  refine Nat.le_trans ?_ (zS _ _)
  rw[jx,jx]
  have:(⟨#[32]⟩:ByteArray).size=1:=rfl
  omega
theorem oR (t:Tb) (o:Option Tb):1<=(pg t o).2.size:=by
 cases o with
 |none=>show 1<=X4.size;decide
 |some u=>show 1<=okB.size;decide
theorem nS {b:Bool} {x y:Tb×ByteArray} (h1:1<=x.2.size) (h2:1<=y.2.size):1<=(bif b then x else y).2.size:=by cases b<;>assumption
theorem kG:1<=iq.size:=by decide
theorem J1 (t:Tb) (i:Nat) (ws:List ByteArray):1<=(jd t i ws).2.size:=by
 unfold jd
 split
 ·exact oR ..
 ·exact oR ..
 ·exact oR ..
 ·exact kY t 3
 ·exact kY t 4
 ·exact kY t 5
 ·exact kY t 6
 ·exact kY t 7
 ·exact kY t 8
 ·exact kY t 9
 ·exact nS (oR ..) kG
 ·exact nS (oR ..) kG
 ·exact nS (oR ..) kG
 ·exact nS (H_ ..) kG
 ·exact nS (pT _ 14) kG
 ·exact nS (pT _ 15) kG
 ·exact nS (pT _ 16) kG
 ·exact nS (pT _ 17) kG
 ·rename_i a b
  exact nS (BV (xk (Nat.lt_of_le_of_lt (lM a) (show 52<1048577 by decide)) (bJ b).1).1) kG
 ·exact kG
theorem zT (t:Tb) (s:ByteArray):1<=(gS t s).2.size:=by
 unfold gS
 split
 ·exact kG
 ·exact nS kG (J1 ..)
theorem yY {s:ByteArray} (h:1<=s.size):(s.toList==ByteArray.empty.toList)=false:=by
 have e:=BA s
 unfold E8 at e
 rw[show (s.size==0)=false from beq_eq_false_iff_ne.2 (by omega)] at e
 simpa using e
theorem nG {t:Tb} {o:Option Tb} (h:(pg t o).2=iq):(pg t o).1=t:=by
 cases o with
 |none=>rfl
 |some u=>exact absurd h (by show okB≠iq;decide)
theorem nU {b:Bool} {t:Tb} {x y:Tb×ByteArray} (h1:x.2=iq->x.1=t) (h2:y.2=iq->y.1=t) (h:(bif b then x else y).2=iq):(bif b then x else y).1=t:=by
 cases b with
 |true=>exact h1 h
 |false=>exact h2 h
theorem FG {t:Tb} {s:ByteArray} (h:(gS t s).2=iq):(gS t s).1=t:=by
 have cmd: ∀i ws,(jd t i ws).2=iq->(jd t i ws).1=t:=fun i ws=>by
  unfold jd
  split
  ·exact nG
  ·exact nG
  ·exact nG
  ·exact fun _=>rfl
  ·exact fun _=>rfl
  ·exact fun _=>rfl
  ·exact fun _=>rfl
  ·exact fun _=>rfl
  ·exact fun _=>rfl
  ·exact fun _=>rfl
  ·exact nU nG (fun _=>rfl)
  ·exact nU nG (fun _=>rfl)
  ·exact nU nG (fun _=>rfl)
  ·exact nU (fun _=>rfl) (fun _=>rfl)
  ·exact nU (fun _=>rfl) (fun _=>rfl)
  ·exact nU (fun _=>rfl) (fun _=>rfl)
  ·exact nU (fun _=>rfl) (fun _=>rfl)
  ·exact nU (fun _=>rfl) (fun _=>rfl)
  ·exact nU (fun _=>rfl) (fun _=>rfl)
  ·exact fun _=>rfl
 revert h
 unfold gS
 split
 ·exact fun _=>rfl
 ·exact nU (fun _=>rfl) (cmd _ _)
def SH (s:ByteArray):Nat:=match kX s with
 | []=>99
 |w::_=>ki w
def T9 (s:ByteArray):Bool:= !([0,1,2,10,11,12].contains (SH s))&&decide (s.size<100)
theorem uG {b:Bool} {t:Tb} {x y:ByteArray}:(bif b then (t,x) else (t,y)).1=t:=by cases b<;>rfl
theorem J2 {t:Tb} {i:Nat} (h:([0,1,2,10,11,12].contains i)=false) (ws:List ByteArray):(jd t i ws).1=t:=by
 unfold jd
 split
 ·simp at h
 ·simp at h
 ·simp at h
 ·rfl
 ·rfl
 ·rfl
 ·rfl
 ·rfl
 ·rfl
 ·rfl
 ·simp at h
 ·simp at h
 ·simp at h
 ·exact uG
 ·exact uG
 ·exact uG
 ·exact uG
 ·exact uG
 ·exact uG
 ·rfl
theorem Ia {t:Tb} {s:ByteArray} (h:T9 s=true):(gS t s).1=t:=by
 obtain ⟨h1,_⟩:=aE h
 unfold SH at h1
 unfold gS
 cases hw:kX s with
 |nil=>rfl
 |cons w ws=>
  rw[hw] at h1
  have h1:([0,1,2,10,11,12].contains (ki w))=false:=by simpa using h1
  show (bif _ then _ else jd t (ki w) ws).1=t
  cases decide ((s.size:Int)>200) with
  |true=>rfl
  |false=>exact J2 h1 ws
theorem aM.asks {R:Type} {k:Nat} (hk:cO<=k) {t:Tb} (ht:t.sm) (hw:t.ws) {qs:List ByteArray} (ha:qs.all T9=true) (hl:qs.length<1000) (e0 e1:Option R): ∀(m i n:Nat),i+m=qs.length->m<n->t.pm (aM.l8 k (qs.length:Int)) qs e0 e1 n (i:Int)=e1
 |m,i,0,_,h=>absurd h (by omega)
 |0,i,n+1,hi,_=>(ab (aH (by omega))).trans rfl
 |m+1,i,n+1,hi,hn=>by
  have hq:i<qs.length:=by omega
  have et:qs.getD ((i:Int)).toNat ByteArray.empty=qs[i]:=by rw[Int.toNat_natCast,aD _ hq]
  have hb:=List.all_eq_true.1 ha qs[i] (List.getElem_mem hq)
  have mL:=of_decide_eq_true (aE hb).2
  have he:=cL.eq hk ht hw (s:=qs[i]) (by omega)
  have WD:=Ia (t:=t) hb
  have hp:=zT t qs[i]
  generalize gS t qs[i] =q at he WD hp
  obtain ⟨u,x⟩:=q
  have WD:u=t:=WD
  subst WD
  have ih:=aM.asks hk ht hw ha hl e0 e1 m (i+1) n (by omega) (by omega)
  rw[<- aL (by omega)] at ih
  rw[<- et] at he
  exact (ai (ae (by omega))).trans ((af (bP hq)).trans ((aa he).trans ((aa (eY.refl hk ht)).trans ((ab rfl).trans ((ab (yY hp)).trans ih)))))
def Eh (s:ByteArray):Nat->Nat->Nat
 |0,_=>0
 |m+1,i=>(bif sb s i==10 then 1 else 0)+Eh s m (i+1)
theorem aM.count {R:Type} (k:Nat) {s:ByteArray} (hs:s.size<1048577) (e0:Int->Option R): ∀(m i n v:Nat),i+m=s.size->m<n->v<=i->aM.To k s e0 n (v:Int) (i:Int)=e0 ((v+Eh s m i:Nat):Int)
 |m,i,0,v,_,h,_=>absurd h (by omega)
 |0,i,n+1,v,hi,_,_=>(aM.G_ ..).trans (ab (aH (by omega)))
 |m+1,i,n+1,v,hi,hn,hv=>by
  refine (aM.G_ ..).trans ((ai (ae (by omega))).trans ((af (bi (ae (by omega)) (ae (by omega)))).trans ?_))
  rw[show ((i:Int)).toNat=i from Int.toNat_natCast i,aL (by omega),aL (by omega)]
  unfold Eh
  cases sb s i==10 with
  |true=>
   refine (ai rfl).trans ((aM.count k hs e0 m (i+1) n (v+1) (by omega) (by omega) (by omega)).trans ?_)
   rw[cond_true,Nat.add_assoc]
  |false=>
   refine (ab rfl).trans ((aM.count k hs e0 m (i+1) n v (by omega) (by omega) (by omega)).trans ?_)
   rw[cond_false,Nat.zero_add]
theorem yZ (s:ByteArray): ∀(m a i:Nat),i+m=s.size->a<=i->(m=0->a=i)->(0<m->sb s (s.size-1)=10)->(tB (vQ s 10 m a i)).length=Eh s m i
 |0,a,i,hi,_,h0,_=>by
  have e:E8 (s.extract a i)=false:=by
   rw[BA,ByteArray.size_extract,h0 rfl];simp;omega
  unfold vQ tB
  rw[e];rfl
 |m+1,a,i,hi,ha,_,h1=>by
  unfold vQ Eh
  cases hb:sb s i==10 with
  |true=>
   have ih:=yZ s m (i+1) (i+1) (by omega) (Nat.le_refl _) (fun _=>rfl) (fun _=>h1 (by omega))
   simp only[cond_true]
   rw[JY (Lj _ _ _ _ _),List.length_cons,ih];omega
  |false=>
   have hm:m≠0:=fun e=>by
    have:=h1 (by omega)
    rw[show s.size-1=i by omega] at this
    rw[this] at hb;cases hb
   have ih:=yZ s m a (i+1) (by omega) (by omega) (fun e=>absurd e hm) (fun _=>h1 (by omega))
   simp only[cond_false]
   rw[ih];omega
def Ei (s:ByteArray):Prop:=s.size=0\/sb s (s.size-1)=10
theorem FH {s:ByteArray} (h:Ei s):(kF s).length=Eh s s.size 0:=by
 refine yZ s s.size 0 0 (by omega) (Nat.le_refl _) (fun _=>rfl) (fun h0=> ?_)
 rcases h with h|h
 ·omega
 ·exact h
theorem Ll {x y:ByteArray} {b:UInt8} {l:List UInt8} (h:y.data.toList=l++[b]):sb (x++y) ((x++y).size-1)=(b.toNat:Int):=by
 have hl:(x++y).data.toList=(x.data.toList++l)++[b]:=by rw[yG,h,List.append_assoc]
 have hn:(x++y).size-1=(x.data.toList++l).length:=by
  have:=iA (x++y)
  rw[hl,List.length_append,List.length_singleton] at this
  omega
 exact JE (l:=[]) (by rw[hn,hl,List.drop_left])
def Lm:List ByteArray:=[(⟨#[110,101,119]⟩:ByteArray),(⟨#[98,101,103,105,110,32,49,32,50,32,51]⟩:ByteArray),(⟨#[98,101,103,105,110,32,55,32,56]⟩:ByteArray),(⟨#[98,101,103,105,110,32,49,32,50,32,45,51]⟩:ByteArray),(⟨#[112,108,97,121,32,65,99]⟩:ByteArray),(⟨#[112,108,97,121,32,55,104]⟩:ByteArray),(⟨#[112,108,97,121,32,120]⟩:ByteArray),(⟨#[116,97,107,101]⟩:ByteArray),(⟨#[115,101,116,116,108,101]⟩:ByteArray),(⟨#[97,117,116,111,32,48]⟩:ByteArray),(⟨#[97,117,116,111,32,49]⟩:ByteArray),(⟨#[97,117,116,111,32,50]⟩:ByteArray),(⟨#[97,117,116,111,32,51]⟩:ByteArray),(⟨#[97,117,116,111,32,57]⟩:ByteArray),(⟨#[97,117,116,111,32,48]⟩:ByteArray),(⟨#[97,117,116,111,32,48]⟩:ByteArray),(⟨#[114,117,108,101,115]⟩:ByteArray),(⟨#[116,97,98,108,101]⟩:ByteArray),(⟨#[103,97,109,101]⟩:ByteArray),(⟨#[115,101,101,32,48]⟩:ByteArray),(⟨#[115,101,101,32,53]⟩:ByteArray),(⟨#[99,97,110]⟩:ByteArray),(⟨#[114,101,99,111,114,100]⟩:ByteArray),(⟨#[115,104,101,101,116]⟩:ByteArray),(⟨#[97,117,100,105,116]⟩:ByteArray),(⟨#[109,101,108,100,115,32,50,99,51,99,52,99,50,100,50,104]⟩:ByteArray),(⟨#[109,101,108,100,115,32,50,99,50,99]⟩:ByteArray),(⟨#[108,101,102,116,32,50,99,51,99,52,99,75,100]⟩:ByteArray),(⟨#[108,101,102,116,32,45]⟩:ByteArray),(⟨#[107,105,110,100,32,84,99,74,99,81,99,75,99,65,99]⟩:ByteArray),(⟨#[107,105,110,100,32,50,99]⟩:ByteArray),(⟨#[99,111,117,110,116,32,40,114,38,74,43,41]⟩:ByteArray),(⟨#[99,111,117,110,116,32,120]⟩:ByteArray),(⟨#[99,111,117,110,116,32,55]⟩:ByteArray),(⟨#[119,105,110,115,32,50,99,57,99,65,100,32,49]⟩:ByteArray),(⟨#[119,105,110,115,32,50,99,57,99,65,100]⟩:ByteArray),ByteArray.empty,(⟨#[119,104,97,116]⟩:ByteArray),(⟨#[116,97,107,101,32,49]⟩:ByteArray),(⟨#[103,97,109,101,32,49]⟩:ByteArray)]
theorem J3:(Lm.all fun s=>decide (s.size<=40))=true:=by decide+kernel
theorem mi.ok (k:Nat) {b:List Int} {i:Int} (h:Int) {l:List ByteArray} (hl:0<l.length) (hc:vk b i): ∃x i' h',mi.f k b i h l=some (x,b,i',h')/\vk b i' /\x∈l:=by
 obtain ⟨x,i1,h1,e1,c1,p1,p2,_⟩:=aC.ok k h (l.length:Int) hc
 have p2:=p2 (by omega)
 refine ⟨l.getD x.toNat ByteArray.empty,i1,h1,(aa e1).trans (af (bi (ae p1) (ae p2))),c1,?_⟩
 rw[aD _ (by omega)]
 exact List.getElem_mem _
theorem gI.ok (k:Nat) {b:List Int} {i:Int} (h:Int) (hc:vk b i): ∃x i' h',gI.f k b i h=some (x,b,i',h')/\vk b i' /\x.size<=40:=by
 obtain ⟨x,i1,h1,e1,c1,hm⟩:=mi.ok k h (l:=Lm) (by decide) hc
 exact ⟨x,i1,h1,aa e1,c1,of_decide_eq_true (List.all_eq_true.1 J3 x hm)⟩
theorem eR.ok {k:Nat} (hk:cO<=k) {a:List Int} (ha:a.length<1048577): ∃(t:Tb) (s:ByteArray),eR.f k a=some (t.Vo s)/\t.sm/\bW t=true/\s.size<=40:=by
 obtain ⟨h0,e0,c0⟩:=dU.ok hk ha
 obtain ⟨t,i1,h1,e1,c1,ts,tT⟩:=cA.ok hk h0 c0
 obtain ⟨o,i2,h2,e2,c2⟩:=aQ.ok k h1 4 c1
 obtain ⟨s,i3,h3,e3,c3,hs⟩:=gI.ok k h2 c2
 have pre: ∀X,_=X->eR.f k a=X:=fun X hX=>(aa e0).trans ((aa e1).trans ((aa e2).trans hX))
 cases o with
 |true=>exact ⟨pb,s,pre _ ((ai rfl).trans ((aa (a:=oo.tp) rfl).trans ((aa (Pd hk)).trans (aa e3)))),D4,xn,hs⟩
 |false=>exact ⟨t,s,pre _ ((ab rfl).trans (aa e3)),ts,tT,hs⟩
theorem Ln (k:Nat) (e0:ByteArray->Option ByteArray): ∀(m i n:Nat) (v:ByteArray),i+m=61->m<n->v.size<=6*i->Ei v-> ∃w,az.l5 k e0 n v (i:Int)=e0 w/\w.size<=366/\Ei w
 |m,i,0,v,_,h,_,_=>absurd h (by omega)
 |0,i,n+1,v,hi,_,hv,hz=>⟨v,(az.bp ..).trans (ab (aH (by omega))),by omega,hz⟩
 |m+1,i,n+1,v,hi,hn,hv,hz=>by
  have e6:(⟨#[116,97,98,108,101,10]⟩:ByteArray).size=6:=rfl
  obtain ⟨w,h1,h2,h3⟩:=Ln k e0 m (i+1) n (v++⟨#[116,97,98,108,101,10]⟩) (by omega) (by omega) (by rw[jx,e6];omega) (.inr (Ll (b:=10) (l:=[116,97,98,108,101]) rfl))
  refine ⟨w,(az.bp ..).trans ((ai (ae (by omega))).trans ((af (kw (by rw[e6];omega))).trans ?_)),h2,h3⟩
  rw[aL (by omega)];exact h1
theorem y0 {k:Nat} (e0:ByteArray->Option ByteArray) {b:List Int}: ∀(m n:Nat) {i:Int} (h:Int) (v:ByteArray),vk b i->m<=10->m<n->v.size+41*m<=1000->Ei v-> ∃w,az.G0 k e0 n v (m:Int) b i h=e0 w/\w.size<=1000/\Ei w
 |m,0,_,_,_,_,_,h,_,_=>absurd h (by omega)
 |0,n+1,i,h,v,hc,_,_,hv,hz=>⟨v,(az.n5 ..).trans (ab (aH (by omega))),by omega,hz⟩
 |m+1,n+1,i,h,v,hc,hm,hn,hv,hz=>by
  obtain ⟨x,i1,h1,e1,c1,hx⟩:=gI.ok k h hc
  have e10:(⟨#[10]⟩:ByteArray).size=1:=rfl
  obtain ⟨w,g1,g2,g3⟩:=y0 e0 m n h1 ((v++x)++⟨#[10]⟩) c1 (by omega) (by omega) (by rw[jx,jx,e10];omega) (.inr (Ll (b:=10) (l:=[]) rfl))
  refine ⟨w,(az.n5 ..).trans ((ai (ae (by omega))).trans ((aa e1).trans ((af (kw (by dsimp only;omega))).trans ((af (kw (by dsimp only;rw[jx,e10];omega))).trans ?_)))),g2,g3⟩
  rw[D9 (by omega)];exact g1
theorem az.ok {k:Nat} (hk:cO<=k) {a:List Int} (ha:a.length<1048577): ∃s:ByteArray,az.f k a=some s/\s.size<=1000/\Ei s:=by
 obtain ⟨h0,e0,c0⟩:=dU.ok hk ha
 obtain ⟨o,i1,h1,e1,c1⟩:=aQ.ok k h0 20 c0
 cases o with
 |true=>
  obtain ⟨w,g1,g2,g3⟩:=Ln k (fun x3=>some x3) 61 0 k ByteArray.empty (by omega) (by simp[cO] at hk;omega) (by decide) (.inl rfl)
  exact ⟨w,(aa e0).trans ((aa e1).trans ((ai rfl).trans g1)),by omega,g3⟩
 |false=>
  obtain ⟨o2,i2,h2,e2,c2⟩:=aQ.ok k h1 4 c1
  obtain ⟨x,i3,h3,e3,c3,p1,p2,_⟩:=aC.ok k h2 10 c2
  have p2:=p2 (by omega)
  obtain ⟨m,rfl⟩: ∃m:Nat,x=(m:Int):=⟨x.toNat,by omega⟩
  cases o2 with
  |false=>
   obtain ⟨w,g1,g2,g3⟩:=y0 (k:=k) (fun x7=>some x7) m k h3 ⟨#[110,101,119,10,98,101,103,105,110,32,49,32,50,32,51,10,97,117,116,111,32,48,10]⟩ c3 (by omega) (by simp[cO] at hk;omega) (by show 23+_<=1000;omega) (.inr (by decide+kernel))
   exact ⟨w,(aa e0).trans ((aa e1).trans ((ab rfl).trans ((aa e2).trans ((ai rfl).trans ((aa e3).trans g1))))),g2,g3⟩
  |true=>
   obtain ⟨w,g1,g2,g3⟩:=y0 (k:=k) (fun x7=>some x7) m k h3 ByteArray.empty c3 (by omega) (by simp[cO] at hk;omega) (by show 0+_<=1000;omega) (.inl rfl)
   exact ⟨w,(aa e0).trans ((aa e1).trans ((ab rfl).trans ((aa e2).trans ((ab rfl).trans ((aa e3).trans g1))))),g2,g3⟩
def T_:List ByteArray:=[(⟨#[114,117,108,101,115]⟩:ByteArray),(⟨#[116,97,98,108,101]⟩:ByteArray),(⟨#[103,97,109,101]⟩:ByteArray),(⟨#[115,101,101,32,48]⟩:ByteArray),(⟨#[99,97,110]⟩:ByteArray),(⟨#[114,101,99,111,114,100]⟩:ByteArray),(⟨#[115,104,101,101,116]⟩:ByteArray),(⟨#[97,117,100,105,116]⟩:ByteArray),(⟨#[108,101,102,116,32,50,99,51,99,52,99,75,100]⟩:ByteArray),(⟨#[99,111,117,110,116,32,114]⟩:ByteArray),ByteArray.empty]
theorem M9:T_.all T9=true:=by decide+kernel
def Rn (k:Nat) (a:List Int):Option Bool:=
 (az.f k a).bind fun r7=>
 (bw.f k r7).bind fun r8=>
 aM.To k r7 (fun x9=>
  bif r8.2 then
   bif ((r8.1.length:Int)==x9) then
    some true
   else
    bif (!r8.2) then
     bif ((r8.1.length:Int)==0) then
      some (decide (x9>60))
     else
      some false
    else
     some false
  else
   bif (!r8.2) then
    bif ((r8.1.length:Int)==0) then
     some (decide (x9>60))
    else
     some false
   else
    some false) k 0 0
theorem J4 {k:Nat} (hk:cO<=k) {a:List Int} (ha:a.length<1048577):Rn k a=some true:=by
 obtain ⟨s,e,hs,hz⟩:=az.ok hk ha
 have hc:=FH hz
 refine (aa e).trans ((aa (bw.eq hk (s:=s) (by omega))).trans ((aM.count k (by omega) _ s.size 0 k 0 (by omega) (by simp[cO] at hk;omega) (Nat.le_refl _)).trans ?_))
 rw[Nat.zero_add,<- hc]
 unfold FE
 cases h:decide (((kF s).length:Int)>60) with
 |true=>exact (ab rfl).trans ((ai rfl).trans ((ai rfl).trans rfl))
 |false=>
  refine (ai rfl).trans (ai ?_)
  show (((rS (kF s) zR).length:Int)==_)=true
  rw[BT];simp
theorem aM.eq {k:Nat} (hk:cO<=k) {a:List Int} (_ja:a.length<=maxLen) (_ia: ∀n∈a,ry .u8 n):aM.f k a=some true:=by
 by_cases hb:(a.length:Int)>1048576
 ·exact (aa rfl).trans (ai (ae hb))
 ·have ha:a.length<1048577:=by omega
  have rest:=J4 hk ha
  obtain ⟨t,s,e,ts,tT,hs⟩:=eR.ok hk ha
  have tw:=(zQ tT).2.2
  have ec:=cL.eq hk ts tw (s:=s) (by omega)
  have usm:=BR ts s
  have ugd:=xp (z:=zR) (.inl tT) s
  have hw:=FG (t:=t) (s:=s)
  have hp:=zT t s
  generalize gS t s=q at ec usm ugd hw hp
  have uw:=(BS ugd).2.2.1
  have asks:=fun e0 e1=>aM.asks (R:=Bool) hk usm uw M9 (by decide) e0 e1 11 0 k rfl (by simp[cO] at hk;omega)
  refine (aa rfl).trans ((ab (aH hb)).trans ((aa e).trans ((aa ec).trans ?_)))
  cases hx:(q.2.toList==(⟨#[119,104,97,116]⟩:ByteArray).toList) with
  |true=>
   have ex:q.2=iq:=by
    rw[ku] at hx
    exact uq (of_decide_eq_true hx)
   have eqT:t.ap (q.1.ap (eY.f k))=some true:=by rw[hw ex];exact eY.refl hk ts
   exact (ai rfl).trans ((aa eqT).trans ((ab rfl).trans ((ab (yY hp)).trans ((asks _ _).trans rest))))
  |false=>exact (ab rfl).trans ((ab (yY hp)).trans ((asks _ _).trans rest))
end Go.Proofs.YtbmmhdmljajcfaaGreatDoor
