/- Plain laws of the program's functions, joined. Conditions: as each theorem says. -/
import Derived.Test.YtbmmhdmljajcfaaGreatDoorKit
import Derived.Test.YtbmmhdmljajcfaaGreatDoorFFnSteps
import Derived.Test.YtbmmhdmljajcfaaGreatDoorPP0
import Derived.Test.YtbmmhdmljajcfaaGreatDoorVExt
import Derived.Test.YtbmmhdmljajcfaaGreatDoorNote
set_option linter.unusedVariables false
set_option linter.unusedSimpArgs false
set_option linter.unusedSectionVars false
namespace Go.Proofs.YtbmmhdmljajcfaaGreatDoor
open Go Go.Proofs.YtbmmhdmljajcfaaGreatDoor.V
def xR:ByteArray:=⟨#[50,51,52,53,54,55,56,57,84,74,81,75,65]⟩
def MU:ByteArray:=⟨#[99,100,104,115]⟩
def sH (a:Int):ByteArray:=
 bif a==400 then ⟨#[114]⟩ else bif decide (a>=300) then xR.extract (a-300).toNat ((a-300)+1).toNat++(⟨#[43]⟩:ByteArray)
 else bif decide (a>=200) then xR.extract (a-200).toNat ((a-200)+1).toNat else MU.extract (a-100).toNat ((a-100)+1).toNat
theorem tw {a:Int} (h:gR a=true):(100<=a/\a<=103)\/(200<=a/\a<=212)\/(300<=a/\a<=312)\/a=400:=by
 unfold gR jJ at h
 simp only[Bool.or_eq_true,Bool.and_eq_true,decide_eq_true_eq,beq_iff_eq] at h
 omega
theorem yP {R:Type} {x:Int} (h0:0<=x) (h1:x<=12) (X:Option R):(aC ((decide (0<=(IntKind.wrap .i64 (x+1))))&&(decide ((IntKind.wrap .i64 (x+1))<=13)))<|aC ((decide (0<=x))&&(decide (x<=(IntKind.wrap .i64 (x+1)))))<|X)=X:=by
 rw[wrap_i64 (n:=x+1) (by omega) (by omega)]
 exact (ab (ch (ae (by omega)) (ae (by omega)))).trans (ab (ch (ae (by omega)) (ae (by omega))))
theorem Eh {R:Type} {x:Int} (h0:0<=x) (h1:x<=3) (X:Option R):(aC ((decide (0<=(IntKind.wrap .i64 (x+1))))&&(decide ((IntKind.wrap .i64 (x+1))<=4)))<|aC ((decide (0<=x))&&(decide (x<=(IntKind.wrap .i64 (x+1)))))<|X)=X:=by
 rw[wrap_i64 (n:=x+1) (by omega) (by omega)]
 exact (ab (ch (ae (by omega)) (ae (by omega)))).trans (ab (ch (ae (by omega)) (ae (by omega))))
theorem yQ (x:ByteArray) (n:Int) (h0:0<=n) (h:n+1<=x.size):(x.extract n.toNat (n+1).toNat).size=1:=by rw[ByteArray.size_extract];omega
theorem gg.eq (k:Nat) {x:Int} (h0:0<=x) (h1:x<=12):gg.f k x=some (xR.extract x.toNat (x+1).toNat):=by
 unfold gg.f
 rw[yP h0 h1,wrap_i64 (n:=x+1) (by omega) (by omega)];rfl
theorem iP.eq (k:Nat) {a:Int} (h:gR a=true):iP.f k a=some (sH a):=by
 have e1:xR.size=13:=rfl
 have hc:=tw h
 unfold iP.f sH
 by_cases h4:a=400
 ·subst h4;rfl
 have RD:(a==(400:Int))=false:=by simp[h4]
 rw[RD,cond_false,cond_false]
 by_cases h3:a>=300
 ·rw[ak (ae h3),ak (ae h3),wrap_i64 (by omega) (by omega)]
  refine (aa (gg.eq k (by omega) (by omega))).trans (ab (ae ?_))
  rw[yQ xR _ (by omega) (by omega)];decide
 rw[af (aM h3),af (aM h3)]
 by_cases h2:a>=200
 ·rw[ak (ae h2),ak (ae h2),wrap_i64 (by omega) (by omega)]
  exact aa (gg.eq k (by omega) (by omega))
 rw[af (aM h2),af (aM h2),wrap_i64 (n:=a-100) (by omega) (by omega),Eh (by omega) (by omega),wrap_i64 (by omega) (by omega)]
 rfl
theorem fZ.eq (k:Nat) {a:Int} (h:gR a=true):fZ.f k a=some (sH a):=by
 have e1:xR.size=13:=rfl
 have hc:=tw h
 unfold fZ.f sH
 by_cases h4:a=400
 ·subst h4;rfl
 have RD:(a==(400:Int))=false:=by simp[h4]
 rw[RD,cond_false,cond_false]
 by_cases h3:a>=300
 ·rw[ak (ae h3),ak (ae h3),wrap_i64 (n:=a-300) (by omega) (by omega),yP (by omega) (by omega),wrap_i64 (by omega) (by omega)]
  refine ab (ae ?_)
  have:=yQ xR (a-300) (by omega) (by omega)
  show (xR.extract _ _).size+_<=_
  rw[this];decide
 rw[af (aM h3),af (aM h3)]
 by_cases h2:a>=200
 ·rw[ak (ae h2),ak (ae h2),wrap_i64 (n:=a-200) (by omega) (by omega),yP (by omega) (by omega),wrap_i64 (by omega) (by omega)]
  rfl
 rw[af (aM h2),af (aM h2),wrap_i64 (n:=a-100) (by omega) (by omega),Eh (by omega) (by omega),wrap_i64 (by omega) (by omega)]
 rfl
def Kg (a:Int):Nat:=if a= -1 then 1 else if a= -2\/a= -3 then 3 else if a>=300/\a≠400 then 2 else 1
def pH (b:ByteArray):Prop:= ∀x∈b.data.toList,x≠32
theorem o5 {a b:ByteArray} (h:pH a) (h':pH b):pH (a++b):=fun x hx=>by
 rw[ol] at hx
 rcases List.mem_append.1 hx with h1|h1
 ·exact h x h1
 ·exact h' x h1
theorem Ha {s:ByteArray} (h:pH s) (a b:Nat):pH (s.extract a b):=fun x hx=>by
 rw[ByteArray.data_extract,Array.toList_extract] at hx
 exact h x (List.mem_of_mem_drop (List.mem_of_mem_take (by simpa[List.extract_eq_take_drop] using hx)))
theorem o6 {c:UInt8} (h:c≠32):pH ⟨#[c]⟩:=fun x hx=>by
 have:x=c:=by simpa using hx
 rw[this];exact h
theorem BH:pH ByteArray.empty:=fun x hx=>by cases hx
theorem Iw:pH xR:=by unfold pH;decide+kernel
theorem MV:pH MU:=by unfold pH;decide+kernel
theorem Ei {a:Int} (h:gR a=true):(sH a).size=Kg a/\pH (sH a):=by
 have e1:xR.size=13:=rfl
 have e2:MU.size=4:=rfl
 have hc:=tw h
 unfold sH Kg
 rw[if_neg (by omega),if_neg (by omega)]
 by_cases h4:a=400
 ·subst h4;exact ⟨rfl,o6 (by decide)⟩
 have RD:(a==(400:Int))=false:=by simp[h4]
 rw[RD,cond_false]
 by_cases h3:a>=300
 ·rw[ak (ae h3),if_pos ⟨h3,h4⟩]
  refine ⟨?_,o5 (Ha Iw _ _) (o6 (by decide))⟩
  rw[ByteArray.size_append,yQ xR _ (by omega) (by omega)];rfl
 rw[af (aM h3),if_neg (by omega)]
 by_cases h2:a>=200
 ·rw[ak (ae h2)]
  exact ⟨yQ xR _ (by omega) (by omega),Ha Iw _ _⟩
 rw[af (aM h2)]
 exact ⟨yQ MU _ (by omega) (by omega),Ha MV _ _⟩
def BI (c:UInt8) (x y:ByteArray):ByteArray:=((((⟨#[40]⟩:ByteArray)++x)++(⟨#[c]⟩:ByteArray))++y)++(⟨#[41]⟩:ByteArray)
def fp (p:List ByteArray) (a:Int):List ByteArray:=
 bif a== -1 then p.set (p.length-1) ((⟨#[33]⟩:ByteArray)++p.getD (p.length-1) ByteArray.empty)
 else bif a== -2 then p.take (p.length-2)++[BI 38 (p.getD (p.length-2) ByteArray.empty) (p.getD (p.length-1) ByteArray.empty)]
 else bif a== -3 then p.take (p.length-2)++[BI 124 (p.getD (p.length-2) ByteArray.empty) (p.getD (p.length-1) ByteArray.empty)]
 else p++[sH a]
def total:List ByteArray->Nat
 | []=>0
 |b::l=>b.size+total l
theorem ly: ∀(l l':List ByteArray),total (l++l')=total l+total l'
 | [],l'=>by simp[total]
 |b::l,l'=>by simp only[List.cons_append,total,ly l l'];omega
theorem qG: ∀(l:List ByteArray) (j:Nat),(l.getD j ByteArray.empty).size<=total l
 | [],j=>by simp
 |b::l,0=>by simp[total]
 |b::l,j+1=>by have:=qG l j;simp only[List.getD_cons_succ,total];omega
theorem yR {p:List ByteArray} (h:1<=p.length): ∃q x,p=q++[x]:=
 ⟨p.dropLast,p.getLast (List.ne_nil_of_length_pos h),(List.dropLast_concat_getLast _).symm⟩
theorem KY {p:List ByteArray} (h:2<=p.length): ∃q x y,p=q++[x]++[y]:=by
 obtain ⟨q,y,rfl⟩:=yR (p:=p) (by omega)
 obtain ⟨q,x,rfl⟩:=yR (p:=q) (by simp at h;omega)
 exact ⟨q,x,y,rfl⟩
theorem xm {d a:Int} (h:fx d a=true):gR a=true\/(a= -1/\1<=d)\/((a= -2\/a= -3)/\2<=d):=by
 unfold fx at h
 simp only[Bool.or_eq_true,Bool.and_eq_true,decide_eq_true_eq,beq_iff_eq] at h
 rcases h with (h|h)|h
 ·exact .inl h
 ·exact .inr (.inl h)
 ·exact .inr (.inr h)
theorem mS {p:List ByteArray} {a:Int} (h:fx (p.length:Int) a=true):total (fp p a)=total p+Kg a/\((fp p a).length:Int)=im p.length a/\((∀w∈p,pH w)-> ∀w∈fp p a,pH w):=by
 rcases xm h with hl| ⟨rfl,hd⟩| ⟨ha,hd⟩
 ·obtain ⟨h1,h2,h3⟩:=ue hl
  obtain ⟨s1,s2⟩:=Ei hl
  have e:fp p a=p++[sH a]:=by
   unfold fp
   rw[show (a==(-1:Int))=false by simp[h1],show (a==(-2:Int))=false by simp[h2],show (a==(-3:Int))=false by simp[h3]];rfl
  rw[e]
  refine ⟨by rw[ly];simp only[total];omega,?_,fun hp w hw=> ?_⟩
  ·unfold im;rw[hl,cond_true,List.length_append,List.length_singleton];omega
  ·rcases List.mem_append.1 hw with hw|hw
   ·exact hp w hw
   ·rw[List.mem_singleton.1 hw];exact s2
 ·obtain ⟨q,x,rfl⟩:=yR (p:=p) (by omega)
  have e:fp (q++[x]) (-1)=q++[(⟨#[33]⟩:ByteArray)++x]:=by
   show (q++[x]).set _ _=_
   rw[List.length_append,List.length_singleton,Nat.add_sub_cancel,show (q++[x]).getD q.length ByteArray.empty=x by simp[List.getD],List.set_append_right _ _ (Nat.le_refl _),Nat.sub_self];rfl
  rw[e]
  refine ⟨?_,?_,fun hp w hw=> ?_⟩
  ·rw[ly,ly];simp only[total,ByteArray.size_append]
   rw[show (⟨#[33]⟩:ByteArray).size=1 from rfl,show Kg (-1)=1 from rfl];omega
  ·unfold im;rw[show gR (-1)=false by decide];simp
  ·rcases List.mem_append.1 hw with hw|hw
   ·exact hp w (List.mem_append_left _ hw)
   ·rw[List.mem_singleton.1 hw];exact o5 (o6 (by decide)) (hp x (by simp))
 ·obtain ⟨q,x,y,rfl⟩:=KY (p:=p) (by omega)
  have hlen:(q++[x]++[y]).length=q.length+2:=by simp
  have g1:(q++[x]++[y]).getD (q.length+2-2) ByteArray.empty=x:=by simp[List.getD]
  have g2:(q++[x]++[y]).getD (q.length+2-1) ByteArray.empty=y:=by simp[List.getD]
  have g3:(q++[x]++[y]).take (q.length+2-2)=q:=by simp
  obtain ⟨c,hc,e⟩: ∃c,c≠32/\fp (q++[x]++[y]) a=q++[BI c x y]:=by
   rcases ha with rfl|rfl
   ·refine ⟨38,by decide,?_⟩
    show (q++[x]++[y]).take _++[BI 38 _ _] =_
    rw[hlen,g1,g2,g3]
   ·refine ⟨124,by decide,?_⟩
    show (q++[x]++[y]).take _++[BI 124 _ _] =_
    rw[hlen,g1,g2,g3]
  rw[e]
  refine ⟨?_,?_,fun hp w hw=> ?_⟩
  ·have Wz:Kg a=3:=by rcases ha with rfl|rfl<;>rfl
   rw[ly,ly,ly,Wz];simp only[total,BI,ByteArray.size_append]
   rw[show (⟨#[40]⟩:ByteArray).size=1 from rfl,show (⟨#[41]⟩:ByteArray).size=1 from rfl,show (⟨#[c]⟩:ByteArray).size=1 from rfl];omega
  ·rw[hlen]
   have:im ((q.length+2:Nat):Int) a=((q.length+2:Nat):Int)-1:=by
    unfold im
    rcases ha with rfl|rfl
    ·rw[show gR (-2)=false by decide];rfl
    ·rw[show gR (-3)=false by decide];rfl
   rw[this,List.length_append,List.length_singleton];omega
  ·rcases List.mem_append.1 hw with hw|hw
   ·exact hp w (by simp[hw])
   ·rw[List.mem_singleton.1 hw]
    exact o5 (o5 (o5 (o5 (o6 (by decide)) (hp x (by simp))) (o6 hc)) (hp y (by simp))) (o6 (by decide))
theorem Hb (a:Int):Kg a<=3/\1<=Kg a:=by unfold Kg;split<;>(try split)<;>(try split)<;>omega
theorem Ix {n:Nat} (h:n<=1000):decide (n*16<=room)=true:=ae (by unfold room;omega)
theorem yS {d:Nat} (h:1<=d) (h':d<=1000):IntKind.wrap .i64 ((d:Int)-1)=((d-1:Nat):Int):=by rw[wrap_i64 (by omega) (by omega)];omega
theorem Ej {d:Nat} (h:2<=d) (h':d<=1000):IntKind.wrap .i64 ((d:Int)-2)=((d-2:Nat):Int):=by rw[wrap_i64 (by omega) (by omega)];omega
theorem yT {R:Type} {p:List ByteArray} {a:Int} (h:fx (p.length:Int) a=true) (hp:p.length<=100) (hB:total p<=100) (K:List ByteArray->Option R) (E:Option R) (hE:gR a=true->E=K (p++[sH a])):
 (bif (a==(-1)) then
   aC ((decide (0<=(IntKind.wrap .i64 ((p.length:Int)-1))))&&(decide ((IntKind.wrap .i64 ((p.length:Int)-1))<(p.length:Int))))<|
   aC (decide ((⟨#[33]⟩:ByteArray).size+(p.getD ((IntKind.wrap .i64 ((p.length:Int)-1)).toNat) ByteArray.empty).size<=eo))<|
   aC ((decide (0<=(IntKind.wrap .i64 ((p.length:Int)-1))))&&(decide ((IntKind.wrap .i64 ((p.length:Int)-1))<(p.length:Int))))<|
   K (p.set ((IntKind.wrap .i64 ((p.length:Int)-1)).toNat) ((⟨#[33]⟩:ByteArray)++(p.getD ((IntKind.wrap .i64 ((p.length:Int)-1)).toNat) ByteArray.empty)))
 else
  bif (a==(-2)) then
   aC ((decide (0<=(IntKind.wrap .i64 ((p.length:Int)-2))))&&(decide ((IntKind.wrap .i64 ((p.length:Int)-2))<=(p.length:Int))))<|
   aC (decide (0<=(IntKind.wrap .i64 ((p.length:Int)-2))))<|
   aC ((decide (0<=(IntKind.wrap .i64 ((p.length:Int)-2))))&&(decide ((IntKind.wrap .i64 ((p.length:Int)-2))<(p.length:Int))))<|
   aC (decide ((⟨#[40]⟩:ByteArray).size+(p.getD ((IntKind.wrap .i64 ((p.length:Int)-2)).toNat) ByteArray.empty).size<=eo))<|
   aC (decide (((⟨#[40]⟩:ByteArray)++(p.getD ((IntKind.wrap .i64 ((p.length:Int)-2)).toNat) ByteArray.empty)).size+(⟨#[38]⟩:ByteArray).size<=eo))<|
   aC ((decide (0<=(IntKind.wrap .i64 ((p.length:Int)-1))))&&(decide ((IntKind.wrap .i64 ((p.length:Int)-1))<(p.length:Int))))<|
   aC (decide ((((⟨#[40]⟩:ByteArray)++(p.getD ((IntKind.wrap .i64 ((p.length:Int)-2)).toNat) ByteArray.empty))++(⟨#[38]⟩:ByteArray)).size+(p.getD ((IntKind.wrap .i64 ((p.length:Int)-1)).toNat) ByteArray.empty).size<=eo))<|
   aC (decide (((((⟨#[40]⟩:ByteArray)++(p.getD ((IntKind.wrap .i64 ((p.length:Int)-2)).toNat) ByteArray.empty))++(⟨#[38]⟩:ByteArray))++(p.getD ((IntKind.wrap .i64 ((p.length:Int)-1)).toNat) ByteArray.empty)).size+(⟨#[41]⟩:ByteArray).size<=eo))<|
   aC (decide ((((p.take ((IntKind.wrap .i64 ((p.length:Int)-2)).toNat)).length)+1)*16<=room))<|
   K ((p.take ((IntKind.wrap .i64 ((p.length:Int)-2)).toNat))++([((((⟨#[40]⟩:ByteArray)++(p.getD ((IntKind.wrap .i64 ((p.length:Int)-2)).toNat) ByteArray.empty))++(⟨#[38]⟩:ByteArray))++(p.getD ((IntKind.wrap .i64 ((p.length:Int)-1)).toNat) ByteArray.empty))++(⟨#[41]⟩:ByteArray)]))
  else
   bif (a==(-3)) then
    aC ((decide (0<=(IntKind.wrap .i64 ((p.length:Int)-2))))&&(decide ((IntKind.wrap .i64 ((p.length:Int)-2))<=(p.length:Int))))<|
    aC (decide (0<=(IntKind.wrap .i64 ((p.length:Int)-2))))<|
    aC ((decide (0<=(IntKind.wrap .i64 ((p.length:Int)-2))))&&(decide ((IntKind.wrap .i64 ((p.length:Int)-2))<(p.length:Int))))<|
    aC (decide ((⟨#[40]⟩:ByteArray).size+(p.getD ((IntKind.wrap .i64 ((p.length:Int)-2)).toNat) ByteArray.empty).size<=eo))<|
    aC (decide (((⟨#[40]⟩:ByteArray)++(p.getD ((IntKind.wrap .i64 ((p.length:Int)-2)).toNat) ByteArray.empty)).size+(⟨#[124]⟩:ByteArray).size<=eo))<|
    aC ((decide (0<=(IntKind.wrap .i64 ((p.length:Int)-1))))&&(decide ((IntKind.wrap .i64 ((p.length:Int)-1))<(p.length:Int))))<|
    aC (decide ((((⟨#[40]⟩:ByteArray)++(p.getD ((IntKind.wrap .i64 ((p.length:Int)-2)).toNat) ByteArray.empty))++(⟨#[124]⟩:ByteArray)).size+(p.getD ((IntKind.wrap .i64 ((p.length:Int)-1)).toNat) ByteArray.empty).size<=eo))<|
    aC (decide (((((⟨#[40]⟩:ByteArray)++(p.getD ((IntKind.wrap .i64 ((p.length:Int)-2)).toNat) ByteArray.empty))++(⟨#[124]⟩:ByteArray))++(p.getD ((IntKind.wrap .i64 ((p.length:Int)-1)).toNat) ByteArray.empty)).size+(⟨#[41]⟩:ByteArray).size<=eo))<|
    aC (decide ((((p.take ((IntKind.wrap .i64 ((p.length:Int)-2)).toNat)).length)+1)*16<=room))<|
    K ((p.take ((IntKind.wrap .i64 ((p.length:Int)-2)).toNat))++([((((⟨#[40]⟩:ByteArray)++(p.getD ((IntKind.wrap .i64 ((p.length:Int)-2)).toNat) ByteArray.empty))++(⟨#[124]⟩:ByteArray))++(p.getD ((IntKind.wrap .i64 ((p.length:Int)-1)).toNat) ByteArray.empty))++(⟨#[41]⟩:ByteArray)]))
   else E)=K (fp p a):=by
 have z (c:UInt8):(⟨#[c]⟩:ByteArray).size=1:=rfl
 rcases xm h with hl| ⟨rfl,hd⟩| ⟨ha,hd⟩
 ·obtain ⟨h1,h2,h3⟩:=ue hl
  unfold fp
  rw[show (a==(-1:Int))=false by simp[h1],show (a==(-2:Int))=false by simp[h2],show (a==(-3:Int))=false by simp[h3],cond_false,cond_false,cond_false,cond_false,cond_false,cond_false]
  exact hE hl
 ·have hd:1<=p.length:=by omega
  have g1:=qG p (p.length-1)
  refine (ak rfl).trans ?_
  rw[yS hd (by omega),show (((p.length-1:Nat):Int)).toNat=p.length-1 from Int.toNat_natCast _]
  rw[ab (ch (ae (by omega)) (ae (by omega))),ab (ae (by rw[z];unfold eo;omega)),ab (ch (ae (by omega)) (ae (by omega)))]
  rfl
 ·have hd:2<=p.length:=by omega
  have g1:=qG p (p.length-1)
  have g2:=qG p (p.length-2)
  have X2:1000<=eo:=by unfold eo;omega
  rcases ha with rfl|rfl
  ·refine (af rfl).trans ((ak rfl).trans ?_)
   rw[yS (by omega) (by omega),Ej hd (by omega),show (((p.length-1:Nat):Int)).toNat=p.length-1 from Int.toNat_natCast _,show (((p.length-2:Nat):Int)).toNat=p.length-2 from Int.toNat_natCast _]
   rw[ab (ch (ae (by omega)) (ae (by omega))),ab (ae (by omega)),ab (ch (ae (by omega)) (ae (by omega))),ab (ae (by rw[z];omega)),ab (ae (by simp only[ByteArray.size_append,z];omega)),ab (ch (ae (by omega)) (ae (by omega))),ab (ae (by simp only[ByteArray.size_append,z];omega)),ab (ae (by simp only[ByteArray.size_append,z];omega)),ab (Ix (by rw[List.length_take];omega))]
   rfl
  ·refine (af rfl).trans ((af rfl).trans ((ak rfl).trans ?_))
   rw[yS (by omega) (by omega),Ej hd (by omega),show (((p.length-1:Nat):Int)).toNat=p.length-1 from Int.toNat_natCast _,show (((p.length-2:Nat):Int)).toNat=p.length-2 from Int.toNat_natCast _]
   rw[ab (ch (ae (by omega)) (ae (by omega))),ab (ae (by omega)),ab (ch (ae (by omega)) (ae (by omega))),ab (ae (by rw[z];omega)),ab (ae (by simp only[ByteArray.size_append,z];omega)),ab (ch (ae (by omega)) (ae (by omega))),ab (ae (by simp only[ByteArray.size_append,z];omega)),ab (ae (by simp only[ByteArray.size_append,z];omega)),ab (Ix (by rw[List.length_take];omega))]
   rfl
theorem aS.loop {R:Type} (k:Nat) {l:List Int} (hl:l.length<=20) (e0:List ByteArray->Option R): ∀(m n i:Nat) (p:List ByteArray),i+m=l.length->m<n->jV (l.drop i) p.length=true->p.length<=i->total p<=3*i->
 aS.l5 k l e0 n (i:Int) p=e0 ((l.drop i).foldl fp p):=by
 intro m
 induction m with
 |zero=>
  intro n i p hi hn xS hp ht
  obtain ⟨n,rfl⟩: ∃j,n=j+1:=⟨n-1,by omega⟩
  rw[aS.de]
  unfold aS.s5
  rw[af (aM (by omega)),List.drop_of_length_le (by omega)];rfl
 |succ m ih=>
  intro n i p hi hn xS hp ht
  obtain ⟨n,rfl⟩: ∃j,n=j+1:=⟨n-1,by omega⟩
  have fJ:i<l.length:=by omega
  have hd:=drop_cons fJ
  have hg:l.getD ((i:Int)).toNat 0=l[i]:=by rw[Int.toNat_natCast];exact aP 0 fJ
  rw[hd] at xS ⊢
  generalize l[i] =a at xS hg
  have xS:(fx p.length a&&jV (l.drop (i+1)) (im p.length a))=true:=xS
  obtain ⟨h1,h2⟩:=Bool.and_eq_true_iff.1 xS
  obtain ⟨f1,f2,_⟩:=mS h1
  have hw:=Hb a
  have pM:(fp p a).length<=i+1:=by have:=(qE h1 (by omega)).2;omega
  rw[aS.de]
  unfold aS.s5
  rw[ak (ae (by omega)),ab (ch (ae (by omega)) (ae (by omega))),hg,aR (by omega)]
  rw[<- f2] at h2
  refine (yT h1 (by omega) (by omega) (fun q=>aS.l5 k l e0 n ((i+1:Nat):Int) q) _ fun T2=> ?_).trans ?_
  ·rw[ab (ch (ae (by omega)) (ae (by omega))),aa (iP.eq k T2),ab (Ix (by omega))]
  ·exact ih n (i+1) _ (by omega) (by omega) h2 pM (by omega)
theorem aH.loop {R:Type} (k:Nat) {l:List Int} (hl:l.length<=20) (e0:List ByteArray->Option R): ∀(m n i:Nat) (p:List ByteArray),i+m=l.length->m<n->jV (l.drop i) p.length=true->p.length<=i->total p<=3*i->
 aH.l5 k l (l.length:Int) e0 n (i:Int) p=e0 ((l.drop i).foldl fp p):=by
 intro m
 induction m with
 |zero=>
  intro n i p hi hn xS hp ht
  obtain ⟨n,rfl⟩: ∃j,n=j+1:=⟨n-1,by omega⟩
  rw[aH.de]
  unfold aH.s5
  rw[af (aM (by omega)),List.drop_of_length_le (by omega)];rfl
 |succ m ih=>
  intro n i p hi hn xS hp ht
  obtain ⟨n,rfl⟩: ∃j,n=j+1:=⟨n-1,by omega⟩
  have fJ:i<l.length:=by omega
  have hd:=drop_cons fJ
  have hg:l.getD ((i:Int)).toNat 0=l[i]:=by rw[Int.toNat_natCast];exact aP 0 fJ
  rw[hd] at xS ⊢
  generalize l[i] =a at xS hg
  have xS:(fx p.length a&&jV (l.drop (i+1)) (im p.length a))=true:=xS
  obtain ⟨h1,h2⟩:=Bool.and_eq_true_iff.1 xS
  obtain ⟨f1,f2,_⟩:=mS h1
  have hw:=Hb a
  have pM:(fp p a).length<=i+1:=by have:=(qE h1 (by omega)).2;omega
  rw[aH.de]
  unfold aH.s5
  rw[ak (ae (by omega)),ab (ch (ae (by omega)) (ae (by omega))),hg,aR (by omega)]
  rw[<- f2] at h2
  refine (yT h1 (by omega) (by omega) (fun q=>aH.l5 k l (l.length:Int) e0 n ((i+1:Nat):Int) q) _ fun T2=> ?_).trans ?_
  ·rw[aa (fZ.eq k T2),ab (Ix (by omega))]
  ·exact ih n (i+1) _ (by omega) (by omega) h2 pM (by omega)
theorem om: ∀(l:List Int) (p:List ByteArray),jV l p.length=true->(l.foldl fp p).length=1/\total (l.foldl fp p)=total p+(l.map Kg).sum/\((∀w∈p,pH w)-> ∀w∈l.foldl fp p,pH w)
 | [],p,h=>by
   have h:((p.length:Int)==1)=true:=h
   have h':=eq_of_beq h
   refine ⟨by show p.length=1;omega,by simp,fun hp=>hp⟩
 |a::l,p,h=>by
  have h:(fx p.length a&&jV l (im p.length a))=true:=h
  obtain ⟨h1,h2⟩:=Bool.and_eq_true_iff.1 h
  obtain ⟨f1,f2,f3⟩:=mS h1
  rw[<- f2] at h2
  obtain ⟨g1,g2,g3⟩:=om l (fp p a) h2
  refine ⟨g1,?_,fun hp=>g3 (f3 hp)⟩
  rw[List.foldl_cons,g2,f1];simp;omega
def iZ (l:List Int):ByteArray:=bif dN l then (l.foldl fp []).getD 0 ByteArray.empty else ByteArray.empty
theorem j_ {l:List Int} (h:dN l=true):jV l 0=true/\l.length<=20:=by
 unfold dN at h
 obtain ⟨h1,h2⟩:=Bool.and_eq_true_iff.1 h
 have:=of_decide_eq_true h2
 exact ⟨h1,by omega⟩
theorem CB {l:List Int} (h:dN l=true):(iZ l).size=(l.map Kg).sum:=by
 obtain ⟨g1,g2,_⟩:=om l [] (j_ h).1
 unfold iZ
 rw[h,cond_true]
 obtain ⟨x,hx⟩:=List.length_eq_one_iff.1 g1
 rw[hx] at g2 ⊢
 simp[total] at g2
 simpa using g2
theorem KZ: ∀l:List Int,(l.map Kg).sum<=3*l.length/\l.length<=(l.map Kg).sum
 | []=>by simp
 |a::l=>by have:=KZ l;have:=Hb a;simp only[List.map_cons,List.sum_cons,List.length_cons];omega
theorem Hc (l:List Int):(iZ l).size<=60:=by
 cases h:dN l with
 |true=>rw[CB h];have:=KZ l;have:=(j_ h).2;omega
 |false=>unfold iZ;rw[h];show ByteArray.empty.size<=60;decide
theorem Ek (l:List Int):pH (iZ l):=by
 cases h:dN l with
 |true=>
  obtain ⟨g1,_,g3⟩:=om l [] (j_ h).1
  unfold iZ
  rw[h,cond_true]
  obtain ⟨x,hx⟩:=List.length_eq_one_iff.1 g1
  have:=g3 (fun w hw=>by cases hw) x (by rw[hx];simp)
  rw[hx];exact this
 |false=>unfold iZ;rw[h];exact BH
theorem aS.eq {k:Nat} (hk:cO<=k) {l:List Int} (hl:l.length<1048577):aS.f k l=some (iZ l):=by
 have hB:cO=1073741824:=rfl
 refine (aa (be.eq hk hl)).trans ?_
 unfold iZ
 cases h:dN l with
 |false=>rfl
 |true=>
  obtain ⟨h1,h2⟩:=j_ h
  refine (af rfl).trans ((aS.loop k h2 _ l.length k 0 [] (by omega) (by omega) h1 (by simp) (by simp[total])).trans ?_)
  rw[List.drop_zero]
  obtain ⟨g1,_,_⟩:=om l [] h1
  exact ab (ae (by rw[g1];decide))
theorem aH.eq {k:Nat} (hk:cO<=k) {l:List Int} (hl:l.length<1048577):aH.f k l=some (iZ l):=by
 have hB:cO=1073741824:=rfl
 refine (aa (bb.eq hk hl)).trans ?_
 unfold iZ
 cases h:dN l with
 |false=>rfl
 |true=>
  obtain ⟨h1,h2⟩:=j_ h
  refine (af rfl).trans ((aH.loop k h2 _ l.length k 0 [] (by omega) (by omega) h1 (by simp) (by simp[total])).trans ?_)
  rw[List.drop_zero]
  obtain ⟨g1,_,_⟩:=om l [] h1
  exact ab (ae (by rw[g1];decide))
def He (s:ByteArray) (c:Int):Nat->Nat->Nat->List ByteArray
 |0,a,i=>[s.extract a i]
 |m+1,a,i=>bif sb s i==c then s.extract a i::He s c m (i+1) (i+1) else He s c m a (i+1)
def words (s:ByteArray) (c:Int):List ByteArray:=He s c s.size 0 0
theorem CC (s:ByteArray) (c:Int): ∀m a i,∀w∈He s c m a i,w.size<=s.size
 |0,a,i,w,h=>by
  rw[List.mem_singleton.1 h,ByteArray.size_extract];omega
 |m+1,a,i,w,h=>by
  unfold He at h
  cases hb:sb s i==c with
  |true=>
   rw[hb,cond_true] at h
   rcases List.mem_cons.1 h with rfl|h
   ·rw[ByteArray.size_extract];omega
   ·exact CC s c m _ _ w h
  |false=>rw[hb,cond_false] at h;exact CC s c m _ _ w h
theorem OM {n:Nat} (h:n<=2097153):decide (n*16<=room)=true:=ae (by unfold room;omega)
theorem aX.loop {R:Type} (k:Nat) {s:ByteArray} (c:Int) (hs:s.size<1048577) (e0:Int->List ByteArray->Option R) (X:List ByteArray->Option R) (he: ∀(a:Nat) acc,a<=s.size->acc.length<=s.size->e0 (a:Int) acc=X (acc++[s.extract a s.size])):
 ∀(m n a i:Nat) (acc:List ByteArray),i+m=s.size->m<n->a<=i->acc.length<=i->aX.l3 k s c (s.size:Int) e0 n (a:Int) (i:Int) acc=X (acc++He s c m a i):=by
 intro m
 induction m with
 |zero=>
  intro n a i acc hi hn ha ON
  obtain ⟨n,rfl⟩: ∃j,n=j+1:=⟨n-1,by omega⟩
  obtain rfl:i=s.size:=by omega
  rw[aX.aE]
  unfold aX.s3
  rw[af (aM (by omega))]
  exact he a acc ha ON
 |succ m ih=>
  intro n a i acc hi hn ha ON
  obtain ⟨n,rfl⟩: ∃j,n=j+1:=⟨n-1,by omega⟩
  rw[aX.aE]
  unfold aX.s3
  rw[ak (ae (by omega)),ab (ch (ae (by omega)) (ae (by omega))),show ((i:Int)).toNat=i from Int.toNat_natCast i,aR (by omega)]
  unfold He
  cases sb s i==c with
  |true=>
   refine (ak rfl).trans ?_
   rw[ab (ch (ae (by omega)) (ae (by omega))),ab (ch (ae (by omega)) (ae (by omega))),ab (OM (by omega)),show ((a:Int)).toNat=a from Int.toNat_natCast a,ih n (i+1) (i+1) _ (by omega) (by omega) (by omega) (by simp;omega),List.append_assoc]
   rfl
  |false=>
   refine (af rfl).trans ?_
   rw[ih n a (i+1) acc (by omega) (by omega) (by omega) (by omega)]
   rfl
theorem aX.eq {k:Nat} (hk:cO<=k) {s:ByteArray} (c:Int) (hs:s.size<1048577):aX.f k s c=some (words s c):=by
 have hB:cO=1073741824:=rfl
 unfold aX.f
 rw[show (0:Int)=((0:Nat):Int) from rfl,aX.loop k c hs _ (fun x=>some x) (fun a acc ha ON=> ?_) s.size k 0 0 [] (by omega) (by omega) (by omega) (by simp)]
 ·rfl
 ·rw[ab (ch (ae (by omega)) (ae (by omega))),ab (ch (ae (by omega)) (ae (by omega))),ab (OM (by omega))]
  rw[show ((a:Int)).toNat=a from Int.toNat_natCast a,show ((s.size:Int)).toNat=s.size from Int.toNat_natCast _]
def Ml:ByteArray:=⟨#[61]⟩
def kV (w g:ByteArray):ByteArray×Bool:=bif sX w (g++Ml) then (tY w (g++Ml),true) else (ByteArray.empty,false)
theorem ff.eq (k:Nat) {w g:ByteArray} (hg:g.size<1048577):ff.f k w g=some (kV w g):=by
 unfold ff.f
 rw[ab (ae (by show g.size+1<=eo;unfold eo;omega))]
 refine (aa (show strings_CutPrefix.f k w (g++Ml)=_ from rfl)).trans ?_
 unfold kV
 cases h:sX w (g++Ml) with
 |true=>exact af rfl
 |false=>exact ak rfl
theorem yU {w g:ByteArray}:sX w (g++Ml)=true↔ ∃r,w.data.toList=g.data.toList++61::r:=by
 unfold sX Go.Lib.hasPrefix
 rw[List.isPrefixOf_iff_prefix,ol]
 constructor
 ·rintro ⟨t,ht⟩
  exact ⟨t,by rw[<- ht,List.append_assoc];rfl⟩
 ·rintro ⟨r,hr⟩
  exact ⟨r,by rw[hr,List.append_assoc];rfl⟩
theorem Hf {w g:ByteArray} {r:List UInt8} (h:w.data.toList=g.data.toList++61::r):(tY w (g++Ml)).data.toList=r:=by
 have hp:=yU.2 ⟨r,h⟩
 show ((Go.Lib.trimPrefix w.data.toList (g++Ml).data.toList).toArray).toList=r
 unfold Go.Lib.trimPrefix
 rw[if_pos (by exact hp),h,ol]
 have e:g.data.toList++61::r=(g.data.toList++Ml.data.toList)++r:=by rw[List.append_assoc];rfl
 rw[e]
 show List.drop _ _=r
 rw[List.drop_append_of_le_length (Nat.le_refl _),List.drop_of_length_le (Nat.le_refl _)];rfl
def N4:ByteArray:=⟨#[98,111,116,104]⟩
def Iy:ByteArray:=⟨#[115,117,105,116]⟩
def Iz:ByteArray:=⟨#[114,97,110,107]⟩
def oo (b1 b2:Bool):ByteArray:=bif b1&&b2 then N4 else bif b1 then Iy else bif b2 then Iz else ByteArray.empty
theorem gA.eq (k:Nat) (n e:Int) (b1 b2:Bool) (w f:List Int) (t l:Int):gA.f k n e b1 b2 w f t l=some (oo b1 b2):=by cases b1<;>cases b2<;>rfl
theorem gv.eq (k:Nat) (n e:Int) (b1 b2:Bool) (w f:List Int) (t l:Int):gv.f k n e b1 b2 w f t l=some (oo b1 b2):=by cases b1<;>cases b2<;>rfl
def mo (l:List Int):ByteArray:=bif ((l.length:Int)==0) then ⟨#[45]⟩ else iZ l
theorem eg.eq {k:Nat} (hk:cO<=k) {l:List Int} (hl:l.length<1048577):eg.f k l=some (mo l):=by
 unfold eg.f mo
 cases (l.length:Int)==0 with
 |true=>rfl
 |false=>exact (af rfl).trans (aa (aS.eq hk hl))
theorem eH.eq {k:Nat} (hk:cO<=k) {l:List Int} (hl:l.length<1048577):eH.f k l=some (mo l):=by
 unfold eH.f mo
 cases (l.length:Int)==0 with
 |true=>rfl
 |false=>exact (af rfl).trans (aa (aH.eq hk hl))
theorem jm (l:List Int):(mo l).size<=60/\pH (mo l):=by
 unfold mo
 cases (l.length:Int)==0 with
 |true=>exact ⟨by show (⟨#[45]⟩:ByteArray).size<=60;decide,o6 (by decide)⟩
 |false=>exact ⟨Hc l,Ek l⟩
theorem mc (b1 b2:Bool):(oo b1 b2).size<=4/\pH (oo b1 b2):=by
 have h1:pH N4:=by unfold pH;decide+kernel
 have h2:pH Iy:=by unfold pH;decide+kernel
 have h3:pH Iz:=by unfold pH;decide+kernel
 cases b1<;>cases b2
 ·exact ⟨by decide,BH⟩
 ·exact ⟨by decide,h3⟩
 ·exact ⟨by decide,h2⟩
 ·exact ⟨by decide,h1⟩
theorem El: ∀(m u:Nat),u<m-> ∀x∈Go.Lib.decDigits u,x≠32:=by
 have RE: ∀d:Nat,d<10->UInt8.ofNat (48+d)≠32:=fun d hd=>by
  have:d=0\/d=1\/d=2\/d=3\/d=4\/d=5\/d=6\/d=7\/d=8\/d=9:=by omega
  rcases this with rfl|rfl|rfl|rfl|rfl|rfl|rfl|rfl|rfl|rfl<;>decide+kernel
 intro m
 induction m with
 |zero=>intro u h;omega
 |succ m ih=>
  intro u hu x hx
  rw[Go.Lib.decDigits] at hx
  by_cases h:u<10
  ·rw[dif_pos h] at hx
   rw[List.mem_singleton.1 hx];exact RE u h
  ·rw[dif_neg h] at hx
   rcases List.mem_append.1 hx with hx|hx
   ·exact ih (u/10) (by omega) x hx
   ·rw[List.mem_singleton.1 hx];exact RE _ (by omega)
theorem qH (n:Int):pH (jT n):=by
 intro x hx
 have hx:x∈(Go.Lib.itoa n).toArray.toList:=hx
 unfold Go.Lib.itoa at hx
 split at hx
 ·rcases List.mem_cons.1 (show x∈45::Go.Lib.decDigits n.natAbs from hx) with rfl|hx
  ·decide
  ·exact El _ _ (Nat.lt_succ_self _) x hx
 ·exact El _ _ (Nat.lt_succ_self _) x hx
def Em:List ByteArray:=[⟨#[112,108,97,121,101,114,115]⟩,⟨#[101,97,99,104]⟩,⟨#[109,97,116,99,104]⟩,⟨#[119,105,108,100]⟩,⟨#[115,107,105,112]⟩,⟨#[116,97,107,101]⟩,⟨#[108,105,109,105,116]⟩]
def lz (r:Rl):List ByteArray:=[⟨#[112,108,97,121,101,114,115,61]⟩++jT r.n,⟨#[101,97,99,104,61]⟩++jT r.e,⟨#[109,97,116,99,104,61]⟩++oo r.b1 r.b2,⟨#[119,105,108,100,61]⟩++mo r.w,⟨#[115,107,105,112,61]⟩++mo r.f,⟨#[116,97,107,101,61]⟩++jT r.t,⟨#[108,105,109,105,116,61]⟩++jT r.l]
def RF:ByteArray:=⟨#[32]⟩
def fU (r:Rl):ByteArray:=bif r.ok then ob (lz r) RF else ByteArray.empty
theorem K0 {r:Rl} (h:r.ok=true):yO .i64 r.n/\yO .i64 r.e/\yO .i64 r.t/\yO .i64 r.l/\(r.b1||r.b2)=true/\2<=r.n/\r.n<=6:=by
 unfold Rl.ok mj jJ at h
 simp only[Bool.and_eq_true,decide_eq_true_eq] at h
 have w (n:Int) (h1: -9223372036854775808<=n) (h2:n<=9223372036854775807):yO .i64 n:=by simp[yO,Lit.wf,IntKind.min,IntKind.max,IntKind.signed,IntKind.bits];omega
 obtain ⟨⟨⟨⟨⟨⟨⟨h1,h2⟩,⟨h3,h4⟩⟩,h5⟩,_⟩,_⟩,⟨h6,h7⟩⟩,⟨h8,h9⟩⟩:=h
 exact ⟨w _ (by omega) (by omega),w _ (by omega) (by omega),w _ (by omega) (by omega),w _ (by omega) (by omega),h5,h1,h2⟩
theorem py {r:Rl} (h:r.ok=true): ∀w∈lz r,w.size<=68/\pH w:=by
 obtain ⟨w1,w2,w3,w4,_⟩:=K0 h
 have g (p x:ByteArray) (hp:p.size<=8) (hn:pH p) (hx:x.size<=60/\pH x):(p++x).size<=68/\pH (p++x):=⟨by rw[ByteArray.size_append];omega,o5 hn hx.2⟩
 have i1:=jk w1
 have i2:=jk w2
 have i3:=jk w3
 have i4:=jk w4
 have r1:=mc r.b1 r.b2
 intro w hw
 simp only[lz,List.mem_cons,List.not_mem_nil,or_false] at hw
 rcases hw with rfl|rfl|rfl|rfl|rfl|rfl|rfl
 ·exact g _ _ (by decide) (by unfold pH;decide+kernel) ⟨by omega,qH _⟩
 ·exact g _ _ (by decide) (by unfold pH;decide+kernel) ⟨by omega,qH _⟩
 ·exact g _ _ (by decide) (by unfold pH;decide+kernel) ⟨by omega,r1.2⟩
 ·exact g _ _ (by decide) (by unfold pH;decide+kernel) (jm _)
 ·exact g _ _ (by decide) (by unfold pH;decide+kernel) (jm _)
 ·exact g _ _ (by decide) (by unfold pH;decide+kernel) ⟨by omega,qH _⟩
 ·exact g _ _ (by decide) (by unfold pH;decide+kernel) ⟨by omega,qH _⟩
theorem yV (a b c d e f g sep:ByteArray):ob [a,b,c,d,e,f,g] sep=a++sep++b++sep++c++sep++d++sep++e++sep++f++sep++g:=by
 apply oj
 show ((Go.Lib.join _ _).toArray).toList=_
 simp[Go.Lib.join,List.intercalate,ol]
theorem CD (r:Rl):(fU r).size<=500:=by
 unfold fU
 cases h:r.ok with
 |false=>show ByteArray.empty.size<=500;decide
 |true=>
  have hf:=py h
  rw[cond_true]
  unfold lz at hf ⊢
  rw[yV]
  simp only[List.mem_cons,List.not_mem_nil,or_false,forall_eq_or_imp,forall_eq] at hf
  obtain ⟨⟨a1,_⟩,⟨a2,_⟩,⟨a3,_⟩,⟨a4,_⟩,⟨a5,_⟩,⟨a6,_⟩,a7,_⟩:=hf
  have hs:RF.size=1:=rfl
  simp only[ByteArray.size_append,hs] at a1 a2 a3 a4 a5 a6 a7 ⊢
  omega
theorem d_.eq {k:Nat} (hk:cO<=k) {r:Rl} (h:r.sm):d_.f k r.n r.e r.b1 r.b2 r.w r.f r.t r.l=some (fU r):=by
 refine (aa (bN.eq hk r.n r.e r.b1 r.b2 r.t r.l h.1 h.2)).trans ?_
 unfold fU
 show (bif !r.ok then _ else _)=_
 cases hr:r.ok with
 |false=>rfl
 |true=>
  obtain ⟨w1,w2,w3,w4,_⟩:=K0 hr
  have i1:=jk w1
  have i2:=jk w2
  have i3:=jk w3
  have i4:=jk w4
  have r1:=(mc r.b1 r.b2).1
  have m1:=(jm r.w).1
  have m2:=(jm r.f).1
  have hM:1000<=eo:=by unfold eo;omega
  have z8:(⟨#[112,108,97,121,101,114,115,61]⟩:ByteArray).size=8:=rfl
  have z1:(⟨#[101,97,99,104,61]⟩:ByteArray).size=5:=rfl
  have z2:(⟨#[109,97,116,99,104,61]⟩:ByteArray).size=6:=rfl
  have z3:(⟨#[119,105,108,100,61]⟩:ByteArray).size=5:=rfl
  have z4:(⟨#[115,107,105,112,61]⟩:ByteArray).size=5:=rfl
  have z5:(⟨#[116,97,107,101,61]⟩:ByteArray).size=5:=rfl
  have z6:(⟨#[108,105,109,105,116,61]⟩:ByteArray).size=6:=rfl
  refine (af rfl).trans ((aa (cg.eq k w1)).trans ((ab (ae (by omega))).trans ((aa (cg.eq k w2)).trans ((ab (ae (by omega))).trans ((aa (gv.eq ..)).trans ((ab (ae (by omega))).trans ?_))))))
  refine (aa (eH.eq hk h.1)).trans ((ab (ae (by omega))).trans ((aa (eH.eq hk h.2)).trans ((ab (ae (by omega))).trans ((aa (cg.eq k w3)).trans ((ab (ae (by omega))).trans ((aa (cg.eq k w4)).trans ((ab (ae (by omega))).trans ?_)))))))
  exact aa (strings_Join.eq k (l:=lz r) (sep:=RF) (by show 7<_;decide) (fun y hy=>by have:=(py hr y hy).1;omega) (by decide))
theorem gB.eq {k:Nat} (hk:cO<=k) {r:Rl} (h:r.sm):gB.f k r.n r.e r.b1 r.b2 r.w r.f r.t r.l=some (fU r):=by
 refine (aa (bV.eq hk r.n r.e r.b1 r.b2 r.t r.l h.1 h.2)).trans ?_
 unfold fU
 show (bif !r.ok then _ else _)=_
 cases hr:r.ok with
 |false=>rfl
 |true=>
  obtain ⟨w1,w2,w3,w4,_⟩:=K0 hr
  have i1:=jk w1
  have i2:=jk w2
  have i3:=jk w3
  have i4:=jk w4
  have r1:=(mc r.b1 r.b2).1
  have m1:=(jm r.w).1
  have m2:=(jm r.f).1
  have hM:1000<=eo:=by unfold eo;omega
  have z8:(⟨#[112,108,97,121,101,114,115,61]⟩:ByteArray).size=8:=rfl
  have z1:(⟨#[32,101,97,99,104,61]⟩:ByteArray).size=6:=rfl
  have z2:(⟨#[32,109,97,116,99,104,61]⟩:ByteArray).size=7:=rfl
  have z3:(⟨#[32,119,105,108,100,61]⟩:ByteArray).size=6:=rfl
  have z4:(⟨#[32,115,107,105,112,61]⟩:ByteArray).size=6:=rfl
  have z5:(⟨#[32,116,97,107,101,61]⟩:ByteArray).size=6:=rfl
  have z6:(⟨#[32,108,105,109,105,116,61]⟩:ByteArray).size=7:=rfl
  have c {X:Option ByteArray} {q:Nat} (hq:q<=1000):aC (decide (q<=eo)) X=X:=ab (ae (by omega))
  refine (af rfl).trans ((aa (aN.eq hk w1)).trans ((c (by simp only[ByteArray.size_append,z8];omega)).trans ((c (by simp only[ByteArray.size_append,z8,z1];omega)).trans ?_)))
  refine (aa (aN.eq hk w2)).trans ((c (by simp only[ByteArray.size_append,z8,z1];omega)).trans ((c (by simp only[ByteArray.size_append,z8,z1,z2];omega)).trans ?_))
  refine (aa (gA.eq ..)).trans ((c (by simp only[ByteArray.size_append,z8,z1,z2];omega)).trans ((c (by simp only[ByteArray.size_append,z8,z1,z2,z3];omega)).trans ?_))
  refine (aa (eg.eq hk h.1)).trans ((c (by simp only[ByteArray.size_append,z8,z1,z2,z3];omega)).trans ((c (by simp only[ByteArray.size_append,z8,z1,z2,z3,z4];omega)).trans ?_))
  refine (aa (eg.eq hk h.2)).trans ((c (by simp only[ByteArray.size_append,z8,z1,z2,z3,z4];omega)).trans ((c (by simp only[ByteArray.size_append,z8,z1,z2,z3,z4,z5];omega)).trans ?_))
  refine (aa (aN.eq hk w3)).trans ((c (by simp only[ByteArray.size_append,z8,z1,z2,z3,z4,z5];omega)).trans ((c (by simp only[ByteArray.size_append,z8,z1,z2,z3,z4,z5,z6];omega)).trans ?_))
  refine (aa (aN.eq hk w4)).trans ((c (by simp only[ByteArray.size_append,z8,z1,z2,z3,z4,z5,z6];omega)).trans ?_)
  refine congrArg some ?_
  show _=ob (lz r) RF
  unfold lz
  rw[yV]
  apply oj
  simp[ol,RF]
theorem N5 {n:Int} (h1: -9223372036854775808<=n) (h2:n<=9223372036854775807):yO .i64 n:=by
 simp[yO,Lit.wf,IntKind.min,IntKind.max,IntKind.signed,IntKind.bits];omega
theorem CE (l:List UInt8) (b:UInt8): ∀acc:Nat,Go.Lib.decFrom acc (l++[b])=(Go.Lib.decFrom acc l).bind fun n=>(Go.Lib.digitVal b).map fun d=>n*10+d:=by
 induction l with
 |nil=>intro acc;simp only[List.nil_append,Go.Lib.decFrom,Option.bind_some];cases Go.Lib.digitVal b<;>rfl
 |cons a t ih=>
  intro acc
  simp only[List.cons_append,Go.Lib.decFrom]
  cases Go.Lib.digitVal a with
  |none=>rfl
  |some d=>exact ih _
theorem En {d:Nat} (h:d<10):Go.Lib.digitVal (UInt8.ofNat (48+d))=some d:=by
 have:d=0\/d=1\/d=2\/d=3\/d=4\/d=5\/d=6\/d=7\/d=8\/d=9:=by omega
 rcases this with rfl|rfl|rfl|rfl|rfl|rfl|rfl|rfl|rfl|rfl<;>decide+kernel
theorem Hg: ∀(m u:Nat),u<m->Go.Lib.decFrom 0 (Go.Lib.decDigits u)=some u/\(Go.Lib.decDigits u≠[]):=by
 intro m
 induction m with
 |zero=>intro u h;omega
 |succ m ih=>
  intro u hu
  rw[Go.Lib.decDigits]
  by_cases h:u<10
  ·rw[dif_pos h]
   refine ⟨?_,by simp⟩
   simp only[Go.Lib.decFrom,En h]
   rw[show 0*10+u=u by omega]
  ·rw[dif_neg h]
   refine ⟨?_,by simp⟩
   rw[CE,(ih (u/10) (by omega)).1,Option.bind_some,En (by omega),Option.map_some]
   rw[show u/10*10+u%10=u by omega]
theorem Hh {b:UInt8} {l:List UInt8} {acc n:Nat} (h:Go.Lib.decFrom acc (b::l)=some n):(b==45)=false/\(b==43)=false:=by
 have hd:Go.Lib.digitVal b≠none:=fun e=>by simp only[Go.Lib.decFrom,e] at h;cases h
 constructor
 ·cases e:b==45 with
  |false=>rfl
  |true=>rw[beq_iff_eq.1 e] at hd;exact absurd (by decide+kernel) hd
 ·cases e:b==43 with
  |false=>rfl
  |true=>rw[beq_iff_eq.1 e] at hd;exact absurd (by decide+kernel) hd
theorem K1 {l:List UInt8} {n:Nat} (hl:l≠[]) (h:Go.Lib.decFrom 0 l=some n):Go.Lib.atoi l=some (n:Int):=by
 cases l with
 |nil=>exact absurd rfl hl
 |cons b r=>
  obtain ⟨h1,h2⟩:=Hh h
  unfold Go.Lib.atoi
  show (if (b==45)=true then _ else if (b==43)=true then _ else (Go.Lib.decNat (b::r)).map _)=_
  rw[if_neg (by rw[h1];decide),if_neg (by rw[h2];decide)]
  unfold Go.Lib.decNat
  rw[show (b::r).isEmpty=false from rfl]
  show (Go.Lib.decFrom 0 (b::r)).map _=_
  rw[h];rfl
theorem Jl (n:Nat):(jT (n:Int)).data.toList=Go.Lib.decDigits n:=by
 show (Go.Lib.itoa (n:Int)).toArray.toList=_
 unfold Go.Lib.itoa
 rw[if_neg (by omega)]
 simp
theorem BJ (n:Nat):Go.Lib.atoi (jT (n:Int)).data.toList=some (n:Int)/\Go.Lib.decFrom 0 (jT (n:Int)).data.toList=some n/\(jT (n:Int)).data.toList≠[]:=by
 obtain ⟨h1,h2⟩:=Hg (n+1) n (Nat.lt_succ_self n)
 rw[Jl]
 exact ⟨K1 h2 h1,h1,h2⟩
def ka (s:ByteArray):Int×Bool:=match Go.Lib.decFrom 0 s.data.toList with
 |some n=>bif decide (1<=s.size)&&decide (s.size<=13)&&decide (n<=1000000000000)&&((jT (n:Int)).toList==s.toList) then ((n:Int),true) else (0,false)
 |none=>(0,false)
theorem AZ {n:Nat} (h:n<=1000000000000) (hs:(jT (n:Int)).size<=13):ka (jT (n:Int))=((n:Int),true):=by
 obtain ⟨_,h1,h2⟩:=BJ n
 have h3:1<=(jT (n:Int)).size:=by rw[<- wK];exact List.length_pos_iff.2 h2
 unfold ka
 rw[h1]
 show (bif _ then _ else _)=_
 rw[ae h3,ae hs,ae h,beq_self_eq_true];rfl
theorem dw.eq {k:Nat} {s:ByteArray} (hs:s.size<1048577):dw.f k s=some (ka s):=by
 unfold dw.f
 by_cases Ra:(s.size:Int)>13
 ·rw[ak (ae Ra)]
  unfold ka
  split
  ·rename_i n _
   rw[aM (p:=s.size<=13) (by omega),Bool.and_false,Bool.false_and,Bool.false_and];rfl
  ·rfl
 rw[af (aM Ra)]
 refine (aa (show strconv_Atoi.f k s=some (od s,nP s) from ab (Nat.ble_eq_true_of_le (by omega)))).trans ?_
 by_cases hn: ∃n:Nat,n<=1000000000000/\jT (n:Int)=s
 ·obtain ⟨n,hn,rfl⟩:=hn
  obtain ⟨h1,_,_⟩:=BJ n
  have e1:od (jT (n:Int))=n:=by unfold od;rw[h1]
  have e2:nP (jT (n:Int))=true:=by unfold nP;rw[h1];rfl
  rw[AZ hn (by omega)]
  refine (af (by rw[e2];rfl)).trans ((aa (an.eq k _ _ _)).trans ?_)
  rw[e1]
  refine (af (by unfold jJ;rw[ae (by omega),ae (by omega)];rfl)).trans ((aa (cg.eq k (show yO .i64 (n:Int) from N5 (by omega) (by omega)))).trans ?_)
  exact af (by rw[beq_self_eq_true];rfl)
 ·have hp:ka s=(0,false):=by
   unfold ka
   split
   ·rename_i n _
    by_cases hle:n<=1000000000000
    ·have:((jT (n:Int)).toList==s.toList)=false:=by
      rw[o4]
      exact aM fun e=>hn ⟨n,hle,oj e⟩
     rw[this,Bool.and_false];rfl
    ·rw[aM hle,Bool.and_false,Bool.false_and];rfl
   ·rfl
  rw[hp]
  cases xS:nP s with
  |false=>exact ak rfl
  |true=>
   refine (af rfl).trans ((aa (an.eq k _ _ _)).trans ?_)
   cases hr:jJ (od s) 0 1000000000000 with
   |false=>exact ak rfl
   |true=>
    unfold jJ at hr
    simp only[Bool.and_eq_true,decide_eq_true_eq] at hr
    obtain ⟨n,WA⟩: ∃n:Nat,od s=(n:Int):=⟨(od s).toNat,by omega⟩
    refine (af rfl).trans ((aa (cg.eq k (show yO .i64 (od s) from N5 (by omega) (by omega)))).trans ?_)
    refine ak ?_
    rw[o4,WA]
    rw[aM fun e=>hn ⟨n,by omega,oj e⟩];rfl
end Go.Proofs.YtbmmhdmljajcfaaGreatDoor
namespace Go.Proofs.YtbmmhdmljajcfaaGreatDoor
open Go Go.Proofs.YtbmmhdmljajcfaaGreatDoor.V Go.Proofs.YtbmmhdmljajcfaaGreatDoor.DR
def nC (s:ByteArray):Bool×Nat×List Int:=lO (s.size+1) s 0 []
def oq (s:ByteArray):List Int×Bool:=bif Nat.ble s.size 100&&(nC s).1&&((iZ (nC s).2.2).toList==s.toList) then ((nC s).2.2,true) else ([],false)
theorem BK {s:ByteArray} {n i:Nat} {l:List Int} (hi:i<=s.size) (h:(lO n s i l).1=true):(lO n s i l).2.2.length<=l.length+s.size:=by
 have:=yy s n i l (lO n s i l).2.1 (lO n s i l).2.2 hi (by rw[<- h])
 omega
theorem uw (s:ByteArray):(oq s).1.length<1048577:=by
 unfold oq
 cases h:(Nat.ble s.size 100&&(nC s).1&&((iZ (nC s).2.2).toList==s.toList)) with
 |false=>show ([]:List Int).length<_;decide
 |true=>
  simp only[Bool.and_eq_true] at h
  have:=BK (Nat.zero_le _) h.1.2
  have T3:=Nat.le_of_ble_eq_true h.1.1
  show (nC s).2.2.length<_
  simp only[List.length_nil] at this
  unfold nC
  omega
theorem dV.eq {k:Nat} (hk:cO<=k) {s:ByteArray} (hs:s.size<1048577):dV.f k s=some (oq s):=by
 show yu (aH.f k) s=_
 unfold yu oq
 cases h1:Nat.ble s.size 100 with
 |false=>rfl
 |true=>
  rw[cond_true,Bool.true_and]
  have T3:=Nat.le_of_ble_eq_true h1
  have hl:=BK (s:=s) (n:=s.size+1) (l:=[]) (Nat.zero_le s.size)
  unfold nC
  revert hl
  rcases lO (s.size+1) s 0 [] with ⟨ok,i1,l1⟩
  intro hl
  cases ok with
  |false=>rfl
  |true=>
   have:=hl rfl
   refine (aa (aH.eq hk (by simp at this;omega))).trans ?_
   show (bif _ then _ else _)=some (bif true&&_ then _ else _)
   cases (iZ l1).toList==s.toList<;>rfl
theorem RG {a b:Int} (h: ¬a=b):(a != b)=true:=by simp[h]
theorem Eo (w g:ByteArray):(kV w g).1.size<=w.size:=by
 unfold kV
 cases h:sX w (g++Ml) with
 |false=>show ByteArray.empty.size<=_;exact Nat.zero_le _
 |true=>
  obtain ⟨r,hr⟩:=yU.1 h
  show (tY w (g++Ml)).size<=w.size
  rw[<- wK,<- wK w,Hf hr,hr]
  simp;omega
def OO (ws gs:List ByteArray):Bool:=(List.zipWith (fun w g=>(kV w g).2) ws gs).all id
def Hi (ws gs:List ByteArray):List ByteArray:=List.zipWith (fun w g=>(kV w g).1) ws gs
theorem bg.loop {R:Type} (k:Nat) {ws gs:List ByteArray} (hL:ws.length=gs.length) (hl:ws.length<1000) (hw: ∀w∈ws,w.size<1048577) (hg: ∀g∈gs,g.size<1048577) (e0 e1:List ByteArray->Option R) (X:Option R) (hX: ∀a,e0 a=X):
 ∀(m n i:Nat) (acc:List ByteArray),i+m=ws.length->m<n->acc.length<=i->bg.l7 k (ws.length:Int) gs ws e0 e1 n (i:Int) acc=bif OO (ws.drop i) (gs.drop i) then e1 (acc++Hi (ws.drop i) (gs.drop i)) else X:=by
 intro m
 induction m with
 |zero=>
  intro n i acc hi hn ha
  obtain ⟨n,rfl⟩: ∃j,n=j+1:=⟨n-1,by omega⟩
  rw[bg.If]
  unfold bg.s7
  rw[af (aM (by omega)),List.drop_of_length_le (l:=ws) (by omega)]
  show _=(bif true then e1 (acc++[]) else X)
  rw[List.append_nil];rfl
 |succ m ih=>
  intro n i acc hi hn ha
  obtain ⟨n,rfl⟩: ∃j,n=j+1:=⟨n-1,by omega⟩
  have h1:i<ws.length:=by omega
  have h2:i<gs.length:=by omega
  rw[bg.If]
  unfold bg.s7
  rw[ak (ae (by omega)),ab (ch (ae (by omega)) (ae (by omega))),ab (ch (ae (by omega)) (ae (by omega))),show ((i:Int)).toNat=i from Int.toNat_natCast i,aP _ h1,aP _ h2,aR (by omega)]
  refine (aa (ff.eq k (hg _ (List.getElem_mem h2)))).trans ?_
  rw[drop_cons h1,drop_cons h2]
  have WB:OO (ws[i]::ws.drop (i+1)) (gs[i]::gs.drop (i+1))=((kV ws[i] gs[i]).2&&OO (ws.drop (i+1)) (gs.drop (i+1))):=rfl
  have WC:Hi (ws[i]::ws.drop (i+1)) (gs[i]::gs.drop (i+1))=(kV ws[i] gs[i]).1::Hi (ws.drop (i+1)) (gs.drop (i+1)):=rfl
  rw[WB,WC]
  cases hv:(kV ws[i] gs[i]).2 with
  |false=>exact (ak rfl).trans (hX _)
  |true=>
   refine (af rfl).trans ((ab (OM (by omega))).trans ?_)
   rw[ih n (i+1) _ (by omega) (by omega) (by simp;omega),List.append_assoc];rfl
def RH:Rl:=⟨0,0,false,false,[],[],0,0⟩
def N6 (v:List ByteArray) (b1 b2:Bool):Rl:=⟨(ka (v.getD 0 ByteArray.empty)).1,(ka (v.getD 1 ByteArray.empty)).1,b1,b2,(oq (v.getD 3 ByteArray.empty)).1,(oq (v.getD 4 ByteArray.empty)).1,(ka (v.getD 5 ByteArray.empty)).1,(ka (v.getD 6 ByteArray.empty)).1⟩
theorem Ep (v:List ByteArray) (b1 b2:Bool):(N6 v b1 b2).sm:=⟨uw _,uw _⟩
def p_ (v:List ByteArray):Rl:=N6 v (!((v.getD 2 ByteArray.empty).toList==Iz.toList)) (!((v.getD 2 ByteArray.empty).toList==Iy.toList))
def du (s:ByteArray):Rl×Bool:=bif decide ((words s 32).length=7)&&OO (words s 32) Em&&(p_ (Hi (words s 32) Em)).ok&&((fU (p_ (Hi (words s 32) Em))).toList==s.toList) then (p_ (Hi (words s 32) Em),true) else (RH,false)
abbrev Rl.jx (r:Rl) (b:Bool):Int×Int×Bool×Bool×List Int×List Int×Int×Int×Bool:=(r.n,r.e,r.b1,r.b2,r.w,r.f,r.t,r.l,b)
theorem sI (s:ByteArray):(du s).1.sm:=by
 unfold du
 cases (decide ((words s 32).length=7)&&OO (words s 32) Em&&(p_ (Hi (words s 32) Em)).ok&&((fU (p_ (Hi (words s 32) Em))).toList==s.toList)) with
 |true=>exact Ep _ _ _
 |false=>exact ⟨show ([]:List Int).length<1048577 by decide,show ([]:List Int).length<1048577 by decide⟩
theorem MW {a b:ByteArray}:(a.toList==b.toList)=true↔a=b:=by
 rw[o4,decide_eq_true_eq]
 exact ⟨fun h=>oj h,fun h=>by rw[h]⟩
theorem RI {α:Type}: ∀ {l:List α},l.length=7-> ∃a b c d e f g,l=[a,b,c,d,e,f,g]
 | [a,b,c,d,e,f,g],_=>⟨a,b,c,d,e,f,g,rfl⟩
theorem bg.eq {k:Nat} (hk:cO<=k) {s:ByteArray} (hs:s.size<1048577):bg.f k s=some ((du s).1.jx (du s).2):=by
 have hB:cO=1073741824:=rfl
 refine (aa (aX.eq hk 32 hs)).trans ?_
 have hw: ∀w∈words s 32,w.size<=s.size:=CC s 32 _ _ _
 unfold du
 by_cases h7:(words s 32).length=7
 ·have N7:(Hi (words s 32) Em).length=7:=by unfold Hi;rw[List.length_zipWith,h7];rfl
  have Kh: ∀v∈Hi (words s 32) Em,v.size<1048577:=by
   intro v hv
   unfold Hi at hv
   obtain ⟨i,hi,rfl⟩:=List.getElem_of_mem hv
   rw[List.getElem_zipWith]
   have h1:=Eo ((words s 32)[i]'(by rw[List.length_zipWith] at hi;omega)) (Em[i]'(by rw[List.length_zipWith] at hi;omega))
   have h2:=hw _ (List.getElem_mem (l:=words s 32) (n:=i) (by rw[List.length_zipWith] at hi;omega))
   omega
  rw[ae h7,Bool.true_and]
  refine (af (by rw[h7];rfl)).trans ?_
  refine (bg.loop k (ws:=words s 32) (gs:=Em) (by rw[h7];rfl) (by omega) (fun w KV=>by have:=hw w KV;omega) (by intro g hg;have:g.size<=7:=(by decide: ∀g∈Em,g.size<=7) g hg;omega) _ _ (some (RH.jx false)) (fun _=>rfl) (words s 32).length k 0 [] (by omega) (by omega) (by simp)).trans ?_
  rw[List.drop_zero,List.drop_zero,List.nil_append]
  cases OO (words s 32) Em with
  |false=>rfl
  |true=>
   rw[cond_true,Bool.true_and]
   generalize Hi (words s 32) Em=vs at N7 Kh
   obtain ⟨v0,v1,v2,v3,v4,v5,v6,rfl⟩:=RI N7
   have q (v:ByteArray) (hv:v∈[v0,v1,v2,v3,v4,v5,v6]):=Kh v hv
   refine (ab rfl).trans ((ab rfl).trans ((ab rfl).trans ((aa (dw.eq (q v0 (by simp)))).trans ((ab rfl).trans ((aa (dw.eq (q v1 (by simp)))).trans ((ab rfl).trans ((aa (dV.eq hk (q v3 (by simp)))).trans ((ab rfl).trans ((aa (dV.eq hk (q v4 (by simp)))).trans ((ab rfl).trans ((aa (dw.eq (q v5 (by simp)))).trans ((ab rfl).trans ((aa (dw.eq (q v6 (by simp)))).trans ?_)))))))))))))
   have Jh:=Ep [v0,v1,v2,v3,v4,v5,v6] (!(v2.toList==Iz.toList)) (!(v2.toList==Iy.toList))
   refine (aa (bN.eq hk _ _ _ _ _ _ Jh.1 Jh.2)).trans ?_
   show (bif !(p_ [v0,v1,v2,v3,v4,v5,v6]).ok then _ else _)=_
   cases xS:(p_ [v0,v1,v2,v3,v4,v5,v6]).ok with
   |false=>rfl
   |true=>
    refine (af rfl).trans ((aa (d_.eq hk (r:=p_ [v0,v1,v2,v3,v4,v5,v6]) Jh)).trans ?_)
    rw[Bool.true_and]
    cases (fU (p_ [v0,v1,v2,v3,v4,v5,v6])).toList==s.toList<;>rfl
 ·rw[aM h7]
  exact ak (by rw[RG (show ¬((words s 32).length:Int)=7 by omega)])
def jz (t:Tb) (r:Rl):Tb:=bif r.n != t.r.n then ⟨r,[],t.on,t.jy,t.g,t.rd,[]⟩ else ⟨r,t.cm,t.on,t.jy,t.g,t.rd,t.gp⟩
def ot (t:Tb) (s:ByteArray):Tb×Bool:=done t (jz t (du s).1) ((du s).2&& !t.on)
theorem Hj {t:Tb} (h:t.sm) {r:Rl} (hr:r.sm):(jz t r).KT:=by
 have h':=Tb.pX h
 unfold jz
 cases r.n != t.r.n with
 |true=>exact ⟨hr,h'.2.1,h'.2.2.1,h'.2.2.2.1,show ([]:List (List Int)).length<1073741824 by decide,fun y hy=>by cases hy⟩
 |false=>exact ⟨hr,h'.2.1,h'.2.2.1,h'.2.2.2.1,h'.2.2.2.2.1,h'.2.2.2.2.2⟩
theorem CF {t:Tb} (h:t.sm) (s:ByteArray):(ot t s).1.sm:=by
 have hr:=sI s
 refine ur _ h ?_ ?_ ?_
 ·unfold jz;cases (du s).1.n != t.r.n<;>exact hr
 ·unfold jz;cases (du s).1.n != t.r.n<;>exact h.2.2.1
 ·unfold jz;cases (du s).1.n != t.r.n<;>exact h.2.2.2.1
theorem fL.eq {k:Nat} (hk:cO<=k) {t:Tb} (h:t.sm) {s:ByteArray} (hs:s.size<1048577):t.ap (fL.f k) s=some ((ot t s).1.jx (ot t s).2):=by
 refine (aa (aD.eq hk h)).trans ((aa (bg.eq hk hs)).trans ?_)
 have hu:=Hj h (sI s)
 unfold ot
 generalize du s=p at hu
 obtain ⟨r,ok⟩:=p
 have hu:(jz t r).KT:=hu
 show (bif r.n != t.r.n then (bif ok then _ else _) else (bif ok then _ else _))=some ((done t (jz t r) (ok&& !t.on)).1.jx (done t (jz t r) (ok&& !t.on)).2)
 cases hn:r.n != t.r.n with
 |true=>
  have e:jz t r=⟨r,[],t.on,t.jy,t.g,t.rd,[]⟩:=by unfold jz;rw[hn];rfl
  rw[e] at hu ⊢
  have d (b:Bool):=au.eq hk b h hu
  cases ok with
  |true=>exact (ak rfl).trans ((ak rfl).trans ((aa (d (!t.on))).trans rfl))
  |false=>exact (ak rfl).trans ((af rfl).trans ((aa (d false)).trans rfl))
 |false=>
  have e:jz t r=⟨r,t.cm,t.on,t.jy,t.g,t.rd,t.gp⟩:=by unfold jz;rw[hn];rfl
  rw[e] at hu ⊢
  have d (b:Bool):=au.eq hk b h hu
  cases ok with
  |true=>exact (af rfl).trans ((ak rfl).trans ((aa (d (!t.on))).trans rfl))
  |false=>exact (af rfl).trans ((af rfl).trans ((aa (d false)).trans rfl))
theorem ca.self {k:Nat} (hk:cO<=k) {t:Tb} (h:t.sm):t.ap (t.ap (ca.f k))=some true:=by
 have e1:=cR.eq hk t.r h.1
 have e2:=aB.eq hk (a:=t.cm) t.cm (by have:=h.2.1;omega)
 have e3:=aB.eq hk (a:=t.jy) t.jy (by have:=h.2.2.1;omega)
 have e4:=cC.eq hk t.g h.2.2.2.1
 have e5:=aB.eq hk (a:=t.rd) t.rd (by have:=h.2.2.2.2.1;omega)
 have e6:=br.eq hk (a:=t.gp) t.gp h.2.2.2.2.2
 rw[show wH t.r t.r=true by simp[wH,xj]] at e1
 rw[show xj t.cm t.cm=true by simp[xj]] at e2
 rw[show xj t.jy t.jy=true by simp[xj]] at e3
 rw[show Ea t.g t.g=true by simp[Ea,wH,xj,D_]] at e4
 rw[show xj t.rd t.rd=true by simp[xj]] at e5
 rw[show D_ t.gp t.gp=true by simp[D_]] at e6
 exact (aa e1).trans ((ak rfl).trans ((aa e2).trans ((ak rfl).trans ((ak (beq_self_eq_true t.on)).trans ((aa e3).trans ((ak rfl).trans ((aa e4).trans ((ak rfl).trans ((aa e5).trans ((ak rfl).trans (aa e6)))))))))))
theorem mT (t u:Tb) (ok:Bool):((done t u ok).2=true->(done t u ok).1=u/\bf t=true/\bf u=true/\ok=true)/\((done t u ok).2=false->(done t u ok).1=t):=by
 unfold done
 cases h:(ok&&bf t&&bf u) with
 |true=>
  simp only[Bool.and_eq_true] at h
  exact ⟨fun _=>⟨rfl,h.1.2,h.2,h.1.1⟩,fun e=>by cases e⟩
 |false=>exact ⟨fun e=>(by cases e),fun _=>rfl⟩
theorem Jm {k:Nat} (hk:cO<=k) {t:Tb} (h:t.sm) (s:Int): ∃(u:Tb) (f:Bool),t.ap (ga.f k) s=some (u.jx f)/\u.sm/\(f=false->u=t)/\(f=true->bf u=true/\((u.cm.length:Int) != IntKind.wrap .i64 ((t.cm.length:Int)+1))=false):=by
 have h1:=h.2.1
 obtain ⟨g1,g2⟩:=mT t {t with cm:=t.cm++[s]} (!t.on)
 refine ⟨_,_,ga.eq hk h s,nA h s,g2,fun e=> ?_⟩
 obtain ⟨e1,_,e2,_⟩:=g1 e
 have e1:(fo t s).1={t with cm:=t.cm++[s]}:=e1
 rw[e1]
 refine ⟨e2,?_⟩
 rw[aR (by omega)]
 simp
theorem Jn {k:Nat} (hk:cO<=k) {t:Tb} (h:t.sm) (ss bs:List Int): ∃(u:Tb) (f:Bool),t.ap (gb.f k) ss bs=some (u.jx f)/\u.sm/\(f=false->u=t)/\(f=true->bf u=true/\(!u.on)=false/\((u.rd.length:Int) != 0)=false):=by
 obtain ⟨g1,g2⟩:=mT t (ma t ss bs []) (jj t&&(eQ t.cm ss bs).2&&(dJ t.r (eQ t.cm ss bs).1).2)
 refine ⟨_,_,gb.eq hk h ss bs,xk h ss bs,g2,fun e=> ?_⟩
 obtain ⟨e1,_,e2,_⟩:=g1 e
 have e1:(gU t ss bs).1=ma t ss bs []:=e1
 rw[e1]
 exact ⟨e2,rfl,rfl⟩
theorem yW {t:Tb} (h:t.sm) (m:Int):((dG t m).2=false->(dG t m).1=t)/\((dG t m).2=true->bf (dG t m).1=true/\(dG t m).1.rd=t.rd++[m]/\(dG t m).1.g=(aJ t.g m).1/\(aJ t.g m).2=true):=by
 obtain ⟨g1,g2⟩:=mT t {t with g:=(aJ t.g m).1,rd:=t.rd++[m]} (t.on&&(aJ t.g m).2)
 refine ⟨g2,fun e=> ?_⟩
 obtain ⟨e1,_,e2,e3⟩:=g1 e
 have e1:(dG t m).1={t with g:=(aJ t.g m).1,rd:=t.rd++[m]}:=e1
 rw[e1]
 exact ⟨e2,rfl,rfl,(az e3).2⟩
theorem Jo {k:Nat} (hk:cO<=k) {t:Tb} (h:t.sm) (c:Int): ∃(u:Tb) (f:Bool),t.ap (gd.f k) c=some (u.jx f)/\u.sm/\(f=false->u=t)/\(f=true->bf u=true/\((u.rd.length:Int) != IntKind.wrap .i64 ((t.rd.length:Int)+1))=false):=by
 have h1:=h.2.2.2.2.1
 obtain ⟨g1,g2⟩:=yW h c
 refine ⟨_,_,gd.eq hk h c,xl h c,?_,?_⟩
 ·unfold iw
  cases dy c with
  |true=>exact g1
  |false=>exact fun _=>rfl
 ·unfold iw
  cases dy c with
  |true=>
   intro e
   obtain ⟨e1,e2,_⟩:=g2 e
   refine ⟨e1,?_⟩
   show (((dG t c).1.rd.length:Int) != _)=false
   rw[e2,aR (by omega)]
   simp
  |false=>exact fun e=>by cases e
theorem Jp {k:Nat} (hk:cO<=k) {t:Tb} (h:t.sm): ∃(u:Tb) (f:Bool),t.ap (gf.f k)=some (u.jx f)/\u.sm/\(f=false->u=t)/\(f=true->bf u=true/\(u.g.mv != IntKind.wrap .i64 (t.g.mv+1))=false):=by
 obtain ⟨g1,g2⟩:=yW h (-1)
 have e0:=gf.eq hk h
 have s0:=pY h (-1)
 generalize dG t (-1)=q at g1 g2 e0 s0
 refine ⟨q.1,q.2,e0,s0,g1,fun e=> ?_⟩
 obtain ⟨e1,_,e3,e4⟩:=g2 e
 refine ⟨e1,?_⟩
 have e4:(eG t.g).2=true:=e4
 have e3:q.1.g=(eG t.g).1:=e3
 rw[e3]
 revert e4
 unfold eG
 cases hg:c_ t.g&& !kT t.g with
 |false=>exact fun e=>by cases e
 |true=>
  intro _
  have hG:=dR.1 (az hg).1
  have hr:=lP hG.1
  have hm:=hG.2.2.2.2.2.1
  show (t.g.mv+1 != _)=false
  rw[wrap_i64 (by omega) (by omega)]
  simp
theorem Er {k:Nat} (hk:cO<=k) {t:Tb} (h:t.sm): ∃(u:Tb) (f:Bool),t.ap (fg.f k)=some (u.jx f)/\u.sm/\(f=false->u=t)/\(f=true->bf u=true/\u.on=false/\((u.gp.length:Int) != IntKind.wrap .i64 ((t.gp.length:Int)+1))=false):=by
 have h1:=h.2.2.2.2.2.1
 obtain ⟨g1,g2⟩:=mT t (kU t) (t.on&&jL t.g)
 refine ⟨_,_,fg.eq hk h,sG h,g2,fun e=> ?_⟩
 obtain ⟨e1,_,e2,_⟩:=g1 e
 have e1:(fv t).1=kU t:=e1
 rw[e1]
 refine ⟨e2,rfl,?_⟩
 show (((t.gp++[settled t.g]).length:Int) != _)=false
 rw[aR (by omega)]
 simp
theorem Hk {s:ByteArray} (h:(du s).2=true):fU (du s).1=s:=by
 revert h
 unfold du
 cases hc:(decide ((words s 32).length=7)&&OO (words s 32) Em&&(p_ (Hi (words s 32) Em)).ok&&((fU (p_ (Hi (words s 32) Em))).toList==s.toList)) with
 |true=>exact fun _=>MW.1 (az hc).2
 |false=>exact fun e=>by cases e
theorem Hl {k:Nat} (hk:cO<=k) {t:Tb} (h:t.sm) {s:ByteArray} (hs:s.size<1048577): ∃(u:Tb) (f:Bool),t.ap (fL.f k) s=some (u.jx f)/\u.sm/\(f=false->u=t)/\(f=true->bf u=true/\fU u.r=s):=by
 obtain ⟨g1,g2⟩:=mT t (jz t (du s).1) ((du s).2&& !t.on)
 refine ⟨_,_,fL.eq hk h hs,CF h s,g2,fun e=> ?_⟩
 obtain ⟨e1,_,e2,e3⟩:=g1 e
 have e1:(ot t s).1=jz t (du s).1:=e1
 rw[e1]
 refine ⟨e2,?_⟩
 have er:(jz t (du s).1).r=(du s).1:=by
  unfold jz
  cases (du s).1.n != t.r.n<;>rfl
 rw[er]
 exact Hk (az e3).1
theorem eX.ok {k:Nat} (hk:cO<=k) {a:List Int} (ha:a.length<1048577): ∃(t:Tb) (s:Int),eX.f k a=some (t.yk s)/\t.sm:=by
 obtain ⟨h0,e0,c0⟩:=bw.ok hk ha
 obtain ⟨t,i1,h1,e1,c1,ts,tT⟩:=aT.ok hk h0 c0
 obtain ⟨x,i2,h2,e2,c2,_⟩:=ao.ok k h1 99 c1
 exact ⟨t,x,(aa e0).trans ((aa e1).trans (aa e2)),ts⟩
theorem eC.ok {k:Nat} (hk:cO<=k) {a:List Int} (ha:a.length<1048577): ∃(t:Tb) (s:Int),eC.f k a=some (t.yk s)/\t.sm:=by
 obtain ⟨h0,e0,c0⟩:=bw.ok hk ha
 obtain ⟨t,i1,h1,e1,c1,ts,tT⟩:=aT.ok hk h0 c0
 have ep:=bp.eq hk ts.2.2.2.1
 generalize eP t.g=l at ep
 obtain ⟨c,i3,h3,e3,c3⟩:=gQ.ok k h1 c1
 have pre: ∀X,_=X->eC.f k a=X:=fun X hX=>(aa e0).trans ((aa e1).trans ((aa ep).trans hX))
 by_cases hl:(l.length:Int)>0
 ·obtain ⟨o,i2,h2,e2,c2⟩:=aI.ok k h1 4 c1
  cases o with
  |false=>exact ⟨t,_,pre _ ((ak (ae hl)).trans ((aa e2).trans ((ak rfl).trans (ab (ae hl))))),ts⟩
  |true=>
   obtain ⟨c,i3,h3,e3,c3⟩:=gQ.ok k h2 c2
   exact ⟨t,c,pre _ ((ak (ae hl)).trans ((aa e2).trans ((af rfl).trans (aa e3)))),ts⟩
 ·exact ⟨t,c,pre _ ((af (aM hl)).trans (aa e3)),ts⟩
theorem dx.ok {k:Nat} (hk:cO<=k) {a:List Int} (ha:a.length<1048577): ∃(t:Tb),dx.f k a=some t.tp/\t.sm:=by
 obtain ⟨h0,e0,c0⟩:=bw.ok hk ha
 obtain ⟨t,i1,h1,e1,c1,ts,tT⟩:=aT.ok hk h0 c0
 exact ⟨t,(aa e0).trans (aa e1),ts⟩
theorem ey.ok {k:Nat} (hk:cO<=k) {a:List Int} (ha:a.length<1048577): ∃(t:Tb),ey.f k a=some t.tp/\t.sm:=by
 obtain ⟨t,e,ts⟩:=dx.ok hk ha
 exact ⟨t,aa e,ts⟩
theorem eM.ok {k:Nat} (hk:cO<=k) {a:List Int} (ha:a.length<1048577): ∃(t:Tb) (s:ByteArray),eM.f k a=some (t.yk s)/\t.sm/\s.size<1048577:=by
 obtain ⟨h0,e0,c0⟩:=bw.ok hk ha
 obtain ⟨t,i1,h1,e1,c1,ts,tT⟩:=aT.ok hk h0 c0
 obtain ⟨r,i2,h2,e2,c2,lw,lf⟩:=jw.ok hk h1 c1
 have er:=gB.eq hk (r:=r) ⟨by omega,by omega⟩
 have:=CD r
 exact ⟨t,fU r,(aa e0).trans ((aa e1).trans ((aa e2).trans (aa er))),ts,by omega⟩
theorem ux {k:Nat} (hk:cO<=k) {a b:Tb} {f:Bool} (ha:a.sm) (h:f=false->b=a) {rest:Option Bool} (hr:rest=some true):(bif f then rest else (b.ap (a.ap (ca.f k))).bind fun r1=>bif r1 then rest else some false)=some true:=by
 cases f with
 |true=>exact hr
 |false=>
  obtain rfl:=h rfl
  exact (af rfl).trans ((aa (ca.self hk ha)).trans hr)
theorem MX {k:Nat} (hk:cO<=k) {a b:Tb} {f:Bool} (ha:a.sm) (h:f=false->b=a):(bif f then some true else (b.ap (a.ap (ca.f k))).bind fun r1=>some r1)=some true:=by
 cases f with
 |true=>rfl
 |false=>
  obtain rfl:=h rfl
  exact (af rfl).trans (aa (ca.self hk ha))
theorem CG {k:Nat} (hk:cO<=k) {u:Tb} (hu:u.sm) (hT:bf u=true) {rest:Option Bool} (hr:rest=some true):((u.ap (cc.f k)).bind fun ye=>bif (!ye) then some false else rest)=some true:=
 (aa ((cc.eq hk (Tb.pX hu)).trans (congrArg some hT))).trans hr
theorem yX {k:Nat} (hk:cO<=k) {u:Tb} {f x:Bool} (hu:u.sm) (h:f=true->bf u=true/\x=false) {rest:Option Bool} (hr:rest=some true):(bif f then (u.ap (cc.f k)).bind fun ye=>bif (!ye) then some false else bif x then some false else rest else rest)=some true:=by
 cases f with
 |false=>exact hr
 |true=>
  obtain ⟨h1,rfl⟩:=h rfl
  exact (ak rfl).trans (CG hk hu h1 hr)
theorem Es {k:Nat} (hk:cO<=k) {u:Tb} {f x y:Bool} (hu:u.sm) (h:f=true->bf u=true/\x=false/\y=false) {rest:Option Bool} (hr:rest=some true):(bif f then (u.ap (cc.f k)).bind fun ye=>bif (!ye) then some false else bif x then some false else bif y then some false else rest else rest)=some true:=by
 cases f with
 |false=>exact hr
 |true=>
  obtain ⟨h1,rfl,rfl⟩:=h rfl
  exact (ak rfl).trans (CG hk hu h1 hr)
theorem Jq {k:Nat} (hk:cO<=k) {u:Tb} {f:Bool} {s:ByteArray} (hu:u.sm) (h:f=true->bf u=true/\fU u.r=s) {rest:Option Bool} (hr:rest=some true):(bif f then (u.ap (cc.f k)).bind fun ye=>bif (!ye) then some false else (d_.f k u.r.n u.r.e u.r.b1 u.r.b2 u.r.w u.r.f u.r.t u.r.l).bind fun Q6=>bif (!(Q6.toList==s.toList)) then some false else rest else rest)=some true:=by
 cases f with
 |false=>exact hr
 |true=>
  obtain ⟨h1,h2⟩:=h rfl
  refine (ak rfl).trans (CG hk hu h1 ((aa (d_.eq hk hu.1)).trans ((af ?_).trans hr)))
  rw[h2];simp
theorem Hm {k:Nat} (hk:cO<=k) {a b c d e f g h i j l m:Tb} {f1 f2 f3 f4 f5 f6:Bool} (sa:a.sm) (sc:c.sm) (se:e.sm) (sg:g.sm) (si:i.sm) (sl:l.sm) (h1:f1=false->b=a) (h2:f2=false->d=c) (h3:f3=false->f=e) (h4:f4=false->h=g) (h5:f5=false->j=i) (h6:f6=false->m=l):
 m.pm (l.pm (j.pm (i.pm (h.pm (g.pm (f.pm (e.pm (d.pm (c.pm (b.pm (a.pm (aw.Mx k f1 f2 f3 f4 f5 f6))))))))))))=some true:=by
 have q0:m.pm (l.pm (aw.q0 k f6))=some true:=MX hk sl h6
 have q1:m.pm (l.pm (j.pm (i.pm (aw.q1 k f5 f6))))=some true:=ux hk si h5 q0
 have q2:m.pm (l.pm (j.pm (i.pm (h.pm (g.pm (aw.q2 k f4 f5 f6))))))=some true:=ux hk sg h4 q1
 have q3:m.pm (l.pm (j.pm (i.pm (h.pm (g.pm (f.pm (e.pm (aw.q3 k f3 f4 f5 f6))))))))=some true:=ux hk se h3 q2
 have q4:m.pm (l.pm (j.pm (i.pm (h.pm (g.pm (f.pm (e.pm (d.pm (c.pm (aw.q4 k f2 f3 f4 f5 f6))))))))))=some true:=ux hk sc h2 q3
 exact ux hk sa h1 q4
theorem aw.eq {k:Nat} (hk:cO<=k) {a:List Int} (X3:a.length<=maxLen) (X4: ∀n∈a,yO .u8 n):aw.f k a=some true:=by
 by_cases hb:(a.length:Int)>1048576
 ·exact (aa rfl).trans (ak (ae hb))
 ·have ha:a.length<1048577:=by omega
  obtain ⟨t1,x1,d1,s1⟩:=eX.ok hk ha
  obtain ⟨P7,ss,bs,d2,s2,_⟩:=aO.ok hk ha
  obtain ⟨P8,x3,d3,s3⟩:=eC.ok hk ha
  obtain ⟨P9,d4,s4⟩:=dx.ok hk ha
  obtain ⟨P_,d5,s5⟩:=ey.ok hk ha
  obtain ⟨Qa,x6,d6,s6,hx⟩:=eM.ok hk ha
  obtain ⟨u1,f1,e1,z1,n1,y1⟩:=Jm hk s1 x1
  obtain ⟨u2,f2,e2,z2,n2,y2⟩:=Jn hk s2 ss bs
  obtain ⟨u3,f3,e3,z3,n3,y3⟩:=Jo hk s3 x3
  obtain ⟨u4,f4,e4,z4,n4,y4⟩:=Jp hk s4
  obtain ⟨u5,f5,e5,z5,n5,y5⟩:=Er hk s5
  obtain ⟨u6,f6,e6,z6,n6,y6⟩:=Hl hk s6 hx
  have tail:=Hm hk s1 s2 s3 s4 s5 s6 n1 n2 n3 n4 n5 n6
  have j0:aw.j0 k (u1.jx f1) (u2.jx f2) (u3.jx f3) (u4.jx f4) (u5.jx f5) (u6.jx f6) (t1.yk x1) (P7.OJ ss bs) (P8.yk x3) P9.tp P_.tp (Qa.yk x6)=some true:=tail
  have j1:aw.j1 k (u6.jx f6) (Qa.yk x6) (u1.jx f1) (u2.jx f2) (u3.jx f3) (u4.jx f4) (u5.jx f5) (t1.yk x1) (P7.OJ ss bs) (P8.yk x3) P9.tp P_.tp=some true:=Jq hk z6 y6 j0
  have j2:aw.j2 k (u5.jx f5) P_.tp (u6.jx f6) (Qa.yk x6) (u1.jx f1) (u2.jx f2) (u3.jx f3) (u4.jx f4) (t1.yk x1) (P7.OJ ss bs) (P8.yk x3) P9.tp=some true:=Es hk z5 y5 j1
  have j3:aw.j3 k (u4.jx f4) P9.tp (u5.jx f5) P_.tp (u6.jx f6) (Qa.yk x6) (u1.jx f1) (u2.jx f2) (u3.jx f3) (t1.yk x1) (P7.OJ ss bs) (P8.yk x3)=some true:=yX hk z4 y4 j2
  have j4:aw.j4 k (u3.jx f3) (P8.yk x3) (u4.jx f4) P9.tp (u5.jx f5) P_.tp (u6.jx f6) (Qa.yk x6) (u1.jx f1) (u2.jx f2) (t1.yk x1) (P7.OJ ss bs)=some true:=yX hk z3 y3 j3
  have j5:aw.j5 k (u2.jx f2) (u3.jx f3) (P8.yk x3) (u4.jx f4) P9.tp (u5.jx f5) P_.tp (u6.jx f6) (Qa.yk x6) (u1.jx f1) (t1.yk x1) (P7.OJ ss bs)=some true:=Es hk z2 y2 j4
  refine (aa rfl).trans ((af (aM hb)).trans ((aa d1).trans ((aa e1).trans ((aa d2).trans ((aa e2).trans ((aa d3).trans ((aa e3).trans ((aa d4).trans ((aa e4).trans ((aa d5).trans ((aa e5).trans ((aa d6).trans ((aa e6).trans ?_)))))))))))))
  exact yX hk z1 y1 j5
end Go.Proofs.YtbmmhdmljajcfaaGreatDoor
