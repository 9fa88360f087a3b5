/- Plain laws of the program's functions, joined. Conditions: as each theorem says. -/
import Derived.Test.YtbmmhdmljajcfaaGreatDoorKit
import Derived.Test.YtbmmhdmljajcfaaGreatDoorFFnSteps
import Derived.Test.YtbmmhdmljajcfaaGreatDoorVExt
set_option linter.unusedVariables false
set_option linter.unusedSimpArgs false
set_option linter.unusedSectionVars false
namespace Go.Proofs.YtbmmhdmljajcfaaGreatDoor
open Go Go.Proofs.YtbmmhdmljajcfaaGreatDoor.V
theorem aG.eq (k:Nat) (a lo hi:Int):aG.f k a lo hi=some (jJ a lo hi):=by
 unfold aG.f jJ
 by_cases h:lo<=a<;>simp[h]
theorem an.eq (k:Nat) (a lo hi:Int):an.f k a lo hi=some (jJ a lo hi):=by
 unfold an.f jJ
 by_cases h:lo<=a<;>simp[h]
def DY (a:Int):Int:=(a.tmod 2147483647+2147483647).tmod 2147483647
theorem Ck (a:Int): -2147483647<a.tmod 2147483647/\a.tmod 2147483647<2147483647:=by
 constructor
 ·rcases Int.le_total 0 a with h|h
  ·rw[Int.tmod_eq_emod_of_nonneg h];omega
  ·have e:a.tmod 2147483647= -((-a).tmod 2147483647):=by rw[Int.neg_tmod,Int.neg_neg]
   rw[e,Int.tmod_eq_emod_of_nonneg (by omega)];omega
 ·rcases Int.le_total 0 a with h|h
  ·rw[Int.tmod_eq_emod_of_nonneg h];omega
  ·have e:a.tmod 2147483647= -((-a).tmod 2147483647):=by rw[Int.neg_tmod,Int.neg_neg]
   rw[e,Int.tmod_eq_emod_of_nonneg (by omega)];omega
theorem Cl (a:Int):0<=DY a/\DY a<2147483647:=by
 have:=Ck a
 unfold DY
 rw[Int.tmod_eq_emod_of_nonneg (by omega)]
 omega
theorem gw.eq (k:Nat) (a:Int):gw.f k a 2147483647=some (DY a):=by
 have:=Ck a
 refine (aa (aG.eq ..)).trans ((af rfl).trans ((ab rfl).trans ((ab rfl).trans ?_)))
 rw[wrap_i64 (by omega) (by omega)]
 rfl
theorem gy.eq (k:Nat) (a:Int):gy.f k a 2147483647=some (DY a):=by
 have:=Ck a
 refine (aa (an.eq ..)).trans ((af rfl).trans ((ab rfl).trans ((ab rfl).trans ?_)))
 rw[wrap_i64 (by omega) (by omega)]
 rfl
def Br (h a:Int):Int:=(h*1000003+DY a+13).tmod 2147483647
theorem DZ {h:Int} (a:Int) (h0:0<=h/\h<2147483647):0<=Br h a/\Br h a<2147483647:=by
 have:=Cl a
 unfold Br
 rw[Int.tmod_eq_emod_of_nonneg (by omega)]
 omega
def pQ (l:List Int):Int:=l.foldl Br 11
theorem dK.eq {k:Nat} (hk:cO<=k) {l:List Int} (hl:l.length<1048577):dK.f k l=some (pQ l):=by
 have h:=scan (B:=Int) l (fun m b i=>dK.l3 k l (fun x=>some x) m b i) (fun _ _=>true) Br (fun x=>some x) (fun _ _=>none) (fun i b=>0<=b/\b<2147483647)
  (fun m b i h hI=>by
    have hm:=Cl l[i]
    refine (dK.aE ..).trans ((ak (ae (by omega))).trans ((ab (cy h)).trans ?_))
    rw[Int.toNat_natCast,aP _ h]
    refine (aa (gw.eq ..)).trans ?_
    rw[aR (by omega),wrap_i64 (n:=b*1000003) (by omega) (by omega),wrap_i64 (n:=b*1000003+DY l[i]) (by omega) (by omega),wrap_i64 (by omega) (by omega)]
    rfl)
  (fun b i h hI _=>DZ _ hI)
  (fun m b hI=>(dK.aE ..).trans (af (aM (by omega))))
  l.length 0 k 11 (by omega) (cU hk hl) (by omega)
 refine h.trans ?_
 rw[List.drop_zero,dC];rfl
theorem dM.eq {k:Nat} (hk:cO<=k) {l:List Int} (hl:l.length<1048577):dM.f k l=some (pQ l):=by
 have h:=scan (B:=Int) l (fun m b i=>dM.l3 k l (l.length:Int) (fun x=>some x) m b i) (fun _ _=>true) Br (fun x=>some x) (fun _ _=>none) (fun i b=>0<=b/\b<2147483647)
  (fun m b i h hI=>by
    have hm:=Cl l[i]
    refine (dM.aE ..).trans ((ak (ae (by omega))).trans ((ab (cy h)).trans ?_))
    rw[Int.toNat_natCast,aP _ h]
    refine (aa (gy.eq ..)).trans ?_
    rw[aR (by omega),wrap_i64 (n:=b*1000003) (by omega) (by omega),wrap_i64 (n:=b*1000003+DY l[i]) (by omega) (by omega),wrap_i64 (by omega) (by omega)]
    rfl)
  (fun b i h hI _=>DZ _ hI)
  (fun m b hI=>(dM.aE ..).trans (af (aM (by omega))))
  l.length 0 k 11 (by omega) (cU hk hl) (by omega)
 refine h.trans ?_
 rw[List.drop_zero,dC];rfl
def dy (c:Int):Bool:=jJ c 0 51
def iY (c:Int):Int:=bif dy c then c.tdiv 13 else-1
def fi (c:Int):Int:=bif dy c then c.tmod 13 else-1
def Iq (c:Int):Bool:=jJ (iY c) 1 2
theorem lm {c:Int}:dy c=true↔0<=c/\c<=51:=eD
theorem wB (c:Int): -1<=fi c/\fi c<=12:=by
 unfold fi
 cases h:dy c with
 |false=>simp
 |true=>
  have:=lm.1 h
  simp only[cond_true]
  rw[Int.tmod_eq_emod_of_nonneg this.1]
  omega
theorem bZ.eq (k:Nat) (c:Int):bZ.f k c=some (dy c):=aa (aG.eq ..)
theorem bX.eq (k:Nat) (c:Int):bX.f k c=some (dy c):=aa (an.eq ..)
theorem Bs {c:Int} (h:dy c=true):IntKind.wrap .i64 (c.tdiv 13)=c.tdiv 13:=by
 have:=lm.1 h
 have e:=Int.tdiv_eq_ediv_of_nonneg (b:=13) this.1
 exact wrap_i64 (by omega) (by omega)
theorem eB.eq (k:Nat) (c:Int):eB.f k c=some (iY c):=by
 refine (aa (bZ.eq ..)).trans ?_
 unfold iY
 cases h:dy c with
 |false=>rfl
 |true=>exact (af rfl).trans (by rw[Bs h];rfl)
theorem dP.eq (k:Nat) (c:Int):dP.f k c=some (iY c):=by
 refine (aa (bX.eq ..)).trans ?_
 unfold iY
 cases h:dy c with
 |false=>rfl
 |true=>exact (af rfl).trans (by rw[Bs h];rfl)
theorem dA.eq (k:Nat) (c:Int):dA.f k c=some (fi c):=by
 refine (aa (bZ.eq ..)).trans ?_
 unfold fi
 cases dy c<;>rfl
theorem dz.eq (k:Nat) (c:Int):dz.f k c=some (fi c):=by
 refine (aa (bX.eq ..)).trans ?_
 unfold fi
 cases dy c<;>rfl
theorem ky.eq (k:Nat) (c:Int):ky.f k c=some (Iq c):=(aa (eB.eq ..)).trans (aa (aG.eq ..))
theorem kw.eq (k:Nat) (c:Int):kw.f k c=some (Iq c):=by
 refine (aa (dP.eq ..)).trans ?_
 unfold Iq jJ
 by_cases h:iY c=1
 ·rw[h];rfl
 ·refine (af (by simpa using h)).trans ((aa (dP.eq ..)).trans ?_)
  by_cases h2:iY c=2
  ·rw[h2];rfl
  ·have e1:(iY c==(2:Int))=false:=by simp[h2]
   have e2:(decide (1<=iY c)&&decide (iY c<=2))=false:=by
    by_cases h3:1<=iY c
    ·rw[ae h3,aM (p:=iY c<=2) (by omega)];rfl
    ·rw[aM h3];rfl
   rw[e1,e2]
def cD (l:List Int) (c:Int):Bool:=l.any fun x=>x==c
theorem D0 (l:List Int) (c:Int):(l.all fun x=> !(x==c))= !cD l c:=by
 unfold cD
 induction l with
 |nil=>rfl
 |cons a l ih=>rw[List.all_cons,List.any_cons,ih,Bool.not_or]
theorem bC.eq {k:Nat} (hk:cO<=k) {l:List Int} (c:Int) (hl:l.length<1073741824):bC.f k l c=some (cD l c):=by
 have h:=scan (B:=Unit) l (fun m b i=>bC.l2 k l c (some true) (some false) m i) (fun _ a=> !(a==c)) (fun b a=>b) (fun _=>some false) (fun _ _=>some true) (fun i b=>True)
  (fun m b i h hI=>by
    refine (bC.fS ..).trans ((ak (ae (by omega))).trans ((ab (cy h)).trans ?_))
    rw[Int.toNat_natCast,aP _ h,aR (by omega)]
    cases l[i]==c<;>rfl)
  (fun b i h hI hp=>trivial)
  (fun m b hI=>(bC.fS ..).trans (af (aM (by omega))))
  l.length 0 k () (by omega) (mh hk hl) trivial
 refine h.trans ?_
 rw[List.drop_zero,qB,D0]
 cases cD l c<;>rfl
def th:List Int->List Int->Bool
 |_,[]=>true
 |seen,a::l=>dy a&& !cD seen a&&th (seen++[a]) l
def j6 (l:List Int):Bool:=th [] l
theorem yA {B:Type} (sn:B->List Int) (g:B->Int->B) (hg: ∀b a,sn (g b a)=sn b++[a]): ∀(l:List Int) (b:B),run (fun b a=>dy a&& !cD (sn b) a) g (fun _=>some true) (fun _ _=>some false) l b=some (th (sn b) l)
 | [],b=>rfl
 |a::l,b=>by
  show (bif (dy a&& !cD (sn b) a) then run _ g _ _ l (g b a) else some false)=some (dy a&& !cD (sn b) a&&th (sn b++[a]) l)
  rw[yA sn g hg l (g b a),hg]
  cases (dy a&& !cD (sn b) a)<;>rfl
theorem bz.eq {k:Nat} (hk:cO<=k) {l:List Int} (hl:l.length<1073741824):bz.f k l=some (j6 l):=by
 have h:=scan (B:=List Int) l (fun m b i=>bz.l2 k l (some false) (some true) m i) (fun b a=>dy a&& !cD b a) (fun b a=>b++[a]) (fun _=>some true) (fun _ _=>some false) (fun i b=>b=l.take i)
  (fun m b i h hI=>by
    subst hI
    refine (bz.fS ..).trans ((ak (ae (by omega))).trans ((ab (cy h)).trans ?_))
    rw[Int.toNat_natCast,aP _ h,aR (by omega)]
    refine (aa (bZ.eq ..)).trans ?_
    cases dy l[i] with
    |false=>rfl
    |true=>
     refine (af rfl).trans ((ab (ch (ae (by omega)) (ae (by omega)))).trans ((ab (cy h)).trans ((aa (bC.eq hk _ (by rw[List.length_take];omega))).trans ?_)))
     cases cD (l.take i) l[i]<;>rfl)
  (fun b i h hI hp=>by subst hI;exact (List.take_succ_eq_append_getElem h).symm)
  (fun m b hI=>(bz.fS ..).trans (af (aM (by omega))))
  l.length 0 k [] (by omega) (mh hk hl) rfl
 refine h.trans ?_
 rw[List.drop_zero,yA (fun b=>b) _ (fun _ _=>rfl)]
 rfl
theorem Cm (l:List Int) (a c:Int):cD (l++[a]) c=(cD l c||(a==c)):=by simp[cD]
theorem bI.eq {k:Nat} (hk:cO<=k) {l:List Int} (hl:l.length<1073741824):bI.f k l=some (j6 l):=by
 have h:=scan (B:=List Bool×List Int) l (fun m b i=>bI.l3 k l (l.length:Int) (some false) (some true) m i b.1) (fun b a=>dy a&& !cD b.2 a) (fun b a=>(b.1.set a.toNat true,b.2++[a])) (fun _=>some true) (fun _ _=>some false)
  (fun i b=>b.1.length=52/\ ∀c,dy c=true->b.1.getD c.toNat false=cD b.2 c)
  (fun m b i h hI=>by
    refine (bI.aE ..).trans ((ak (ae (by omega))).trans ((ab (cy h)).trans ?_))
    rw[Int.toNat_natCast,aP _ h,aR (by omega)]
    refine (aa (bX.eq ..)).trans ?_
    cases hc:dy l[i] with
    |false=>rfl
    |true=>
     have hb:=lm.1 hc
     refine (af rfl).trans ((ab (ch (ae (by omega)) (ae (by omega)))).trans ?_)
     rw[hI.2 _ hc]
     cases cD b.2 l[i] with
     |true=>rfl
     |false=>exact (af rfl).trans (ab (ch (ae (by omega)) (ae (by omega)))))
  (fun b i h hI hp=>by
    obtain ⟨hc,_⟩:=Bool.and_eq_true_iff.1 hp
    have hb:=lm.1 hc
    refine ⟨by simpa using hI.1,fun c Ir=> ?_⟩
    have nv:=lm.1 Ir
    rw[Cm,<- hI.2 c Ir]
    by_cases e:l[i] =c
    ·subst e
     rw[Kx _ _ (by omega)]
     simp
    ·have e1:(l[i]==c)=false:=by simp[e]
     have e2: ¬l[i].toNat=c.toNat:=by omega
     rw[e1,Bool.or_false,List.getD_eq_getElem?_getD,List.getElem?_set,if_neg e2,<- List.getD_eq_getElem?_getD])
  (fun m b hI=>(bI.aE ..).trans (af (aM (by omega))))
  l.length 0 k (List.replicate 52 false,[]) (by omega) (mh hk hl) ⟨by simp,fun c hc=>by
   have hb:=lm.1 hc
   rw[List.getD_eq_getElem?_getD,List.getElem?_replicate]
   have:c.toNat<52:=by omega
   simp[this,cD]⟩
 refine Eq.trans ?_ (h.trans ?_)
 ·rfl
 ·rw[List.drop_zero]
  exact yA (fun b:List Bool×List Int=>b.2) _ (fun _ _=>rfl) l _
def kS (l:List Int) (c:Int):List Int:=l.filter fun x=>x != c
theorem cK.eq {k:Nat} (hk:cO<=k) {l:List Int} (c:Int) (hl:l.length<1048577):cK.f k l c=some (kS l c):=by
 have h:=scan (B:=List Int) l (fun m b i=>cK.l3 k l c (fun x1=>some x1) m i b) (fun _ _=>true) (fun b a=>bif a != c then b++[a] else b) (fun x1=>some x1) (fun _ _=>none) (fun i b=>b.length<=i)
  (fun m b i h hI=>by
    refine (cK.aE ..).trans ((ak (ae (by omega))).trans ((ab (cy h)).trans ?_))
    rw[Int.toNat_natCast,aP _ h,aR (by omega)]
    cases (l[i] != c) with
    |false=>rfl
    |true=>exact (ak rfl).trans ((ab (cy h)).trans (ab (ae (by simp[room];omega)))))
  (fun b i h hI _=>by cases (l[i] != c)<;>simp<;>omega)
  (fun m b hI=>(cK.aE ..).trans (af (aM (by omega))))
  l.length 0 k [] (by omega) (cU hk hl) (by simp)
 refine h.trans ?_
 rw[List.drop_zero,dC]
 have key: ∀(l b:List Int),l.foldl (fun b a=>bif a != c then b++[a] else b) b=b++kS l c:=by
  intro l
  induction l with
  |nil=>intro b;simp[kS]
  |cons a l ih=>
   intro b
   rw[List.foldl_cons,ih]
   unfold kS
   rw[List.filter_cons]
   cases (a != c)<;>simp
 rw[key,List.nil_append]
theorem xf {l:List Int} {c:Int}:cD l c=true↔c∈l:=by
 unfold cD
 rw[List.any_eq_true]
 constructor
 ·rintro ⟨x,hx,e⟩
  rw[beq_iff_eq] at e;subst e;exact hx
 ·intro h;exact ⟨c,h,by simp⟩
theorem yB {l:List Int} {c:Int}:cD l c=false↔c∉l:=by
 rw[<- xf];cases cD l c<;>simp
theorem yC: ∀(l seen:List Int),th seen l=true↔(∀x∈l,dy x=true)/\l.Nodup/\ ∀x∈l,x∉seen
 | [],seen=>by simp[th]
 |a::l,seen=>by
  rw[th,Bool.and_eq_true,Bool.and_eq_true,yC l (seen++[a])]
  constructor
  ·rintro ⟨⟨h1,h2⟩,h3,h4,h5⟩
   have TY:a∉seen:=yB.1 (by simpa using h2)
   refine ⟨fun x hx=> ?_,List.nodup_cons.2 ⟨fun h=>h5 a h (by simp),h4⟩,fun x hx=> ?_⟩
   ·rcases List.mem_cons.1 hx with rfl|hx
    ·exact h1
    ·exact h3 x hx
   ·rcases List.mem_cons.1 hx with rfl|hx
    ·exact TY
    ·exact fun h=>h5 x hx (by simp[h])
  ·rintro ⟨h1,h2,h3⟩
   obtain ⟨h4,h5⟩:=List.nodup_cons.1 h2
   refine ⟨⟨h1 a (by simp),by rw[yB.2 (h3 a (by simp))];rfl⟩,fun x hx=>h1 x (by simp[hx]),h5,fun x hx h=> ?_⟩
   rcases List.mem_append.1 h with h|h
   ·exact h3 x (by simp[hx]) h
   ·obtain rfl:=List.mem_singleton.1 h;exact h4 hx
theorem tj {l:List Int}:j6 l=true↔(∀x∈l,dy x=true)/\l.Nodup:=by
 unfold j6
 rw[yC]
 simp
theorem pR {l l':List Int} (h:l.Perm l'):j6 l=j6 l':=by
 rw[Bool.eq_iff_iff,tj,tj,h.nodup_iff]
 simp only[h.mem_iff]
def whole (ls:List (List Int)):Bool:=j6 ls.flatten&&((ls.flatten.length:Int)==52)
theorem yD {a b:List (List Int)} (h:a.flatten.Perm b.flatten):whole a=whole b:=by
 unfold whole
 rw[pR h,h.length_eq]
theorem Bt {ls:List (List Int)} (h:whole ls=true):ls.flatten.length=52:=by
 unfold whole at h
 rw[Bool.and_eq_true,beq_iff_eq] at h
 omega
theorem D1 {ls:List (List Int)} (h:whole ls=true):ls.flatten.Nodup:=by
 unfold whole at h
 rw[Bool.and_eq_true] at h
 exact (tj.1 h.1).2
theorem D2 {ls:List (List Int)} {l:List Int} (h:l∈ls):l.length<=ls.flatten.length:=by
 induction ls with
 |nil=>cases h
 |cons a ls ih=>
  rw[List.flatten_cons,List.length_append]
  rcases List.mem_cons.1 h with rfl|h
  ·omega
  ·have:=ih h;omega
theorem pS: ∀(hs:List (List Int)) (t:Nat) (x:List Int) (h:t<hs.length),∃q:List Int,hs.flatten.Perm (hs[t]++q)/\(hs.set t x).flatten.Perm (x++q)
 |a::l,0,x,h=>⟨l.flatten,by simp,by simp⟩
 |a::l,t+1,x,h=>by
  obtain ⟨q,h1,h2⟩:=pS l t x (by simpa using h)
  refine ⟨a++q,?_,?_⟩
  ·rw[List.flatten_cons,List.getElem_cons_succ]
   exact (h1.append_left a).trans (List.perm_append_comm_assoc _ _ _)
  ·rw[List.set_cons_succ,List.flatten_cons]
   exact (h2.append_left a).trans (List.perm_append_comm_assoc _ _ _)
theorem ud: ∀ {l:List Int} {c:Int},l.Nodup->c∈l->l.Perm (kS l c++[c])
 |a::l,c,h,hc=>by
  obtain ⟨h1,h2⟩:=List.nodup_cons.1 h
  unfold kS
  rw[List.filter_cons]
  by_cases e:a=c
  ·subst e
   have e1:(a != a)=false:=by simp
   have e2:l.filter (fun x=>x != a)=l:=List.filter_eq_self.2 (fun x hx=>by
    have:x≠a:=fun q=>h1 (q ▸ hx)
    simpa using this)
   rw[e1,e2]
   exact (List.perm_append_comm (l₁:=[a]) (l₂:=l))
  ·have e1:(a != c)=true:=by simp[e]
   rw[e1]
   have Ir:c∈l:=by
    rcases List.mem_cons.1 hc with q|q
    ·exact absurd q.symm e
    ·exact q
   exact (ud h2 Ir).cons a
def pG (c:Int) (v:List Int):Nat->Nat
 |0=>0
 |k+1=>bif decide (v.getD k 0>c) then pG c v k else k+1
theorem yh (c:Int) (v:List Int): ∀k,pG c v k<=k
 |0=>Nat.le_refl _
 |k+1=>by
  have:=yh c v k
  unfold pG
  cases decide (v.getD k 0>c) with
  |true=>simp only[cond_true];omega
  |false=>simp only[cond_false];omega
def AQ (v:List Int) (c:Int):List Int:=v.take (pG c v v.length)++c::v.drop (pG c v v.length)
def fT (l:List Int):List Int:=l.foldl AQ []
theorem D3 (v:List Int) (c:Int):(AQ v c).length=v.length+1:=by
 have:=yh c v v.length
 simp[AQ];omega
theorem KK {v:List Int} {j:Nat} (d c:Int) (hj:j<=v.length) (n:Nat) (hn:n=(v++[d]).length):
 (((v++[d]).take (j+1))++(((((v++[d]).take n).drop j).take (n-(j+1)))++((v++[d]).drop ((j+1)+(min (n-j) (n-(j+1))))))).set j c=v.take j++c::v.drop j:=by
 have hm:n=v.length+1:=by rw[hn];simp
 have e1:(v++[d]).take n=v++[d]:=List.take_of_length_le (by simp;omega)
 have e2:(v++[d]).drop ((j+1)+(min (n-j) (n-(j+1))))=[]:=List.drop_eq_nil_of_le (by simp;omega)
 have e3:((v++[d]).drop j).take (n-(j+1))=v.drop j:=by
  rw[List.drop_append_of_le_length hj,List.take_append_of_le_length (by simp;omega),List.take_of_length_le (by simp;omega)]
 rw[e1,e2,e3,List.append_nil,List.set_eq_take_append_cons_drop]
 have hl:((v++[d]).take (j+1)).length=j+1:=by simp;omega
 rw[if_pos (by rw[List.length_append,hl];omega)]
 congr 1
 ·rw[List.take_append_of_le_length (by omega),List.take_take,show min j (j+1)=j by omega,List.take_append_of_le_length hj]
 ·rw[List.drop_append,hl,Nat.sub_self,List.drop_zero,List.drop_eq_nil_of_le (by omega),List.nil_append]
theorem bi.inner {R:Type} (k:Nat) (c:Int) (v:List Int) (e0:Int->Option R) (hv:v.length<1048577): ∀(j n:Nat),j<=v.length->j<n->bi.l6 k c v e0 n (j:Int)=e0 ((pG c v j:Nat):Int):=by
 intro j
 induction j with
 |zero=>
  intro n hj hn
  obtain ⟨n,rfl⟩: ∃n',n=n' +1:=⟨n-1,by omega⟩
  exact (bi.gO ..).trans (af (aM (by omega)))
 |succ j ih=>
  intro n hj hn
  obtain ⟨n,rfl⟩: ∃n',n=n' +1:=⟨n-1,by omega⟩
  refine (bi.gO ..).trans ((ak (ae (by omega))).trans ?_)
  have e:IntKind.wrap .i64 (((j+1:Nat):Int)-1)=(j:Int):=by rw[wrap_i64 (by omega) (by omega)];omega
  rw[e]
  refine (ab (cy (by omega))).trans ?_
  rw[Int.toNat_natCast]
  unfold pG
  cases h:decide (v.getD j 0>c) with
  |true=>exact (ak rfl).trans (ih n (by omega) (by omega))
  |false=>rfl
theorem bi.eq {k:Nat} (hk:cO<=k) {l:List Int} (hl:l.length<1048577):bi.f k l=some (fT l):=by
 have h:=scan (B:=List Int) l (fun m b i=>bi.l3 k l (l.length:Int) (fun x2=>some x2) m i b) (fun _ _=>true) AQ (fun x2=>some x2) (fun _ _=>none) (fun i b=>b.length=i)
  (fun m b i h hI=>by
    have hp:=yh l[i] b b.length
    have hb:b.length<1048577:=by omega
    refine (bi.aE ..).trans ((ak (ae (by omega))).trans ((ab (cy h)).trans ?_))
    rw[Int.toNat_natCast,aP _ h]
    refine (bi.inner k l[i] b _ hb b.length k (Nat.le_refl _) (cU hk hb)).trans ?_
    have hx:(((b++[(0:Int)]).length:Nat):Int)=((b.length+1:Nat):Int):=by simp
    refine (ab (ae (by simp[room];omega))).trans ?_
    refine (ab (ch (ae (by omega)) (ae (by omega)))).trans ?_
    rw[aR (by omega)]
    refine (ab (ch (ae (by omega)) (ae (by omega)))).trans ?_
    refine (ab (ch (ae (by omega)) (ae (by omega)))).trans ?_
    refine (ab (ch (ae (by omega)) (ae (by omega)))).trans ?_
    have hex:=fun c=>KK (v:=b) (j:=pG l[i] b b.length) 0 c hp (b++[(0:Int)]).length rfl
    rw[Int.toNat_natCast,Int.toNat_natCast,Int.toNat_natCast]
    refine (ab (ch (ae (by omega)) (ae ?_))).trans ?_
    ·have:=congrArg List.length (hex 0)
     rw[List.length_set] at this
     rw[this];simp;omega
    ·rw[hex,aR (by omega)]
     rfl)
  (fun b i h hI _=>by rw[D3];omega)
  (fun m b hI=>(bi.aE ..).trans (af (aM (by omega))))
  l.length 0 k [] (by omega) (cU hk hl) rfl
 refine h.trans ?_
 rw[List.drop_zero,dC]
 rfl
def gR (a:Int):Bool:=jJ a 100 103||jJ a 200 212||jJ a 300 312||(a==400)
theorem iO.eq (k:Nat) (a:Int):iO.f k a=some (gR a):=by
 unfold iO.f gR
 simp only[aG.eq,Option.bind_some]
 cases jJ a 100 103<;>cases jJ a 200 212<;>cases jJ a 300 312<;>rfl
theorem iN.eq (k:Nat) (a:Int):iN.f k a=some (gR a):=by
 unfold iN.f gR
 simp only[an.eq,Option.bind_some]
 cases jJ a 100 103<;>cases jJ a 200 212<;>cases jJ a 300 312<;>rfl
def fx (d a:Int):Bool:=gR a||((a== -1)&&decide (1<=d))||((a== -2||a== -3)&&decide (2<=d))
def im (d a:Int):Int:=bif gR a then d+1 else bif a== -1 then d else d-1
def jV:List Int->Int->Bool
 | [],d=>d==1
 |a::l,d=>fx d a&&jV l (im d a)
theorem Cn (q:Bool): ∀(l:List Int) (d:Int),run fx im (fun d=>some ((d==1)&&q)) (fun _ _=>some false) l d=some (jV l d&&q)
 | [],d=>rfl
 |a::l,d=>by
  show (bif fx d a then run fx im _ _ l (im d a) else some false)=some (fx d a&&jV l (im d a)&&q)
  rw[Cn q l (im d a)]
  cases fx d a<;>rfl
theorem qE {d a:Int} (h:fx d a=true) (h0:0<=d):0<=im d a/\im d a<=d+1:=by
 unfold fx at h
 cases hl:gR a with
 |true=>have e:im d a=d+1:=by unfold im;rw[hl];rfl
        omega
 |false=>
  by_cases h1:a= -1
  ·have e:im d a=d:=by unfold im;rw[hl,h1];rfl
   omega
  ·have P5:(a==(-1:Int))=false:=by simp[h1]
   have e:im d a=d-1:=by unfold im;rw[hl,P5];rfl
   rw[hl,P5] at h
   simp at h
   omega
theorem Bu {R:Type} (d a:Int) (X Y Z W:Option R) (hX:gR a=true->X=W) (hY:a= -1->Y=W) (hZ:(a= -2\/a= -3)->Z=W) (e:Option R) (hle:gR a=true->a≠ -1/\a≠ -2/\a≠ -3):
 (bif gR a then X else bif (a==(-1:Int)) then (bif decide (d>=1) then Y else bif (a==(-2:Int)) then (bif decide (d>=2) then Z else e) else bif (a==(-3:Int)) then (bif decide (d>=2) then Z else e) else e) else bif (a==(-2:Int)) then (bif decide (d>=2) then Z else e) else bif (a==(-3:Int)) then (bif decide (d>=2) then Z else e) else e)=bif fx d a then W else e:=by
 unfold fx
 cases hl:gR a with
 |true=>simp[hX hl]
 |false=>
  by_cases h1:a= -1
  ·subst h1
   by_cases hd:1<=d<;>simp[hd,hY rfl]
  ·by_cases h2:a= -2
   ·subst h2
    by_cases hd:2<=d<;>simp[hd,hZ (.inl rfl)]
   ·by_cases h3:a= -3
    ·subst h3
     by_cases hd:2<=d<;>simp[hd,hZ (.inr rfl)]
    ·have e1:(a==(-1:Int))=false:=by simp[h1]
     have e2:(a==(-2:Int))=false:=by simp[h2]
     have e3:(a==(-3:Int))=false:=by simp[h3]
     rw[e1,e2,e3]
     rfl
theorem ue {a:Int} (h:gR a=true):a≠ -1/\a≠ -2/\a≠ -3:=by
 refine ⟨?_,?_,?_⟩<;>rintro rfl<;>exact absurd h (by decide)
def dN (l:List Int):Bool:=jV l 0&&decide ((l.length:Int)<=20)
theorem be.eq {k:Nat} (hk:cO<=k) {l:List Int} (hl:l.length<1048577):be.f k l=some (dN l):=by
 have h:=scan (B:=Int) l (fun m b i=>be.l3 k l (fun x2=>some false) (fun x3=>bif (x3==(1:Int)) then some (decide ((l.length:Int)<=(20:Int))) else some false) m b i) fx im (fun d=>some ((d==1)&&decide ((l.length:Int)<=20))) (fun _ _=>some false) (fun i b=>0<=b/\b<=(i:Int))
  (fun m b i h hI=>by
    refine (be.aE ..).trans ?_
    refine (ak (ae (by omega))).trans ?_
    refine (ab (cy h)).trans ?_
    rw[Int.toNat_natCast,aP _ h]
    refine (aa (iO.eq ..)).trans ?_
    simp only[ab (cy h)]
    rw[aR (by omega),wrap_i64 (n:=b+1) (by omega) (by omega),wrap_i64 (n:=b-1) (by omega) (by omega)]
    refine Bu b l[i] _ _ _ _ (fun e=>by unfold im;rw[e];rfl) (fun e=>by unfold im;rw[e];rfl) (fun e=>by unfold im;rcases e with e|e<;>rw[e]<;>rfl) _ ue)
  (fun b i h hI hp=>by have:=qE hp hI.1;constructor<;>omega)
  (fun m b hI=>(be.aE ..).trans ((af (aM (by omega))).trans (by show (bif (b==(1:Int)) then _ else _)=_;cases (b==(1:Int))<;>rfl)))
  l.length 0 k 0 (by omega) (cU hk hl) (by simp)
 refine h.trans ?_
 rw[List.drop_zero,Cn]
 rfl
theorem bb.eq {k:Nat} (hk:cO<=k) {l:List Int} (hl:l.length<1048577):bb.f k l=some (dN l):=by
 have h:=scan (B:=Int) l (fun m b i=>bb.l3 k l (l.length:Int) (fun x2=>some false) (fun x3=>(an.f k (l.length:Int) (1:Int) (20:Int)).bind fun r4=>bif r4 then some (x3==(1:Int)) else some false) m b i) fx im (fun d=>some ((d==1)&&jJ (l.length:Int) 1 20)) (fun _ _=>some false) (fun i b=>0<=b/\b<=(i:Int))
  (fun m b i h hI=>by
    refine (bb.aE ..).trans ?_
    refine (ak (ae (by omega))).trans ?_
    refine (ab (cy h)).trans ?_
    rw[Int.toNat_natCast,aP _ h]
    refine (aa (iN.eq ..)).trans ?_
    rw[aR (by omega),wrap_i64 (n:=b+1) (by omega) (by omega),wrap_i64 (n:=b-1) (by omega) (by omega)]
    refine Bu b l[i] _ _ _ _ (fun e=>by unfold im;rw[e];rfl) (fun e=>by unfold im;rw[e];rfl) (fun e=>by unfold im;rcases e with e|e<;>rw[e]<;>rfl) _ ue)
  (fun b i h hI hp=>by have:=qE hp hI.1;constructor<;>omega)
  (fun m b hI=>(bb.aE ..).trans ((af (aM (by omega))).trans ((aa (an.eq ..)).trans (by cases jJ (l.length:Int) 1 20<;>simp))))
  l.length 0 k 0 (by omega) (cU hk hl) (by simp)
 refine h.trans ?_
 rw[List.drop_zero,Cn]
 unfold dN jJ
 cases l with
 |nil=>rfl
 |cons a l=>
  have e:decide ((1:Int)<=((a::l).length:Int))=true:=ae (by simp;omega)
  rw[e];rfl
def gC (l:List Int):Bool:=((l.length:Int)==0)||dN l
theorem dp.eq {k:Nat} (hk:cO<=k) {l:List Int} (hl:l.length<1048577):dp.f k l=some (gC l):=by
 unfold dp.f gC
 rw[be.eq hk hl]
 cases ((l.length:Int)==0)<;>rfl
theorem eK.eq {k:Nat} (hk:cO<=k) {l:List Int} (hl:l.length<1048577):eK.f k l=some (gC l):=by
 unfold eK.f gC
 rw[bb.eq hk hl]
 cases ((l.length:Int)==0)<;>rfl
def mj (n c:Int) (b1 b2:Bool) (w f:List Int) (m t:Int):Bool:=jJ n 2 6&&jJ c 1 8&&(b1||b2)&&gC w&&gC f&&jJ m 1 4&&jJ t 1 400
theorem bV.eq {k:Nat} (hk:cO<=k) (n c:Int) (b1 b2:Bool) {w f:List Int} (m t:Int) (hw:w.length<1048577) (hf:f.length<1048577):bV.f k n c b1 b2 w f m t=some (mj n c b1 b2 w f m t):=by
 unfold bV.f mj
 simp only[aG.eq,dp.eq hk hw,dp.eq hk hf,Option.bind_some]
 cases jJ n 2 6<;>cases jJ c 1 8<;>cases b1<;>cases b2<;>cases gC w<;>cases gC f<;>cases jJ m 1 4<;>rfl
theorem bN.eq {k:Nat} (hk:cO<=k) (n c:Int) (b1 b2:Bool) {w f:List Int} (m t:Int) (hw:w.length<1048577) (hf:f.length<1048577):bN.f k n c b1 b2 w f m t=some (mj n c b1 b2 w f m t):=by
 unfold bN.f mj
 simp only[an.eq,eK.eq hk hw,eK.eq hk hf,Option.bind_some]
 cases jJ n 2 6<;>cases jJ c 1 8<;>cases b1<;>cases b2<;>cases gC w<;>cases gC f<;>cases jJ m 1 4<;>rfl
def Jc (a c:Int):Bool:=bif a==400 then Iq c else bif decide (a>=300) then decide (fi c>=IntKind.wrap .i64 (a-300)) else bif decide (a>=200) then fi c==IntKind.wrap .i64 (a-200) else iY c==IntKind.wrap .i64 (a-100)
theorem gP.eq (k:Nat) (a c:Int):gP.f k a c=some (Jc a c):=by
 unfold gP.f Jc
 simp only[ky.eq,dA.eq,eB.eq,Option.bind_some]
 cases (a==(400:Int))<;>cases decide (a>=300)<;>cases decide (a>=200)<;>rfl
theorem kF.eq (k:Nat) (a c:Int):kF.f k a c=some (Jc a c):=by
 unfold kF.f Jc
 simp only[kw.eq,dz.eq,dP.eq,Option.bind_some]
 cases (a==(400:Int))<;>cases decide (a>=300)<;>cases decide (a>=200)<;>rfl
def sD (c:Int) (st:List Bool) (a:Int):List Bool:=
 bif a== -1 then st.set (st.length-1) (!(st.getD (st.length-1) false))
 else bif a== -2 then st.take (st.length-2)++[bif st.getD (st.length-2) false then st.getD (st.length-1) false else false]
 else bif a== -3 then st.take (st.length-2)++[bif st.getD (st.length-2) false then true else st.getD (st.length-1) false]
 else st++[Jc a c]
theorem Co (c:Int) (st:List Bool) {a:Int} (h:a= -1):sD c st a=st.set (st.length-1) (!(st.getD (st.length-1) false)):=by subst h;rfl
theorem Cp (c:Int) (st:List Bool) {a:Int} (h:a= -2):sD c st a=st.take (st.length-2)++[bif st.getD (st.length-2) false then st.getD (st.length-1) false else false]:=by subst h;rfl
theorem Cq (c:Int) (st:List Bool) {a:Int} (h:a= -3):sD c st a=st.take (st.length-2)++[bif st.getD (st.length-2) false then true else st.getD (st.length-1) false]:=by subst h;rfl
theorem Cr (c:Int) (st:List Bool) {a:Int} (h1:a≠ -1) (h2:a≠ -2) (h3:a≠ -3):sD c st a=st++[Jc a c]:=by
 unfold sD
 rw[show (a==(-1:Int))=false by simp[h1],show (a==(-2:Int))=false by simp[h2],show (a==(-3:Int))=false by simp[h3]]
 rfl
theorem Is {d:Nat} (h:fx (d:Int) (-1)=true):1<=d:=by
 have e:gR (-1)=false:=by decide
 unfold fx at h;rw[e] at h;simp at h;omega
theorem Cs {d:Nat} (h:fx (d:Int) (-2)=true):2<=d:=by
 have e:gR (-2)=false:=by decide
 unfold fx at h;rw[e] at h;simp at h;omega
theorem Cu {d:Nat} (h:fx (d:Int) (-3)=true):2<=d:=by
 have e:gR (-3)=false:=by decide
 unfold fx at h;rw[e] at h;simp at h;omega
theorem wC (c:Int) (st:List Bool) (a:Int) (h:fx (st.length:Int) a=true):((sD c st a).length:Int)=im (st.length:Int) a:=by
 by_cases h1:a= -1
 ·subst h1;rw[Co c st rfl,show im (st.length:Int) (-1)=st.length from rfl];simp
 ·by_cases h2:a= -2
  ·subst h2;have:=Cs h;rw[Cp c st rfl,show im (st.length:Int) (-2)=(st.length:Int)-1 from rfl];simp;omega
  ·by_cases h3:a= -3
   ·subst h3;have:=Cu h;rw[Cq c st rfl,show im (st.length:Int) (-3)=(st.length:Int)-1 from rfl];simp;omega
   ·rw[Cr c st h1 h2 h3]
    unfold fx at h
    unfold im
    cases e:gR a with
    |true=>simp
    |false=>rw[e] at h;simp[h1,h2,h3] at h
theorem wD (c:Int): ∀(l:List Int) (st:List Bool),jV l (st.length:Int)=true->((l.foldl (sD c) st).length:Int)=1
 | [],st,h=>by simpa[jV] using h
 |a::l,st,h=>by
  obtain ⟨h1,h2⟩:=Bool.and_eq_true_iff.1 h
  rw[List.foldl_cons]
  exact wD c l _ (by rw[wC c st a h1];exact h2)
theorem og {n:Nat} (h:1<=n) (h2:n<4611686018427387904):IntKind.wrap .i64 ((n:Int)-1)=((n-1:Nat):Int):=by rw[wrap_i64 (by omega) (by omega)];omega
theorem uf {n:Nat} (h:2<=n) (h2:n<4611686018427387904):IntKind.wrap .i64 ((n:Int)-2)=((n-2:Nat):Int):=by rw[wrap_i64 (by omega) (by omega)];omega
def pT (l:List Int) (c:Int):Bool:=bif dN l then bif dy c then (l.foldl (sD c) []).getD 0 false else false else false
theorem bD.eq {k:Nat} (hk:cO<=k) {l:List Int} (c:Int) (hl:l.length<1048577):bD.f k l c=some (pT l c):=by
 unfold pT
 refine (aa (be.eq hk hl)).trans ?_
 cases hp:dN l with
 |false=>rfl
 |true=>
  refine (af rfl).trans ((aa (bZ.eq ..)).trans ?_)
  cases hc:dy c with
  |false=>rfl
  |true=>
   refine (af rfl).trans ?_
   have Rx:jV l 0=true:=by unfold dN at hp;simp only[Bool.and_eq_true] at hp;exact hp.1
   have h:=scan (B:=List Bool) l (fun m b i=>bD.l5 k l c (fun x4=>aC (decide ((0:Int)<(x4.length:Int)))<|some (x4.getD 0 false)) m i b) (fun _ _=>true) (sD c) (fun x4=>aC (decide ((0:Int)<(x4.length:Int)))<|some (x4.getD 0 false)) (fun _ _=>none) (fun i b=>jV (l.drop i) (b.length:Int)=true/\b.length<=i)
    (fun m b i h hI=>by
      obtain ⟨hI,hle⟩:=hI
      rw[drop_cons h] at hI
      obtain ⟨ho,_⟩:=Bool.and_eq_true_iff.1 hI
      refine (bD.de ..).trans ?_
      refine (ak (ae (by omega))).trans ?_
      refine (ab (cy h)).trans ?_
      rw[Int.toNat_natCast,aP _ h,aR (by omega)]
      simp only[cond_true]
      by_cases h1:l[i] = -1
      ·have hd:=Is (h1 ▸ ho)
       refine (ak (by simp[h1])).trans ?_
       rw[og (by omega) (by omega)]
       refine (ab (cy (by omega))).trans ((ab (cy (by omega))).trans ?_)
       rw[Int.toNat_natCast,Co c b h1]
      ·refine (af (by simp[h1])).trans ?_
       by_cases h2:l[i] = -2
       ·have hd:=Cs (h2 ▸ ho)
        refine (ak (by simp[h2])).trans ?_
        rw[og (by omega) (by omega),uf (by omega) (by omega)]
        refine (ab (ch (ae (by omega)) (ae (by omega)))).trans ((ab (ae (by omega))).trans ((ab (cy (by omega))).trans ?_))
        rw[Int.toNat_natCast,Int.toNat_natCast,Cp c b h2]
        cases e:b.getD (b.length-2) false with
        |true=>exact (ak rfl).trans ((ab (cy (by omega))).trans (ab (ae (by simp[room];omega))))
        |false=>exact (af rfl).trans (ab (ae (by simp[room];omega)))
       ·refine (af (by simp[h2])).trans ?_
        by_cases h3:l[i] = -3
        ·have hd:=Cu (h3 ▸ ho)
         refine (ak (by simp[h3])).trans ?_
         rw[og (by omega) (by omega),uf (by omega) (by omega)]
         refine (ab (ch (ae (by omega)) (ae (by omega)))).trans ((ab (ae (by omega))).trans ((ab (cy (by omega))).trans ?_))
         rw[Int.toNat_natCast,Int.toNat_natCast,Cq c b h3]
         cases e:b.getD (b.length-2) false with
         |true=>exact (ak rfl).trans (ab (ae (by simp[room];omega)))
         |false=>exact (af rfl).trans ((ab (cy (by omega))).trans (ab (ae (by simp[room];omega))))
        ·refine (af (by simp[h3])).trans ?_
         refine (ab (cy h)).trans ?_
         refine (aa (gP.eq ..)).trans ?_
         refine (ab (ae (by simp[room];omega))).trans ?_
         rw[Cr c b h1 h2 h3])
    (fun b i h hI _=>by
      obtain ⟨hI,hle⟩:=hI
      rw[drop_cons h] at hI
      obtain ⟨ho,hr⟩:=Bool.and_eq_true_iff.1 hI
      have hs:=wC c b l[i] ho
      have:=qE ho (by omega)
      exact ⟨by rw[hs];exact hr,by omega⟩)
    (fun m b hI=>(bD.de ..).trans (af (aM (by omega))))
    l.length 0 k [] (by omega) (cU hk hl) ⟨by simpa using Rx,by simp⟩
   refine h.trans ?_
   rw[List.drop_zero,dC]
   have hf:=wD c l [] (by simpa using Rx)
   exact ab (ae (by omega))
theorem bB.eq {k:Nat} (hk:cO<=k) {l:List Int} (c:Int) (hl:l.length<1048577):bB.f k l c=some (pT l c):=by
 unfold pT
 refine (aa (bb.eq hk hl)).trans ?_
 cases hp:dN l with
 |false=>rfl
 |true=>
  refine (af rfl).trans ((aa (bX.eq ..)).trans ?_)
  cases hc:dy c with
  |false=>rfl
  |true=>
   refine (af rfl).trans ?_
   have Rx:jV l 0=true:=by unfold dN at hp;simp only[Bool.and_eq_true] at hp;exact hp.1
   have h:=scan (B:=List Bool) l (fun m b i=>bB.l5 k c l (l.length:Int) (fun x4=>aC (decide ((0:Int)<(x4.length:Int)))<|some (x4.getD 0 false)) m i b) (fun _ _=>true) (sD c) (fun x4=>aC (decide ((0:Int)<(x4.length:Int)))<|some (x4.getD 0 false)) (fun _ _=>none) (fun i b=>jV (l.drop i) (b.length:Int)=true/\b.length<=i)
    (fun m b i h hI=>by
      obtain ⟨hI,hle⟩:=hI
      rw[drop_cons h] at hI
      obtain ⟨ho,_⟩:=Bool.and_eq_true_iff.1 hI
      refine (bB.de ..).trans ?_
      refine (ak (ae (by omega))).trans ?_
      refine (ab (cy h)).trans ?_
      rw[Int.toNat_natCast,aP _ h,aR (by omega)]
      simp only[cond_true]
      by_cases h1:l[i] = -1
      ·have hd:=Is (h1 ▸ ho)
       refine (ak (by simp[h1])).trans ?_
       rw[og (by omega) (by omega)]
       refine (ab (cy (by omega))).trans ((ab (cy (by omega))).trans ?_)
       rw[Int.toNat_natCast,Co c b h1]
      ·refine (af (by simp[h1])).trans ?_
       by_cases h2:l[i] = -2
       ·have hd:=Cs (h2 ▸ ho)
        refine (ak (by simp[h2])).trans ?_
        rw[og (by omega) (by omega),uf (by omega) (by omega)]
        refine (ab (ch (ae (by omega)) (ae (by omega)))).trans ((ab (ae (by omega))).trans ((ab (cy (by omega))).trans ?_))
        rw[Int.toNat_natCast,Int.toNat_natCast,Cp c b h2]
        cases e:b.getD (b.length-2) false with
        |true=>exact (ak rfl).trans ((ab (cy (by omega))).trans (ab (ae (by simp[room];omega))))
        |false=>exact (af rfl).trans (ab (ae (by simp[room];omega)))
       ·refine (af (by simp[h2])).trans ?_
        by_cases h3:l[i] = -3
        ·have hd:=Cu (h3 ▸ ho)
         refine (ak (by simp[h3])).trans ?_
         rw[og (by omega) (by omega),uf (by omega) (by omega)]
         refine (ab (ch (ae (by omega)) (ae (by omega)))).trans ((ab (ae (by omega))).trans ((ab (cy (by omega))).trans ?_))
         rw[Int.toNat_natCast,Int.toNat_natCast,Cq c b h3]
         cases e:b.getD (b.length-2) false with
         |true=>exact (ak rfl).trans (ab (ae (by simp[room];omega)))
         |false=>exact (af rfl).trans ((ab (cy (by omega))).trans (ab (ae (by simp[room];omega))))
        ·refine (af (by simp[h3])).trans ?_
         refine (aa (kF.eq ..)).trans ?_
         refine (ab (ae (by simp[room];omega))).trans ?_
         rw[Cr c b h1 h2 h3])
    (fun b i h hI _=>by
      obtain ⟨hI,hle⟩:=hI
      rw[drop_cons h] at hI
      obtain ⟨ho,hr⟩:=Bool.and_eq_true_iff.1 hI
      have hs:=wC c b l[i] ho
      have:=qE ho (by omega)
      exact ⟨by rw[hs];exact hr,by omega⟩)
    (fun m b hI=>(bB.de ..).trans (af (aM (by omega))))
    l.length 0 k [] (by omega) (cU hk hl) ⟨by simpa using Rx,by simp⟩
   refine h.trans ?_
   rw[List.drop_zero,dC]
   have hf:=wD c l [] (by simpa using Rx)
   exact ab (ae (by omega))
theorem Jd (v:List Int) (c:Int):(AQ v c).Perm (c::v):=by
 unfold AQ
 have h:(v.take (pG c v v.length)++c::v.drop (pG c v v.length)).Perm (c::(v.take (pG c v v.length)++v.drop (pG c v v.length))):=List.perm_middle
 rwa [List.take_append_drop] at h
theorem yE: ∀(l b:List Int),(l.foldl AQ b).Perm (b++l)
 | [],b=>by simp
 |a::l,b=>by
  rw[List.foldl_cons]
  refine (yE l (AQ b a)).trans (((Jd b a).append_right l).trans ?_)
  exact (List.perm_middle (l₁:=b) (a:=a) (l₂:=l)).symm
theorem ug (l:List Int):(fT l).Perm l:=yE l []
theorem pU (l:List Int):(fT l).length=l.length:=(ug l).length_eq
structure Rl where
 n:Int
 e:Int
 b1:Bool
 b2:Bool
 w:List Int
 f:List Int
 t:Int
 l:Int
def Rl.ok (r:Rl):Bool:=mj r.n r.e r.b1 r.b2 r.w r.f r.t r.l
abbrev Rl.sm (r:Rl):Prop:=r.w.length<1048577/\r.f.length<1048577
structure Gm where
 r:Rl
 hs:List (List Int)
 st:List Int
 hp:List Int
 tn:Int
 mv:Int
 ps:Int
abbrev Rl.ap {β:Type} (F:Int->Int->Bool->Bool->List Int->List Int->Int->Int->β) (r:Rl):β:=F r.n r.e r.b1 r.b2 r.w r.f r.t r.l
abbrev Rl.tp (r:Rl):Int×Int×Bool×Bool×List Int×List Int×Int×Int:=(r.n,r.e,r.b1,r.b2,r.w,r.f,r.t,r.l)
abbrev Gm.ap {β:Type} (F:Int->Int->Bool->Bool->List Int->List Int->Int->Int->List (List Int)->List Int->List Int->Int->Int->Int->β) (g:Gm):β:=F g.r.n g.r.e g.r.b1 g.r.b2 g.r.w g.r.f g.r.t g.r.l g.hs g.st g.hp g.tn g.mv g.ps
abbrev Gm.tp (g:Gm):Int×Int×Bool×Bool×List Int×List Int×Int×Int×List (List Int)×List Int×List Int×Int×Int×Int:=(g.r.n,g.r.e,g.r.b1,g.r.b2,g.r.w,g.r.f,g.r.t,g.r.l,g.hs,g.st,g.hp,g.tn,g.mv,g.ps)
abbrev Gm.jx (g:Gm) (b:Bool):Int×Int×Bool×Bool×List Int×List Int×Int×Int×List (List Int)×List Int×List Int×Int×Int×Int×Bool:=(g.r.n,g.r.e,g.r.b1,g.r.b2,g.r.w,g.r.f,g.r.t,g.r.l,g.hs,g.st,g.hp,g.tn,g.mv,g.ps,b)
abbrev N1 (l:List Int):Prop:=l.length<1048577
abbrev AR (l:List (List Int)):Prop:=l.length<1048577/\ ∀y∈l,y.length<1048577
abbrev Gm.sm (g:Gm):Prop:=g.r.sm/\AR g.hs/\N1 g.st/\N1 g.hp
theorem lP {r:Rl} (h:r.ok=true):(2<=r.n/\r.n<=6)/\(1<=r.e/\r.e<=8)/\(1<=r.t/\r.t<=4)/\(1<=r.l/\r.l<=400):=by
 unfold Rl.ok mj at h
 simp only[Bool.and_eq_true] at h
 exact ⟨eD.1 h.1.1.1.1.1.1,eD.1 h.1.1.1.1.1.2,eD.1 h.1.2,eD.1 h.2⟩
def c_ (g:Gm):Bool:=g.r.ok&&((g.hs.length:Int)==g.r.n)&&whole (g.hs++[g.st,g.hp])&&decide (0<g.hp.length)&&jJ g.tn 0 (g.r.n-1)&&jJ g.mv 0 g.r.l&&jJ g.ps 0 g.mv
theorem dR {g:Gm}:c_ g=true↔g.r.ok=true/\(g.hs.length:Int)=g.r.n/\whole (g.hs++[g.st,g.hp])=true/\0<g.hp.length/\(0<=g.tn/\g.tn<=g.r.n-1)/\(0<=g.mv/\g.mv<=g.r.l)/\(0<=g.ps/\g.ps<=g.mv):=by
 unfold c_
 simp only[Bool.and_eq_true,beq_iff_eq,decide_eq_true_eq,eD,and_assoc]
theorem gS (g:Gm):(g.hs++[g.st,g.hp]).flatten=g.hs.flatten++(g.st++g.hp):=by simp
theorem tk {g:Gm} (h:c_ g=true):g.hs.length<=6/\(∀y∈g.hs,y.length<=52)/\g.st.length<=52/\g.hp.length<=52:=by
 obtain ⟨h1,h2,h3,h4,_⟩:=dR.1 h
 have hr:=lP h1
 have hl:=Bt h3
 rw[gS,List.length_append,List.length_append] at hl
 exact ⟨by omega,fun y hy=>by have:=D2 hy;omega,by omega,by omega⟩
def ln:Int->List (List Int)->Int
 |_,[]=> -1
 |i,h::l=>bif ((h.length:Int)==0) then i else ln (i+1) l
theorem Bv: ∀(l:List (List Int)) (i:Int),ln i l= -1\/(i<=ln i l/\ln i l<i+(l.length:Int))
 | [],i=> .inl rfl
 |h::l,i=>by
  unfold ln
  cases ((h.length:Int)==0) with
  |true=>right;simp only[cond_true,List.length_cons];omega
  |false=>
   rcases Bv l (i+1) with h|h
   ·left;simpa using h
   ·right;simp only[cond_false,List.length_cons];omega
def gM (g:Gm):Int:=bif c_ g then ln 0 g.hs else-1
def kT (g:Gm):Bool:=decide (ln 0 g.hs>=0)||(g.mv==g.r.l)||decide (g.ps>=g.r.n)
def jL (g:Gm):Bool:=c_ g&&kT g
def fits (r:Rl) (top c:Int):Bool:=r.ok&&dy top&&dy c&&((r.b1&&(iY c==iY top))||(r.b2&&(fi c==fi top))||pT r.w c)
def lQ (r:Rl) (c:Int):Bool:=r.ok&&pT r.f c
def Gm.hand (g:Gm):List Int:=g.hs.getD g.tn.toNat []
def Gm.top (g:Gm):Int:=g.hp.getD (g.hp.length-1) 0
def eP (g:Gm):List Int:=bif c_ g&& !kT g then (fT g.hand).filter (fits g.r g.top) else []
theorem oW {g:Gm} {c:Int} (h:cD (eP g) c=true):c_ g=true/\kT g=false/\c∈g.hand/\dy c=true:=by
 rw[xf] at h
 unfold eP at h
 cases h1:c_ g<;>rw[h1] at h
 ·simp at h
 ·cases h2:kT g<;>rw[h2] at h
  ·simp only[Bool.not_false,Bool.and_self,cond_true,List.mem_filter] at h
   refine ⟨rfl,rfl,(ug _).mem_iff.1 h.1,?_⟩
   have:=h.2
   unfold fits at this
   simp only[Bool.and_eq_true] at this
   exact this.1.2
  ·simp at h
theorem uh (g:Gm):(eP g).length<=52:=by
 unfold eP
 cases h1:c_ g with
 |false=>simp
 |true=>
  cases h2:kT g with
  |true=>simp
  |false=>
   simp only[Bool.not_false,Bool.and_self,cond_true]
   refine Nat.le_trans (List.length_filter_le _ _) ?_
   rw[pU]
   have:=tk h1
   unfold Gm.hand
   by_cases ht:g.tn.toNat<g.hs.length
   ·rw[aP _ ht];exact this.2.1 _ (List.getElem_mem ht)
   ·rw[List.getD_eq_getElem?_getD,List.getElem?_eq_none (by omega)];simp
def kB (g:Gm) (c:Int):Gm×Bool:=
 bif cD (eP g) c then
  ({g with hs:=g.hs.set g.tn.toNat (kS g.hand c),hp:=g.hp++[c],mv:=g.mv+1,ps:=0,tn:=(g.tn+(bif lQ g.r c then 2 else 1)).tmod g.r.n},true)
 else (g,false)
def takeN (t:Nat):Nat->List (List Int)->List Int->List Int->Nat->List (List Int)×List Int×List Int×Nat
 |0,hs,st,hp,n=>(hs,st,hp,n)
 |m+1,hs,st,hp,n=>
  match (bif ((st.length:Int)==0) then hp.take (hp.length-1) else st),(bif ((st.length:Int)==0) then hp.drop (hp.length-1) else hp) with
  | [],pM=>(hs,[],pM,n)
  |c::st2,pM=>takeN t m (hs.set t (hs.getD t []++[c])) st2 pM (n+1)
def eG (g:Gm):Gm×Bool:=
 bif c_ g&& !kT g then
  let q:=takeN g.tn.toNat g.r.t.toNat g.hs g.st g.hp 0
  ({g with hs:=q.1,st:=q.2.1,hp:=q.2.2.1,mv:=g.mv+1,ps:=bif q.2.2.2==0 then g.ps+1 else 0,tn:=(g.tn+1).tmod g.r.n},true)
 else (g,false)
def aJ (g:Gm) (m:Int):Gm×Bool:=bif m== -1 then eG g else kB g m
def dt:List Int->Int->Gm->Gm×Int
 | [],i,g=>(g,i)
 |m::l,i,g=>bif (aJ g m).2 then dt l (i+1) (aJ g m).1 else (g,i)
theorem tm {a n:Int} (h0:0<=a) (hn:1<=n):0<=a.tmod n/\a.tmod n<=n-1:=by
 rw[Int.tmod_eq_emod_of_nonneg h0]
 have h1:=Int.emod_nonneg a (b:=n) (by omega)
 have h2:=Int.emod_lt_of_pos a (b:=n) (by omega)
 omega
theorem D4 {g:Gm} (h:c_ g=true) (ho:kT g=false):g.mv+1<=g.r.l:=by
 obtain ⟨_,_,_,_,_,h6,_⟩:=dR.1 h
 unfold kT at ho
 simp only[Bool.or_eq_false_iff] at ho
 have:=ho.1.2
 simp at this
 omega
theorem G0 (a b c:List Int):(a++b++c).Perm (a++c++b):=by
 rw[List.append_assoc,List.append_assoc]
 exact List.Perm.append_left _ List.perm_append_comm
theorem D5 {g:Gm} {c:Int} (h:(kB g c).2=true):c_ (kB g c).1=true/\(kB g c).1.mv=g.mv+1/\(kB g c).1.r=g.r:=by
 unfold kB at h ⊢
 cases hc:cD (eP g) c with
 |false=>rw[hc] at h;cases h
 |true=>
  obtain ⟨h1,h2,h3,h4⟩:=oW hc
  obtain ⟨g1,g2,g3,g4,g5,g6,g7⟩:=dR.1 h1
  have hr:=lP g1
  have ht:g.tn.toNat<g.hs.length:=by omega
  simp only[cond_true]
  refine ⟨dR.2 ⟨g1,by simpa using g2,?_,by simp,?_,⟨by show 0<=g.mv+1;omega,D4 h1 h2⟩,⟨by simp,by show (0:Int)<=g.mv+1;omega⟩⟩,trivial,trivial⟩
  ·rw[<- g3]
   refine yD ?_
   rw[gS,gS]
   have hh:g.hand=g.hs[g.tn.toNat]:=aP _ ht
   obtain ⟨q,q1,q2⟩:=pS g.hs g.tn.toNat (kS g.hand c) ht
   have nd:g.hand.Nodup:=by
    have:=D1 g3
    rw[gS] at this
    have:=(List.nodup_append.1 this).1
    have:=(q1.nodup_iff).1 this
    rw[hh]
    exact (List.nodup_append.1 this).1
   refine (q2.append_right _).trans (List.Perm.trans ?_ (q1.append_right _).symm)
   rw[<- hh]
   have hw:=(ud nd h3).symm
   have e:kS g.hand c++q++(g.st++(g.hp++[c]))=(kS g.hand c++(q++(g.st++g.hp)))++[c]:=by simp
   have e2:g.hand++q++(g.st++g.hp)=g.hand++(q++(g.st++g.hp)):=by simp
   rw[e,e2]
   refine List.Perm.trans ?_ (hw.append_right _)
   exact G0 _ _ _
  ·refine tm ?_ (by omega)
   show 0<=g.tn+_
   cases lQ g.r c<;>simp only[cond_true,cond_false]<;>omega
theorem xg (t:Nat): ∀(m:Nat) (hs:List (List Int)) (st hp:List Int) (n:Nat),t<hs.length->0<hp.length->
 ((takeN t m hs st hp n).1.flatten++((takeN t m hs st hp n).2.1++(takeN t m hs st hp n).2.2.1)).Perm (hs.flatten++(st++hp))/\0<(takeN t m hs st hp n).2.2.1.length/\(takeN t m hs st hp n).1.length=hs.length/\n<=(takeN t m hs st hp n).2.2.2
 |0,hs,st,hp,n,ht,hh=>⟨List.Perm.refl _,hh,rfl,Nat.le_refl _⟩
 |m+1,hs,st,hp,n,ht,hh=>by
  have key: ∀(To pM:List Int),(To++pM).Perm (st++hp)->0<pM.length->
   (let q:=(match To,pM with
     | [],pM=>(hs,[],pM,n)
     |c::st2,pM=>takeN t m (hs.set t (hs.getD t []++[c])) st2 pM (n+1):List (List Int)×List Int×List Int×Nat)
   (q.1.flatten++(q.2.1++q.2.2.1)).Perm (hs.flatten++(st++hp))/\0<q.2.2.1.length/\q.1.length=hs.length/\n<=q.2.2.2):=by
   intro To pM h1 h2
   cases To with
   |nil=>exact ⟨List.Perm.append_left _ h1,h2,rfl,Nat.le_refl _⟩
   |cons c st2=>
    obtain ⟨k1,k2,k3,k4⟩:=xg t m (hs.set t (hs.getD t []++[c])) st2 pM (n+1) (by simpa using ht) h2
    refine ⟨k1.trans ?_,k2,by simpa using k3,Nat.le_of_succ_le k4⟩
    obtain ⟨q,q1,q2⟩:=pS hs t (hs.getD t []++[c]) ht
    refine (q2.append_right _).trans (List.Perm.trans ?_ ((List.Perm.append_left _ h1).trans (List.Perm.refl _)))
    refine List.Perm.trans ?_ (q1.append_right _).symm
    rw[aP _ ht]
    have e1:hs[t]++[c]++q++(st2++pM)=hs[t]++([c]++(q++(st2++pM))):=by simp
    have e2:hs[t]++q++(c::st2++pM)=hs[t]++(q++([c]++(st2++pM))):=by simp
    rw[e1,e2]
    exact List.Perm.append_left _ (List.perm_append_comm_assoc _ _ _)
  unfold takeN
  cases he:((st.length:Int)==0) with
  |false=>exact key st hp (List.Perm.refl _) hh
  |true=>
   have:st=[]:=by
    have h0:(st.length:Int)=0:=by simpa using he
    exact List.length_eq_zero_iff.1 (by omega)
   subst this
   refine key _ _ ?_ (by simp only[cond_true,List.length_drop];omega)
   simp only[cond_true,List.take_append_drop,List.nil_append]
   exact List.Perm.refl _
theorem yF {g:Gm} (h:(eG g).2=true):c_ (eG g).1=true/\(eG g).1.mv=g.mv+1/\(eG g).1.r=g.r:=by
 unfold eG at h ⊢
 cases h1:c_ g with
 |false=>rw[h1] at h;cases h
 |true=>
  cases h2:kT g with
  |true=>rw[h1,h2] at h;cases h
  |false=>
   obtain ⟨g1,g2,g3,g4,g5,g6,g7⟩:=dR.1 h1
   have hr:=lP g1
   have ht:g.tn.toNat<g.hs.length:=by omega
   obtain ⟨k1,k2,k3,k4⟩:=xg g.tn.toNat g.r.t.toNat g.hs g.st g.hp 0 ht g4
   simp only[Bool.not_false,Bool.and_self,cond_true]
   refine ⟨dR.2 ⟨g1,by show ((takeN _ _ _ _ _ _).1.length:Int)=_;rw[k3];exact g2,?_,k2,tm (by show 0<=g.tn+1;omega) (by omega),⟨by show 0<=g.mv+1;omega,D4 h1 h2⟩,?_⟩,trivial,trivial⟩
   ·rw[<- g3]
    refine yD ?_
    rw[gS,gS]
    exact k1
   ·show 0<=(bif _ then _ else _)/\(bif _ then _ else _)<=g.mv+1
    cases ((takeN g.tn.toNat g.r.t.toNat g.hs g.st g.hp 0).2.2.2==0)<;>simp only[cond_true,cond_false]<;>omega
theorem px {g:Gm} {c:Int} (h:(aJ g c).2=true):c_ (aJ g c).1=true/\(aJ g c).1.mv=g.mv+1/\(aJ g c).1.r=g.r:=by
 unfold aJ at h ⊢
 cases hc:(c== -1) with
 |true=>rw[hc] at h;exact yF h
 |false=>rw[hc] at h;exact D5 h
theorem Cv {g:Gm} (h:(eG g).2=false):(eG g).1=g:=by
 unfold eG at h ⊢
 cases h1:(c_ g&& !kT g) with
 |false=>rfl
 |true=>rw[h1] at h;cases h
theorem Je {g:Gm} {c:Int} (h:(kB g c).2=false):(kB g c).1=g:=by
 unfold kB at h ⊢
 cases hc:cD (eP g) c with
 |false=>rfl
 |true=>rw[hc] at h;cases h
theorem AS {g:Gm} {c:Int} (h:(aJ g c).2=false):(aJ g c).1=g:=by
 unfold aJ at h ⊢
 cases hc:(c== -1) with
 |true=>rw[hc] at h;exact Cv h
 |false=>rw[hc] at h;exact Je h
theorem Bw {g:Gm} (h:c_ g=true) (hr:g.r.sm):g.sm:=by
 obtain ⟨h1,h2,h3,h4⟩:=tk h
 exact ⟨hr,⟨by omega,fun y hy=>by have:=h2 y hy;omega⟩,by show g.st.length<_;omega,by show g.hp.length<_;omega⟩
theorem j9 {g:Gm} {c:Int} (h:g.sm):(aJ g c).1.sm:=by
 cases hm:(aJ g c).2 with
 |true=>
  obtain ⟨h1,_,h3⟩:=px hm
  exact Bw h1 (by rw[h3];exact h.1)
 |false=>rw[AS hm];exact h
theorem aF.eq (k:Nat) {l:List Int} (hl:l.length<1048577):aF.f k l=some l:=(ab (ae (by simp[room];omega))).trans rfl
theorem dh.eq (k:Nat) {r:Rl} (h:r.sm):r.ap (dh.f k)=some r.tp:=by
 have h1:=h.1
 have h2:=h.2
 exact (ab (lN (by omega))).trans ((ab (lN (by omega))).trans rfl)
theorem cj.eq (k:Nat) {r:Rl} (h:r.sm):r.ap (cj.f k)=some r.tp:=(aa (aF.eq k h.1)).trans (aa (aF.eq k h.2))
theorem cd.eq {k:Nat} (hk:cO<=k) {l:List (List Int)} (hl:AR l):cd.f k l=some l:=by
 have h:=scan (B:=List (List Int)) l (fun m b i=>cd.l3 k l (fun x=>some x) m i b) (fun _ _=>true) (fun b a=>b++[a]) (fun x=>some x) (fun _ _=>none) (fun i b=>b.length=i)
  (fun m b i h hI=>by
    have:=hl.1
    have:=hl.2 _ (List.getElem_mem h)
    refine (cd.aE ..).trans ((ak (ae (by omega))).trans ((ab (cy h)).trans ?_))
    rw[Int.toNat_natCast,aP _ h,aR (by omega)]
    exact (ab (lN (by omega))).trans (ab (GV (by omega))))
  (fun b i h hI _=>by simp;omega)
  (fun m b hI=>(cd.aE ..).trans (af (aM (by omega))))
  l.length 0 k [] (by omega) (cU hk hl.1) rfl
 refine h.trans ?_
 rw[List.drop_zero,dC,mN (fun a=>a)]
 simp
theorem bo.eq {k:Nat} (hk:cO<=k) {l:List (List Int)} (hl:AR l):bo.f k l=some l:=by
 have h:=scan (B:=List (List Int)) l (fun m b i=>bo.l3 k l (l.length:Int) (fun x=>some x) m i b) (fun _ _=>true) (fun b a=>b++[a]) (fun x=>some x) (fun _ _=>none) (fun i b=>b.length=i)
  (fun m b i h hI=>by
    have:=hl.1
    refine (bo.aE ..).trans ((ak (ae (by omega))).trans ((ab (cy h)).trans ?_))
    rw[Int.toNat_natCast,aP _ h,aR (by omega)]
    exact (aa (aF.eq k (hl.2 _ (List.getElem_mem h)))).trans (ab (GV (by omega))))
  (fun b i h hI _=>by simp;omega)
  (fun m b hI=>(bo.aE ..).trans (af (aM (by omega))))
  l.length 0 k [] (by omega) (cU hk hl.1) rfl
 refine h.trans ?_
 rw[List.drop_zero,dC,mN (fun a=>a)]
 simp
theorem dk.eq {k:Nat} (hk:cO<=k) {g:Gm} (h:g.sm):g.ap (dk.f k)=some g.tp:=by
 obtain ⟨h1,h2,h3,h4⟩:=h
 refine (aa (dh.eq k h1)).trans ((aa (cd.eq hk h2)).trans ?_)
 have h3:g.st.length<1048577:=h3
 have h4:g.hp.length<1048577:=h4
 exact (ab (lN (by omega))).trans ((ab (lN (by omega))).trans rfl)
theorem bS.eq {k:Nat} (hk:cO<=k) {g:Gm} (h:g.sm):g.ap (bS.f k)=some g.tp:=by
 obtain ⟨h1,h2,h3,h4⟩:=h
 exact (aa (cj.eq k h1)).trans ((aa (bo.eq hk h2)).trans ((aa (aF.eq k h3)).trans ((aa (aF.eq k h4)).trans rfl)))
theorem qF {k:Nat} (hk:cO<=k) {r:Rl} (h:r.sm):r.ap (bV.f k)=some r.ok:=bV.eq hk _ _ _ _ _ _ h.1 h.2
theorem ui {k:Nat} (hk:cO<=k) {r:Rl} (h:r.sm):r.ap (bN.f k)=some r.ok:=bN.eq hk _ _ _ _ _ _ h.1 h.2
theorem wE {z:Nat->List Int->Option Int} (hz: ∀b a,z b a=some (b:Int)): ∀(l:List (List Int)) (b:Nat),run (fun (_:Nat) (a:List Int)=> !((a.length:Int)==0)) (fun b _=>b+1) (fun _=>some (-1)) z l b=some (ln (b:Int) l)
 | [],b=>rfl
 |a::l,b=>by
  show (bif !((a.length:Int)==0) then run _ _ _ _ l (b+1) else z b a)=some (bif ((a.length:Int)==0) then (b:Int) else ln ((b:Int)+1) l)
  rw[wE hz l (b+1),hz]
  cases ((a.length:Int)==0)<;>rfl
theorem bK.eq {k:Nat} (hk:cO<=k) (g:Gm) (h:g.hs.length<1048577):g.ap (bK.f k)=some (ln 0 g.hs):=by
 have h:=scan (B:=Nat) g.hs (fun m b i=>bK.l2 k g.hs (fun x1=>some x1) (some (-1)) m i) (fun _ a=> !((a.length:Int)==0)) (fun b _=>b+1) (fun _=>some (-1)) (fun b _=>some (b:Int)) (fun i b=>b=i)
  (fun m b i h hI=>by
    subst hI
    refine (bK.fS ..).trans ((ak (ae (by omega))).trans ((ab (cy h)).trans ?_))
    rw[Int.toNat_natCast,aP _ h,aR (by omega)]
    cases ((g.hs[b].length:Int)==0)<;>rfl)
  (fun b i h hI _=>by omega)
  (fun m b hI=>(bK.fS ..).trans (af (aM (by omega))))
  g.hs.length 0 k 0 (by omega) (cU hk h) rfl
 refine h.trans ?_
 rw[List.drop_zero]
 exact wE (fun _ _=>rfl) g.hs 0
theorem bY.loop {k:Nat} (hk:cO<=k) {l:List (List Int)} (h:l.length<1048577):bY.l4 k l (l.length:Int) (fun x2=>some x2) (some (-1:Int)) k (0:Int)=some (ln 0 l):=by
 have h:=scan (B:=Nat) l (fun m b i=>bY.l4 k l (l.length:Int) (fun x1=>some x1) (some (-1)) m i) (fun _ a=> !((a.length:Int)==0)) (fun b _=>b+1) (fun _=>some (-1)) (fun b _=>some (b:Int)) (fun i b=>b=i)
  (fun m b i h hI=>by
    subst hI
    refine (bY.gH ..).trans ((ak (ae (by omega))).trans ((ab (cy h)).trans ?_))
    rw[Int.toNat_natCast,aP _ h,aR (by omega)]
    cases ((l[b].length:Int)==0)<;>rfl)
  (fun b i h hI _=>by omega)
  (fun m b hI=>(bY.gH ..).trans (af (aM (by omega))))
  l.length 0 k 0 (by omega) (cU hk h) rfl
 refine h.trans ?_
 rw[List.drop_zero]
 exact wE (fun _ _=>rfl) l 0
theorem ek.eq {k:Nat} (hk:cO<=k) (g:Gm) (h:g.hs.length<1048577):g.ap (ek.f k)=some (kT g):=by
 refine (aa (bK.eq hk g h)).trans ?_
 unfold kT
 cases decide (ln 0 g.hs>=0)<;>cases (g.mv==g.r.l)<;>rfl
theorem xh: ∀(l:List (List Int)),(∀y∈l,y.length<1048577)->l.flatten.length<=l.length*1048576
 | [],_=>by simp
 |a::l,h=>by
  have:=xh l (fun y hy=>h y (by simp[hy]))
  have:=h a (by simp)
  rw[List.flatten_cons,List.length_append,List.length_cons]
  omega
theorem cq.eq {k:Nat} (hk:cO<=k) {l:List (List Int)} (hl:AR l) (hf:l.flatten.length<1073741824):cq.f k l=some (j6 l.flatten):=by
 have h:=scan (B:=List Int) l (fun m b i=>cq.l3 k l (l.length:Int) (fun x1=>(bI.f k x1).bind fun r2=>some r2) m i b) (fun _ _=>true) (fun b a=>b++a) (fun x1=>(bI.f k x1).bind fun r2=>some r2) (fun _ _=>none) (fun i b=>b.length<=i*1048576)
  (fun m b i h hI=>by
    have:=hl.1
    have:=hl.2 _ (List.getElem_mem h)
    refine (cq.aE ..).trans ((ak (ae (by omega))).trans ((ab (cy h)).trans ?_))
    rw[Int.toNat_natCast,aP _ h,aR (by omega)]
    exact ab (lN (by omega)))
  (fun b i h hI _=>by
    have:=hl.2 _ (List.getElem_mem h)
    rw[List.length_append];omega)
  (fun m b hI=>(cq.aE ..).trans (af (aM (by omega))))
  l.length 0 k [] (by omega) (cU hk hl.1) (by simp)
 refine h.trans ?_
 rw[List.drop_zero,dC,wA,List.nil_append]
 exact aa (bI.eq hk hf)
theorem Bx: ∀(l:List (List Int)) (b:Int),l.foldl (fun b a=>b+(a.length:Int)) b=b+(l.flatten.length:Int)
 | [],b=>by simp
 |a::l,b=>by
  rw[List.foldl_cons,Bx l,List.flatten_cons,List.length_append];omega
theorem bF.eq {k:Nat} (hk:cO<=k) {l:List (List Int)} (hl:AR l):bF.f k l=some (l.flatten.length:Int):=by
 have h:=scan (B:=Int) l (fun m b i=>bF.l3 k l (l.length:Int) (fun x1=>some x1) m b i) (fun _ _=>true) (fun b a=>b+(a.length:Int)) (fun x1=>some x1) (fun _ _=>none) (fun i b=>0<=b/\b<=(i:Int)*1048576)
  (fun m b i h hI=>by
    have:=hl.1
    have:=hl.2 _ (List.getElem_mem h)
    refine (bF.aE ..).trans ((ak (ae (by omega))).trans ((ab (cy h)).trans ?_))
    rw[Int.toNat_natCast,aP _ h,aR (by omega),wrap_i64 (by omega) (by omega)]
    rfl)
  (fun b i h hI _=>by
    have:=hl.2 _ (List.getElem_mem h)
    omega)
  (fun m b hI=>(bF.aE ..).trans (af (aM (by omega))))
  l.length 0 k 0 (by omega) (cU hk hl.1) (by simp)
 refine h.trans ?_
 rw[List.drop_zero,dC,Bx,Int.zero_add]
theorem iU.eq {k:Nat} (hk:cO<=k) {l:List (List Int)} (hl:AR l) (hf:l.flatten.length<1073741824):iU.f k l=some (whole l):=by
 refine (aa (cq.eq hk hl hf)).trans ?_
 unfold whole
 cases j6 l.flatten with
 |false=>rfl
 |true=>exact (ak rfl).trans (aa (bF.eq hk hl))
theorem aW.loop {k:Nat} (hk:cO<=k) {g:Gm} (h:g.sm) (hn:g.hs.length<=6):aW.l5 k g.hs (fun x5=>bif ((x5.length:Int)==(52:Int)) then (bz.f k x5).bind fun r6=>some r6 else some false) k (0:Int) (([]++g.st)++g.hp)=some (whole (g.hs++[g.st,g.hp])):=by
 obtain ⟨h1,h2,h3,h4⟩:=h
 have h3:g.st.length<1048577:=h3
 have h4:g.hp.length<1048577:=h4
 have h:=scan (B:=List Int) g.hs (fun m b i=>aW.l5 k g.hs (fun x5=>bif ((x5.length:Int)==(52:Int)) then (bz.f k x5).bind fun r6=>some r6 else some false) m i b) (fun _ _=>true) (fun b a=>b++a) (fun x5=>bif ((x5.length:Int)==(52:Int)) then (bz.f k x5).bind fun r6=>some r6 else some false) (fun _ _=>none) (fun i b=>b.length<=(i+2)*1048576)
  (fun m b i h hI=>by
    have:=h2.2 _ (List.getElem_mem h)
    refine (aW.de ..).trans ((ak (ae (by omega))).trans ((ab (cy h)).trans ?_))
    rw[Int.toNat_natCast,aP _ h,aR (by omega)]
    exact ab (lN (by omega)))
  (fun b i h hI _=>by
    have:=h2.2 _ (List.getElem_mem h)
    rw[List.length_append];omega)
  (fun m b hI=>(aW.de ..).trans (af (aM (by omega))))
  g.hs.length 0 k (([]++g.st)++g.hp) (by omega) (cU hk h2.1) (by simp;omega)
 refine h.trans ?_
 rw[List.drop_zero,dC,wA,List.nil_append]
 have hp:(g.st++g.hp++g.hs.flatten).Perm (g.hs++[g.st,g.hp]).flatten:=by
  rw[gS];exact List.perm_append_comm
 unfold whole
 rw[<- pR hp,<- hp.length_eq]
 cases e:(((g.st++g.hp++g.hs.flatten).length:Int)==52) with
 |false=>simp
 |true=>
  have:((g.st++g.hp++g.hs.flatten).length:Int)=52:=by simpa using e
  refine (ak rfl).trans ((aa (bz.eq hk (by omega))).trans ?_)
  simp
theorem aW.eq {k:Nat} (hk:cO<=k) {g:Gm} (h:g.sm):g.ap (aW.f k)=some (c_ g):=by
 refine (aa (qF hk h.1)).trans ?_
 unfold c_
 cases hr:g.r.ok with
 |false=>rfl
 |true=>
  have KL:=lP hr
  refine (af rfl).trans ?_
  cases hn:((g.hs.length:Int)==g.r.n) with
  |false=>exact (ak (by rw[bne,hn];rfl)).trans (by simp)
  |true=>
   have qC:(g.hs.length:Int)=g.r.n:=by simpa using hn
   refine (af (by rw[bne,hn];rfl)).trans ?_
   cases hh:((g.hp.length:Int)==0) with
   |true=>
    have:(g.hp.length:Int)=0:=by simpa using hh
    refine (ak rfl).trans ?_
    rw[aM (p:=0<g.hp.length) (by omega)];simp
   |false=>
    have: ¬(g.hp.length:Int)=0:=by simpa using hh
    rw[ae (p:=0<g.hp.length) (by omega)]
    refine (af rfl).trans ((aa (aG.eq ..)).trans ?_)
    rw[wrap_i64 (by omega) (by omega)]
    cases jJ g.tn 0 (g.r.n-1) with
    |false=>simp
    |true=>
     refine (af rfl).trans ((aa (aG.eq ..)).trans ?_)
     cases jJ g.mv 0 g.r.l with
     |false=>simp
     |true=>
      refine (af rfl).trans ((aa (aG.eq ..)).trans ?_)
      cases jJ g.ps 0 g.mv with
      |false=>simp
      |true=>
       have h3:g.st.length<1048577:=h.2.2.1
       have h4:g.hp.length<1048577:=h.2.2.2
       refine (af rfl).trans ((ab (lN (by omega))).trans ((ab (lN (by simp;omega))).trans ((aW.loop hk h (by omega)).trans ?_)))
       simp
theorem cT.eq {k:Nat} (hk:cO<=k) {g:Gm} (h:g.sm):g.ap (cT.f k)=some (c_ g):=by
 refine (aa (ui hk h.1)).trans ?_
 unfold c_
 cases hr:g.r.ok with
 |false=>rfl
 |true=>
  have KL:=lP hr
  refine (ak rfl).trans ?_
  cases hn:((g.hs.length:Int)==g.r.n) with
  |false=>rfl
  |true=>
   have qC:(g.hs.length:Int)=g.r.n:=by simpa using hn
   have h3:g.st.length<1048577:=h.2.2.1
   have h4:g.hp.length<1048577:=h.2.2.2
   have Ry:=xh g.hs h.2.1.2
   refine (ak rfl).trans ((aa (bo.eq hk h.2.1)).trans ((ab (GV (by omega))).trans ((aa (iU.eq hk ⟨by simp;omega,fun y hy=> ?_⟩ ?_)).trans ?_)))
   ·rcases List.mem_append.1 hy with hy|hy
    ·exact h.2.1.2 y hy
    ·simp only[List.mem_cons,List.not_mem_nil,or_false] at hy
     rcases hy with rfl|rfl
     ·exact h3
     ·exact h4
   ·rw[gS];simp only[List.length_append];omega
   ·cases whole (g.hs++[g.st,g.hp]) with
    |false=>rfl
    |true=>
     refine (ak rfl).trans ?_
     have e:decide ((g.hp.length:Int)>0)=decide (0<g.hp.length):=by simp
     rw[e]
     cases decide (0<g.hp.length) with
     |false=>rfl
     |true=>
      refine (ak rfl).trans ((aa (an.eq ..)).trans ?_)
      rw[qC,wrap_i64 (by omega) (by omega)]
      cases jJ g.tn 0 (g.r.n-1) with
      |false=>rfl
      |true=>
       refine (ak rfl).trans ((aa (an.eq ..)).trans ?_)
       cases jJ g.mv 0 g.r.l with
       |false=>rfl
       |true=>exact (ak rfl).trans (aa (an.eq ..))
theorem bY.eq {k:Nat} (hk:cO<=k) {g:Gm} (h:g.sm):g.ap (bY.f k)=some (gM g):=by
 refine (aa (cT.eq hk h)).trans ?_
 unfold gM
 cases c_ g with
 |false=>rfl
 |true=>exact (af rfl).trans (bY.loop hk h.2.1.1)
theorem eh.eq {k:Nat} (hk:cO<=k) {g:Gm} (h:g.sm):g.ap (eh.f k)=some (jL g):=by
 refine (aa (cT.eq hk h)).trans ?_
 unfold jL
 cases hg:c_ g with
 |false=>rfl
 |true=>
  refine (ak rfl).trans ((aa (bY.eq hk h)).trans ?_)
  unfold gM kT
  rw[hg]
  simp only[cond_true]
  cases decide (ln 0 g.hs>=0)<;>cases (g.mv==g.r.l)<;>rfl
theorem bj.inner {R:Type} (k:Nat) {l:List Int} {i:Nat} (h:i<l.length) (v:List Int) (e0:Int->Option R) (hv:v.length<1048577): ∀(j n:Nat),j<=v.length->j<n->bj.l6 k l (i:Int) v e0 n (j:Int)=e0 ((pG l[i] v j:Nat):Int):=by
 intro j
 induction j with
 |zero=>
  intro n hj hn
  obtain ⟨n,rfl⟩: ∃n',n=n' +1:=⟨n-1,by omega⟩
  exact (bj.gO ..).trans (af (aM (by omega)))
 |succ j ih=>
  intro n hj hn
  obtain ⟨n,rfl⟩: ∃n',n=n' +1:=⟨n-1,by omega⟩
  refine (bj.gO ..).trans ((ak (ae (by omega))).trans ?_)
  have e:IntKind.wrap .i64 (((j+1:Nat):Int)-1)=(j:Int):=by rw[wrap_i64 (by omega) (by omega)];omega
  rw[e]
  refine (ab (cy (by omega))).trans ((ab (cy h)).trans ?_)
  rw[Int.toNat_natCast,Int.toNat_natCast,aP (l:=l) _ h]
  unfold pG
  cases h:decide (v.getD j 0>l[i]) with
  |true=>exact (ak rfl).trans (ih n (by omega) (by omega))
  |false=>rfl
theorem bj.eq {k:Nat} (hk:cO<=k) {l:List Int} (hl:l.length<1048577):bj.f k l=some (fT l):=by
 have h:=scan (B:=List Int) l (fun m b i=>bj.l3 k l (fun x2=>some x2) m i b) (fun _ _=>true) AQ (fun x2=>some x2) (fun _ _=>none) (fun i b=>b.length=i)
  (fun m b i h hI=>by
    have hp:=yh l[i] b b.length
    have hb:b.length<1048577:=by omega
    refine (bj.aE ..).trans ((ak (ae (by omega))).trans ?_)
    refine (bj.inner k h b _ hb b.length k (Nat.le_refl _) (cU hk hb)).trans ?_
    have t1:((b.take (pG l[i] b b.length)).drop 0).length=pG l[i] b b.length:=by simp;omega
    have t2:((b.take ((b.length:Int).toNat)).drop (pG l[i] b b.length))=b.drop (pG l[i] b b.length):=by rw[Int.toNat_natCast,List.take_length]
    refine (ab (ch (ae (by omega)) (ae (by omega)))).trans ((ab (ae (by omega))).trans ?_)
    rw[Int.toNat_natCast]
    refine (ab (lN (by omega))).trans ((ab (cy h)).trans ?_)
    rw[t2]
    refine (ab (lN (by simp;omega))).trans ((ab (ch (ae (by omega)) (ae (by omega)))).trans ((ab (ch (ae (by omega)) (ae (by omega)))).trans ((ab (lN (by simp;omega))).trans ?_)))
    rw[aR (by omega),Int.toNat_natCast,aP (l:=l) _ h]
    unfold AQ
    simp)
  (fun b i h hI _=>by rw[D3];omega)
  (fun m b hI=>(bj.aE ..).trans (af (aM (by omega))))
  l.length 0 k [] (by omega) (cU hk hl) rfl
 refine h.trans ?_
 rw[List.drop_zero,dC]
 rfl
theorem jt.eq {k:Nat} (hk:cO<=k) {r:Rl} (h:r.sm) (top c:Int):r.ap (jt.f k) top c=some (fits r top c):=by
 refine (aa (qF hk h)).trans ?_
 unfold fits
 cases r.ok with
 |false=>rfl
 |true=>
  refine (af rfl).trans ((aa (bZ.eq ..)).trans ?_)
  cases dy top with
  |false=>rfl
  |true=>
   refine (af rfl).trans ((aa (bZ.eq ..)).trans ?_)
   cases dy c with
   |false=>rfl
   |true=>
    refine (af rfl).trans ?_
    simp only[eB.eq,dA.eq,bD.eq hk _ h.1,Option.bind_some]
    cases r.b1<;>cases r.b2<;>cases (iY c==iY top)<;>cases (fi c==fi top)<;>cases pT r.w c<;>rfl
theorem jr.eq {k:Nat} (hk:cO<=k) {r:Rl} (h:r.sm) (top c:Int):r.ap (jr.f k) top c=some (fits r top c):=by
 refine (aa (ui hk h)).trans ?_
 unfold fits
 cases r.ok with
 |false=>rfl
 |true=>
  refine (af rfl).trans ((aa (bX.eq ..)).trans ?_)
  cases dy top with
  |false=>rfl
  |true=>
   refine (af rfl).trans ((aa (bX.eq ..)).trans ?_)
   cases dy c with
   |false=>rfl
   |true=>
    refine (af rfl).trans ?_
    simp only[dP.eq,dz.eq,bB.eq hk _ h.1,Option.bind_some]
    cases r.b1<;>cases r.b2<;>cases (iY c==iY top)<;>cases (fi c==fi top)<;>cases pT r.w c<;>rfl
theorem hJ.eq {k:Nat} (hk:cO<=k) {r:Rl} (h:r.sm) (c:Int):r.ap (hJ.f k) c=some (lQ r c):=by
 refine (aa (qF hk h)).trans ?_
 unfold lQ
 cases r.ok with
 |false=>rfl
 |true=>exact (ak rfl).trans (aa (bD.eq hk c h.2))
theorem hD.eq {k:Nat} (hk:cO<=k) {r:Rl} (h:r.sm) (c:Int):r.ap (hD.f k) c=some (lQ r c):=by
 refine (aa (ui hk h)).trans ?_
 unfold lQ
 cases r.ok with
 |false=>rfl
 |true=>exact (ak rfl).trans (aa (bB.eq hk c h.2))
theorem By (c:Int) {z:Nat->Int->Option Int} (hz: ∀b a,z b a=some (b:Int)): ∀(l:List Int) (b:Nat),∃r:Int,run (fun (_:Nat) (a:Int)=> !(a==c)) (fun b _=>b+1) (fun _=>some (-1)) z l b=some r/\decide (r>=0)=cD l c
 | [],b=>⟨-1,rfl,rfl⟩
 |a::l,b=>by
  obtain ⟨r,h1,h2⟩:=By c hz l (b+1)
  have e:run (fun (_:Nat) (a:Int)=> !(a==c)) (fun b _=>b+1) (fun _=>some (-1)) z (a::l) b=bif !(a==c) then run (fun (_:Nat) (a:Int)=> !(a==c)) (fun b _=>b+1) (fun _=>some (-1)) z l (b+1) else z b a:=rfl
  unfold cD
  rw[List.any_cons]
  cases Vm:(a==c) with
  |true=>exact ⟨(b:Int),by rw[e,Vm,hz];rfl,by simp⟩
  |false=>exact ⟨r,by rw[e,Vm];exact h1,by rw[Bool.false_or];exact h2⟩
theorem fB.eq {k:Nat} (hk:cO<=k) {l:List Int} (c:Int) (hl:l.length<1048577):fB.f k l c=some (cD l c):=by
 have h:=scan (B:=Nat) l (fun m b i=>df.l2 k c l (l.length:Int) (fun x1=>some x1) (some (-1)) m i) (fun _ a=> !(a==c)) (fun b _=>b+1) (fun _=>some (-1)) (fun b _=>some (b:Int)) (fun i b=>b=i)
  (fun m b i h hI=>by
    subst hI
    refine (df.fS ..).trans ((ak (ae (by omega))).trans ((ab (cy h)).trans ?_))
    rw[Int.toNat_natCast,aP _ h,aR (by omega)]
    cases (l[b]==c)<;>rfl)
  (fun b i h hI _=>by omega)
  (fun m b hI=>(df.fS ..).trans (af (aM (by omega))))
  l.length 0 k 0 (by omega) (cU hk hl) rfl
 obtain ⟨r,h1,h2⟩:=By c (z:=fun b _=>some (b:Int)) (fun _ _=>rfl) l 0
 rw[List.drop_zero,h1] at h
 refine (aa (show df.f k l c=some r from h)).trans ?_
 rw[h2]
theorem cH.eq {k:Nat} (hk:cO<=k) {l:List Int} (c:Int) (hl:l.length<1048577):cH.f k l c=some (kS l c):=by
 have h:=scan (B:=List Int) l (fun m b i=>cH.l3 k c l (l.length:Int) (fun x1=>some x1) m i b) (fun _ _=>true) (fun b a=>bif a != c then b++[a] else b) (fun x1=>some x1) (fun _ _=>none) (fun i b=>b.length<=i)
  (fun m b i h hI=>by
    refine (cH.aE ..).trans ((ak (ae (by omega))).trans ((ab (cy h)).trans ?_))
    rw[Int.toNat_natCast,aP _ h,aR (by omega)]
    cases (l[i] != c) with
    |false=>rfl
    |true=>exact (ak rfl).trans (ab (lN (by omega))))
  (fun b i h hI _=>by cases (l[i] != c)<;>simp<;>omega)
  (fun m b hI=>(cH.aE ..).trans (af (aM (by omega))))
  l.length 0 k [] (by omega) (cU hk hl) (by simp)
 refine h.trans ?_
 rw[List.drop_zero,dC,foldl_filter (fun a=>a != c),List.nil_append]
 rfl
theorem mG {n:Nat} (h:0<n) (h2:n<4611686018427387904):IntKind.wrap .i64 ((n:Int)-1)=((n-1:Nat):Int):=by rw[wrap_i64 (by omega) (by omega)];omega
theorem yi {g:Gm} (h:g.sm):g.hand.length<1048577:=by
 unfold Gm.hand
 rw[List.getD_eq_getElem?_getD]
 cases e:g.hs[g.tn.toNat]? with
 |none=>simp
 |some x=>exact h.2.1.2 x (List.mem_of_getElem? e)
theorem mH {g:Gm} (h:c_ g=true):0<=g.tn/\g.tn<(g.hs.length:Int):=by
 obtain ⟨h1,h2,h3,h4,h5,h6,h7⟩:=dR.1 h
 omega
theorem bp.eq {k:Nat} (hk:cO<=k) {g:Gm} (h:g.sm):g.ap (bp.f k)=some (eP g):=by
 refine (aa (aW.eq hk h)).trans ?_
 unfold eP
 cases hg:c_ g with
 |false=>rfl
 |true=>
  refine (af rfl).trans ((aa (ek.eq hk g h.2.1.1)).trans ?_)
  cases ho:kT g with
  |true=>rfl
  |false=>
   have ht:=mH hg
   have h4:g.hp.length<1048577:=h.2.2.2
   have hp:=(dR.1 hg).2.2.2.1
   have hs:=pU g.hand
   have hh:=yi h
   refine (af rfl).trans ((ab (ch (ae ht.1) (ae ht.2))).trans ((aa (bj.eq hk hh)).trans ?_))
   have h:=scan (B:=List Int) (fT g.hand) (fun m b i=>bp.l6 k g.r.n g.r.e g.r.b1 g.r.b2 g.r.w g.r.f g.r.t g.r.l g.hp (fT g.hand) (fun x5=>some x5) m i b) (fun _ _=>true) (fun b a=>bif fits g.r g.top a then b++[a] else b) (fun x5=>some x5) (fun _ _=>none) (fun i b=>b.length<=i)
    (fun m b i h' hI=>by
      refine (bp.gO ..).trans ((ak (ae (by omega))).trans ?_)
      rw[mG (by omega) (by omega)]
      refine (ab (cy (by omega))).trans ((ab (cy h')).trans ?_)
      rw[Int.toNat_natCast,Int.toNat_natCast,aP (l:=fT g.hand) _ h',aR (by omega)]
      refine (aa (jt.eq hk h.1 _ _)).trans ?_
      show (bif fits g.r g.top (fT g.hand)[i] then _ else _)=_
      cases fits g.r g.top (fT g.hand)[i] with
      |false=>rfl
      |true=>exact (ak rfl).trans ((ab (cy h')).trans (ab (lN (by omega)))))
    (fun b i h' hI _=>by cases fits g.r g.top (fT g.hand)[i]<;>simp<;>omega)
    (fun m b hI=>(bp.gO ..).trans (af (aM (by omega))))
    (fT g.hand).length 0 k [] (by omega) (cU hk (by omega)) (by simp)
   refine h.trans ?_
   rw[List.drop_zero,dC,foldl_filter (fits g.r g.top),List.nil_append]
   rfl
theorem uj {g:Gm} (h:c_ g=true):jL g=kT g:=by unfold jL;rw[h];rfl
theorem cr.eq {k:Nat} (hk:cO<=k) {g:Gm} (h:g.sm):g.ap (cr.f k)=some (eP g):=by
 refine (aa (cT.eq hk h)).trans ?_
 unfold eP
 cases hg:c_ g with
 |false=>rfl
 |true=>
  refine (af rfl).trans ((aa (eh.eq hk h)).trans ?_)
  rw[uj hg]
  cases ho:kT g with
  |true=>rfl
  |false=>
   have ht:=mH hg
   have h4:g.hp.length<1048577:=h.2.2.2
   have hp:=(dR.1 hg).2.2.2.1
   have hs:=pU g.hand
   have hh:=yi h
   refine (af rfl).trans ((ab (ch (ae ht.1) (ae ht.2))).trans ((aa (bi.eq hk hh)).trans ?_))
   have h:=scan (B:=List Int) (fT g.hand) (fun m b i=>cr.l5 k ((fT g.hand).length:Int) g.r.n g.r.e g.r.b1 g.r.b2 g.r.w g.r.f g.r.t g.r.l g.hp (fT g.hand) (fun x5=>some x5) m i b) (fun _ _=>true) (fun b a=>bif fits g.r g.top a then b++[a] else b) (fun x5=>some x5) (fun _ _=>none) (fun i b=>b.length<=i)
    (fun m b i h' hI=>by
      refine (cr.de ..).trans ((ak (ae (by omega))).trans ?_)
      rw[mG (by omega) (by omega)]
      refine (ab (cy h')).trans ((ab (cy (by omega))).trans ?_)
      rw[Int.toNat_natCast,Int.toNat_natCast,aP (l:=fT g.hand) _ h',aR (by omega)]
      refine (aa (jr.eq hk h.1 _ _)).trans ?_
      show (bif fits g.r g.top (fT g.hand)[i] then _ else _)=_
      cases fits g.r g.top (fT g.hand)[i] with
      |false=>rfl
      |true=>exact (ak rfl).trans (ab (lN (by omega))))
    (fun b i h' hI _=>by cases fits g.r g.top (fT g.hand)[i]<;>simp<;>omega)
    (fun m b hI=>(cr.de ..).trans (af (aM (by omega))))
    (fT g.hand).length 0 k [] (by omega) (cU hk (by omega)) (by simp)
   refine h.trans ?_
   rw[List.drop_zero,dC,foldl_filter (fits g.r g.top),List.nil_append]
   rfl
theorem ju.eq {k:Nat} (hk:cO<=k) {g:Gm} (h:g.sm) (c:Int):g.ap (ju.f k) c=some ((kB g c).1.jx (kB g c).2):=by
 have N2:=uh g
 refine (aa (dk.eq hk h)).trans ((aa (bp.eq hk h)).trans ((aa (bC.eq hk c (by omega))).trans ?_))
 unfold kB
 cases hc:cD (eP g) c with
 |false=>rfl
 |true=>
  obtain ⟨hg,ho,hm,Rz⟩:=oW hc
  have ht:=mH hg
  obtain ⟨h1,h2,h3,h4,h5,h6,h7⟩:=dR.1 hg
  have KL:=lP h1
  have h8:g.hp.length<1048577:=h.2.2.2
  refine (af rfl).trans ((ab (ch (ae ht.1) (ae ht.2))).trans ((aa (cK.eq hk c (yi h))).trans ((ab (ch (ae ht.1) (ae ht.2))).trans ((ab (lN (show g.hp.length+1<=_ by omega))).trans ((aa (hJ.eq hk h.1 c)).trans ?_)))))
  rw[wrap_i64 (n:=g.tn+2) (by omega) (by omega),wrap_i64 (n:=g.tn+1) (by omega) (by omega),wrap_i64 (n:=g.mv+1) (by omega) (by omega)]
  cases lQ g.r c with
  |true=>exact (ak rfl).trans (ab (by rw[aM (p:=g.r.n=0) (by omega)];rfl))
  |false=>exact (af rfl).trans (ab (by rw[aM (p:=g.r.n=0) (by omega)];rfl))
theorem js.eq {k:Nat} (hk:cO<=k) {g:Gm} (h:g.sm) (c:Int):g.ap (js.f k) c=some ((kB g c).1.jx (kB g c).2):=by
 have N2:=uh g
 refine (aa (bS.eq hk h)).trans ((aa (cr.eq hk h)).trans ((aa (fB.eq hk c (by omega))).trans ?_))
 unfold kB
 cases hc:cD (eP g) c with
 |false=>rfl
 |true=>
  obtain ⟨hg,ho,hm,Rz⟩:=oW hc
  have ht:=mH hg
  obtain ⟨h1,h2,h3,h4,h5,h6,h7⟩:=dR.1 hg
  have KL:=lP h1
  have h8:g.hp.length<1048577:=h.2.2.2
  refine (af rfl).trans ((ab (ch (ae ht.1) (ae ht.2))).trans ((aa (cH.eq hk c (yi h))).trans ((ab (ch (ae ht.1) (ae ht.2))).trans ((ab (lN (show g.hp.length+1<=_ by omega))).trans ((aa (hD.eq hk h.1 c)).trans ?_)))))
  rw[h2,wrap_i64 (n:=g.tn+2) (by omega) (by omega),wrap_i64 (n:=g.tn+1) (by omega) (by omega),wrap_i64 (n:=g.mv+1) (by omega) (by omega)]
  cases lQ g.r c with
  |true=>exact (ak rfl).trans (ab (by rw[aM (p:=g.r.n=0) (by omega)];rfl))
  |false=>exact (af rfl).trans (ab (by rw[aM (p:=g.r.n=0) (by omega)];rfl))
def yG (a m:Int):Int:=(a.tmod m+m).tmod m
theorem yH (a:Int) {m:Int} (h:1<=m): -m<a.tmod m/\a.tmod m<m:=by
 rcases Int.le_total 0 a with h0|h0
 ·rw[Int.tmod_eq_emod_of_nonneg h0]
  have:=Int.emod_nonneg a (b:=m) (by omega)
  have:=Int.emod_lt_of_pos a (b:=m) (by omega)
  omega
 ·have e:a.tmod m= -((-a).tmod m):=by rw[Int.neg_tmod,Int.neg_neg]
  rw[e,Int.tmod_eq_emod_of_nonneg (by omega)]
  have:=Int.emod_nonneg (-a) (b:=m) (by omega)
  have:=Int.emod_lt_of_pos (-a) (b:=m) (by omega)
  omega
theorem yj (a:Int) {m:Int} (h:1<=m):0<=yG a m/\yG a m<m:=by
 have:=yH a h
 unfold yG
 rw[Int.tmod_eq_emod_of_nonneg (by omega)]
 exact ⟨Int.emod_nonneg _ (by omega),Int.emod_lt_of_pos _ (by omega)⟩
theorem gw.KM (k:Nat) (a:Int) {m:Int} (h1:1<=m) (h2:m<=1000000000000):gw.f k a m=some (yG a m):=by
 have:=yH a h1
 refine (aa (aG.eq ..)).trans ?_
 rw[eD.2 ⟨h1,h2⟩]
 refine (af rfl).trans ((ab (by rw[aM (p:=m=0) (by omega)];rfl)).trans ((ab (by rw[aM (p:=m=0) (by omega)];rfl)).trans ?_))
 rw[wrap_i64 (by omega) (by omega)]
 rfl
theorem gy.KM (k:Nat) (a:Int) {m:Int} (h1:1<=m) (h2:m<=1000000000000):gy.f k a m=some (yG a m):=by
 have:=yH a h1
 refine (aa (an.eq ..)).trans ?_
 rw[eD.2 ⟨h1,h2⟩]
 refine (af rfl).trans ((ab (by rw[aM (p:=m=0) (by omega)];rfl)).trans ((ab (by rw[aM (p:=m=0) (by omega)];rfl)).trans ?_))
 rw[wrap_i64 (by omega) (by omega)]
 rfl
def RA (iv:Int) (i:Nat):Nat:=(yG (pQ [iv,(i:Int)]) ((i:Int)+1)).toNat
def Bz (iv:Int) (v:List Int) (i:Nat):List Int:=(v.set i (v.getD (RA iv i) 0)).set (RA iv i) (v.getD i 0)
def D6 (iv:Int):Nat->List Int->List Int
 |0,v=>v
 |i+1,v=>D6 iv i (Bz iv v (i+1))
def oh (l:List Int) (iv:Int):List Int:=D6 iv (l.length-1) l
theorem G3 (iv:Int) (i:Nat):RA iv i<=i/\((RA iv i:Nat):Int)=yG (pQ [iv,(i:Int)]) ((i:Int)+1):=by
 have:=yj (pQ [iv,(i:Int)]) (m:=(i:Int)+1) (by omega)
 unfold RA
 omega
theorem oi (iv:Int) (v:List Int) (i:Nat):(Bz iv v i).length=v.length:=by simp[Bz]
theorem yI (iv:Int): ∀(i:Nat) (v:List Int),i<v.length\/i=0->(D6 iv i v).Perm v
 |0,v,_=>List.Perm.refl _
 |i+1,v,h=>by
  have hj:=(G3 iv (i+1)).1
  refine (yI iv i _ (by rw[oi];omega)).trans ?_
  unfold Bz
  rw[aP _ (by omega),aP _ (by omega)]
  exact List.set_set_perm (by omega) (by omega)
theorem AT (l:List Int) (iv:Int):(oh l iv).Perm l:=yI iv _ l (by omega)
theorem bL.loop {R:Type} {k:Nat} (hk:cO<=k) (iv:Int) (e0:List Int->Option R): ∀(i n:Nat) (v:List Int),i<v.length->v.length<1048577->i<n->bL.l3 k iv e0 n (i:Int) v=e0 (D6 iv i v):=by
 intro i
 induction i with
 |zero=>
  intro n v h hv hn
  obtain ⟨n,rfl⟩: ∃n',n=n' +1:=⟨n-1,by omega⟩
  exact (bL.aE ..).trans (af (aM (by omega)))
 |succ i ih=>
  intro n v h hv hn
  obtain ⟨n,rfl⟩: ∃n',n=n' +1:=⟨n-1,by omega⟩
  have hj:=G3 iv (i+1)
  refine (bL.aE ..).trans ((ak (ae (by omega))).trans ((aa (dK.eq hk (by simp))).trans ?_))
  rw[wrap_i64 (n:=((i+1:Nat):Int)+1) (by omega) (by omega),show IntKind.wrap .i64 (((i+1:Nat):Int)-1)=(i:Int) by rw[wrap_i64 (by omega) (by omega)];omega]
  refine (aa (gw.KM k _ (by omega) (by omega))).trans ?_
  rw[<- hj.2]
  refine (ab (cy h)).trans ((ab (cy (by omega))).trans ((ab (cy h)).trans ((ab (cy (by rw[List.length_set];omega))).trans ?_)))
  rw[Int.toNat_natCast,Int.toNat_natCast]
  exact ih n (Bz iv v (i+1)) (by rw[oi];omega) (by rw[oi];omega) (by omega)
theorem bM.loop {R:Type} {k:Nat} (hk:cO<=k) (iv:Int) (e0:List Int->Option R): ∀(i n:Nat) (v:List Int),i<v.length->v.length<1048577->i<n->bM.l3 k iv e0 n (i:Int) v=e0 (D6 iv i v):=by
 intro i
 induction i with
 |zero=>
  intro n v h hv hn
  obtain ⟨n,rfl⟩: ∃n',n=n' +1:=⟨n-1,by omega⟩
  exact (bM.aE ..).trans (af (aM (by omega)))
 |succ i ih=>
  intro n v h hv hn
  obtain ⟨n,rfl⟩: ∃n',n=n' +1:=⟨n-1,by omega⟩
  have hj:=G3 iv (i+1)
  refine (bM.aE ..).trans ((ak (ae (by omega))).trans ((aa (dM.eq hk (by simp))).trans ?_))
  rw[wrap_i64 (n:=((i+1:Nat):Int)+1) (by omega) (by omega),show IntKind.wrap .i64 (((i+1:Nat):Int)-1)=(i:Int) by rw[wrap_i64 (by omega) (by omega)];omega]
  refine (aa (gy.KM k _ (by omega) (by omega))).trans ?_
  rw[<- hj.2]
  refine (ab (cy (by omega))).trans ((ab (cy h)).trans ((ab (cy h)).trans ((ab (cy (by rw[List.length_set];omega))).trans ?_)))
  rw[Int.toNat_natCast,Int.toNat_natCast]
  exact ih n (Bz iv v (i+1)) (by rw[oi];omega) (by rw[oi];omega) (by omega)
theorem bL.eq {k:Nat} (hk:cO<=k) {l:List Int} (iv:Int) (hl:l.length<1048577):bL.f k l iv=some (oh l iv):=by
 refine (ab (lN (by omega))).trans ?_
 unfold oh
 rw[List.nil_append]
 by_cases h0:l.length=0
 ·obtain ⟨n,rfl⟩: ∃n',k=n' +1:=⟨k-1,by simp[cO] at hk;omega⟩
  rw[h0]
  exact (bL.aE ..).trans (af (by decide))
 ·rw[mG (by omega) (by omega)]
  exact bL.loop hk iv _ (l.length-1) k l (by omega) hl (cU hk (by omega))
theorem bM.eq {k:Nat} (hk:cO<=k) {l:List Int} (iv:Int) (hl:l.length<1048577):bM.f k l iv=some (oh l iv):=by
 refine (aa (aF.eq k hl)).trans ?_
 unfold oh
 by_cases h0:l.length=0
 ·obtain ⟨n,rfl⟩: ∃n',k=n' +1:=⟨k-1,by simp[cO] at hk;omega⟩
  rw[h0]
  exact (bM.aE ..).trans (af (by decide))
 ·rw[mG (by omega) (by omega)]
  exact bM.loop hk iv _ (l.length-1) k l (by omega) hl (cU hk (by omega))
def missing (l:List Int):List Int:=OC (fun i b=>bif !cD l (i:Int) then b++[(i:Int)] else b) 52 0 []
def uk:List Int:=missing []
theorem oX:uk.length=52:=by decide+kernel
theorem cL.eq {k:Nat} (hk:cO<=k) {l:List Int} (hl:l.length<1048577):cL.f k l=some (missing l):=by
 have h:=upto (B:=List Int) 52 (fun m b i=>cL.l3 k l (fun x2=>some x2) m i b) (fun i b=>bif !cD l (i:Int) then b++[(i:Int)] else b) (fun x=>some x) (fun i b=>b.length<=i)
  (fun m b i h hI=>by
    refine (cL.aE ..).trans ((ak (ae (by omega))).trans ((aa (bC.eq hk _ (by omega))).trans ?_))
    rw[aR (by omega)]
    cases (!cD l (i:Int)) with
    |false=>rfl
    |true=>exact (ak rfl).trans (ab (lN (by omega))))
  (fun b i h hI=>by cases (!cD l (i:Int))<;>simp<;>omega)
  (fun m b hI=>(cL.aE ..).trans (af (aM (by omega))))
  52 0 k [] (by omega) (by simp[cO] at hk;omega) (by simp)
 exact h
theorem cM.eq {k:Nat} (hk:cO<=k) {l:List Int} (hl:l.length<1048577):cM.f k l=some (missing l):=by
 have h:=upto (B:=List Int) 52 (fun m b i=>cM.l3 k l (fun x2=>some x2) m i b) (fun i b=>bif !cD l (i:Int) then b++[(i:Int)] else b) (fun x=>some x) (fun i b=>b.length<=i)
  (fun m b i h hI=>by
    refine (cM.aE ..).trans ((ak (ae (by omega))).trans ((aa (fB.eq hk _ hl)).trans ?_))
    rw[aR (by omega)]
    cases (!cD l (i:Int)) with
    |false=>rfl
    |true=>exact (ak rfl).trans (ab (lN (by omega))))
  (fun b i h hI=>by cases (!cD l (i:Int))<;>simp<;>omega)
  (fun m b hI=>(cM.aE ..).trans (af (aM (by omega))))
  52 0 k [] (by omega) (by simp[cO] at hk;omega) (by simp)
 exact h
theorem hR.eq {k:Nat} (hk:cO<=k):hR.f k=some uk:=aa (cL.eq hk (by simp))
theorem ik.eq {k:Nat} (hk:cO<=k):ik.f k=some uk:=aa (cM.eq hk (by simp))
def tq (d:List Int) (n q p:Nat):List Int:=(List.range ((q+n-1-p)/n)).map fun i=>d.getD (i*n+p) 0
def gI (d:List Int) (n q:Nat):List (List Int):=(List.range n).map (tq d n q)
def pV (d:List Int) (n e:Nat):List (List Int):=(List.range n).map fun p=>(List.range e).map fun i=>d.getD (i*n+p) 0
def ul (n:Nat) (b:List (List Int)×Nat) (c:Int):List (List Int)×Nat:=(b.1.set (b.2%n) (b.1.getD (b.2%n) []++[c]),b.2+1)
theorem KN {n q p:Nat} (h1:1<=n) (h2:n<=6) (hp:p<n):(q+1+n-1-p)/n=if p=q%n then (q+n-1-p)/n+1 else (q+n-1-p)/n:=by
 have:n=1\/n=2\/n=3\/n=4\/n=5\/n=6:=by omega
 rcases this with rfl|rfl|rfl|rfl|rfl|rfl<;>split<;>omega
theorem OG {n q:Nat} (h1:1<=n) (h2:n<=6):(q+n-1-q%n)/n*n+q%n=q:=by
 have:n=1\/n=2\/n=3\/n=4\/n=5\/n=6:=by omega
 rcases this with rfl|rfl|rfl|rfl|rfl|rfl<;>omega
theorem MR {n e p:Nat} (h1:1<=n) (h2:n<=6) (hp:p<n):(n*e+n-1-p)/n=e:=by
 have:n=1\/n=2\/n=3\/n=4\/n=5\/n=6:=by omega
 rcases this with rfl|rfl|rfl|rfl|rfl|rfl<;>omega
theorem Cw {d:List Int} {n q:Nat} (h1:1<=n) (h2:n<=6) (hq:q<d.length):(gI d n q).set (q%n) ((gI d n q).getD (q%n) []++[d[q]])=gI d n (q+1):=by
 have hm:q%n<n:=Nat.mod_lt _ (by omega)
 have e1:(gI d n q).getD (q%n) [] =tq d n q (q%n):=by
  rw[aP _ (by simpa[gI] using hm)];simp[gI]
 rw[e1]
 refine List.ext_getElem (by simp[gI]) (fun p pM OH=> ?_)
 have hp:p<n:=by simpa[gI] using OH
 rw[List.getElem_set]
 have e2:(gI d n (q+1))[p] =tq d n (q+1) p:=by simp[gI]
 rw[e2]
 unfold tq
 rw[KN h1 h2 hp]
 by_cases TZ:q%n=p
 ·subst TZ
  rw[if_pos rfl,if_pos rfl,List.range_succ,List.map_append]
  simp only[List.map_cons,List.map_nil]
  rw[OG h1 h2,aP _ hq]
 ·rw[if_neg TZ,if_neg (fun e=>TZ e.symm)]
  simp[gI,tq]
theorem wF {d:List Int} {n:Nat} (h1:1<=n) (h2:n<=6): ∀(q:Nat),q<=d.length->(d.take q).foldl (ul n) (List.replicate n [],0)=(gI d n q,q)
 |0,_=>by
  have e:gI d n 0=List.replicate n []:=by
   refine List.ext_getElem (by simp[gI]) (fun p pM OH=> ?_)
   have hp:p<n:=by simpa using OH
   simp only[gI,tq,List.getElem_map,List.getElem_range,List.getElem_replicate]
   rw[show (0+n-1-p)/n=0 from Nat.div_eq_of_lt (by omega)]
   rfl
  rw[e];rfl
 |q+1,h=>by
  rw[List.take_succ_eq_append_getElem (by omega),List.foldl_append,wF h1 h2 q (by omega)]
  show ul n (gI d n q,q) d[q] =_
  unfold ul
  rw[Cw h1 h2 (by omega)]
theorem xi {d:List Int} {n e:Nat} (h1:1<=n) (h2:n<=6):gI d n (n*e)=pV d n e:=by
 unfold gI pV
 refine List.map_congr_left (fun p hp=> ?_)
 unfold tq
 rw[MR h1 h2 (List.mem_range.1 hp)]
theorem BA {n:Nat} (h1:1<=n): ∀(l:List Int) (b:List (List Int)×Nat),b.1.length=n->((l.foldl (ul n) b).1.flatten).Perm (b.1.flatten++l)
 | [],b,_=>by simp
 |c::l,b,h=>by
  have hm:b.2%n<b.1.length:=by rw[h];exact Nat.mod_lt _ (by omega)
  rw[List.foldl_cons]
  refine (BA h1 l _ (by simpa[ul] using h)).trans ?_
  obtain ⟨q,q1,q2⟩:=pS b.1 (b.2%n) (b.1.getD (b.2%n) []++[c]) hm
  show ((b.1.set (b.2%n) (b.1.getD (b.2%n) []++[c])).flatten++l).Perm _
  refine (q2.append_right l).trans (List.Perm.trans ?_ (q1.append_right (c::l)).symm)
  rw[aP _ hm]
  have e1:b.1[b.2%n]++[c]++q++l=b.1[b.2%n]++([c]++(q++l)):=by simp
  have e2:b.1[b.2%n]++q++c::l=b.1[b.2%n]++(q++([c]++l)):=by simp
  rw[e1,e2]
  exact List.Perm.append_left _ (List.perm_append_comm_assoc _ _ _)
theorem G4 {d:List Int} {n e:Nat} (h1:1<=n) (h2:n<=6) (h:n*e<=d.length):(pV d n e).flatten.Perm (d.take (n*e)):=by
 have:=BA h1 (d.take (n*e)) (List.replicate n [],0) (by simp)
 rw[wF h1 h2 _ h,xi h1 h2] at this
 simpa using this
theorem Jf (d:List Int) (n e:Nat):(pV d n e).length=n:=by simp[pV]
theorem cW.loop {R:Type} {k n:Nat} (hk:cO<=k) (h1:1<=n) {v:List Int} (hv:v.length<1048577) (e0:List (List Int)->Option R):cW.l5 k (n:Int) v (v.length:Int) e0 k (0:Int) (List.replicate n [])=e0 (v.foldl (ul n) (List.replicate n [],0)).1:=by
 have h:=scan (B:=List (List Int)×Nat) v (fun m b i=>cW.l5 k (n:Int) v (v.length:Int) e0 m i b.1) (fun _ _=>true) (ul n) (fun b=>e0 b.1) (fun _ _=>none) (fun i b=>b.2=i/\b.1.length=n/\ ∀y∈b.1,y.length<=i)
  (fun m b i h hI=>by
    obtain ⟨Vn,Vo,Tp⟩:=hI
    have hm:i%n<n:=Nat.mod_lt _ (by omega)
    have e:((i:Int)).tmod (n:Int)=((i%n:Nat):Int):=rfl
    have hl:(b.1.getD (i%n) []).length<=i:=by rw[aP _ (by omega)];exact Tp _ (List.getElem_mem _)
    have hz:(!decide ((n:Int)=0))=true:=by rw[aM (p:=(n:Int)=0) (by omega)];rfl
    refine (cW.de ..).trans ((ak (ae (by omega))).trans ((ab (cy h)).trans ((ab hz).trans ((ab hz).trans ?_))))
    rw[e,Int.toNat_natCast,Int.toNat_natCast,aP (l:=v) _ h,aR (by omega)]
    refine (ab (cy (by omega))).trans ((ab (lN (by omega))).trans ((ab (cy (by omega))).trans ((ab (by simp)).trans ?_)))
    unfold ul
    rw[Vn]
    rfl)
  (fun b i h hI _=>by
    obtain ⟨Vn,Vo,Tp⟩:=hI
    have hm:b.2%n<n:=Nat.mod_lt _ (by omega)
    refine ⟨by show b.2+1=i+1;omega,by simpa[ul] using Vo,fun y hy=> ?_⟩
    rcases List.mem_or_eq_of_mem_set (show y∈b.1.set (b.2%n) _ from hy) with hy|rfl
    ·have:=Tp y hy;omega
    ·have:(b.1.getD (b.2%n) []).length<=i:=by rw[aP _ (by omega)];exact Tp _ (List.getElem_mem _)
     rw[List.length_append,List.length_singleton];omega)
  (fun m b hI=>(cW.de ..).trans (af (aM (by omega))))
  v.length 0 k (List.replicate n [],0) (by omega) (cU hk hv) ⟨rfl,by simp,fun y hy=>by
   obtain rfl:=List.eq_of_mem_replicate hy;simp⟩
 refine h.trans ?_
 rw[List.drop_zero,dC]
theorem tr {n e:Nat} (h1:n<=6) (h2:e<=20):n*e<=120:=Nat.mul_le_mul h1 h2
theorem cW.eq {k:Nat} (hk:cO<=k) {d:List Int} {n e:Nat} (h1:1<=n) (h2:n<=6) (h3:e<=20) (hd:j6 d=true) (hl:d.length<1048577) (h:n*e<=d.length):cW.f k d (n:Int) (e:Int)=some (pV d n e,d.drop (n*e),true):=by
 have h4:=tr h2 h3
 have hw:IntKind.wrap .i64 ((n:Int)*(e:Int))=((n*e:Nat):Int):=by
  have:(n:Int)*(e:Int)=((n*e:Nat):Int):=by simp
  rw[this,wrap_i64 (by omega) (by omega)]
 refine (aa (bI.eq hk (by omega))).trans ?_
 rw[hd]
 refine (af rfl).trans ((aa (an.eq ..)).trans ?_)
 rw[eD.2 (⟨by omega,by omega⟩:(1:Int)<=(n:Int)/\(n:Int)<=6)]
 refine (af rfl).trans ((aa (an.eq ..)).trans ?_)
 rw[eD.2 (⟨by omega,by omega⟩:(0:Int)<=(e:Int)/\(e:Int)<=20),hw,Int.toNat_natCast,Int.toNat_natCast]
 refine (af rfl).trans ((af (aM (by omega))).trans ((ab (ch (ae (by omega)) (GV (by omega)))).trans ((ab (ch (ae (by omega)) (ae (by omega)))).trans ?_)))
 refine (cW.loop hk h1 (by rw[List.length_take];omega) _).trans ((ab (ch (ae (by omega)) (ae (by omega)))).trans ((aa (aF.eq k (by simp;omega))).trans ?_))
 rw[wF h1 h2 _ h,xi h1 h2]
theorem It {α:Type} (f:Nat->α): ∀(m i:Nat) (b:List α),OC (fun i b=>b++[f i]) m i b=b++(List.range' i m).map f
 |0,i,b=>by simp[OC]
 |m+1,i,b=>by
  show OC (fun i b=>b++[f i]) m (i+1) (b++[f i])=_
  rw[It f m (i+1),List.range'_succ,List.map_cons,List.append_assoc]
  rfl
theorem D7 {α:Type} (f:Nat->α) (m:Nat):OC (fun i b=>b++[f i]) m 0 [] =(List.range m).map f:=by
 rw[It,List.nil_append,List.range_eq_range']
theorem bu.inner {R:Type} {k n e p:Nat} (hk:cO<=k) (h2:n<=6) (h3:e<=20) (hp:p<n) {d:List Int} (hl:d.length<1048577) (h:n*e<=d.length) (e0:List Int->Option R):bu.l9 k d (n:Int) (e:Int) (p:Int) e0 k (0:Int) [] =e0 ((List.range e).map fun i=>d.getD (i*n+p) 0):=by
 have h:=upto (B:=List Int) e (fun m b i=>bu.l9 k d (n:Int) (e:Int) (p:Int) e0 m i b) (fun i b=>b++[d.getD (i*n+p) 0]) e0 (fun i b=>b.length=i)
  (fun m b i hi hI=>by
    have q1:i*n+n<=e*n:=by
     have:(i+1)*n<=e*n:=Nat.mul_le_mul_right _ hi
     rw[Nat.add_mul,Nat.one_mul] at this
     exact this
    have q2:e*n=n*e:=Nat.mul_comm _ _
    have q3:=tr h2 h3
    have e1:IntKind.wrap .i64 ((i:Int)*(n:Int))=((i*n:Nat):Int):=by
     have:(i:Int)*(n:Int)=((i*n:Nat):Int):=by simp
     rw[this,wrap_i64 (by omega) (by omega)]
    have e2:IntKind.wrap .i64 (((i*n:Nat):Int)+(p:Int))=((i*n+p:Nat):Int):=by
     rw[wrap_i64 (by omega) (by omega)];omega
    refine (bu.Ij ..).trans ((ak (ae (by omega))).trans ?_)
    rw[e1,e2,Int.toNat_natCast,aR (by omega)]
    exact (ab (cy (by omega))).trans (ab (lN (by omega))))
  (fun b i hi hI=>by simp;omega)
  (fun m b hI=>(bu.Ij ..).trans (af (aM (by omega))))
  e 0 k [] (by omega) (by simp[cO] at hk;omega) rfl
 refine h.trans ?_
 rw[D7 (fun i=>d.getD (i*n+p) 0)]
theorem bu.eq {k:Nat} (hk:cO<=k) {d:List Int} {n e:Nat} (h1:1<=n) (h2:n<=6) (h3:e<=20) (hd:j6 d=true) (hl:d.length<1048577) (h:n*e<=d.length):bu.f k d (n:Int) (e:Int)=some (pV d n e,d.drop (n*e),true):=by
 have h4:=tr h2 h3
 have hw:IntKind.wrap .i64 ((n:Int)*(e:Int))=((n*e:Nat):Int):=by
  have:(n:Int)*(e:Int)=((n*e:Nat):Int):=by simp
  rw[this,wrap_i64 (by omega) (by omega)]
 refine (aa (bz.eq hk (by omega))).trans ?_
 rw[hd]
 refine (af rfl).trans ((aa (aG.eq ..)).trans ?_)
 rw[eD.2 (⟨by omega,by omega⟩:(1:Int)<=(n:Int)/\(n:Int)<=6)]
 refine (af rfl).trans ((aa (aG.eq ..)).trans ?_)
 rw[eD.2 (⟨by omega,by omega⟩:(0:Int)<=(e:Int)/\(e:Int)<=20),hw,Int.toNat_natCast]
 refine (af rfl).trans ((af (aM (by omega))).trans ?_)
 have hL:=upto (B:=List (List Int)) n (fun m b i=>bu.l5 k d (n:Int) (e:Int) (fun x5=>aC ((decide ((0:Int)<=((n*e:Nat):Int)))&&(decide (((n*e:Nat):Int)<=(d.length:Int))))<|aC (decide ((0+((d.drop (n*e)).length))*8<=room))<|some (x5,[]++(d.drop (n*e)),true)) m i b) (fun p b=>b++[(List.range e).map fun i=>d.getD (i*n+p) 0]) (fun x5=>aC ((decide ((0:Int)<=((n*e:Nat):Int)))&&(decide (((n*e:Nat):Int)<=(d.length:Int))))<|aC (decide ((0+((d.drop (n*e)).length))*8<=room))<|some (x5,[]++(d.drop (n*e)),true)) (fun i b=>b.length=i)
  (fun m b i hi hI=>by
    refine (bu.de ..).trans ((ak (ae (by omega))).trans ((bu.inner hk h2 h3 hi hl h _).trans ((ab (GV (by omega))).trans ?_)))
    rw[aR (by omega)])
  (fun b i hi hI=>by simp;omega)
  (fun m b hI=>(bu.de ..).trans (af (aM (by omega))))
  n 0 k [] (by omega) (by simp[cO] at hk;omega) rfl
 refine hL.trans ((ab (ch (ae (by omega)) (ae (by omega)))).trans ((ab (lN (by simp;omega))).trans ?_))
 rw[D7 (fun p=>(List.range e).map fun i=>d.getD (i*n+p) 0)]
 rfl
def yJ:Gm:=⟨⟨0,0,false,false,[],[],0,0⟩,[],[],[],0,0,0⟩
def dJ (r:Rl) (d:List Int):Gm×Bool:=bif r.ok&&j6 d&&((d.length:Int)==52) then (⟨r,pV d r.n.toNat r.e.toNat,(d.drop (r.n.toNat*r.e.toNat)).drop 1,(d.drop (r.n.toNat*r.e.toNat)).take 1,0,0,0⟩,true) else (yJ,false)
theorem tu {r:Rl} (h:r.ok=true):r.n.toNat*r.e.toNat<=48/\1<=r.n.toNat/\r.n.toNat<=6/\r.e.toNat<=8/\r.n=(r.n.toNat:Int)/\r.e=(r.e.toNat:Int):=by
 have:=lP h
 exact ⟨Nat.mul_le_mul (show r.n.toNat<=6 by omega) (show r.e.toNat<=8 by omega),by omega,by omega,by omega,by omega,by omega⟩
theorem um:yJ.sm:=⟨⟨by decide,by decide⟩,⟨by decide,fun y hy=>by cases hy⟩,by decide,by decide⟩
theorem uo {r:Rl} {d:List Int} (h:(dJ r d).2=true):c_ (dJ r d).1=true/\(dJ r d).1.r=r:=by
 unfold dJ at h ⊢
 cases hc:(r.ok&&j6 d&&((d.length:Int)==52)) with
 |false=>rw[hc] at h;cases h
 |true=>
  simp only[Bool.and_eq_true,beq_iff_eq] at hc
  obtain ⟨⟨h1,h2⟩,h3⟩:=hc
  obtain ⟨b1,b2,b3,b4,b5,b6⟩:=tu h1
  have KL:=lP h1
  refine ⟨dR.2 ⟨h1,by show ((pV _ _ _).length:Int)=r.n;rw[Jf];omega,?_,by show 0<((d.drop _).take 1).length;simp;omega,⟨by show (0:Int)<=0;omega,by show (0:Int)<=r.n-1;omega⟩,⟨by show (0:Int)<=0;omega,by show (0:Int)<=r.l;omega⟩,⟨by show (0:Int)<=0;omega,by show (0:Int)<=0;omega⟩⟩,rfl⟩
  show whole (pV d r.n.toNat r.e.toNat++[(d.drop (r.n.toNat*r.e.toNat)).drop 1,(d.drop (r.n.toNat*r.e.toNat)).take 1])=true
  have hp:(pV d r.n.toNat r.e.toNat++[(d.drop (r.n.toNat*r.e.toNat)).drop 1,(d.drop (r.n.toNat*r.e.toNat)).take 1]).flatten.Perm d:=by
   rw[List.flatten_append]
   simp only[List.flatten_cons,List.flatten_nil,List.append_nil]
   refine ((G4 b2 b3 (by omega)).append_right _).trans ?_
   refine (List.Perm.append_left _ List.perm_append_comm).trans ?_
   rw[List.take_append_drop,List.take_append_drop]
  unfold whole
  rw[pR hp,hp.length_eq,h2,h3]
  rfl
theorem oY {r:Rl} (hr:r.sm) (d:List Int):(dJ r d).1.sm:=by
 cases h:(dJ r d).2 with
 |true=>
  obtain ⟨h1,h2⟩:=uo h
  exact Bw h1 (by rw[h2];exact hr)
 |false=>
  unfold dJ at h ⊢
  cases hc:(r.ok&&j6 d&&((d.length:Int)==52)) with
  |false=>exact um
  |true=>rw[hc] at h;cases h
theorem fC.eq {k:Nat} (hk:cO<=k) {r:Rl} (hr:r.sm) {d:List Int} (hl:d.length<1048577):r.ap (fC.f k) d=some ((dJ r d).1.jx (dJ r d).2):=by
 refine (aa (qF hk hr)).trans ?_
 unfold dJ
 cases h1:r.ok with
 |false=>rfl
 |true=>
  refine (af rfl).trans ((aa (bz.eq hk (by omega))).trans ?_)
  cases h2:j6 d with
  |false=>rfl
  |true=>
   refine (af rfl).trans ?_
   cases h3:((d.length:Int)==52) with
   |false=>exact (ak (by rw[bne,h3];rfl)).trans rfl
   |true=>
    have Wv:(d.length:Int)=52:=by simpa using h3
    obtain ⟨b1,b2,b3,b4,b5,b6⟩:=tu h1
    have hd:=bu.eq hk (d:=d) (n:=r.n.toNat) (e:=r.e.toNat) b2 b3 (by omega) h2 hl (by omega)
    rw[<- b5,<- b6] at hd
    have Ww:(d.drop (r.n.toNat*r.e.toNat)).length=52-r.n.toNat*r.e.toNat:=by rw[List.length_drop];omega
    refine (af (by rw[bne,h3];rfl)).trans ((aa hd).trans ((aa (dh.eq k hr)).trans ?_))
    refine (ab (ae (show (1:Int)<=((d.drop (r.n.toNat*r.e.toNat)).length:Int) by omega))).trans ((ab (lN (by simp;omega))).trans ((ab (ch (ae (by omega)) (ae (by omega)))).trans ((ab (ae (show (1:Int)<=((d.drop (r.n.toNat*r.e.toNat)).length:Int) by omega))).trans ((ab (lN (by simp;omega))).trans ?_))))
    have e1:[]++(((d.drop (r.n.toNat*r.e.toNat)).take (((d.drop (r.n.toNat*r.e.toNat)).length:Int).toNat)).drop 1)=(d.drop (r.n.toNat*r.e.toNat)).drop 1:=by rw[Int.toNat_natCast,List.take_length];rfl
    show some (_,_,_,_,_,_,_,_,_,[]++(((d.drop (r.n.toNat*r.e.toNat)).take (((d.drop (r.n.toNat*r.e.toNat)).length:Int).toNat)).drop 1),_)=_
    rw[e1]
    rfl
theorem take_one {l:List Int} (h:0<l.length):[l.getD 0 0] =l.take 1:=by
 cases l with
 |nil=>simp at h
 |cons a l=>rfl
theorem fy.eq {k:Nat} (hk:cO<=k) {r:Rl} (hr:r.sm) {d:List Int} (hl:d.length<1048577):r.ap (fy.f k) d=some ((dJ r d).1.jx (dJ r d).2):=by
 refine (aa (ui hk hr)).trans ?_
 unfold dJ
 cases h1:r.ok with
 |false=>rfl
 |true=>
  refine (af rfl).trans ((aa (bI.eq hk (by omega))).trans ?_)
  cases h2:j6 d with
  |false=>rfl
  |true=>
   refine (af rfl).trans ?_
   cases h3:((d.length:Int)==52) with
   |false=>exact (ak (by rw[bne,h3];rfl)).trans rfl
   |true=>
    have Wv:(d.length:Int)=52:=by simpa using h3
    obtain ⟨b1,b2,b3,b4,b5,b6⟩:=tu h1
    have hd:=cW.eq hk (d:=d) (n:=r.n.toNat) (e:=r.e.toNat) b2 b3 (by omega) h2 hl (by omega)
    rw[<- b5,<- b6] at hd
    have Ww:(d.drop (r.n.toNat*r.e.toNat)).length=52-r.n.toNat*r.e.toNat:=by rw[List.length_drop];omega
    refine (af (by rw[bne,h3];rfl)).trans ((aa hd).trans ((aa (cj.eq k hr)).trans ?_))
    have e1:(((d.drop (r.n.toNat*r.e.toNat)).take (((d.drop (r.n.toNat*r.e.toNat)).length:Int).toNat)).drop 1)=(d.drop (r.n.toNat*r.e.toNat)).drop 1:=by rw[Int.toNat_natCast,List.take_length]
    refine (ab (ch (ae (by omega)) (ae (by omega)))).trans ((ab (ae (show (1:Int)<=((d.drop (r.n.toNat*r.e.toNat)).length:Int) by omega))).trans ((aa (aF.eq k (by simp;omega))).trans ((ab (ae (show (0:Int)<((d.drop (r.n.toNat*r.e.toNat)).length:Int) by omega))).trans ?_)))
    show some (_,_,_,_,_,_,_,_,_,(((d.drop (r.n.toNat*r.e.toNat)).take (((d.drop (r.n.toNat*r.e.toNat)).length:Int).toNat)).drop 1),[(d.drop (r.n.toNat*r.e.toNat)).getD 0 0],_)=_
    rw[e1,take_one (by omega)]
    rfl
structure su (b:List Int) (i:Int):Prop where
 len:b.length<1048577
 Wx:0<=i
theorem KO (a:Int):0<=sC .and .i64 a 255/\sC .and .i64 a 255<=255:=by
 have e:(BitVec.ofInt 64 a &&& BitVec.ofInt 64 255).toNat<=255:=by
  rw[BitVec.toNat_and]
  exact Nat.and_le_right
 show 0<=IntKind.wrap .i64 (((BitVec.ofInt 64 a &&& BitVec.ofInt 64 255).toNat:Nat):Int)/\IntKind.wrap .i64 (((BitVec.ofInt 64 a &&& BitVec.ofInt 64 255).toNat:Nat):Int)<=255
 rw[wrap_i64 (by omega) (by omega)]
 omega
theorem eO.ok (k:Nat) {b:List Int} {i:Int} (h:Int) (hc:su b i): ∃x i' h',eO.f k b i h=some (x,b,i',h')/\su b i' /\0<=x/\x<=255:=by
 have h1:=hc.len
 have h2:=hc.Wx
 by_cases hi:i<(b.length:Int)
 ·refine ⟨_,_,_,(ak (ae hi)).trans ((ab (ch (ae h2) (ae hi))).trans rfl),⟨h1,?_⟩,KO _⟩
  rw[wrap_i64 (by omega) (by omega)];omega
 ·exact ⟨_,_,_,(af (aM hi)).trans rfl,hc,KO _⟩
theorem D8 {x n:Int} (h0:0<=x) (hn:0<n):0<=x.tmod n/\x.tmod n<n:=by
 rw[Int.tmod_eq_emod_of_nonneg h0]
 exact ⟨Int.emod_nonneg _ (by omega),Int.emod_lt_of_pos _ hn⟩
theorem ao.ok (k:Nat) {b:List Int} {i:Int} (h n:Int) (hc:su b i): ∃x i' h',ao.f k b i h n=some (x,b,i',h')/\su b i' /\0<=x/\(0<n->x<n)/\(n<=0->x=0):=by
 by_cases h0:n<=0
 ·exact ⟨0,i,h,(ak (ae h0)).trans rfl,hc,by omega,by omega,fun _=>rfl⟩
 ·have hn:(!decide (n=0))=true:=by rw[aM (by omega)];rfl
  by_cases h1:n<=256
  ·obtain ⟨x,i',h',e,c1,p1,p2⟩:=eO.ok k h hc
   have hb:=D8 p1 (n:=n) (by omega)
   exact ⟨_,_,_,(af (aM h0)).trans ((ak (ae h1)).trans ((aa e).trans (ab hn))),c1,hb.1,fun _=>hb.2,by omega⟩
  ·obtain ⟨x,i',h',e,c1,p1,p2⟩:=eO.ok k h hc
   obtain ⟨y,i2,h2,e2,c2,q1,q2⟩:=eO.ok k h' c1
   obtain ⟨z,i3,h3,e3,c3,r1,r2⟩:=eO.ok k h2 c2
   refine ⟨_,_,_,(af (aM h0)).trans ((af (aM h1)).trans ((aa e).trans ((aa e2).trans ((aa e3).trans (ab hn))))),c3,?_⟩
   rw[wrap_i64 (n:=x*65536) (by omega) (by omega),wrap_i64 (n:=y*256) (by omega) (by omega),wrap_i64 (n:=x*65536+y*256) (by omega) (by omega),wrap_i64 (by omega) (by omega)]
   have hb:=D8 (x:=x*65536+y*256+z) (n:=n) (by omega) (by omega)
   exact ⟨hb.1,fun _=>hb.2,by omega⟩
theorem aI.ok (k:Nat) {b:List Int} {i:Int} (h n:Int) (hc:su b i): ∃x i' h',aI.f k b i h n=some (x,b,i',h')/\su b i':=by
 obtain ⟨x,i',h',e,c1,_⟩:=ao.ok k h n hc
 exact ⟨_,_,_,aa e,c1⟩
theorem cv.ok (k:Nat) {b:List Int} {i:Int} (h:Int) {l:List Int} (hl:0<l.length) (hc:su b i): ∃x i' h',cv.f k b i h l=some (x,b,i',h')/\su b i' /\x∈l:=by
 obtain ⟨x,i',h',e,c1,p1,p2,_⟩:=ao.ok k h (l.length:Int) hc
 have p2:=p2 (by omega)
 exact ⟨_,_,_,(aa e).trans (ab (ch (ae p1) (ae p2))),c1,Kv 0 (by omega)⟩
theorem bw.ok {k:Nat} (hk:cO<=k) {a:List Int} (ha:a.length<1048577): ∃h,bw.f k a=some (a,0,h)/\su a 0:=by
 have key: ∀(e0:Int->Option (List Int×Int×Int)) (m i n:Nat) (h:Int),i+m=a.length->m<n-> ∃h',bw.l3 k a e0 n h (i:Int)=e0 h':=by
  intro e0 m
  induction m with
  |zero=>
   intro i n h hi hn
   obtain ⟨n,rfl⟩: ∃n',n=n' +1:=⟨n-1,by omega⟩
   exact ⟨h,(bw.aE ..).trans (af (aM (by omega)))⟩
  |succ m ih=>
   intro i n h hi hn
   obtain ⟨n,rfl⟩: ∃n',n=n' +1:=⟨n-1,by omega⟩
   by_cases h4:(i:Int)<4000
   ·obtain ⟨h',e⟩:=ih (i+1) n _ (by omega) (by omega)
    refine ⟨h',(bw.aE ..).trans ((ak (ae (by omega))).trans ((ak (ae h4)).trans ((ab (cy (by omega))).trans ?_)))⟩
    rw[aR (by omega)];exact e
   ·exact ⟨h,(bw.aE ..).trans ((ak (ae (by omega))).trans (af (aM h4)))⟩
 obtain ⟨h,e⟩:=key _ a.length 0 k _ (by omega) (cU hk ha)
 exact ⟨h,e,ha,by omega⟩
theorem gQ.ok (k:Nat) {b:List Int} {i:Int} (h:Int) (hc:su b i): ∃x i' h',gQ.f k b i h=some (x,b,i',h')/\su b i':=by
 obtain ⟨x,i1,h1,e1,c1,_⟩:=ao.ok k h 52 hc
 obtain ⟨y,i2,h2,e2,c2,_⟩:=ao.ok k h1 52 c1
 obtain ⟨z,i3,h3,e3,c3,_⟩:=ao.ok k h2 52 c2
 obtain ⟨u,i4,h4,e4,c4,_⟩:=cv.ok k h3 (l:=[x,y,z,0,51,52,(-1),9223372036854775807]) (by simp) c3
 exact ⟨_,_,_,(aa e1).trans ((aa e2).trans ((aa e3).trans (aa e4))),c4⟩
theorem eI.ok (k:Nat) {b:List Int} {i:Int} (h:Int) (hc:su b i): ∃x i' h',eI.f k b i h=some (x,b,i',h')/\su b i' /\(100<=x/\x<=103\/200<=x/\x<=212\/300<=x/\x<=312\/x=400):=by
 obtain ⟨x,i1,h1,e1,c1,x1,x2,_⟩:=ao.ok k h 4 hc
 obtain ⟨y,i2,h2,e2,c2,y1,y2,_⟩:=ao.ok k h1 13 c1
 obtain ⟨z,i3,h3,e3,c3,z1,z2,_⟩:=ao.ok k h2 13 c2
 have x2:=x2 (by omega)
 have y2:=y2 (by omega)
 have z2:=z2 (by omega)
 obtain ⟨u,i4,h4,e4,c4,u1⟩:=cv.ok k h3 (l:=[IntKind.wrap .i64 (100+x),IntKind.wrap .i64 (200+y),IntKind.wrap .i64 (300+z),400]) (by simp) c3
 refine ⟨_,_,_,(aa e1).trans ((aa e2).trans ((aa e3).trans (aa e4))),c4,?_⟩
 rw[wrap_i64 (n:=100+x) (by omega) (by omega),wrap_i64 (n:=200+y) (by omega) (by omega),wrap_i64 (n:=300+z) (by omega) (by omega)] at u1
 simp only[List.mem_cons,List.not_mem_nil,or_false] at u1
 show 100<=u/\u<=103\/_
 omega
def D9 (x:List Int):Prop:= ∀(l:List Int) (e:Int),0<=e->jV (x++l) e=jV l (e+1)
theorem BB {x:Int} (h:gR x=true):D9 [x]:=fun l e he=>by
 show (fx e x&&jV l (im e x))=_
 unfold fx im
 rw[h];rfl
theorem KP {x:List Int} (h:D9 x):D9 (x++[-1]):=fun l e he=>by
 rw[List.append_assoc,h _ _ he]
 show (fx (e+1) (-1)&&jV l (im (e+1) (-1)))=_
 have e1:fx (e+1) (-1)=true:=by unfold fx;rw[ae (show (1:Int)<=e+1 by omega)];rfl
 rw[e1];rfl
theorem KQ {x y:List Int} {z:Int} (hx:D9 x) (hy:D9 y) (hz:z= -2\/z= -3):D9 ((x++y)++[z]):=fun l e he=>by
 rw[List.append_assoc,List.append_assoc,hx _ _ he,hy _ _ (by omega)]
 show (fx (e+1+1) z&&jV l (im (e+1+1) z))=_
 have e1:fx (e+1+1) z=true/\im (e+1+1) z=e+1:=by
  rcases hz with rfl|rfl
  ·unfold fx im;rw[ae (show (2:Int)<=e+1+1 by omega)];exact ⟨rfl,show e+1+1-1=e+1 by omega⟩
  ·unfold fx im;rw[ae (show (2:Int)<=e+1+1 by omega)];exact ⟨rfl,show e+1+1-1=e+1 by omega⟩
 rw[e1.1,e1.2];rfl
theorem MS {x:List Int} (h:D9 x) (hl:x.length<=20):dN x=true:=by
 have:=h [] 0 (by omega)
 rw[List.append_nil] at this
 unfold dN
 rw[this,ae (by omega)];rfl
theorem Iu {x:Int} (h:100<=x/\x<=103\/200<=x/\x<=212\/300<=x/\x<=312\/x=400):gR x=true:=by
 unfold gR
 rcases h with h|h|h|h
 ·rw[eD.2 h];rfl
 ·rw[eD.2 h];simp
 ·rw[eD.2 h];simp
 ·rw[h];simp
theorem aV.ok (k:Nat): ∀(d n:Nat) {b:List Int} {i:Int} (h:Int),su b i->d<n->d<=20-> ∃x i' h',aV.g k n b i h (d:Int)=some (x,b,i',h')/\su b i' /\0<x.length/\x.length+1<=2^(d+1)/\D9 x
 |d,0,b,i,h,_,hn,_=>absurd hn (by omega)
 |0,n+1,b,i,h,hc,_,_=>by
  obtain ⟨x,i1,h1,e1,c1,q⟩:=eI.ok k h hc
  exact ⟨[x],i1,h1,show (eI.f k b i h).bind (fun r1=>some ([r1.1],r1.2.1,(t2 r1).1,(t3 r1)))=some ([x],b,i1,h1) from aa e1,c1,by simp,by simp,BB (Iu q)⟩
 |d+1,n+1,b,i,h,hc,hn,hd=>by
  have hp:(2:Nat)^(d+1)<=2097152:=by
   have:=Nat.pow_le_pow_right (n:=2) (by omega) (show d+1<=21 by omega)
   simpa using this
  have OH:(2:Nat)^(d+1+1)=2*2^(d+1):=by rw[Nat.pow_succ];omega
  have pM:1<=(2:Nat)^d:=Nat.one_le_two_pow
  have X0:(2:Nat)^(d+1)=2*2^d:=by rw[Nat.pow_succ];omega
  have ew:IntKind.wrap .i64 (((d+1:Nat):Int)-1)=(d:Int):=by rw[wrap_i64 (by omega) (by omega)];omega
  obtain ⟨t,i1,h1,e1,c1⟩:=aI.ok k h 4 hc
  have h0:(((d+1:Nat):Int)==0)=false:=by simp;omega
  have step:aV.g k (n+1) b i h ((d+1:Nat):Int)=(aI.f k b i h 4).bind fun r2=>
   bif r2.1 then
    (eI.f k r2.2.1 (t2 r2).1 (t3 r2)).bind fun r3=>
    some ([r3.1],r3.2.1,(t2 r3).1,(t3 r3))
   else
    (aI.f k r2.2.1 (t2 r2).1 (t3 r2) 4).bind fun r4=>
    bif r4.1 then
     (aV.g k n r4.2.1 (t2 r4).1 (t3 r4) (IntKind.wrap .i64 (((d+1:Nat):Int)-1))).bind fun r5=>
     aC (decide ((r5.1.length+1)*8<=room))<|
     some (r5.1++[(-1)],r5.2.1,(t2 r5).1,(t3 r5))
    else
     (aV.g k n r4.2.1 (t2 r4).1 (t3 r4) (IntKind.wrap .i64 (((d+1:Nat):Int)-1))).bind fun r6=>
     (aV.g k n r6.2.1 (t2 r6).1 (t3 r6) (IntKind.wrap .i64 (((d+1:Nat):Int)-1))).bind fun r7=>
     aC (decide ((r6.1.length+r7.1.length)*8<=room))<|
     (ao.f k r7.2.1 (t2 r7).1 (t3 r7) 2).bind fun r8=>
     aC (decide ((((r6.1++r7.1).length)+1)*8<=room))<|
     some ((r6.1++r7.1)++[IntKind.wrap .i64 ((-2)-r8.1)],r8.2.1,(t2 r8).1,(t3 r8)):=by
   show aV.b k (aV.g k n) b i h _=_
   unfold aV.b
   rw[h0];rfl
  rw[ew] at step
  rw[step]
  clear step
  cases t with
  |true=>
   obtain ⟨x,i2,h2,e2,c2,q⟩:=eI.ok k h1 c1
   exact ⟨[x],i2,h2,(aa e1).trans ((ak rfl).trans (aa e2)),c2,by simp,by rw[OH];simp;omega,BB (Iu q)⟩
  |false=>
   obtain ⟨t2,i2,h2,e2,c2⟩:=aI.ok k h1 4 c1
   obtain ⟨x,i3,h3,e3,c3,l1,l2,q1⟩:=aV.ok k d n h2 c2 (by omega) (by omega)
   cases t2 with
   |true=>
    refine ⟨x++[-1],i3,h3,(aa e1).trans ((af rfl).trans ((aa e2).trans ((ak rfl).trans ?_))),c3,by simp,by rw[List.length_append,OH];simp;omega,KP q1⟩
    exact (aa e3).trans (ab (lN (show x.length+1<=17592186044416 by omega)))
   |false=>
    obtain ⟨y,i4,h4,e4,c4,m1,m2,q2⟩:=aV.ok k d n h3 c3 (by omega) (by omega)
    obtain ⟨z,i5,h5,e5,c5,z1,z2,_⟩:=ao.ok k h4 2 c4
    have z2:=z2 (by omega)
    have ez:IntKind.wrap .i64 ((-2)-z)= -2-z:=wrap_i64 (by omega) (by omega)
    refine ⟨(x++y)++[IntKind.wrap .i64 ((-2)-z)],i5,h5,(aa e1).trans ((af rfl).trans ((aa e2).trans ((af rfl).trans ?_))),c5,by rw[List.length_append,List.length_singleton];omega,by rw[List.length_append,List.length_append,OH,List.length_singleton];omega,?_⟩
    ·exact (aa e3).trans ((aa e4).trans ((ab (lN (show x.length+y.length<=17592186044416 by omega))).trans ((aa e5).trans (ab (lN (show (x++y).length+1<=17592186044416 by rw[List.length_append];omega))))))
    ·rw[ez];exact KQ q1 q2 (by omega)
theorem aV.two {k:Nat} (hk:cO<=k) {d:Nat} (hd:d<=2) {b:List Int} {i:Int} (h:Int) (hc:su b i): ∃x i' h',aV.f k b i h (d:Int)=some (x,b,i',h')/\su b i' /\0<x.length/\x.length<=7/\dN x=true:=by
 obtain ⟨x,i',h',e,c,l1,l2,q⟩:=aV.ok k d k h hc (by simp[cO] at hk;omega) (by omega)
 have:(2:Nat)^(d+1)<=8:=by
  have:=Nat.pow_le_pow_right (n:=2) (by omega) (show d+1<=3 by omega)
  simpa using this
 exact ⟨x,i',h',e,c,l1,by omega,MS q (by omega)⟩
theorem ml:gC [] =true:=rfl
theorem nw {x:List Int} (h:dN x=true):gC x=true:=by unfold gC;rw[h,Bool.or_true]
theorem di.ok {k:Nat} (hk:cO<=k) {b:List Int} {i:Int} (h:Int) (hc:su b i): ∃(r:Rl) (i' h':Int),di.f k b i h=some (r.n,r.e,r.b1,r.b2,r.w,r.f,r.t,r.l,b,i',h')/\su b i' /\r.ok=true/\r.w.length<=7/\r.f.length<=7:=by
 obtain ⟨x1,i1,h1,e1,c1,p1,q1,_⟩:=ao.ok k h 4 hc
 obtain ⟨x2,i2,h2,e2,c2,p2,q2,_⟩:=ao.ok k h1 6 c1
 obtain ⟨x3,i3,h3,e3,c3⟩:=aI.ok k h2 2 c2
 obtain ⟨x4,i4,h4,e4,c4,p4,q4,_⟩:=ao.ok k h3 2 c3
 obtain ⟨x5,i5,h5,e5,c5,p5,q5,_⟩:=ao.ok k h4 60 c4
 obtain ⟨x6,i6,h6,e6,c6⟩:=aI.ok k h5 2 c5
 have q1:=q1 (by omega)
 have q2:=q2 (by omega)
 have q4:=q4 (by omega)
 have q5:=q5 (by omega)
 have w1:IntKind.wrap .i64 (2+x1)=2+x1:=wrap_i64 (by omega) (by omega)
 have w2:IntKind.wrap .i64 (1+x2)=1+x2:=wrap_i64 (by omega) (by omega)
 have w4:IntKind.wrap .i64 (1+x4)=1+x4:=wrap_i64 (by omega) (by omega)
 have w5:IntKind.wrap .i64 (20+x5)=20+x5:=wrap_i64 (by omega) (by omega)
 have fin: ∀(w f:List Int) (i' h':Int),su b i'->gC w=true->gC f=true->w.length<=7->f.length<=7->di.f k b i h=some (IntKind.wrap .i64 (2+x1),IntKind.wrap .i64 (1+x2),x3,true,w,f,IntKind.wrap .i64 (1+x4),IntKind.wrap .i64 (20+x5),b,i',h')-> ∃(r:Rl) (i' h':Int),di.f k b i h=some (r.n,r.e,r.b1,r.b2,r.w,r.f,r.t,r.l,b,i',h')/\su b i' /\r.ok=true/\r.w.length<=7/\r.f.length<=7:=fun w f i' h' c hw hf lw lf e=>by
  refine ⟨⟨2+x1,1+x2,x3,true,w,f,1+x4,20+x5⟩,i',h',by rw[e,w1,w2,w4,w5],c,?_,lw,lf⟩
  unfold Rl.ok mj
  rw[eD.2 (show 2<=2+x1/\2+x1<=6 by omega),eD.2 (show 1<=1+x2/\1+x2<=8 by omega),eD.2 (show 1<=1+x4/\1+x4<=4 by omega),eD.2 (show 1<=20+x5/\20+x5<=400 by omega),hw,hf]
  cases x3<;>rfl
 have pre: ∀X,(bif x6 then
  (aV.f k b i6 h6 1).bind fun r7=>
  (aI.f k r7.2.1 (t2 r7).1 (t3 r7) 2).bind fun r8=>
  bif r8.1 then
   (aV.f k r8.2.1 (t2 r8).1 (t3 r8) 1).bind fun r9=>
   some (IntKind.wrap .i64 (2+x1),IntKind.wrap .i64 (1+x2),x3,true,r7.1,r9.1,IntKind.wrap .i64 (1+x4),IntKind.wrap .i64 (20+x5),r9.2.1,(t2 r9).1,(t3 r9))
  else
   some (IntKind.wrap .i64 (2+x1),IntKind.wrap .i64 (1+x2),x3,true,r7.1,[],IntKind.wrap .i64 (1+x4),IntKind.wrap .i64 (20+x5),r8.2.1,(t2 r8).1,(t3 r8))
  else
   (aI.f k b i6 h6 2).bind fun fW=>
   bif fW.1 then
    (aV.f k fW.2.1 (t2 fW).1 (t3 fW) 1).bind fun gN=>
    some (IntKind.wrap .i64 (2+x1),IntKind.wrap .i64 (1+x2),x3,true,[],gN.1,IntKind.wrap .i64 (1+x4),IntKind.wrap .i64 (20+x5),gN.2.1,(t2 gN).1,(t3 gN))
   else
    some (IntKind.wrap .i64 (2+x1),IntKind.wrap .i64 (1+x2),x3,true,[],[],IntKind.wrap .i64 (1+x4),IntKind.wrap .i64 (20+x5),fW.2.1,(t2 fW).1,(t3 fW)))=X->di.f k b i h=X:=fun X hX=>
  (aa e1).trans ((aa e2).trans ((aa e3).trans ((aa e4).trans ((aa e5).trans ((aa e6).trans hX)))))
 cases x6 with
 |true=>
  obtain ⟨w,i7,h7,e7,c7,_,lw,hw⟩:=aV.two hk (d:=1) (by omega) h6 c6
  obtain ⟨x8,i8,h8,e8,c8⟩:=aI.ok k h7 2 c7
  cases x8 with
  |true=>
   obtain ⟨f,i9,h9,e9,c9,_,lf,hf⟩:=aV.two hk (d:=1) (by omega) h8 c8
   exact fin w f i9 h9 c9 (nw hw) (nw hf) lw lf (pre _ ((ak rfl).trans ((aa e7).trans ((aa e8).trans ((ak rfl).trans (aa e9))))))
  |false=>exact fin w [] i8 h8 c8 (nw hw) ml lw (by simp) (pre _ ((ak rfl).trans ((aa e7).trans ((aa e8).trans (af rfl)))))
 |false=>
  obtain ⟨x8,i8,h8,e8,c8⟩:=aI.ok k h6 2 c6
  cases x8 with
  |true=>
   obtain ⟨f,i9,h9,e9,c9,_,lf,hf⟩:=aV.two hk (d:=1) (by omega) h8 c8
   exact fin [] f i9 h9 c9 ml (nw hf) (by simp) lf (pre _ ((af rfl).trans ((aa e8).trans ((ak rfl).trans (aa e9)))))
  |false=>exact fin [] [] i8 h8 c8 ml ml (by simp) (by simp) (pre _ ((af rfl).trans ((aa e8).trans (af rfl))))
theorem cu.eq {k:Nat} (hk:cO<=k) (a b c:Int):cu.f k a b c=some (pQ [a,b,c]):=aa (dK.eq hk (by simp))
theorem ig.eq {k:Nat} (hk:cO<=k) (a b c:Int):ig.f k a b c=some (pQ [a,b,c]):=aa (dM.eq hk (by simp))
theorem BC (t m:Nat) (hs:List (List Int)) {st hp:List Int} (n:Nat) (h:(bif ((st.length:Int)==0) then hp.take (hp.length-1) else st)=[]):takeN t (m+1) hs st hp n=(hs,[],(bif ((st.length:Int)==0) then hp.drop (hp.length-1) else hp),n):=by
 rw[takeN,h]
theorem oZ (t m:Nat) (hs:List (List Int)) {st hp:List Int} (n:Nat) {c:Int} {st2:List Int} (h:(bif ((st.length:Int)==0) then hp.take (hp.length-1) else st)=c::st2):takeN t (m+1) hs st hp n=takeN t m (hs.set t (hs.getD t []++[c])) st2 (bif ((st.length:Int)==0) then hp.drop (hp.length-1) else hp) (n+1):=by
 rw[takeN,h]
theorem mm {hs:List (List Int)} {t:Nat} (c:Int) (h:t<hs.length):(hs.set t (hs.getD t []++[c])).flatten.length=hs.flatten.length+1:=by
 obtain ⟨q,q1,q2⟩:=pS hs t (hs.getD t []++[c]) h
 rw[q1.length_eq,q2.length_eq,aP _ h]
 simp only[List.length_append,List.length_singleton]
 omega
theorem BD (hs:List (List Int)) (t:Nat):(hs.getD t []).length<=hs.flatten.length:=by
 rw[List.getD_eq_getElem?_getD]
 cases e:hs[t]? with
 |none=>simp
 |some x=>exact D2 (List.mem_of_getElem? e)
theorem G5 (l:List Int) (n:Nat):[]++((l.take n).drop 0)=l.take n:=by simp
theorem nR (l:List Int) (n:Nat):[]++((l.take ((l.length:Int).toNat)).drop n)=l.drop n:=by rw[Int.toNat_natCast,List.take_length];rfl
def Iv {R:Type} (e0:Int->List (List Int)->List Int->List Int->Option R) (q:List (List Int)×List Int×List Int×Nat):Option R:=e0 (q.2.2.2:Int) q.1 q.2.1 q.2.2.1
theorem bA.loop {R:Type} (k:Nat) (T t:Nat) (hT:T<1000) (e0:Int->List (List Int)->List Int->List Int->Option R): ∀(m i n a:Nat) (hs:List (List Int)) (st hp:List Int),i+m=T->m<n->a<=i->t<hs.length->0<hp.length->hs.flatten.length+(st.length+hp.length)<1000000->
 bA.l6 k (T:Int) (t:Int) e0 n (a:Int) (i:Int) hs st hp=Iv e0 (takeN t m hs st hp a):=by
 intro m
 induction m with
 |zero=>
  intro i n a hs st hp hi hn ha ht hh hl
  obtain ⟨n,rfl⟩: ∃n',n=n' +1:=⟨n-1,by omega⟩
  exact (bA.gO ..).trans (af (aM (by omega)))
 |succ m ih=>
  intro i n a hs st hp hi hn ha ht hh hl
  obtain ⟨n,rfl⟩: ∃n',n=n' +1:=⟨n-1,by omega⟩
  refine (bA.gO ..).trans ((ak (ae (by omega))).trans ?_)
  rw[mG hh (by omega),Int.toNat_natCast,aR (by omega),aR (by omega)]
  have hg:=BD hs t
  cases iq:((st.length:Int)==0) with
  |true=>
   have KR:(st.length:Int)=0:=by simpa using iq
   have l1:(hp.take (hp.length-1)).length=hp.length-1:=by simp
   have l2:(hp.drop (hp.length-1)).length=1:=by simp;omega
   refine (ak rfl).trans ((ab (ch (ae (by omega)) (ae (by omega)))).trans ((ab (ae (by omega))).trans ((ab (lN (by simp;omega))).trans ((ab (ch (ae (by omega)) (ae (by omega)))).trans ((ab (ch (ae (by omega)) (ae (by omega)))).trans ((ab (lN (by simp;omega))).trans ?_))))))
   rw[G5,nR]
   cases hx:hp.take (hp.length-1) with
   |nil=>
    rw[BC t m hs a (by rw[iq];exact hx),iq]
    rfl
   |cons c st2=>
    rw[hx] at l1
    rw[List.length_cons] at l1
    rw[oZ t m hs a (c:=c) (st2:=st2) (by rw[iq];exact hx),iq]
    have mg:(((c::st2).length:Int)==0)=false:=by
     have q: ¬(((c::st2).length:Int)=0):=by rw[List.length_cons];omega
     simpa using q
    refine (af mg).trans ((ab (cy ht)).trans ((ab (ae (by rw[List.length_cons];omega))).trans ((ab (lN (by simp only[Int.toNat_natCast];omega))).trans ((ab (cy ht)).trans ((ab (by simp)).trans ((ab (ch (ae (by omega)) (ae (by omega)))).trans ((ab (ae (by rw[List.length_cons];omega))).trans ((ab (lN (by simp;omega))).trans ?_))))))))
    rw[nR,Int.toNat_natCast]
    refine ih (i+1) n (a+1) _ st2 _ (by omega) (by omega) (by omega) (by simpa using ht) (by show 0<(hp.drop (hp.length-1)).length;omega) ?_
    rw[show (c::st2).getD 0 0=c from rfl,mm c ht]
    show _+(st2.length+(hp.drop (hp.length-1)).length)<_
    omega
  |false=>
   have KR: ¬(st.length:Int)=0:=by simpa using iq
   refine (af rfl).trans ((af rfl).trans ?_)
   cases st with
   |nil=>simp at KR
   |cons c st2=>
    rw[oZ t m hs a (c:=c) (st2:=st2) (by rw[iq];rfl),iq]
    rw[List.length_cons] at hl
    refine ((ab (cy ht)).trans ((ab (ae (by rw[List.length_cons];omega))).trans ((ab (lN (by simp only[Int.toNat_natCast];omega))).trans ((ab (cy ht)).trans ((ab (by simp)).trans ((ab (ch (ae (by omega)) (ae (by omega)))).trans ((ab (ae (by rw[List.length_cons];omega))).trans ((ab (lN (by simp;omega))).trans ?_))))))))
    rw[nR,Int.toNat_natCast]
    refine ih (i+1) n (a+1) _ st2 _ (by omega) (by omega) (by omega) (by simpa using ht) hh ?_
    rw[show (c::st2).getD 0 0=c from rfl,mm c ht]
    show _+(st2.length+hp.length)<_
    omega
theorem bx.loop {R:Type} (k:Nat) (T t:Nat) (hT:T<1000) (e0:Int->List (List Int)->List Int->List Int->Option R): ∀(m i n a:Nat) (hs:List (List Int)) (st hp:List Int),i+m=T->m<n->a<=i->t<hs.length->0<hp.length->hs.flatten.length+(st.length+hp.length)<1000000->
 bx.l6 k (T:Int) (t:Int) e0 n (a:Int) (i:Int) hs st hp=Iv e0 (takeN t m hs st hp a):=by
 intro m
 induction m with
 |zero=>
  intro i n a hs st hp hi hn ha ht hh hl
  obtain ⟨n,rfl⟩: ∃n',n=n' +1:=⟨n-1,by omega⟩
  exact (bx.gO ..).trans (af (aM (by omega)))
 |succ m ih=>
  intro i n a hs st hp hi hn ha ht hh hl
  obtain ⟨n,rfl⟩: ∃n',n=n' +1:=⟨n-1,by omega⟩
  refine (bx.gO ..).trans ((ak (ae (by omega))).trans ?_)
  rw[mG hh (by omega),Int.toNat_natCast,aR (by omega),aR (by omega)]
  have hg:=BD hs t
  cases iq:((st.length:Int)==0) with
  |true=>
   have KR:(st.length:Int)=0:=by simpa using iq
   have l1:(hp.take (hp.length-1)).length=hp.length-1:=by simp
   have l2:(hp.drop (hp.length-1)).length=1:=by simp;omega
   refine (ak rfl).trans ((ab (ch (ae (by omega)) (ae (by omega)))).trans ((ab (ae (by omega))).trans ((aa (aF.eq k (by simp;omega))).trans ((ab (ch (ae (by omega)) (ae (by omega)))).trans ((ab (ch (ae (by omega)) (ae (by omega)))).trans ((aa (aF.eq k (by simp;omega))).trans ?_))))))
   rw[show (hp.take (hp.length-1)).drop 0=hp.take (hp.length-1) by simp,show (hp.take ((hp.length:Int).toNat)).drop (hp.length-1)=hp.drop (hp.length-1) by simp]
   cases hx:hp.take (hp.length-1) with
   |nil=>
    rw[BC t m hs a (by rw[iq];exact hx),iq]
    rfl
   |cons c st2=>
    rw[hx] at l1
    rw[List.length_cons] at l1
    rw[oZ t m hs a (c:=c) (st2:=st2) (by rw[iq];exact hx),iq]
    have mg:(((c::st2).length:Int)==0)=false:=by
     have q: ¬(((c::st2).length:Int)=0):=by rw[List.length_cons];omega
     simpa using q
    refine (af mg).trans ((ab (cy ht)).trans ((ab (ae (by rw[List.length_cons];omega))).trans ((ab (lN (by simp only[Int.toNat_natCast];omega))).trans ((ab (cy ht)).trans ((ab (by simp)).trans ((ab (ch (ae (by omega)) (ae (by omega)))).trans ((ab (ae (by rw[List.length_cons];omega))).trans ((aa (aF.eq k (by simp;omega))).trans ?_))))))))
    rw[show ((c::st2).take (((c::st2).length:Int).toNat)).drop 1=st2 by simp,Int.toNat_natCast]
    refine ih (i+1) n (a+1) _ st2 _ (by omega) (by omega) (by omega) (by simpa using ht) (by show 0<(hp.drop (hp.length-1)).length;omega) ?_
    rw[show (c::st2).getD 0 0=c from rfl,mm c ht]
    show _+(st2.length+(hp.drop (hp.length-1)).length)<_
    omega
  |false=>
   have KR: ¬(st.length:Int)=0:=by simpa using iq
   refine (af rfl).trans ((af rfl).trans ?_)
   cases st with
   |nil=>simp at KR
   |cons c st2=>
    rw[oZ t m hs a (c:=c) (st2:=st2) (by rw[iq];rfl),iq]
    rw[List.length_cons] at hl
    refine ((ab (cy ht)).trans ((ab (ae (by rw[List.length_cons];omega))).trans ((ab (lN (by simp only[Int.toNat_natCast];omega))).trans ((ab (cy ht)).trans ((ab (by simp)).trans ((ab (ch (ae (by omega)) (ae (by omega)))).trans ((ab (ae (by rw[List.length_cons];omega))).trans ((aa (aF.eq k (by simp;omega))).trans ?_))))))))
    rw[show ((c::st2).take (((c::st2).length:Int).toNat)).drop 1=st2 by simp,Int.toNat_natCast]
    refine ih (i+1) n (a+1) _ st2 _ (by omega) (by omega) (by omega) (by simpa using ht) hh ?_
    rw[show (c::st2).getD 0 0=c from rfl,mm c ht]
    show _+(st2.length+hp.length)<_
    omega
theorem yK {g:Gm} (h:c_ g=true):g.hs.flatten.length+(g.st.length+g.hp.length)=52:=by
 have:=Bt (dR.1 h).2.2.1
 rw[gS,List.length_append,List.length_append] at this
 exact this
theorem bA.eq {k:Nat} (hk:cO<=k) {g:Gm} (h:g.sm):g.ap (bA.f k)=some ((eG g).1.jx (eG g).2):=by
 refine (aa (dk.eq hk h)).trans ((aa (aW.eq hk h)).trans ?_)
 unfold eG
 cases hg:c_ g with
 |false=>rfl
 |true=>
  refine (af rfl).trans ((aa (ek.eq hk g h.2.1.1)).trans ?_)
  cases ho:kT g with
  |true=>rfl
  |false=>
   have ht:=mH hg
   have wG:=yK hg
   obtain ⟨h1,h2,h3,h4,h5,h6,h7⟩:=dR.1 hg
   have KL:=lP h1
   refine (af rfl).trans ?_
   have e1:g.r.t=((g.r.t.toNat:Nat):Int):=by omega
   have e2:g.tn=((g.tn.toNat:Nat):Int):=by omega
   have lp:=bA.loop k g.r.t.toNat g.tn.toNat (by omega) (fun x4 x5 x6 x7=>
    bif (x4==(0:Int)) then
     aC (!(decide (g.r.n=(0:Int))))<|
     some (g.r.n,g.r.e,g.r.b1,g.r.b2,g.r.w,g.r.f,g.r.t,g.r.l,x5,x6,x7,(IntKind.wrap .i64 (g.tn+(1:Int))).tmod g.r.n,IntKind.wrap .i64 (g.mv+(1:Int)),IntKind.wrap .i64 (g.ps+(1:Int)),true)
    else
     aC (!(decide (g.r.n=(0:Int))))<|
     some (g.r.n,g.r.e,g.r.b1,g.r.b2,g.r.w,g.r.f,g.r.t,g.r.l,x5,x6,x7,(IntKind.wrap .i64 (g.tn+(1:Int))).tmod g.r.n,IntKind.wrap .i64 (g.mv+(1:Int)),(0:Int),true)) g.r.t.toNat 0 k 0 g.hs g.st g.hp (by omega) (by simp[cO] at hk;omega) (by omega) (by omega) h4 (by omega)
   rw[<- e1,<- e2] at lp
   refine Eq.trans lp ?_
   unfold Iv
   rw[wrap_i64 (n:=g.tn+1) (by omega) (by omega),wrap_i64 (n:=g.mv+1) (by omega) (by omega),wrap_i64 (n:=g.ps+1) (by omega) (by omega),aM (p:=g.r.n=0) (by omega)]
   have e3:(((takeN g.tn.toNat g.r.t.toNat g.hs g.st g.hp 0).2.2.2:Int)==0)=((takeN g.tn.toNat g.r.t.toNat g.hs g.st g.hp 0).2.2.2==0):=by
    rw[Bool.eq_iff_iff,beq_iff_eq,beq_iff_eq];omega
   dsimp only
   rw[e3]
   simp only[Bool.not_false,Bool.and_self,cond_true]
   cases ((takeN g.tn.toNat g.r.t.toNat g.hs g.st g.hp 0).2.2.2==0)<;>rfl
theorem bx.eq {k:Nat} (hk:cO<=k) {g:Gm} (h:g.sm):g.ap (bx.f k)=some ((eG g).1.jx (eG g).2):=by
 refine (aa (bS.eq hk h)).trans ((aa (cT.eq hk h)).trans ?_)
 unfold eG
 cases hg:c_ g with
 |false=>rfl
 |true=>
  refine (af rfl).trans ((aa (eh.eq hk h)).trans ?_)
  rw[uj hg]
  cases ho:kT g with
  |true=>rfl
  |false=>
   have ht:=mH hg
   have wG:=yK hg
   obtain ⟨h1,h2,h3,h4,h5,h6,h7⟩:=dR.1 hg
   have KL:=lP h1
   refine (af rfl).trans ?_
   have e1:g.r.t=((g.r.t.toNat:Nat):Int):=by omega
   have e2:g.tn=((g.tn.toNat:Nat):Int):=by omega
   have lp:=bx.loop k g.r.t.toNat g.tn.toNat (by omega) (fun x4 x5 x6 x7=>
    bif decide (x4>(0:Int)) then
     aC (!(decide ((g.hs.length:Int)=(0:Int))))<|
     some (g.r.n,g.r.e,g.r.b1,g.r.b2,g.r.w,g.r.f,g.r.t,g.r.l,x5,x6,x7,(IntKind.wrap .i64 (g.tn+(1:Int))).tmod (g.hs.length:Int),IntKind.wrap .i64 (g.mv+(1:Int)),(0:Int),true)
    else
     aC (!(decide ((g.hs.length:Int)=(0:Int))))<|
     some (g.r.n,g.r.e,g.r.b1,g.r.b2,g.r.w,g.r.f,g.r.t,g.r.l,x5,x6,x7,(IntKind.wrap .i64 (g.tn+(1:Int))).tmod (g.hs.length:Int),IntKind.wrap .i64 (g.mv+(1:Int)),IntKind.wrap .i64 (g.ps+(1:Int)),true)) g.r.t.toNat 0 k 0 g.hs g.st g.hp (by omega) (by simp[cO] at hk;omega) (by omega) (by omega) h4 (by omega)
   rw[<- e1,<- e2] at lp
   refine Eq.trans lp ?_
   unfold Iv
   rw[h2,wrap_i64 (n:=g.tn+1) (by omega) (by omega),wrap_i64 (n:=g.mv+1) (by omega) (by omega),wrap_i64 (n:=g.ps+1) (by omega) (by omega),aM (p:=g.r.n=0) (by omega)]
   have e3:decide (((takeN g.tn.toNat g.r.t.toNat g.hs g.st g.hp 0).2.2.2:Int)>0)= !((takeN g.tn.toNat g.r.t.toNat g.hs g.st g.hp 0).2.2.2==0):=by
    cases e:((takeN g.tn.toNat g.r.t.toNat g.hs g.st g.hp 0).2.2.2==0) with
    |true=>rw[beq_iff_eq] at e;rw[e];rfl
    |false=>
     have: ¬(takeN g.tn.toNat g.r.t.toNat g.hs g.st g.hp 0).2.2.2=0:=by simpa using e
     exact ae (by omega)
   dsimp only
   rw[e3]
   simp only[Bool.not_false,Bool.and_self,cond_true]
   cases ((takeN g.tn.toNat g.r.t.toNat g.hs g.st g.hp 0).2.2.2==0)<;>rfl
theorem ec.eq {k:Nat} (hk:cO<=k) {g:Gm} (h:g.sm) (c:Int):g.ap (ec.f k) c=some ((aJ g c).1.jx (aJ g c).2):=by
 unfold aJ
 cases hc:(c== -1) with
 |true=>exact (ak hc).trans ((aa (bx.eq hk h)).trans rfl)
 |false=>exact (af hc).trans ((aa (js.eq hk h c)).trans rfl)
theorem ef.eq {k:Nat} (hk:cO<=k) {g:Gm} (h:g.sm) (c:Int):g.ap (ef.f k) c=some ((aJ g c).1.jx (aJ g c).2):=by
 unfold aJ
 cases hc:(c== -1) with
 |true=>exact (ak hc).trans ((aa (bA.eq hk h)).trans rfl)
 |false=>exact (af hc).trans ((aa (ju.eq hk h c)).trans rfl)
abbrev Gm.P6 (g:Gm) (b:Int):Int×Int×Bool×Bool×List Int×List Int×Int×Int×List (List Int)×List Int×List Int×Int×Int×Int×Int:=(g.r.n,g.r.e,g.r.b1,g.r.b2,g.r.w,g.r.f,g.r.t,g.r.l,g.hs,g.st,g.hp,g.tn,g.mv,g.ps,b)
abbrev Vp:=Option (Int×Int×Bool×Bool×List Int×List Int×Int×Int×List (List Int)×List Int×List Int×Int×Int×Int×Int)
theorem bU.loop {k:Nat} (hk:cO<=k) {l:List Int} (hl:l.length<1073741824): ∀(m i n:Nat) (g:Gm),i+m=l.length->m<n->g.sm->
 bU.l3 k l (fun x3 x4 x5 x6 x7 x8 x9 FK FN Ig Ih Ii FO FQ FR=>(some (x4,x5,x6,x7,Ih,Ii,x8,x9,FO,FQ,FR,FK,FN,Ig,x3):Vp)) (fun FU FV FW FX FY FZ F5 F6 F7 F8 F9 F_ Ga Gb=>some (FU,FV,FW,FX,F8,F9,FY,FZ,F_,Ga,Gb,F5,F6,F7,(l.length:Int))) n (i:Int) g.r.n g.r.e g.r.b1 g.r.b2 g.r.t g.r.l g.tn g.mv g.ps g.r.w g.r.f g.hs g.st g.hp=some ((dt (l.drop i) (i:Int) g).1.P6 (dt (l.drop i) (i:Int) g).2):=by
 intro m
 induction m with
 |zero=>
  intro i n g hi hn hg
  obtain ⟨n,rfl⟩: ∃n',n=n' +1:=⟨n-1,by omega⟩
  rw[List.drop_eq_nil_of_le (by omega)]
  refine (bU.aE ..).trans ((af (aM (by omega))).trans ?_)
  rw[show (l.length:Int)=(i:Int) by omega]
  rfl
 |succ m ih=>
  intro i n g hi hn hg
  obtain ⟨n,rfl⟩: ∃n',n=n' +1:=⟨n-1,by omega⟩
  have h:i<l.length:=by omega
  refine (bU.aE ..).trans ((ak (ae (by omega))).trans ((ab (cy h)).trans ?_))
  rw[Int.toNat_natCast,aP _ h,aR (by omega),drop_cons h]
  refine (aa (ef.eq hk hg l[i])).trans ?_
  show (bif !(aJ g l[i]).2 then _ else _)=some ((bif (aJ g l[i]).2 then dt (l.drop (i+1)) ((i:Int)+1) (aJ g l[i]).1 else (g,(i:Int))).1.P6 (bif (aJ g l[i]).2 then dt (l.drop (i+1)) ((i:Int)+1) (aJ g l[i]).1 else (g,(i:Int))).2)
  cases hm:(aJ g l[i]).2 with
  |false=>rfl
  |true=>
   refine (af rfl).trans ((ih (i+1) n _ (by omega) (by omega) (j9 hg)).trans ?_)
   rw[show ((i+1:Nat):Int)=(i:Int)+1 by omega]
   rfl
theorem bT.loop {k:Nat} (hk:cO<=k) {l:List Int} (hl:l.length<1073741824): ∀(m i n:Nat) (g:Gm),i+m=l.length->m<n->g.sm->
 bT.l3 k l (l.length:Int) (fun x3 x4 x5 x6 x7 x8 x9 FK FN Ig Ih Ii FO FQ FR=>(some (x4,x5,x6,x7,Ih,Ii,x8,x9,FO,FQ,FR,FK,FN,Ig,x3):Vp)) (fun FU FV FW FX FY FZ F5 F6 F7 F8 F9 F_ Ga Gb=>some (FU,FV,FW,FX,F8,F9,FY,FZ,F_,Ga,Gb,F5,F6,F7,(l.length:Int))) n (i:Int) g.r.n g.r.e g.r.b1 g.r.b2 g.r.t g.r.l g.tn g.mv g.ps g.r.w g.r.f g.hs g.st g.hp=some ((dt (l.drop i) (i:Int) g).1.P6 (dt (l.drop i) (i:Int) g).2):=by
 intro m
 induction m with
 |zero=>
  intro i n g hi hn hg
  obtain ⟨n,rfl⟩: ∃n',n=n' +1:=⟨n-1,by omega⟩
  rw[List.drop_eq_nil_of_le (by omega)]
  refine (bT.aE ..).trans ((af (aM (by omega))).trans ?_)
  rw[show (l.length:Int)=(i:Int) by omega]
  rfl
 |succ m ih=>
  intro i n g hi hn hg
  obtain ⟨n,rfl⟩: ∃n',n=n' +1:=⟨n-1,by omega⟩
  have h:i<l.length:=by omega
  refine (bT.aE ..).trans ((ak (ae (by omega))).trans ((ab (cy h)).trans ?_))
  rw[Int.toNat_natCast,aP _ h,aR (by omega),drop_cons h]
  refine (aa (ec.eq hk hg l[i])).trans ?_
  show (bif !(aJ g l[i]).2 then _ else _)=some ((bif (aJ g l[i]).2 then dt (l.drop (i+1)) ((i:Int)+1) (aJ g l[i]).1 else (g,(i:Int))).1.P6 (bif (aJ g l[i]).2 then dt (l.drop (i+1)) ((i:Int)+1) (aJ g l[i]).1 else (g,(i:Int))).2)
  cases hm:(aJ g l[i]).2 with
  |false=>rfl
  |true=>
   refine (af rfl).trans ((ih (i+1) n _ (by omega) (by omega) (j9 hg)).trans ?_)
   rw[show ((i+1:Nat):Int)=(i:Int)+1 by omega]
   rfl
theorem bU.eq {k:Nat} (hk:cO<=k) {l:List Int} (hl:l.length<1073741824) {g:Gm} (hg:g.sm):g.ap (bU.f k) l=some ((dt l 0 g).1.P6 (dt l 0 g).2):=
 (aa (dk.eq hk hg)).trans (bU.loop hk hl l.length 0 k g (by omega) (mh hk hl) hg)
theorem bT.eq {k:Nat} (hk:cO<=k) {l:List Int} (hl:l.length<1073741824) {g:Gm} (hg:g.sm):g.ap (bT.f k) l=some ((dt l 0 g).1.P6 (dt l 0 g).2):=
 (aa (bS.eq hk hg)).trans (bT.loop hk hl l.length 0 k g (by omega) (mh hk hl) hg)
theorem pW: ∀(l:List Int) (i:Int) {g:Gm},g.sm->(dt l i g).1.sm
 | [],i,g,h=>h
 |m::l,i,g,h=>by
  unfold dt
  cases (aJ g m).2 with
  |true=>exact pW l (i+1) (j9 h)
  |false=>exact h
theorem uq: ∀(l:List Int) (i:Int) {g:Gm},(dt l i g).2=i+(l.length:Int)->(dt l i g).1.mv=g.mv+(l.length:Int)/\(dt l i g).1.r=g.r/\(c_ g=true->c_ (dt l i g).1=true)
 | [],i,g,_=>⟨by simp[dt],rfl,fun h=>h⟩
 |m::l,i,g,h=>by
  unfold dt at h ⊢
  cases hm:(aJ g m).2 with
  |true=>
   rw[hm] at h
   rw[List.length_cons] at h
   obtain ⟨g1,g2,g3⟩:=px hm
   obtain ⟨h1,h2,h3⟩:=uq l (i+1) (g:=(aJ g m).1) (by simp only[cond_true] at h;omega)
   refine ⟨?_,?_,fun _=>h3 g1⟩
   ·simp only[cond_true];rw[h1,g2,List.length_cons];omega
   ·simp only[cond_true];rw[h2,g3]
  |false=>
   rw[hm] at h
   rw[List.length_cons] at h
   simp only[cond_false] at h
   omega
theorem KS {α:Type} [DecidableEq α] (x y:α) (s t:List α):decide (x::s=y::t)=(decide (x=y)&&decide (s=t)):=by
 by_cases h1:x=y
 ·subst h1
  by_cases h2:s=t
  ·subst h2;simp
  ·simp[h2]
 ·simp[h1]
theorem ny {α:Type} [DecidableEq α] {a b:List α} {i:Nat} (ha:i<a.length) (hb:i<b.length):decide (a.drop i=b.drop i)=(decide (a[i] =b[i])&&decide (a.drop (i+1)=b.drop (i+1))):=by
 rw[<- KS]
 congr 1
 rw[drop_cons ha,drop_cons hb]
theorem aL.loop {R:Type} (k:Nat) {a b:List Int} (h:a.length=b.length) (hl:a.length<1073741824) (e0 e1:Option R): ∀(m i n:Nat),i+m=a.length->m<n->aL.l4 k a b e0 e1 n (i:Int)=bif decide (a.drop i=b.drop i) then e1 else e0:=by
 intro m
 induction m with
 |zero=>
  intro i n hi hn
  obtain ⟨n,rfl⟩: ∃n',n=n' +1:=⟨n-1,by omega⟩
  rw[List.drop_eq_nil_of_le (by omega),List.drop_eq_nil_of_le (by omega)]
  exact (aL.gH ..).trans (af (aM (by omega)))
 |succ m ih=>
  intro i n hi hn
  obtain ⟨n,rfl⟩: ∃n',n=n' +1:=⟨n-1,by omega⟩
  have ha:i<a.length:=by omega
  have hb:i<b.length:=by omega
  refine (aL.gH ..).trans ((ak (ae (by omega))).trans ((ab (cy ha)).trans ((ab (cy hb)).trans ?_)))
  rw[Int.toNat_natCast,aP (l:=a) _ ha,aP (l:=b) _ hb,aR (by omega),ih (i+1) n (by omega) (by omega),ny ha hb]
  by_cases h1:a[i] =b[i]
  ·rw[ae h1]
   exact (af (by simp[h1])).trans (by simp)
  ·rw[aM h1]
   exact (ak (by simp[h1])).trans rfl
theorem aB.loop {R:Type} (k:Nat) {a b:List Int} (h:a.length=b.length) (hl:a.length<1073741824) (e0 e1:Option R): ∀(m i n:Nat),i+m=a.length->m<n->aB.l4 k a b (a.length:Int) e0 e1 n (i:Int)=bif decide (a.drop i=b.drop i) then e1 else e0:=by
 intro m
 induction m with
 |zero=>
  intro i n hi hn
  obtain ⟨n,rfl⟩: ∃n',n=n' +1:=⟨n-1,by omega⟩
  rw[List.drop_eq_nil_of_le (by omega),List.drop_eq_nil_of_le (by omega)]
  exact (aB.gH ..).trans (af (aM (by omega)))
 |succ m ih=>
  intro i n hi hn
  obtain ⟨n,rfl⟩: ∃n',n=n' +1:=⟨n-1,by omega⟩
  have ha:i<a.length:=by omega
  have hb:i<b.length:=by omega
  refine (aB.gH ..).trans ((ak (ae (by omega))).trans ((ab (cy ha)).trans ((ab (cy hb)).trans ?_)))
  rw[Int.toNat_natCast,aP (l:=a) _ ha,aP (l:=b) _ hb,aR (by omega),ih (i+1) n (by omega) (by omega),ny ha hb]
  by_cases h1:a[i] =b[i]
  ·rw[ae h1]
   exact (af (by simp[h1])).trans (by simp)
  ·rw[aM h1]
   exact (ak (by simp[h1])).trans rfl
def xj (a b:List Int):Bool:=decide (a=b)
theorem Cy {α:Type} [DecidableEq α] {a b:List α} (h: ¬((a.length:Int)=(b.length:Int))):decide (a=b)=false:=aM (fun e=>h (by rw[e]))
theorem aL.eq {k:Nat} (hk:cO<=k) {a:List Int} (b:List Int) (hl:a.length<1073741824):aL.f k a b=some (xj a b):=by
 unfold xj
 by_cases h:(a.length:Int)=(b.length:Int)
 ·refine (af (by simp[h])).trans ((aL.loop k (by omega) hl _ _ a.length 0 k (by omega) (mh hk hl)).trans ?_)
  rw[List.drop_zero,List.drop_zero]
  cases decide (a=b)<;>rfl
 ·rw[Cy h]
  exact (ak (by simpa using h)).trans rfl
theorem aB.eq {k:Nat} (hk:cO<=k) {a:List Int} (b:List Int) (hl:a.length<1073741824):aB.f k a b=some (xj a b):=by
 unfold xj
 by_cases h:(a.length:Int)=(b.length:Int)
 ·refine (af (by simp[h])).trans ((aB.loop k (by omega) hl _ _ a.length 0 k (by omega) (mh hk hl)).trans ?_)
  rw[List.drop_zero,List.drop_zero]
  cases decide (a=b)<;>rfl
 ·rw[Cy h]
  exact (ak (by simpa using h)).trans rfl
def D_ (a b:List (List Int)):Bool:=decide (a=b)
theorem aU.loop {R:Type} {k:Nat} (hk:cO<=k) {a b:List (List Int)} (h:a.length=b.length) (hl:AR a) (e0 e1:Option R): ∀(m i n:Nat),i+m=a.length->m<n->aU.l4 k a b e0 e1 n (i:Int)=bif decide (a.drop i=b.drop i) then e1 else e0:=by
 intro m
 induction m with
 |zero=>
  intro i n hi hn
  obtain ⟨n,rfl⟩: ∃n',n=n' +1:=⟨n-1,by omega⟩
  rw[List.drop_eq_nil_of_le (by omega),List.drop_eq_nil_of_le (by omega)]
  exact (aU.gH ..).trans (af (aM (by omega)))
 |succ m ih=>
  intro i n hi hn
  obtain ⟨n,rfl⟩: ∃n',n=n' +1:=⟨n-1,by omega⟩
  have ha:i<a.length:=by omega
  have hb:i<b.length:=by omega
  have:=hl.1
  have:=hl.2 _ (List.getElem_mem ha)
  refine (aU.gH ..).trans ((ak (ae (by omega))).trans ((ab (cy ha)).trans ((ab (cy hb)).trans ?_)))
  rw[Int.toNat_natCast,aP (l:=a) _ ha,aP (l:=b) _ hb,aR (by omega)]
  refine (aa (aL.eq hk _ (by omega))).trans ?_
  rw[ih (i+1) n (by omega) (by omega),ny ha hb]
  unfold xj
  cases decide (a[i] =b[i])<;>rfl
theorem br.loop {R:Type} {k:Nat} (hk:cO<=k) {a b:List (List Int)} (h:a.length=b.length) (hl:AR a) (e0 e1:Option R): ∀(m i n:Nat),i+m=a.length->m<n->br.l4 k a b (a.length:Int) e0 e1 n (i:Int)=bif decide (a.drop i=b.drop i) then e1 else e0:=by
 intro m
 induction m with
 |zero=>
  intro i n hi hn
  obtain ⟨n,rfl⟩: ∃n',n=n' +1:=⟨n-1,by omega⟩
  rw[List.drop_eq_nil_of_le (by omega),List.drop_eq_nil_of_le (by omega)]
  exact (br.gH ..).trans (af (aM (by omega)))
 |succ m ih=>
  intro i n hi hn
  obtain ⟨n,rfl⟩: ∃n',n=n' +1:=⟨n-1,by omega⟩
  have ha:i<a.length:=by omega
  have hb:i<b.length:=by omega
  have:=hl.1
  have:=hl.2 _ (List.getElem_mem ha)
  refine (br.gH ..).trans ((ak (ae (by omega))).trans ((ab (cy ha)).trans ((ab (cy hb)).trans ?_)))
  rw[Int.toNat_natCast,aP (l:=a) _ ha,aP (l:=b) _ hb,aR (by omega)]
  refine (aa (aB.eq hk _ (by omega))).trans ?_
  rw[ih (i+1) n (by omega) (by omega),ny ha hb]
  unfold xj
  cases decide (a[i] =b[i])<;>rfl
theorem br.eq {k:Nat} (hk:cO<=k) {a:List (List Int)} (b:List (List Int)) (hl:AR a):br.f k a b=some (D_ a b):=by
 unfold D_
 by_cases h:(a.length:Int)=(b.length:Int)
 ·refine (af (by simp[h])).trans ((br.loop hk (by omega) hl _ _ a.length 0 k (by omega) (cU hk hl.1)).trans ?_)
  rw[List.drop_zero,List.drop_zero]
  cases decide (a=b)<;>rfl
 ·rw[Cy h]
  exact (ak (by simpa using h)).trans rfl
def wH (r s:Rl):Bool:=(r.n==s.n)&&(r.e==s.e)&&(r.b1==s.b1)&&(r.b2==s.b2)&&xj r.w s.w&&xj r.f s.f&&(r.t==s.t)&&(r.l==s.l)
def Ea (g h:Gm):Bool:=wH g.r h.r&&D_ g.hs h.hs&&xj g.st h.st&&xj g.hp h.hp&&(g.tn==h.tn)&&(g.mv==h.mv)&&(g.ps==h.ps)
theorem ee.eq {k:Nat} (hk:cO<=k) {r:Rl} (s:Rl) (h:r.sm):s.ap (r.ap (ee.f k))=some (wH r s):=by
 show ee.f k r.n r.e r.b1 r.b2 r.w r.f r.t r.l s.n s.e s.b1 s.b2 s.w s.f s.t s.l=_
 have h1:=h.1
 have h2:=h.2
 unfold ee.f wH
 simp only[aL.eq hk s.w (show r.w.length<1073741824 by omega),aL.eq hk s.f (show r.f.length<1073741824 by omega),Option.bind_some]
 cases (r.n==s.n)<;>cases (r.e==s.e)<;>cases (r.b1==s.b1)<;>cases (r.b2==s.b2)<;>cases xj r.w s.w<;>cases xj r.f s.f<;>cases (r.t==s.t)<;>rfl
theorem cR.eq {k:Nat} (hk:cO<=k) {r:Rl} (s:Rl) (h:r.sm):s.ap (r.ap (cR.f k))=some (wH r s):=by
 show cR.f k r.n r.e r.b1 r.b2 r.w r.f r.t r.l s.n s.e s.b1 s.b2 s.w s.f s.t s.l=_
 have h1:=h.1
 have h2:=h.2
 unfold cR.f wH
 simp only[aB.eq hk s.w (show r.w.length<1073741824 by omega),aB.eq hk s.f (show r.f.length<1073741824 by omega),Option.bind_some]
 cases (r.n==s.n)<;>cases (r.e==s.e)<;>cases (r.b1==s.b1)<;>cases (r.b2==s.b2)<;>cases xj r.w s.w<;>cases xj r.f s.f<;>cases (r.t==s.t)<;>cases (r.l==s.l)<;>rfl
abbrev Vq (F:Int->Int->Bool->Bool->List Int->List Int->Int->Int->List (List Int)->List Int->List Int->Int->Int->Int->Int->Int->Bool->Bool->List Int->List Int->Int->Int->List (List Int)->List Int->List Int->Int->Int->Int->Option Bool) (g h:Gm):Option Bool:=F g.r.n g.r.e g.r.b1 g.r.b2 g.r.w g.r.f g.r.t g.r.l g.hs g.st g.hp g.tn g.mv g.ps h.r.n h.r.e h.r.b1 h.r.b2 h.r.w h.r.f h.r.t h.r.l h.hs h.st h.hp h.tn h.mv h.ps
theorem aU.eq {k:Nat} (hk:cO<=k) {g:Gm} (h:Gm) (hg:g.sm):Vq (aU.f k) g h=some (Ea g h):=by
 obtain ⟨h1,h2,h3,h4⟩:=hg
 have h3:g.st.length<1048577:=h3
 have h4:g.hp.length<1048577:=h4
 have hr:=ee.eq hk h.r h1
 have hr:ee.f k g.r.n g.r.e g.r.b1 g.r.b2 g.r.w g.r.f g.r.t g.r.l h.r.n h.r.e h.r.b1 h.r.b2 h.r.w h.r.f h.r.t h.r.l=some (wH g.r h.r):=hr
 show aU.f k g.r.n g.r.e g.r.b1 g.r.b2 g.r.w g.r.f g.r.t g.r.l g.hs g.st g.hp g.tn g.mv g.ps h.r.n h.r.e h.r.b1 h.r.b2 h.r.w h.r.f h.r.t h.r.l h.hs h.st h.hp h.tn h.mv h.ps=_
 unfold aU.f Ea D_
 by_cases hl:(g.hs.length:Int)=(h.hs.length:Int)
 ·refine (af (by simp[hl])).trans ((aU.loop hk (by omega) h2 _ _ g.hs.length 0 k (by omega) (cU hk h2.1)).trans ?_)
  rw[List.drop_zero,List.drop_zero,hr]
  simp only[aL.eq hk h.st (show g.st.length<1073741824 by omega),aL.eq hk h.hp (show g.hp.length<1073741824 by omega),Option.bind_some]
  cases decide (g.hs=h.hs)<;>cases wH g.r h.r<;>cases xj g.st h.st<;>cases xj g.hp h.hp<;>cases (g.tn==h.tn)<;>cases (g.mv==h.mv)<;>rfl
 ·rw[Cy hl]
  refine (ak (by simpa using hl)).trans ?_
  cases wH g.r h.r<;>rfl
theorem cC.eq {k:Nat} (hk:cO<=k) {g:Gm} (h:Gm) (hg:g.sm):Vq (cC.f k) g h=some (Ea g h):=by
 obtain ⟨h1,h2,h3,h4⟩:=hg
 have h3:g.st.length<1048577:=h3
 have h4:g.hp.length<1048577:=h4
 have hr:=cR.eq hk h.r h1
 have hr:cR.f k g.r.n g.r.e g.r.b1 g.r.b2 g.r.w g.r.f g.r.t g.r.l h.r.n h.r.e h.r.b1 h.r.b2 h.r.w h.r.f h.r.t h.r.l=some (wH g.r h.r):=hr
 show cC.f k g.r.n g.r.e g.r.b1 g.r.b2 g.r.w g.r.f g.r.t g.r.l g.hs g.st g.hp g.tn g.mv g.ps h.r.n h.r.e h.r.b1 h.r.b2 h.r.w h.r.f h.r.t h.r.l h.hs h.st h.hp h.tn h.mv h.ps=_
 unfold cC.f Ea
 rw[hr]
 simp only[br.eq hk h.hs h2,aB.eq hk h.st (show g.st.length<1073741824 by omega),aB.eq hk h.hp (show g.hp.length<1073741824 by omega),Option.bind_some]
 cases wH g.r h.r<;>cases D_ g.hs h.hs<;>cases xj g.st h.st<;>cases xj g.hp h.hp<;>cases (g.tn==h.tn)<;>cases (g.mv==h.mv)<;>rfl
def Cz (r:List Int):Bool:=r.all fun x=>jJ x (-1000) 1000
def kp (n:Int) (r:List Int):Bool:=jJ n 2 6&&((r.length:Int)==n)&&Cz r&&(r.sum==0)
theorem cI.eq {k:Nat} (hk:cO<=k) (n:Int) {r:List Int} (hr:r.length<1048577):cI.f k n r=some (kp n r):=by
 have h:=scan (B:=Int) r (fun m b i=>cI.l3 k r (fun _=>some false) (fun x3=>(aG.f k n 2 6).bind fun r4=>bif r4 then bif ((r.length:Int)==n) then some (x3==(0:Int)) else some false else some false) m b i) (fun _ a=>jJ a (-1000) 1000) (fun b a=>b+a) (fun x3=>(aG.f k n 2 6).bind fun r4=>bif r4 then bif ((r.length:Int)==n) then some (x3==(0:Int)) else some false else some false) (fun _ _=>some false)
  (fun i b=> -1000*(i:Int)<=b/\b<=1000*(i:Int))
  (fun m b i h hI=>by
    refine (cI.aE ..).trans ?_
    refine (ak (ae (by omega))).trans ?_
    refine (ab (cy h)).trans ?_
    rw[Int.toNat_natCast,aP _ h]
    refine (aa (aG.eq ..)).trans ?_
    cases hp:jJ r[i] (-1000) 1000 with
    |false=>rfl
    |true=>
     have:=eD.1 hp
     refine (af rfl).trans ?_
     refine (ab (cy h)).trans ?_
     rw[wrap_i64 (by omega) (by omega),aR (by omega)]
     rfl)
  (fun b i h hI hp=>by have:=eD.1 hp;constructor<;>omega)
  (fun m b hI=>(cI.aE ..).trans (af (aM (by omega))))
  r.length 0 k 0 (by omega) (cU hk hr) (by simp)
 refine h.trans ?_
 rw[List.drop_zero,qB,foldl_add,aG.eq,Int.zero_add]
 unfold kp Cz
 cases r.all (fun x=>jJ x (-1000) 1000)<;>cases jJ n 2 6<;>cases ((r.length:Int)==n)<;>simp
theorem dQ.eq {k:Nat} (hk:cO<=k) {r:List Int} (lo hi:Int) (hr:r.length<1048577):dQ.f k r lo hi=some (r.all fun x=>jJ x lo hi):=by
 have h:=scan (B:=Unit) r (fun m b i=>dQ.l2 k lo hi r (r.length:Int) (some false) (some true) m i) (fun _ a=>jJ a lo hi) (fun b a=>b) (fun _=>some true) (fun _ _=>some false) (fun i b=>True)
  (fun m b i h hI=>by
    refine (dQ.fS ..).trans ?_
    refine (ak (ae (by omega))).trans ?_
    refine (ab (cy h)).trans ?_
    rw[Int.toNat_natCast,aP _ h]
    refine (aa (an.eq ..)).trans ?_
    rw[aR (by omega)]
    cases jJ r[i] lo hi<;>rfl)
  (fun b i h hI hp=>trivial)
  (fun m b hI=>(dQ.fS ..).trans (af (aM (by omega))))
  r.length 0 k () (by omega) (cU hk hr) trivial
 refine h.trans ?_
 rw[List.drop_zero,qB]
 cases r.all (fun x=>jJ x lo hi)<;>rfl
theorem dq.eq {k:Nat} (hk:cO<=k) {r:List Int} (hr:r.length<1048577) (hp:Cz r=true):dq.f k r=some r.sum:=by
 have h:=scan (B:=Int) r (fun m b i=>dq.l3 k r (r.length:Int) (fun x=>some x) m b i) (fun _ _=>true) (fun b a=>b+a) (fun x=>some x) (fun _ _=>none) (fun i b=> -1000*(i:Int)<=b/\b<=1000*(i:Int))
  (fun m b i h hI=>by
    have:=eD.1 (List.all_eq_true.1 hp _ (List.getElem_mem h))
    refine (dq.aE ..).trans ?_
    refine (ak (ae (by omega))).trans ?_
    refine (ab (cy h)).trans ?_
    rw[Int.toNat_natCast,aP _ h,wrap_i64 (by omega) (by omega),aR (by omega)]
    rfl)
  (fun b i h hI _=>by have:=eD.1 (List.all_eq_true.1 hp _ (List.getElem_mem h));constructor<;>omega)
  (fun m b hI=>(dq.aE ..).trans (af (aM (by omega))))
  r.length 0 k 0 (by omega) (cU hk hr) (by simp)
 refine h.trans ?_
 rw[List.drop_zero,dC,foldl_add,Int.zero_add]
theorem iT.eq {k:Nat} (hk:cO<=k) (n:Int) {r:List Int} (hr:r.length<1048577):iT.f k n r=some (kp n r):=by
 refine (aa (an.eq ..)).trans ?_
 unfold kp
 cases jJ n 2 6 with
 |false=>rfl
 |true=>
  refine (ak rfl).trans ?_
  cases ((r.length:Int)==n) with
  |false=>rfl
  |true=>
   refine (ak rfl).trans ?_
   refine (aa (dQ.eq hk _ _ hr)).trans ?_
   cases hp:Cz r with
   |false=>exact (af hp).trans (by simp)
   |true=>
    refine (ak hp).trans ?_
    exact (aa (dq.eq hk hr hp)).trans (by simp)
def lG (n:Int) (s:List (List Int)):Bool:=jJ n 2 6&&decide ((s.length:Int)<=50)&&s.all (kp n)
theorem cJ.KM {k:Nat} (hk:cO<=k) (n:Int) {s:List (List Int)} (hs:s.length<1073741824) (Mj: ∀y∈s,y.length<1048577):cJ.f k n s=some (lG n s):=by
 have h:=scan (B:=Unit) s (fun m b i=>cJ.l2 k n s (some false) ((aG.f k n 2 6).bind fun r2=>bif r2 then some (decide ((s.length:Int)<=50)) else some false) m i) (fun _ a=>kp n a) (fun b a=>b) (fun _=>some (jJ n 2 6&&decide ((s.length:Int)<=50))) (fun _ _=>some false) (fun i b=>True)
  (fun m b i h hI=>by
    refine (cJ.fS ..).trans ?_
    refine (ak (ae (by omega))).trans ?_
    refine (ab (cy h)).trans ?_
    rw[Int.toNat_natCast,aP _ h]
    refine (aa (cI.eq hk n (Mj _ (List.getElem_mem h)))).trans ?_
    rw[aR (by omega)]
    cases kp n s[i]<;>rfl)
  (fun b i h hI hp=>trivial)
  (fun m b hI=>(cJ.fS ..).trans ((af (aM (by omega))).trans ((aa (aG.eq ..)).trans (by cases jJ n 2 6<;>rfl))))
  s.length 0 k () (by omega) (mh hk hs) trivial
 refine h.trans ?_
 rw[List.drop_zero,qB]
 unfold lG
 cases s.all (kp n)<;>simp
theorem cG.KM {k:Nat} (hk:cO<=k) (n:Int) {s:List (List Int)} (hs:s.length<1073741824) (Mj: ∀y∈s,y.length<1048577):cG.f k n s=some (lG n s):=by
 have h:=scan (B:=Unit) s (fun m b i=>cG.l2 k n s (s.length:Int) (some false) ((an.f k n 2 6).bind fun r2=>bif r2 then some (decide ((s.length:Int)<=50)) else some false) m i) (fun _ a=>kp n a) (fun b a=>b) (fun _=>some (jJ n 2 6&&decide ((s.length:Int)<=50))) (fun _ _=>some false) (fun i b=>True)
  (fun m b i h hI=>by
    refine (cG.fS ..).trans ?_
    refine (ak (ae (by omega))).trans ?_
    refine (ab (cy h)).trans ?_
    rw[Int.toNat_natCast,aP _ h]
    refine (aa (iT.eq hk n (Mj _ (List.getElem_mem h)))).trans ?_
    rw[aR (by omega)]
    cases kp n s[i]<;>rfl)
  (fun b i h hI hp=>trivial)
  (fun m b hI=>(cG.fS ..).trans ((af (aM (by omega))).trans ((aa (an.eq ..)).trans (by cases jJ n 2 6<;>rfl))))
  s.length 0 k () (by omega) (mh hk hs) trivial
 refine h.trans ?_
 rw[List.drop_zero,qB]
 unfold lG
 cases s.all (kp n)<;>simp
structure Tb where
 r:Rl
 cm:List Int
 on:Bool
 jy:List Int
 g:Gm
 rd:List Int
 gp:List (List Int)
abbrev Tb.ap {β:Type} (F:Int->Int->Bool->Bool->List Int->List Int->Int->Int->List Int->Bool->List Int->Int->Int->Bool->Bool->List Int->List Int->Int->Int->List (List Int)->List Int->List Int->Int->Int->Int->List Int->List (List Int)->β) (t:Tb):β:=F t.r.n t.r.e t.r.b1 t.r.b2 t.r.w t.r.f t.r.t t.r.l t.cm t.on t.jy t.g.r.n t.g.r.e t.g.r.b1 t.g.r.b2 t.g.r.w t.g.r.f t.g.r.t t.g.r.l t.g.hs t.g.st t.g.hp t.g.tn t.g.mv t.g.ps t.rd t.gp
abbrev Tb.tp (t:Tb):Int×Int×Bool×Bool×List Int×List Int×Int×Int×List Int×Bool×List Int×Int×Int×Bool×Bool×List Int×List Int×Int×Int×List (List Int)×List Int×List Int×Int×Int×Int×List Int×List (List Int):=(t.r.n,t.r.e,t.r.b1,t.r.b2,t.r.w,t.r.f,t.r.t,t.r.l,t.cm,t.on,t.jy,t.g.r.n,t.g.r.e,t.g.r.b1,t.g.r.b2,t.g.r.w,t.g.r.f,t.g.r.t,t.g.r.l,t.g.hs,t.g.st,t.g.hp,t.g.tn,t.g.mv,t.g.ps,t.rd,t.gp)
abbrev Tb.jx (t:Tb) (b:Bool):Int×Int×Bool×Bool×List Int×List Int×Int×Int×List Int×Bool×List Int×Int×Int×Bool×Bool×List Int×List Int×Int×Int×List (List Int)×List Int×List Int×Int×Int×Int×List Int×List (List Int)×Bool:=(t.r.n,t.r.e,t.r.b1,t.r.b2,t.r.w,t.r.f,t.r.t,t.r.l,t.cm,t.on,t.jy,t.g.r.n,t.g.r.e,t.g.r.b1,t.g.r.b2,t.g.r.w,t.g.r.f,t.g.r.t,t.g.r.l,t.g.hs,t.g.st,t.g.hp,t.g.tn,t.g.mv,t.g.ps,t.rd,t.gp,b)
abbrev Tb.sm (t:Tb):Prop:=t.r.sm/\N1 t.cm/\N1 t.jy/\t.g.sm/\N1 t.rd/\AR t.gp
abbrev Tb.KT (t:Tb):Prop:=t.r.sm/\N1 t.jy/\t.g.sm/\t.rd.length<1073741824/\t.gp.length<1073741824/\ ∀y∈t.gp,y.length<1048577
theorem Tb.pX {t:Tb} (h:t.sm):t.KT:=⟨h.1,h.2.2.1,h.2.2.2.1,by have:=h.2.2.2.2.1;omega,by have:=h.2.2.2.2.2.1;omega,h.2.2.2.2.2.2⟩
def nz (t:Tb):Bool:=(dJ t.r t.jy).2&&((t.cm.length:Int)==t.r.n)&&((dt t.rd 0 (dJ t.r t.jy).1).2==(t.rd.length:Int))&&Ea (dt t.rd 0 (dJ t.r t.jy).1).1 t.g
def bf (t:Tb):Bool:=t.r.ok&& !(decide ((t.cm.length:Int)>t.r.n))&&lG t.r.n t.gp&&(bif t.on then nz t else ((t.jy.length:Int)==0)&&((t.rd.length:Int)==0)&&Ea t.g yJ)
theorem fX.eq {k:Nat} (hk:cO<=k) {t:Tb} (h:t.KT):t.ap (fX.f k)=some (bf t):=by
 obtain ⟨h1,h2,h3,h4,h5,h6⟩:=h
 refine (aa (qF hk h1)).trans ?_
 unfold bf
 cases t.r.ok with
 |false=>rfl
 |true=>
  refine (af rfl).trans ?_
  cases decide ((t.cm.length:Int)>t.r.n) with
  |true=>rfl
  |false=>
   refine (af rfl).trans ((aa (cJ.KM hk _ h5 h6)).trans ?_)
   cases lG t.r.n t.gp with
   |false=>rfl
   |true=>
    refine (af rfl).trans ?_
    cases t.on with
    |false=>
     refine (ak rfl).trans ?_
     cases ((t.jy.length:Int)==0) with
     |false=>rfl
     |true=>
      refine (ak rfl).trans ?_
      cases ((t.rd.length:Int)==0) with
      |false=>rfl
      |true=>exact (ak rfl).trans ((aa (aU.eq hk yJ h3)).trans (by simp))
    |true=>
     have hs:=oY h1 t.jy
     refine (af rfl).trans ((aa (fC.eq hk h1 h2)).trans ((aa (bU.eq hk h4 hs)).trans ?_))
     show (bif (dJ t.r t.jy).2 then _ else _)=some (true&& !false&&true&&nz t)
     unfold nz
     cases (dJ t.r t.jy).2 with
     |false=>rfl
     |true=>
      refine (ak rfl).trans ?_
      cases ((t.cm.length:Int)==t.r.n) with
      |false=>rfl
      |true=>
       refine (ak rfl).trans ?_
       show (bif ((dt t.rd 0 (dJ t.r t.jy).1).2==(t.rd.length:Int)) then _ else _)=_
       cases ((dt t.rd 0 (dJ t.r t.jy).1).2==(t.rd.length:Int)) with
       |false=>rfl
       |true=>exact (ak rfl).trans ((aa (aU.eq hk t.g (pW t.rd 0 hs))).trans (by simp))
theorem cc.eq {k:Nat} (hk:cO<=k) {t:Tb} (h:t.KT):t.ap (cc.f k)=some (bf t):=by
 obtain ⟨h1,h2,h3,h4,h5,h6⟩:=h
 refine (aa (ui hk h1)).trans ?_
 unfold bf
 cases t.r.ok with
 |false=>rfl
 |true=>
  refine (af rfl).trans ?_
  cases decide ((t.cm.length:Int)>t.r.n) with
  |true=>rfl
  |false=>
   refine (af rfl).trans ((aa (cG.KM hk _ h5 h6)).trans ?_)
   cases lG t.r.n t.gp with
   |false=>rfl
   |true=>
    refine (af rfl).trans ?_
    cases t.on with
    |false=>
     refine (ak rfl).trans ?_
     cases ((t.jy.length:Int)==0) with
     |false=>rfl
     |true=>
      refine (ak rfl).trans ?_
      cases ((t.rd.length:Int)==0) with
      |false=>rfl
      |true=>exact (ak rfl).trans ((aa (cC.eq hk yJ h3)).trans (by simp))
    |true=>
     have hs:=oY h1 t.jy
     refine (af rfl).trans ((aa (fy.eq hk h1 h2)).trans ?_)
     show (bif !(dJ t.r t.jy).2 then _ else _)=some (true&& !false&&true&&nz t)
     unfold nz
     cases (dJ t.r t.jy).2 with
     |false=>rfl
     |true=>
      refine (af rfl).trans ?_
      cases hn:((t.cm.length:Int)==t.r.n) with
      |false=>exact (ak (by rw[bne,hn];rfl)).trans rfl
      |true=>
       refine (af (by rw[bne,hn];rfl)).trans ((aa (bT.eq hk h4 hs)).trans ?_)
       show (bif ((dt t.rd 0 (dJ t.r t.jy).1).2==(t.rd.length:Int)) then _ else _)=_
       cases ((dt t.rd 0 (dJ t.r t.jy).1).2==(t.rd.length:Int)) with
       |false=>rfl
       |true=>exact (ak rfl).trans ((aa (cC.eq hk t.g (pW t.rd 0 hs))).trans (by simp))
theorem tv {t:Tb} (h:bf t=true):t.r.ok=true/\(t.cm.length:Int)<=t.r.n/\lG t.r.n t.gp=true/\t.rd.length<=400/\(t.on=true->nz t=true):=by
 unfold bf at h
 simp only[Bool.and_eq_true,Bool.not_eq_true',decide_eq_false_iff_not] at h
 obtain ⟨⟨⟨h1,h2⟩,h3⟩,h4⟩:=h
 have KL:=lP h1
 refine ⟨h1,by omega,h3,?_,fun ho=>by rw[ho] at h4;exact h4⟩
 cases ho:t.on with
 |false=>
  rw[ho] at h4
  simp only[cond_false,Bool.and_eq_true,beq_iff_eq] at h4
  omega
 |true=>
  rw[ho] at h4
  have h4:nz t=true:=h4
  unfold nz at h4
  simp only[Bool.and_eq_true,beq_iff_eq] at h4
  obtain ⟨⟨⟨k1,k2⟩,k3⟩,k4⟩:=h4
  obtain ⟨g1,g2⟩:=uo k1
  obtain ⟨q1,q2,q3⟩:=uq t.rd 0 (g:=(dJ t.r t.jy).1) (by omega)
  obtain ⟨_,_,_,_,_,m6,_⟩:=dR.1 (q3 g1)
  obtain ⟨_,_,_,_,_,m7,_⟩:=dR.1 g1
  rw[q2,g2] at m6
  omega
theorem bq.eq {k:Nat} (hk:cO<=k) {t:Tb} (h:t.sm):t.ap (bq.f k)=some t.tp:=by
 obtain ⟨h1,h2,h3,h4,h5,h6⟩:=h
 have h2:t.cm.length<1048577:=h2
 have h3:t.jy.length<1048577:=h3
 have h5:t.rd.length<1048577:=h5
 exact (aa (dh.eq k h1)).trans ((ab (lN (by omega))).trans ((ab (lN (by omega))).trans ((aa (dk.eq hk h4)).trans ((ab (lN (by omega))).trans ((aa (cd.eq hk h6)).trans rfl)))))
theorem aD.eq {k:Nat} (hk:cO<=k) {t:Tb} (h:t.sm):t.ap (aD.f k)=some t.tp:=by
 obtain ⟨h1,h2,h3,h4,h5,h6⟩:=h
 exact (aa (cj.eq k h1)).trans ((aa (aF.eq k h2)).trans ((aa (aF.eq k h3)).trans ((aa (bS.eq hk h4)).trans ((aa (aF.eq k h5)).trans ((aa (bo.eq hk h6)).trans rfl)))))
def done (t u:Tb) (ok:Bool):Tb×Bool:=bif ok&&bf t&&bf u then (u,true) else (t,false)
theorem ur {t u:Tb} (ok:Bool) (ht:t.sm) (h1:u.r.sm) (h2:N1 u.jy) (h3:u.g.sm):(done t u ok).1.sm:=by
 unfold done
 cases h:(ok&&bf t&&bf u) with
 |false=>exact ht
 |true=>
  simp only[Bool.and_eq_true] at h
  obtain ⟨k1,k2,k3,k4,k5⟩:=tv h.2
  have KL:=lP k1
  unfold lG at k3
  simp only[Bool.and_eq_true,decide_eq_true_eq,List.all_eq_true] at k3
  refine ⟨h1,by show u.cm.length<1048577;omega,h2,h3,by show u.rd.length<1048577;omega,by show u.gp.length<1048577;omega,fun y hy=> ?_⟩
  have Vr:=k3.2 y hy
  unfold kp at Vr
  simp only[Bool.and_eq_true,beq_iff_eq] at Vr
  show y.length<1048577
  omega
theorem bW.eq {k:Nat} (hk:cO<=k) {t u:Tb} (ok:Bool) (ht:t.sm) (hu:u.KT):u.ap (t.ap (bW.f k)) ok=some ((done t u ok).1.jx (done t u ok).2):=by
 unfold done
 cases ok with
 |false=>exact (ak rfl).trans ((aa (bq.eq hk ht)).trans rfl)
 |true=>
  refine (af rfl).trans ((aa (fX.eq hk (Tb.pX ht))).trans ?_)
  cases bf t with
  |false=>exact (ak rfl).trans ((aa (bq.eq hk ht)).trans rfl)
  |true=>
   refine (af rfl).trans ((aa (fX.eq hk hu)).trans ?_)
   cases bf u with
   |false=>exact (ak rfl).trans ((aa (bq.eq hk ht)).trans rfl)
   |true=>rfl
theorem au.eq {k:Nat} (hk:cO<=k) {t u:Tb} (ok:Bool) (ht:t.sm) (hu:u.KT):u.ap (t.ap (au.f k)) ok=some ((done t u ok).1.jx (done t u ok).2):=by
 unfold done
 cases ok with
 |false=>exact (ak rfl).trans ((aa (aD.eq hk ht)).trans rfl)
 |true=>
  refine (af rfl).trans ((aa (cc.eq hk (Tb.pX ht))).trans ?_)
  cases bf t with
  |false=>exact (ak rfl).trans ((aa (aD.eq hk ht)).trans rfl)
  |true=>
   refine (af rfl).trans ((aa (cc.eq hk hu)).trans ?_)
   cases bf u with
   |false=>exact (ak rfl).trans ((aa (aD.eq hk ht)).trans rfl)
   |true=>rfl
def fo (t:Tb) (s:Int):Tb×Bool:=done t {t with cm:=t.cm++[s]} (!t.on)
theorem nA {t:Tb} (h:t.sm) (s:Int):(fo t s).1.sm:=ur _ h h.1 h.2.2.1 h.2.2.2.1
theorem o0 {t:Tb} (h:t.sm) (s:Int):({t with cm:=t.cm++[s]}:Tb).KT:=by
 obtain ⟨h1,h2,h3,h4,h5,h6⟩:=Tb.pX h
 exact ⟨h1,h2,h3,h4,h5,h6⟩
theorem cX.eq {k:Nat} (hk:cO<=k) {t:Tb} (h:t.sm) (s:Int):t.ap (cX.f k) s=some ((fo t s).1.jx (fo t s).2):=by
 have h2:t.cm.length<1048577:=h.2.1
 exact (aa (bq.eq hk h)).trans ((ab (lN (show t.cm.length+1<=_ by omega))).trans ((aa (bW.eq hk (!t.on) h (o0 h s))).trans rfl))
theorem G6 {t u:Tb} (hr:u.r=t.r) (hs:u.cm.length=t.cm.length+1):done t u (decide ((t.cm.length:Int)<t.r.n))=done t u true:=by
 by_cases hd:(t.cm.length:Int)<t.r.n
 ·rw[ae hd]
 ·rw[aM hd]
  unfold done
  cases hu:bf u with
  |false=>simp
  |true=>
   have:=(tv hu).2.1
   rw[hr,hs] at this
   omega
theorem ga.eq {k:Nat} (hk:cO<=k) {t:Tb} (h:t.sm) (s:Int):t.ap (ga.f k) s=some ((fo t s).1.jx (fo t s).2):=by
 have h2:t.cm.length<1048577:=h.2.1
 refine (aa (aD.eq hk h)).trans ((ab (lN (show t.cm.length+1<=_ by omega))).trans ?_)
 rcases Bool.eq_false_or_eq_true t.on with ho|ho
 ·have hb:=au.eq hk false h (o0 h s)
  have e:fo t s=done t {t with cm:=t.cm++[s]} false:=congrArg (done t _) (by rw[ho];rfl)
  rw[e]
  exact (af (by rw[ho];rfl)).trans ((aa hb).trans rfl)
 ·have hb:=au.eq hk (decide ((t.cm.length:Int)<t.r.n)) h (o0 h s)
  have e:fo t s=done t {t with cm:=t.cm++[s]} true:=congrArg (done t _) (by rw[ho];rfl)
  rw[G6 (t:=t) (u:={t with cm:=t.cm++[s]}) rfl (by simp),<- e] at hb
  exact (ak (by rw[ho];rfl)).trans ((aa hb).trans rfl)
def mQ (p s b q:Int):Bool:=jJ s 0 1000000&&jJ b 0 1000000&&(pQ [p,s,b]==q)
theorem hO.eq {k:Nat} (hk:cO<=k) (p s b q:Int):hO.f k p s b q=some (mQ p s b q):=by
 unfold mQ
 refine (aa (aG.eq ..)).trans ?_
 cases jJ s 0 1000000 with
 |false=>rfl
 |true=>
  refine (ak rfl).trans ((aa (aG.eq ..)).trans ?_)
  cases jJ b 0 1000000 with
  |false=>rfl
  |true=>exact (ak rfl).trans (aa (cu.eq hk p s b))
theorem ij.eq {k:Nat} (hk:cO<=k) (p s b q:Int):ij.f k p s b q=some (mQ p s b q):=by
 unfold mQ
 refine (aa (an.eq ..)).trans ?_
 cases jJ s 0 1000000 with
 |false=>rfl
 |true=>
  refine (ak rfl).trans ((aa (an.eq ..)).trans ?_)
  cases jJ b 0 1000000 with
  |false=>rfl
  |true=>exact (ak rfl).trans (aa (ig.eq hk p s b))
def opens (ss bs:List Int):Nat->List Int->Bool
 |_,[]=>true
 |i,q::l=>mQ (i:Int) (ss.getD i 0) (bs.getD i 0) q&&opens ss bs (i+1) l
theorem bO.loop {R:Type} {k:Nat} (hk:cO<=k) (qs ss bs:List Int) (h1:qs.length<1048577) (h2:ss.length=qs.length) (h3:bs.length=qs.length) (e0 e1:Option R): ∀(m i n:Nat),i+m=qs.length->m<n->bO.l4 k qs ss bs e0 e1 n (i:Int)=bif opens ss bs i (qs.drop i) then e1 else e0
 |m,i,0,_,h=>absurd h (by omega)
 |0,i,n+1,hi,_=>by
  rw[List.drop_eq_nil_of_le (by omega)]
  exact (af (aM (by omega))).trans rfl
 |m+1,i,n+1,hi,hn=>by
  have hq:i<qs.length:=by omega
  rw[drop_cons hq]
  have ih:=bO.loop hk qs ss bs h1 h2 h3 e0 e1 m (i+1) n (by omega) (by omega)
  refine (ak (ae (by omega))).trans ((ab (cy (by omega))).trans ((ab (cy (by omega))).trans ((ab (cy hq)).trans ((aa (hO.eq hk ..)).trans ?_))))
  have et:((i:Int)).toNat=i:=Int.toNat_natCast i
  rw[et,aP (l:=qs) 0 hq]
  unfold opens
  cases mQ (i:Int) (ss.getD i 0) (bs.getD i 0) qs[i] with
  |false=>rfl
  |true=>
   refine (af rfl).trans ?_
   rw[aR (by omega)]
   exact ih
theorem bQ.loop {R:Type} {k:Nat} (hk:cO<=k) (qs ss bs:List Int) (h1:qs.length<1048577) (h2:ss.length=qs.length) (h3:bs.length=qs.length) (e0 e1:Option R): ∀(m i n:Nat),i+m=qs.length->m<n->bQ.l5 k qs ss bs (qs.length:Int) e0 e1 n (i:Int)=bif opens ss bs i (qs.drop i) then e1 else e0
 |m,i,0,_,h=>absurd h (by omega)
 |0,i,n+1,hi,_=>by
  rw[List.drop_eq_nil_of_le (by omega)]
  exact (af (aM (by omega))).trans rfl
 |m+1,i,n+1,hi,hn=>by
  have hq:i<qs.length:=by omega
  rw[drop_cons hq]
  have ih:=bQ.loop hk qs ss bs h1 h2 h3 e0 e1 m (i+1) n (by omega) (by omega)
  refine (ak (ae (by omega))).trans ((ab (cy (by omega))).trans ((ab (cy (by omega))).trans ((ab (cy hq)).trans ((aa (ij.eq hk ..)).trans ?_))))
  have et:((i:Int)).toNat=i:=Int.toNat_natCast i
  rw[et,aP (l:=qs) 0 hq]
  unfold opens
  cases mQ (i:Int) (ss.getD i 0) (bs.getD i 0) qs[i] with
  |false=>rfl
  |true=>
   refine (af rfl).trans ?_
   rw[aR (by omega)]
   exact ih
def jl (qs ss bs:List Int):Bool:=jJ (qs.length:Int) 1 6&&((ss.length:Int)==(qs.length:Int))&&((bs.length:Int)==(qs.length:Int))&&opens ss bs 0 qs
theorem bO.eq {k:Nat} (hk:cO<=k) {qs:List Int} (ss bs:List Int) (h:qs.length<1048577):bO.f k qs ss bs=some (jl qs ss bs):=by
 unfold jl
 refine (aa (aG.eq ..)).trans ?_
 cases jJ (qs.length:Int) 1 6 with
 |false=>rfl
 |true=>
  refine (af rfl).trans ?_
  cases h1:((ss.length:Int)==(qs.length:Int)) with
  |false=>exact (ak (by rw[bne,h1];rfl)).trans rfl
  |true=>
   refine (af (by rw[bne,h1];rfl)).trans ?_
   cases h2:((bs.length:Int)==(qs.length:Int)) with
   |false=>exact (ak (by rw[bne,h2];rfl)).trans rfl
   |true=>
    refine (af (by rw[bne,h2];rfl)).trans ((bO.loop hk qs ss bs h (by have:=eq_of_beq h1;omega) (by have:=eq_of_beq h2;omega) (some false) (some true) qs.length 0 k (by omega) (cU hk h)).trans ?_)
    rw[List.drop_zero]
    cases opens ss bs 0 qs<;>rfl
theorem bQ.eq {k:Nat} (hk:cO<=k) {qs:List Int} (ss bs:List Int) (h:qs.length<1048577):bQ.f k qs ss bs=some (jl qs ss bs):=by
 unfold jl
 refine (aa (an.eq ..)).trans ?_
 cases jJ (qs.length:Int) 1 6 with
 |false=>rfl
 |true=>
  refine (af rfl).trans ?_
  cases h1:((ss.length:Int)==(qs.length:Int)) with
  |false=>exact (ak (by rw[bne,h1];rfl)).trans rfl
  |true=>
   refine (af (by rw[bne,h1];rfl)).trans ?_
   cases h2:((bs.length:Int)==(qs.length:Int)) with
   |false=>exact (ak (by rw[bne,h2];rfl)).trans rfl
   |true=>
    refine (af (by rw[bne,h2];rfl)).trans ((bQ.loop hk qs ss bs h (by have:=eq_of_beq h1;omega) (by have:=eq_of_beq h2;omega) (some false) (some true) qs.length 0 k (by omega) (cU hk h)).trans ?_)
    rw[List.drop_zero]
    cases opens ss bs 0 qs<;>rfl
theorem sE {qs ss bs:List Int} (h:jl qs ss bs=true):ss.length<1048577:=by
 unfold jl at h
 simp only[Bool.and_eq_true,beq_iff_eq] at h
 have:=eD.1 h.1.1.1
 omega
def uu:List Int->Int->Int
 | [],b=>b
 |s::l,b=>uu l ((b+yG s 1000001).tmod 1000001)
def wI (l:List Int):Int:=uu l 0
theorem Eb {b s:Int} (h:0<=b/\b<1000001):0<=(b+yG s 1000001).tmod 1000001/\(b+yG s 1000001).tmod 1000001<1000001:=by
 have:=yj s (m:=1000001) (by omega)
 have:=tm (a:=b+yG s 1000001) (n:=1000001) (by omega) (by omega)
 omega
theorem bP.loop {R:Type} {k:Nat} (l:List Int) (h1:l.length<1048577) (e0:Int->Option R): ∀(m i n:Nat) (b:Int),0<=b/\b<1000001->i+m=l.length->m<n->bP.l3 k l e0 n b (i:Int)=e0 (uu (l.drop i) b)
 |m,i,0,b,_,_,h=>absurd h (by omega)
 |0,i,n+1,b,hb,hi,_=>by
  rw[List.drop_eq_nil_of_le (by omega)]
  exact (af (aM (by omega))).trans rfl
 |m+1,i,n+1,b,hb,hi,hn=>by
  have hq:i<l.length:=by omega
  rw[drop_cons hq]
  have hs:=yj l[i] (m:=1000001) (by omega)
  have ih:=bP.loop (k:=k) l h1 e0 m (i+1) n _ (Eb (s:=l[i]) hb) (by omega) (by omega)
  have et:((i:Int)).toNat=i:=Int.toNat_natCast i
  refine (ak (ae (by omega))).trans ((ab (cy hq)).trans ((aa (gw.KM k _ (by omega) (by omega))).trans ?_))
  rw[et,aP (l:=l) 0 hq,wrap_i64 (by omega) (by omega),aR (by omega)]
  exact ih
theorem bR.loop {R:Type} {k:Nat} (l:List Int) (h1:l.length<1048577) (e0:Int->Option R): ∀(m i n:Nat) (b:Int),0<=b/\b<1000001->i+m=l.length->m<n->bR.l3 k l (l.length:Int) e0 n b (i:Int)=e0 (uu (l.drop i) b)
 |m,i,0,b,_,_,h=>absurd h (by omega)
 |0,i,n+1,b,hb,hi,_=>by
  rw[List.drop_eq_nil_of_le (by omega)]
  exact (af (aM (by omega))).trans rfl
 |m+1,i,n+1,b,hb,hi,hn=>by
  have hq:i<l.length:=by omega
  rw[drop_cons hq]
  have hs:=yj l[i] (m:=1000001) (by omega)
  have ih:=bR.loop (k:=k) l h1 e0 m (i+1) n _ (Eb (s:=l[i]) hb) (by omega) (by omega)
  have et:((i:Int)).toNat=i:=Int.toNat_natCast i
  refine (ak (ae (by omega))).trans ((ab (cy hq)).trans ((aa (gy.KM k _ (by omega) (by omega))).trans ?_))
  rw[et,aP (l:=l) 0 hq,wrap_i64 (by omega) (by omega),aR (by omega)]
  exact ih
theorem bP.eq {k:Nat} (hk:cO<=k) {l:List Int} (h:l.length<1048577):bP.f k l=some (wI l):=bP.loop l h _ l.length 0 k 0 (by omega) (by omega) (cU hk h)
theorem bR.eq {k:Nat} (hk:cO<=k) {l:List Int} (h:l.length<1048577):bR.f k l=some (wI l):=bR.loop l h _ l.length 0 k 0 (by omega) (by omega) (cU hk h)
def eQ (qs ss bs:List Int):List Int×Bool:=bif jl qs ss bs then (oh uk (wI ss),true) else ([],false)
theorem gx.eq {k:Nat} (hk:cO<=k) {qs:List Int} (ss bs:List Int) (h:qs.length<1048577):gx.f k qs ss bs=some (eQ qs ss bs):=by
 unfold eQ
 refine (aa (bO.eq hk ss bs h)).trans ?_
 cases ha:jl qs ss bs with
 |false=>rfl
 |true=>exact (af rfl).trans ((aa (hR.eq hk)).trans ((aa (bP.eq hk (sE ha))).trans ((aa (bL.eq hk _ (by rw[oX];decide))).trans rfl)))
theorem gz.eq {k:Nat} (hk:cO<=k) {qs:List Int} (ss bs:List Int) (h:qs.length<1048577):gz.f k qs ss bs=some (eQ qs ss bs):=by
 unfold eQ
 refine (aa (bQ.eq hk ss bs h)).trans ?_
 cases ha:jl qs ss bs with
 |false=>rfl
 |true=>exact (af rfl).trans ((aa (ik.eq hk)).trans ((aa (bR.eq hk (sE ha))).trans ((aa (bM.eq hk _ (by rw[oX];decide))).trans rfl)))
theorem AU (qs ss bs:List Int):(eQ qs ss bs).1.length<=52:=by
 unfold eQ
 cases jl qs ss bs with
 |false=>simp
 |true=>simp only[cond_true];rw[(AT _ _).length_eq,oX];omega
def jj (t:Tb):Bool:=((t.cm.length:Int)==t.r.n)&& !t.on
theorem h_.eq (k:Nat) (t:Tb):t.ap (h_.f k)=some (jj t):=by
 unfold jj
 show (bif ((t.cm.length:Int)==t.r.n) then _ else _)=_
 cases ((t.cm.length:Int)==t.r.n)<;>rfl
theorem il.eq (k:Nat) (t:Tb):t.ap (il.f k)=some (jj t):=by
 unfold jj
 show (bif ((t.cm.length:Int)==t.r.n) then _ else _)=_
 cases ((t.cm.length:Int)==t.r.n)<;>rfl
def ma (t:Tb) (ss bs rd:List Int):Tb:=⟨t.r,t.cm,true,(eQ t.cm ss bs).1,(dJ t.r (eQ t.cm ss bs).1).1,rd,t.gp⟩
def gU (t:Tb) (ss bs:List Int):Tb×Bool:=done t (ma t ss bs []) (jj t&&(eQ t.cm ss bs).2&&(dJ t.r (eQ t.cm ss bs).1).2)
theorem nB (t:Tb) (ss bs:List Int):N1 (eQ t.cm ss bs).1:=by have:=AU t.cm ss bs;show _<_;omega
theorem xk {t:Tb} (h:t.sm) (ss bs:List Int):(gU t ss bs).1.sm:=ur _ h h.1 (nB t ss bs) (oY h.1 _)
theorem lr {t:Tb} (h:t.sm) (ss bs:List Int) {rd:List Int} (hr:rd.length<1073741824):(ma t ss bs rd).KT:=⟨h.1,nB t ss bs,oY h.1 _,hr,(Tb.pX h).2.2.2.2.1,(Tb.pX h).2.2.2.2.2⟩
theorem KU {t:Tb} (ss bs:List Int) (ok:Bool) (hs:ok=true->jj t=true):done t (ma t ss bs t.rd) ok=done t (ma t ss bs []) ok:=by
 unfold done
 cases ok with
 |false=>rfl
 |true=>
  cases hv:bf t with
  |false=>rfl
  |true=>
   have ho:t.on=false:=by
    have:=hs rfl
    unfold jj at this
    simp only[Bool.and_eq_true,Bool.not_eq_true'] at this
    exact this.2
   have:t.rd=[]:=by
    unfold bf at hv
    rw[ho] at hv
    simp only[cond_false,Bool.and_eq_true,beq_iff_eq] at hv
    exact List.length_eq_zero_iff.1 (by have:=hv.2.1.2;omega)
   rw[this]
theorem ia.eq {k:Nat} (hk:cO<=k) {t:Tb} (h:t.sm) (ss bs:List Int):t.ap (ia.f k) ss bs=some ((gU t ss bs).1.jx (gU t ss bs).2):=by
 have hr:t.rd.length<1073741824:=(Tb.pX h).2.2.2.1
 refine (aa (bq.eq hk h)).trans ((aa (gx.eq hk ss bs h.2.1)).trans ((aa (fC.eq hk h.1 (nB t ss bs))).trans ?_))
 rcases Bool.eq_false_or_eq_true (eQ t.cm ss bs).2 with h1|h1
 ·refine (ak h1).trans ?_
  rcases Bool.eq_false_or_eq_true (dJ t.r (eQ t.cm ss bs).1).2 with h2|h2
  ·have e:gU t ss bs=done t (ma t ss bs t.rd) (jj t):=(congrArg (done t _) (by rw[h1,h2,Bool.and_true,Bool.and_true])).trans (KU ss bs (jj t) id).symm
   rw[e]
   exact (ak h2).trans ((aa (h_.eq k t)).trans ((aa (bW.eq hk (jj t) h (lr h ss bs hr))).trans rfl))
  ·have e:gU t ss bs=done t (ma t ss bs t.rd) false:=(congrArg (done t _) (by rw[h2,Bool.and_false])).trans rfl
   rw[e]
   exact (af h2).trans ((aa (bW.eq hk false h (lr h ss bs hr))).trans rfl)
 ·have e:gU t ss bs=done t (ma t ss bs t.rd) false:=(congrArg (done t _) (by rw[h1,Bool.and_false,Bool.false_and])).trans rfl
  rw[e]
  exact (af h1).trans ((aa (bW.eq hk false h (lr h ss bs hr))).trans rfl)
theorem gb.eq {k:Nat} (hk:cO<=k) {t:Tb} (h:t.sm) (ss bs:List Int):t.ap (gb.f k) ss bs=some ((gU t ss bs).1.jx (gU t ss bs).2):=by
 have hr:([]:List Int).length<1073741824:=by decide
 refine (aa (aD.eq hk h)).trans ((aa (gz.eq hk ss bs h.2.1)).trans ((aa (fy.eq hk h.1 (nB t ss bs))).trans ((aa (il.eq k t)).trans ?_)))
 rcases Bool.eq_false_or_eq_true (jj t) with h0|h0
 ·refine (ak h0).trans ?_
  rcases Bool.eq_false_or_eq_true (eQ t.cm ss bs).2 with h1|h1
  ·have e:gU t ss bs=done t (ma t ss bs []) (dJ t.r (eQ t.cm ss bs).1).2:=congrArg (done t _) (by rw[h0,h1];rfl)
   rw[e]
   exact (ak h1).trans ((aa (au.eq hk _ h (lr h ss bs hr))).trans rfl)
  ·have e:gU t ss bs=done t (ma t ss bs []) false:=congrArg (done t _) (by rw[h1,Bool.and_false,Bool.false_and])
   rw[e]
   exact (af h1).trans ((aa (au.eq hk false h (lr h ss bs hr))).trans rfl)
 ·have e:gU t ss bs=done t (ma t ss bs []) false:=congrArg (done t _) (by rw[h0,Bool.false_and,Bool.false_and])
  rw[e]
  exact (af h0).trans ((aa (au.eq hk false h (lr h ss bs hr))).trans rfl)
def dG (t:Tb) (m:Int):Tb×Bool:=done t {t with g:=(aJ t.g m).1,rd:=t.rd++[m]} (t.on&&(aJ t.g m).2)
theorem pY {t:Tb} (h:t.sm) (m:Int):(dG t m).1.sm:=ur _ h h.1 h.2.2.1 (j9 h.2.2.2.1)
theorem mn {t:Tb} (h:t.sm) (m:Int):({t with g:=(aJ t.g m).1,rd:=t.rd++[m]}:Tb).KT:=by
 obtain ⟨h1,h2,h3,h4,h5,h6⟩:=h
 have h5:t.rd.length<1048577:=h5
 have Wy:=h6.1
 exact ⟨h1,h3,j9 h4,by show (t.rd++[m]).length<_;rw[List.length_append,List.length_singleton];omega,by show t.gp.length<_;omega,h6.2⟩
theorem fD.eq {k:Nat} (hk:cO<=k) {t:Tb} (h:t.sm) (m:Int):t.ap (fD.f k) m=some ((dG t m).1.jx (dG t m).2):=by
 have h2:t.rd.length<1048577:=h.2.2.2.2.1
 refine (aa (bq.eq hk h)).trans ((aa (ef.eq hk h.2.2.2.1 m)).trans ((ab (lN (show t.rd.length+1<=_ by omega))).trans ?_))
 rcases Bool.eq_false_or_eq_true (aJ t.g m).2 with ho|ho
 ·have e:dG t m=done t {t with g:=(aJ t.g m).1,rd:=t.rd++[m]} t.on:=congrArg (done t _) (by rw[ho,Bool.and_true])
  rw[e]
  exact (ak ho).trans ((aa (bW.eq hk t.on h (mn h m))).trans rfl)
 ·have e:dG t m=done t {t with g:=(aJ t.g m).1,rd:=t.rd++[m]} false:=congrArg (done t _) (by rw[ho,Bool.and_false])
  rw[e]
  exact (af ho).trans ((aa (bW.eq hk false h (mn h m))).trans rfl)
theorem eW.eq {k:Nat} (hk:cO<=k) {t:Tb} (h:t.sm) (m:Int):t.ap (eW.f k) m=some ((dG t m).1.jx (dG t m).2):=by
 have h2:t.rd.length<1048577:=h.2.2.2.2.1
 refine (aa (aD.eq hk h)).trans ((aa (ec.eq hk h.2.2.2.1 m)).trans ((ab (lN (show t.rd.length+1<=_ by omega))).trans ?_))
 rcases Bool.eq_false_or_eq_true t.on with ho|ho
 ·have e:dG t m=done t {t with g:=(aJ t.g m).1,rd:=t.rd++[m]} (aJ t.g m).2:=congrArg (done t _) (by rw[ho,Bool.true_and])
  rw[e]
  exact (ak ho).trans ((aa (au.eq hk _ h (mn h m))).trans rfl)
 ·have e:dG t m=done t {t with g:=(aJ t.g m).1,rd:=t.rd++[m]} false:=congrArg (done t _) (by rw[ho,Bool.false_and])
  rw[e]
  exact (af ho).trans ((aa (au.eq hk false h (mn h m))).trans rfl)
def iw (t:Tb) (c:Int):Tb×Bool:=bif dy c then dG t c else (t,false)
theorem xl {t:Tb} (h:t.sm) (c:Int):(iw t c).1.sm:=by
 unfold iw
 cases dy c with
 |false=>exact h
 |true=>exact pY h c
theorem ib.eq {k:Nat} (hk:cO<=k) {t:Tb} (h:t.sm) (c:Int):t.ap (ib.f k) c=some ((iw t c).1.jx (iw t c).2):=by
 refine (aa (bZ.eq ..)).trans ?_
 unfold iw
 cases dy c with
 |false=>exact (ak rfl).trans ((aa (bq.eq hk h)).trans rfl)
 |true=>exact (af rfl).trans ((aa (fD.eq hk h c)).trans rfl)
theorem gd.eq {k:Nat} (hk:cO<=k) {t:Tb} (h:t.sm) (c:Int):t.ap (gd.f k) c=some ((iw t c).1.jx (iw t c).2):=by
 refine (aa (bX.eq ..)).trans ?_
 unfold iw
 cases dy c with
 |false=>exact (ak rfl).trans ((aa (aD.eq hk h)).trans rfl)
 |true=>exact (af rfl).trans ((aa (eW.eq hk h c)).trans rfl)
theorem f_.eq {k:Nat} (hk:cO<=k) {t:Tb} (h:t.sm):t.ap (f_.f k)=some ((dG t (-1)).1.jx (dG t (-1)).2):=aa (fD.eq hk h (-1))
theorem gf.eq {k:Nat} (hk:cO<=k) {t:Tb} (h:t.sm):t.ap (gf.f k)=some ((dG t (-1)).1.jx (dG t (-1)).2):=aa (eW.eq hk h (-1))
def valueOf (c:Int):Int:=bif decide (fi c<0) then 0 else bif decide (fi c<=8) then fi c+2 else bif fi c==12 then 1 else 10
theorem mR (c:Int):0<=valueOf c/\valueOf c<=10:=by
 have:=wB c
 unfold valueOf
 cases h:decide (fi c<0) with
 |true=>simp
 |false=>
  have:=of_decide_eq_false h
  cases h2:decide (fi c<=8) with
  |true=>have:=of_decide_eq_true h2;simp only[cond_true,cond_false];omega
  |false=>cases (fi c==12)<;>simp
theorem iW.eq (k:Nat) (c:Int):iW.f k c=some (valueOf c):=by
 have:=wB c
 refine (aa (dA.eq ..)).trans ?_
 rw[wrap_i64 (by omega) (by omega)]
 unfold valueOf
 cases decide (fi c<0)<;>cases decide (fi c<=8)<;>cases (fi c==12)<;>rfl
theorem iX.eq (k:Nat) (c:Int):iX.f k c=some (valueOf c):=by
 have:=wB c
 refine (aa (dz.eq ..)).trans ?_
 rw[wrap_i64 (by omega) (by omega)]
 unfold valueOf
 cases decide (fi c<0)<;>cases decide (fi c<=8)<;>cases (fi c==12)<;>rfl
def jn (h:List Int):Int:=(h.map valueOf).sum
theorem wJ: ∀(l:List Int) (b:Int),l.foldl (fun b a=>b+valueOf a) b=b+jn l
 | [],b=>by simp[jn]
 |a::l,b=>by
  rw[List.foldl_cons,wJ l]
  unfold jn
  rw[List.map_cons,List.sum_cons];omega
theorem yL: ∀(l:List Int),0<=jn l/\jn l<=10*(l.length:Int)
 | []=>by simp[jn]
 |a::l=>by
  have:=yL l
  have:=mR a
  unfold jn at*
  rw[List.map_cons,List.sum_cons,List.length_cons]
  omega
theorem da.eq {k:Nat} (hk:cO<=k) {l:List Int} (hl:l.length<1048577):da.f k l=some (jn l):=by
 have h:=scan (B:=Int) l (fun m b i=>da.l3 k l (fun x=>some x) m b i) (fun _ _=>true) (fun b a=>b+valueOf a) (fun x=>some x) (fun _ _=>none) (fun i b=>0<=b/\b<=10*(i:Int))
  (fun m b i h hI=>by
    have:=mR l[i]
    refine (da.aE ..).trans ((ak (ae (by omega))).trans ((ab (cy h)).trans ?_))
    rw[Int.toNat_natCast,aP _ h,aR (by omega)]
    refine (aa (iW.eq ..)).trans ?_
    rw[wrap_i64 (by omega) (by omega)]
    rfl)
  (fun b i h hI _=>by have:=mR l[i];omega)
  (fun m b hI=>(da.aE ..).trans (af (aM (by omega))))
  l.length 0 k 0 (by omega) (cU hk hl) (by simp)
 refine h.trans ?_
 rw[List.drop_zero,dC,wJ,Int.zero_add]
theorem db.eq {k:Nat} (hk:cO<=k) {l:List Int} (hl:l.length<1048577):db.f k l=some (jn l):=by
 have h:=scan (B:=Int) l (fun m b i=>db.l3 k l (l.length:Int) (fun x=>some x) m b i) (fun _ _=>true) (fun b a=>b+valueOf a) (fun x=>some x) (fun _ _=>none) (fun i b=>0<=b/\b<=10*(i:Int))
  (fun m b i h hI=>by
    have:=mR l[i]
    refine (db.aE ..).trans ((ak (ae (by omega))).trans ((ab (cy h)).trans ?_))
    rw[Int.toNat_natCast,aP _ h,aR (by omega)]
    refine (aa (iX.eq ..)).trans ?_
    rw[wrap_i64 (by omega) (by omega)]
    rfl)
  (fun b i h hI _=>by have:=mR l[i];omega)
  (fun m b hI=>(db.aE ..).trans (af (aM (by omega))))
  l.length 0 k 0 (by omega) (cU hk hl) (by simp)
 refine h.trans ?_
 rw[List.drop_zero,dC,wJ,Int.zero_add]
def cw (g:Gm):List Int:=g.hs.map jn
theorem sF {g:Gm} (h: ∀y∈g.hs,y.length<1048577): ∀x∈cw g,0<=x/\x<=10485760:=by
 intro x hx
 obtain ⟨y,hy,rfl⟩:=List.mem_map.1 hx
 have:=yL y
 have:=h y hy
 omega
theorem bG.eq {k:Nat} (hk:cO<=k) {g:Gm} (h:g.sm):g.ap (bG.f k)=some (cw g):=by
 have hl:=h.2.1
 have h:=scan (B:=List Int) g.hs (fun m b i=>bG.l3 k g.hs (fun x=>some x) m i b) (fun _ _=>true) (fun b a=>b++[jn a]) (fun x=>some x) (fun _ _=>none) (fun i b=>b.length=i)
  (fun m b i h hI=>by
    have:=hl.1
    refine (bG.aE ..).trans ((ak (ae (by omega))).trans ((ab (cy h)).trans ?_))
    rw[Int.toNat_natCast,aP _ h,aR (by omega)]
    exact (aa (da.eq hk (hl.2 _ (List.getElem_mem h)))).trans (ab (lN (by omega))))
  (fun b i h hI _=>by simp;omega)
  (fun m b hI=>(bG.aE ..).trans (af (aM (by omega))))
  g.hs.length 0 k [] (by omega) (cU hk hl.1) rfl
 refine h.trans ?_
 rw[List.drop_zero,dC,mN jn]
 rfl
theorem bH.eq {k:Nat} (hk:cO<=k) {g:Gm} (h:g.sm):g.ap (bH.f k)=some (cw g):=by
 have hl:=h.2.1
 have h:=scan (B:=List Int) g.hs (fun m b i=>bH.l3 k g.hs (g.hs.length:Int) (fun x=>some x) m i b) (fun _ _=>true) (fun b a=>b++[jn a]) (fun x=>some x) (fun _ _=>none) (fun i b=>b.length=i)
  (fun m b i h hI=>by
    have:=hl.1
    refine (bH.aE ..).trans ((ak (ae (by omega))).trans ((ab (cy h)).trans ?_))
    rw[Int.toNat_natCast,aP _ h,aR (by omega)]
    exact (aa (db.eq hk (hl.2 _ (List.getElem_mem h)))).trans (ab (lN (by omega))))
  (fun b i h hI _=>by simp;omega)
  (fun m b hI=>(bH.aE ..).trans (af (aM (by omega))))
  g.hs.length 0 k [] (by omega) (cU hk hl.1) rfl
 refine h.trans ?_
 rw[List.drop_zero,dC,mN jn]
 rfl
theorem jv.eq {k:Nat} (hk:cO<=k) {g:Gm} (h:g.sm):g.ap (jv.f k)=some (gM g):=by
 refine (aa (aW.eq hk h)).trans ?_
 unfold gM
 cases c_ g with
 |false=>rfl
 |true=>exact (af rfl).trans (aa (bK.eq hk g h.2.1.1))
theorem dq.KM {k:Nat} (hk:cO<=k) {r:List Int} (hr:r.length<1048577) (hp: ∀x∈r,0<=x/\x<=10485760):dq.f k r=some r.sum:=by
 have h:=scan (B:=Int) r (fun m b i=>dq.l3 k r (r.length:Int) (fun x=>some x) m b i) (fun _ _=>true) (fun b a=>b+a) (fun x=>some x) (fun _ _=>none) (fun i b=>0<=b/\b<=10485760*(i:Int))
  (fun m b i h hI=>by
    have:=hp _ (List.getElem_mem h)
    refine (dq.aE ..).trans ((ak (ae (by omega))).trans ((ab (cy h)).trans ?_))
    rw[Int.toNat_natCast,aP _ h,wrap_i64 (by omega) (by omega),aR (by omega)]
    rfl)
  (fun b i h hI _=>by have:=hp _ (List.getElem_mem h);omega)
  (fun m b hI=>(dq.aE ..).trans (af (aM (by omega))))
  r.length 0 k 0 (by omega) (cU hk hr) (by simp)
 refine h.trans ?_
 rw[List.drop_zero,dC,foldl_add,Int.zero_add]
theorem aK.sum {R:Type} {k:Nat} (hk:cO<=k) {r:List Int} (hr:r.length<1048577) (hp: ∀x∈r,0<=x/\x<=10485760) (e0:Int->Option R):aK.PZ k r e0 k (0:Int) (0:Int)=e0 r.sum:=by
 have h:=scan (B:=Int) r (fun m b i=>aK.PZ k r e0 m b i) (fun _ _=>true) (fun b a=>b+a) e0 (fun _ _=>none) (fun i b=>0<=b/\b<=10485760*(i:Int))
  (fun m b i h hI=>by
    have:=hp _ (List.getElem_mem h)
    refine (aK.DS ..).trans ((ak (ae (by omega))).trans ((ab (cy h)).trans ?_))
    rw[Int.toNat_natCast,aP _ h,wrap_i64 (by omega) (by omega),aR (by omega)]
    rfl)
  (fun b i h hI _=>by have:=hp _ (List.getElem_mem h);omega)
  (fun m b hI=>(aK.DS ..).trans (af (aM (by omega))))
  r.length 0 k 0 (by omega) (cU hk hr) (by simp)
 refine h.trans ?_
 rw[List.drop_zero,dC,foldl_add,Int.zero_add]
def settled (g:Gm):List Int:=bif c_ g then bif decide (gM g<0) then List.replicate g.hs.length 0 else ((cw g).map fun x=>0-x).set (gM g).toNat (cw g).sum else []
theorem Ec (w:Nat) (S:Int): ∀(l b:List Int),l.foldl (fun b a=>b++[bif ((b.length:Int)==(w:Int)) then S else 0-a]) b=b++(if b.length<=w then (l.map fun x=>0-x).set (w-b.length) S else l.map fun x=>0-x)
 | [],b=>by simp
 |a::l,b=>by
  rw[List.foldl_cons,Ec w S l,List.length_append,List.length_singleton,List.append_assoc]
  congr 1
  by_cases h:b.length=w
  ·rw[if_neg (by omega),if_pos (by omega),show w-b.length=0 by omega]
   rw[show ((b.length:Int)==(w:Int))=true by simp[h]]
   rfl
  ·rw[show ((b.length:Int)==(w:Int))=false by simp;omega]
   by_cases h2:b.length<=w
   ·rw[if_pos (by omega),if_pos h2,show w-b.length=(w-(b.length+1))+1 by omega]
    rfl
   ·rw[if_neg (by omega),if_neg h2]
    rfl
theorem BE: ∀(l b:List Int),l.foldl (fun b _=>b++[(0:Int)]) b=b++List.replicate l.length 0
 | [],b=>by simp
 |a::l,b=>by
  rw[List.foldl_cons,BE l,List.length_cons,List.replicate_succ,List.append_assoc];rfl
theorem aK.eq {k:Nat} (hk:cO<=k) {g:Gm} (h:g.sm):g.ap (aK.f k)=some (settled g):=by
 have hb:=sF (g:=g) h.2.1.2
 have RB:(cw g).length=g.hs.length:=by simp[cw]
 have OI:(cw g).length<1048577:=by rw[RB];exact h.2.1.1
 refine (aa (bG.eq hk h)).trans ((aa (jv.eq hk h)).trans ?_)
 unfold settled
 cases hg:c_ g with
 |false=>
  obtain ⟨n,rfl⟩: ∃n',k=n' +1:=⟨k-1,by simp[cO] at hk;omega⟩
  refine (aK.de ..).trans ?_
  by_cases hz:(0:Int)<((cw g).length:Int)
  ·refine (ak (ae hz)).trans ((aa (aW.eq hk h)).trans ?_)
   rw[hg];rfl
  ·exact af (aM hz)
 |true=>
  have T0:=aW.eq hk h
  rw[hg] at T0
  cases hw:decide (gM g<0) with
  |true=>
   have h:=scan (B:=List Int) (cw g) (fun m b i=>aK.l5 k (gM g) g.r.n g.r.e g.r.b1 g.r.b2 g.r.w g.r.f g.r.t g.r.l g.hs g.st g.hp g.tn g.mv g.ps (cw g) (fun x=>some x) m i b) (fun _ _=>true) (fun b _=>b++[0]) (fun x=>some x) (fun _ _=>none) (fun i b=>b.length=i)
    (fun m b i h hI=>by
      refine (aK.de ..).trans ((ak (ae (by omega))).trans ((aa T0).trans ((ak rfl).trans ((ak hw).trans ((ab (lN (by omega))).trans ?_)))))
      rw[aR (by omega)]
      rfl)
    (fun b i h hI _=>by simp;omega)
    (fun m b hI=>(aK.de ..).trans (af (aM (by omega))))
    (cw g).length 0 k [] (by omega) (cU hk OI) rfl
   refine h.trans ?_
   rw[List.drop_zero,dC,BE,RB]
   rfl
  |false=>
   have KV:=of_decide_eq_false hw
   have h:=scan (B:=List Int) (cw g) (fun m b i=>aK.l5 k (gM g) g.r.n g.r.e g.r.b1 g.r.b2 g.r.w g.r.f g.r.t g.r.l g.hs g.st g.hp g.tn g.mv g.ps (cw g) (fun x=>some x) m i b) (fun _ _=>true) (fun b a=>b++[bif ((b.length:Int)==(((gM g).toNat:Nat):Int)) then (cw g).sum else 0-a]) (fun x=>some x) (fun _ _=>none) (fun i b=>b.length=i)
    (fun m b i h hI=>by
      have hx:=hb _ (List.getElem_mem h)
      refine (aK.de ..).trans ((ak (ae (by omega))).trans ((aa T0).trans ((ak rfl).trans ((af hw).trans ?_))))
      rw[aR (by omega),hI,show (((gM g).toNat:Nat):Int)=gM g by omega]
      cases ((i:Int)==gM g) with
      |true=>exact (ak rfl).trans ((aK.sum hk OI hb _).trans (ab (lN (by omega))))
      |false=>
       refine (af rfl).trans ((ab (cy h)).trans ((ab (lN (by omega))).trans ?_))
       rw[Int.toNat_natCast,aP _ h,wrap_i64 (by omega) (by omega)]
       rfl)
    (fun b i h hI _=>by simp;omega)
    (fun m b hI=>(aK.de ..).trans (af (aM (by omega))))
    (cw g).length 0 k [] (by omega) (cU hk OI) rfl
   refine h.trans ?_
   rw[List.drop_zero,dC,Ec]
   simp
theorem Jg {g:Gm} (h:0<=gM g):gM g<(g.hs.length:Int):=by
 unfold gM at*
 cases hg:c_ g<;>rw[hg] at h
 ·simp at h
 ·simp only[cond_true] at*
  rcases Bv g.hs 0 with h1|h1<;>omega
theorem ck.fill {R:Type} (k:Nat) (l:List Int) (hl:l.length<1048577) (hb: ∀x∈l,0<=x/\x<=10485760) (e0:List Int->Option R): ∀(m i n:Nat),i+m=l.length->m<n->ck.l8 k (l.length:Int) l e0 n (i:Int) ((l.map fun x=>0-x).take i++List.replicate m 0)=e0 (l.map fun x=>0-x):=by
 intro m
 induction m with
 |zero=>
  intro i n hi hn
  obtain ⟨n,rfl⟩: ∃n',n=n' +1:=⟨n-1,by omega⟩
  refine (ck.Ik ..).trans ((af (aM (by omega))).trans ?_)
  rw[show (l.map fun x=>0-x).take i=l.map fun x=>0-x from List.take_of_length_le (by rw[List.length_map];omega),List.replicate_zero,List.append_nil]
 |succ m ih=>
  intro i n hi hn
  obtain ⟨n,rfl⟩: ∃n',n=n' +1:=⟨n-1,by omega⟩
  have h:i<l.length:=by omega
  have hx:=hb _ (List.getElem_mem h)
  have Vs:(l.map fun x=>0-x).length=l.length:=List.length_map _
  refine (ck.Ik ..).trans ((ak (ae (by omega))).trans ((ab (cy h)).trans ((ab (cy (by rw[Kw (by omega)];omega))).trans ?_)))
  rw[aR (by omega),Int.toNat_natCast,aP _ h,wrap_i64 (by omega) (by omega)]
  have hc:=I5 (l:=l.map fun x=>0-x) (i:=i) (m:=m) (d:=0) (by omega)
  rw[List.getElem_map] at hc
  rw[hc]
  exact ih (i+1) n (by omega) (by omega)
theorem ck.eq {k:Nat} (hk:cO<=k) {g:Gm} (h:g.sm):g.ap (ck.f k)=some (settled g):=by
 have hb:=sF (g:=g) h.2.1.2
 have RB:(cw g).length=g.hs.length:=by simp[cw]
 have OI:(cw g).length<1048577:=by rw[RB];exact h.2.1.1
 refine (aa (cT.eq hk h)).trans ?_
 unfold settled
 cases hg:c_ g with
 |false=>rfl
 |true=>
  refine (af rfl).trans ((aa (bY.eq hk h)).trans ((aa (bH.eq hk h)).trans ((ab (ch (ae (by omega)) (lN (by omega)))).trans ?_)))
  rw[Int.toNat_natCast]
  cases hw:decide (gM g<0) with
  |true=>rw[RB];rfl
  |false=>
   have KV:=of_decide_eq_false hw
   have X1:=Jg (g:=g) (by omega)
   refine (af rfl).trans ?_
   have Vs:((cw g).map fun x=>0-x).length=(cw g).length:=List.length_map _
   have hf:=ck.fill k (cw g) OI hb (fun x4=>(dq.f k (cw g)).bind fun r5=>aC ((decide ((0:Int)<=gM g))&&(decide (gM g<(x4.length:Int))))<|some (x4.set (gM g).toNat r5)) (cw g).length 0 k (by omega) (cU hk OI)
   rw[List.take_zero,List.nil_append] at hf
   refine Eq.trans hf ?_
   refine (aa (dq.KM hk OI hb)).trans ((ab (ch (ae (by omega)) (ae (by rw[Vs];omega)))).trans ?_)
   rfl
theorem Ed {g:Gm} (h:c_ g=true):(settled g).length=g.hs.length:=by
 unfold settled
 rw[h]
 cases decide (gM g<0) with
 |true=>simp
 |false=>simp[cw]
theorem iV.eq {k:Nat} (hk:cO<=k) {g:Gm} (h:g.sm):g.ap (iV.f k)=some (jL g):=by
 refine (aa (aW.eq hk h)).trans ?_
 unfold jL
 cases c_ g with
 |false=>rfl
 |true=>exact (ak rfl).trans (aa (ek.eq hk g h.2.1.1))
theorem G7 (g:Gm):(settled g).length<=6:=by
 cases h:c_ g with
 |true=>rw[Ed h];exact (tk h).1
 |false=>unfold settled;rw[h];simp
def kU (t:Tb):Tb:=⟨t.r,[],false,[],yJ,[],t.gp++[settled t.g]⟩
def fv (t:Tb):Tb×Bool:=done t (kU t) (t.on&&jL t.g)
theorem sG {t:Tb} (h:t.sm):(fv t).1.sm:=ur _ h h.1 (by show ([]:List Int).length<_;decide) um
theorem o3 {t:Tb} (h:t.sm):(kU t).KT:=by
 have h6:=h.2.2.2.2.2
 have Wy:=h6.1
 refine ⟨h.1,by show ([]:List Int).length<_;decide,um,by show ([]:List Int).length<_;decide,by show (t.gp++[settled t.g]).length<_;rw[List.length_append,List.length_singleton];omega,fun y hy=> ?_⟩
 rcases List.mem_append.1 (show y∈t.gp++[settled t.g] from hy) with hy|hy
 ·exact h6.2 y hy
 ·rw[List.mem_singleton.1 hy];have:=G7 t.g;omega
theorem eL.eq {k:Nat} (hk:cO<=k) {t:Tb} (h:t.sm):t.ap (eL.f k)=some ((fv t).1.jx (fv t).2):=by
 have h2:t.gp.length<1048577:=h.2.2.2.2.2.1
 refine (aa (bq.eq hk h)).trans ?_
 rcases Bool.eq_false_or_eq_true t.on with ho|ho
 ·refine (af (by rw[ho];rfl)).trans ((aa (iV.eq hk h.2.2.2.1)).trans ?_)
  rcases Bool.eq_false_or_eq_true (jL t.g) with he|he
  ·have e:fv t=done t (kU t) true:=congrArg (done t _) (by rw[ho,he];rfl)
   rw[e]
   exact (af (by rw[he];rfl)).trans ((aa (aK.eq hk h.2.2.2.1)).trans ((ab (GV (show t.gp.length+1<=_ by omega))).trans ((aa (bW.eq hk true h (o3 h))).trans rfl)))
  ·have e:fv t=(t,false):=(congrArg (done t (kU t)) (by rw[ho,he];rfl:(t.on&&jL t.g)=false)).trans rfl
   rw[e]
   exact (ak (by rw[he];rfl)).trans rfl
 ·have e:fv t=(t,false):=(congrArg (done t (kU t)) (by rw[ho];rfl:(t.on&&jL t.g)=false)).trans rfl
  rw[e]
  exact (ak (by rw[ho];rfl)).trans rfl
theorem fg.eq {k:Nat} (hk:cO<=k) {t:Tb} (h:t.sm):t.ap (fg.f k)=some ((fv t).1.jx (fv t).2):=by
 have h2:t.gp.length<1048577:=h.2.2.2.2.2.1
 refine (aa (aD.eq hk h)).trans ((aa (ck.eq hk h.2.2.2.1)).trans ((ab (GV (show t.gp.length+1<=_ by omega))).trans ?_))
 rcases Bool.eq_false_or_eq_true t.on with ho|ho
 ·have e:fv t=done t (kU t) (jL t.g):=congrArg (done t _) (by rw[ho,Bool.true_and])
  rw[e]
  exact (ak ho).trans ((aa (eh.eq hk h.2.2.2.1)).trans ((aa (au.eq hk (jL t.g) h (o3 h))).trans rfl))
 ·have e:fv t=done t (kU t) false:=congrArg (done t _) (by rw[ho,Bool.false_and])
  rw[e]
  exact (af ho).trans ((aa (au.eq hk false h (o3 h))).trans rfl)
abbrev Tb.pm {β:Type} (F:Int->Int->Bool->Bool->Int->Int->Bool->Int->Int->Bool->Bool->Int->Int->Int->Int->Int->List Int->List Int->List Int->List Int->List Int->List Int->List (List Int)->List Int->List Int->List Int->List (List Int)->β) (t:Tb):β:=F t.r.n t.r.e t.r.b1 t.r.b2 t.r.t t.r.l t.on t.g.r.n t.g.r.e t.g.r.b1 t.g.r.b2 t.g.r.t t.g.r.l t.g.tn t.g.mv t.g.ps t.r.w t.r.f t.cm t.jy t.g.r.w t.g.r.f t.g.hs t.g.st t.g.hp t.rd t.gp
abbrev BF (r:Rl):Tb:=⟨r,[],false,[],yJ,[],[]⟩
theorem Ee {r:Rl} (h:r.sm):(BF r).sm:=⟨h,by show ([]:List Int).length<_;simp,by show ([]:List Int).length<_;simp,um,by show ([]:List Int).length<_;simp,by show ([]:List (List Int)).length<_;simp,fun y hy=>by cases hy⟩
theorem ed.made {k:Nat} (hk:cO<=k) {r:Rl} (h:r.sm) (ho:r.ok=true):r.ap (ed.f k)=some ((BF r).jx true):=by
 refine (aa (qF hk h)).trans ?_
 rw[ho]
 exact (af rfl).trans (aa (dh.eq k h))
theorem Ef {r:Rl} (ho:r.ok=true):bf (BF r)=true:=by
 have hn:=(lP ho).1
 unfold bf lG
 rw[ho,aM (by show ¬((([]:List Int).length:Int)>r.n);simp;omega),eD.2 hn]
 rfl
theorem lx {t u:Tb} {ok:Bool} (h:bf t=true):bf (done t u ok).1=true:=by
 unfold done
 cases hc:(ok&&bf t&&bf u) with
 |false=>exact h
 |true=>exact (Bool.and_eq_true_iff.1 hc).2
abbrev Tb.yk {E:Type} (t:Tb) (e:E):Int×Int×Bool×Bool×List Int×List Int×Int×Int×List Int×Bool×List Int×Int×Int×Bool×Bool×List Int×List Int×Int×Int×List (List Int)×List Int×List Int×Int×Int×Int×List Int×List (List Int)×E:=(t.r.n,t.r.e,t.r.b1,t.r.b2,t.r.w,t.r.f,t.r.t,t.r.l,t.cm,t.on,t.jy,t.g.r.n,t.g.r.e,t.g.r.b1,t.g.r.b2,t.g.r.w,t.g.r.f,t.g.r.t,t.g.r.l,t.g.hs,t.g.st,t.g.hp,t.g.tn,t.g.mv,t.g.ps,t.rd,t.gp,e)
theorem G8 (t:Tb) (s:Int):(fo t s).1.r=t.r:=by
 unfold fo done
 cases (!t.on&&bf t&&bf {t with cm:=t.cm++[s]})<;>rfl
theorem yM {t:Tb} (h:bf t=true) (c:Int):bf (iw t c).1=true:=by
 unfold iw
 cases dy c with
 |true=>exact lx h
 |false=>exact h
theorem bm.loop {R:Type} {k:Nat} (hk:cO<=k) (s:Int) (e0:Int->Int->Bool->Bool->List Int->List Int->Int->Int->List Int->Bool->List Int->Int->Int->Bool->Bool->List Int->List Int->Int->Int->List (List Int)->List Int->List Int->Int->Int->Int->List Int->List (List Int)->List Int->List Int->Option R): ∀(m j n:Nat) (t:Tb) (ss bs:List Int),t.sm->bf t=true->m<n->(j:Int)+(m:Int)=t.r.n->t.r.n<=6->ss.length=j->bs.length=j->
 ∃(u:Tb) (N3 Mk:List Int),t.ap (bm.l4 k s e0 n (j:Int)) ss bs=u.ap e0 N3 Mk/\u.sm/\bf u=true
 |m,j,0,t,ss,bs,_,_,hn,_,_,_,_=>absurd hn (by omega)
 |0,j,n+1,t,ss,bs,ht,ho,hn,hm,h6,hs,hb=>⟨t,ss,bs,(bm.gH ..).trans (af (aM (by omega))),ht,ho⟩
 |m+1,j,n+1,t,ss,bs,ht,ho,hn,hm,h6,hs,hb=>by
  have e1:=cu.eq hk (j:Int) (IntKind.wrap .i64 (s+(j:Int))) 5
  generalize pQ [(j:Int),IntKind.wrap .i64 (s+(j:Int)),5] =x at e1
  have e2:=cX.eq hk ht x
  have Jh:=nA ht x
  have hT:bf (fo t x).1=true:=lx ho
  have k1:=G8 t x
  generalize fo t x=q at e2 Jh k1 hT
  obtain ⟨u,N3,Mk,e,h1,h2⟩:=bm.loop hk s e0 m (j+1) n q.1 (ss++[IntKind.wrap .i64 (s+(j:Int))]) (bs++[5]) Jh hT (by omega) (by rw[k1];omega) (by rw[k1];omega) (by simp;omega) (by simp;omega)
  refine ⟨u,N3,Mk,?_,h1,h2⟩
  rw[<- aR (by omega)] at e
  exact (bm.gH ..).trans ((ak (ae (by omega))).trans ((aa e1).trans ((aa e2).trans ((ab (lN (by omega))).trans ((ab (lN (by omega))).trans e)))))
theorem bm.ok {k:Nat} (hk:cO<=k) {t:Tb} (ht:t.sm) (hT:bf t=true) (s:Int): ∃u:Tb,t.ap (bm.f k) s=some u.tp/\u.sm/\bf u=true:=by
 have hn:=(lP (tv hT).1).1
 have lp:=fun e0=>bm.loop (R:=Int×Int×Bool×Bool×List Int×List Int×Int×Int×List Int×Bool×List Int×Int×Int×Bool×Bool×List Int×List Int×Int×Int×List (List Int)×List Int×List Int×Int×Int×Int×List Int×List (List Int)) hk s e0 t.r.n.toNat 0 k t [] [] ht hT (by simp[cO] at hk;omega) (by omega) (by omega) rfl rfl
 obtain ⟨u,ss,bs,e,us,uT⟩:=lp _
 have e2:=ia.eq hk us ss bs
 have h2:=xk us ss bs
 have h3:bf (gU u ss bs).1=true:=lx uT
 generalize gU u ss bs=q at e2 h2 h3
 exact ⟨q.1,e.trans (aa e2),h2,h3⟩
theorem ic.ok {k:Nat} (hk:cO<=k) {b:List Int} {i:Int} (h:Int) (hc:su b i) {t:Tb} (ht:t.sm) (hT:bf t=true): ∃(u:Tb) (i' h':Int),t.ap (ic.f k b i h)=some (u.yk (b,i',h'))/\su b i' /\u.sm/\bf u=true:=by
 have ep:=bp.eq hk ht.2.2.2.1
 have et:=f_.eq hk ht
 have h2:=pY ht (-1)
 have h3:bf (dG t (-1)).1=true:=lx hT
 generalize dG t (-1)=q at et h2 h3
 by_cases hp:((eP t.g).length:Int)>0
 ·obtain ⟨o,i1,h1,e1,c1⟩:=aI.ok k h 4 hc
  cases o with
  |true=>exact ⟨q.1,i1,h1,(aa ep).trans ((ak (ae hp)).trans ((aa e1).trans ((af rfl).trans (aa et)))),c1,h2,h3⟩
  |false=>
   obtain ⟨x,i2,TY,e2,c2,p1,p2,_⟩:=ao.ok k h1 ((eP t.g).length:Int) c1
   have p2:=p2 (by omega)
   have es:=ib.eq hk ht ((eP t.g).getD x.toNat 0)
   have h4:=xl ht ((eP t.g).getD x.toNat 0)
   have h5:=yM hT ((eP t.g).getD x.toNat 0)
   generalize iw t ((eP t.g).getD x.toNat 0)=p at es h4 h5
   exact ⟨p.1,i2,TY,(aa ep).trans ((ak (ae hp)).trans ((aa e1).trans ((ak rfl).trans ((aa e2).trans ((ab (ch (ae p1) (ae p2))).trans (aa es)))))),c2,h4,h5⟩
 ·exact ⟨q.1,i,h,(aa ep).trans ((af (aM hp)).trans (aa et)),hc,h2,h3⟩
theorem aT.loop {R:Type} {k:Nat} (hk:cO<=k) (e0:List Int->Int->Int->Int->Int->Bool->Bool->Int->Int->Bool->Int->Int->Bool->Bool->Int->Int->Int->Int->Int->List Int->List Int->List Int->List Int->List Int->List Int->List (List Int)->List Int->List Int->List Int->List (List Int)->Option R): ∀(m n:Nat) {b:List Int} {i:Int} (h:Int) (t:Tb),su b i->m<n->m<=100->t.sm->bf t=true->
 ∃(u:Tb) (i' h':Int),t.pm (aT.l10 k e0 n (m:Int) b i h)=u.pm (e0 b i' h')/\su b i' /\u.sm/\bf u=true
 |m,0,b,i,h,t,_,hn,_,_,_=>absurd hn (by omega)
 |0,n+1,b,i,h,t,hc,hn,hm,ht,hT=>⟨t,i,h,(aT.DT ..).trans (af (aM (by omega))),hc,ht,hT⟩
 |m+1,n+1,b,i,h,t,hc,hn,hm,ht,hT=>by
  have ew:IntKind.wrap .i64 (((m+1:Nat):Int)-1)=(m:Int):=by rw[wrap_i64 (by omega) (by omega)];omega
  obtain ⟨q,i1,h1,e1,c1,q1,q2⟩:=ic.ok hk h hc ht hT
  obtain ⟨u,i',h',e,c',u1,u2⟩:=aT.loop hk e0 m n h1 q c1 (by omega) (by omega) q1 q2
  rw[<- ew] at e
  exact ⟨u,i',h',(aT.DT ..).trans ((ak (ae (by omega))).trans ((aa e1).trans e)),c',u1,u2⟩
theorem aT.ok {k:Nat} (hk:cO<=k) {b:List Int} {i:Int} (h:Int) (hc:su b i): ∃(t:Tb) (i' h':Int),aT.f k b i h=some (t.yk (b,i',h'))/\su b i' /\t.sm/\bf t=true:=by
 obtain ⟨r0,i1,h1,e1,c1,Tq,lw,lf⟩:=di.ok hk h hc
 obtain ⟨o,i2,h2,e2,c2⟩:=aI.ok k h1 2 c1
 have rest: ∀(r:Rl) {i3:Int} (h3:Int),su b i3->r.ok=true->r.sm-> ∃(t:Tb) (i' h':Int),((r.ap (ed.f k)).bind fun fE=>
  (aI.f k b i3 h3 6).bind fun I3=>
  bif I3.1 then
   (cu.f k 0 3 5).bind fun TO=>
   (cX.f k fE.1 fE.2.1 (t2 fE).1 (t3 fE).1 (t4 fE).1 (t5 fE).1 (t6 fE).1 (t7 fE).1 (t8 fE).1 (t9 fE).1 (t9 fE.2).1 (t9 (t2 fE)).1 (t9 (t3 fE)).1 (t9 (t4 fE)).1 (t9 (t5 fE)).1 (t9 (t6 fE)).1 (t9 (t7 fE)).1 (t9 (t8 fE)).1 (t9 (t9 fE)).1 (t9 (t9 fE.2)).1 (t9 (t9 (t2 fE))).1 (t9 (t9 (t3 fE))).1 (t9 (t9 (t4 fE))).1 (t9 (t9 (t5 fE))).1 (t9 (t9 (t6 fE))).1 (t9 (t9 (t7 fE))).1 (t9 (t9 (t8 fE))).1 TO).bind fun li=>
   some (li.1,li.2.1,(t2 li).1,(t3 li).1,(t4 li).1,(t5 li).1,(t6 li).1,(t7 li).1,(t8 li).1,(t9 li).1,(t9 li.2).1,(t9 (t2 li)).1,(t9 (t3 li)).1,(t9 (t4 li)).1,(t9 (t5 li)).1,(t9 (t6 li)).1,(t9 (t7 li)).1,(t9 (t8 li)).1,(t9 (t9 li)).1,(t9 (t9 li.2)).1,(t9 (t9 (t2 li))).1,(t9 (t9 (t3 li))).1,(t9 (t9 (t4 li))).1,(t9 (t9 (t5 li))).1,(t9 (t9 (t6 li))).1,(t9 (t9 (t7 li))).1,(t9 (t9 (t8 li))).1,I3.2.1,(t2 I3).1,(t3 I3))
  else
   (ao.f k I3.2.1 (t2 I3).1 (t3 I3) 900).bind fun My=>
   (bm.f k fE.1 fE.2.1 (t2 fE).1 (t3 fE).1 (t4 fE).1 (t5 fE).1 (t6 fE).1 (t7 fE).1 (t8 fE).1 (t9 fE).1 (t9 fE.2).1 (t9 (t2 fE)).1 (t9 (t3 fE)).1 (t9 (t4 fE)).1 (t9 (t5 fE)).1 (t9 (t6 fE)).1 (t9 (t7 fE)).1 (t9 (t8 fE)).1 (t9 (t9 fE)).1 (t9 (t9 fE.2)).1 (t9 (t9 (t2 fE))).1 (t9 (t9 (t3 fE))).1 (t9 (t9 (t4 fE))).1 (t9 (t9 (t5 fE))).1 (t9 (t9 (t6 fE))).1 (t9 (t9 (t7 fE))).1 (t9 (t9 (t8 fE))).1 My.1).bind fun lj=>
   (ao.f k My.2.1 (t2 My).1 (t3 My) 10).bind fun Mz=>
   aT.l10 k (fun TP TQ TR QF QG QH QI QJ QK QL QM QN QO QP QQ QR QS QT QU QV QW QX QY QZ Q0 Q1 Q2 Q3 Q4 Q5=>
    (aI.f k TP TQ TR 2).bind fun Ks=>
    bif Ks.1 then
     (eL.f k QF QG QH QI QV QW QJ QK QX QL QY QM QN QO QP QZ Q0 QQ QR Q1 Q2 Q3 QS QT QU Q4 Q5).bind fun ll=>
     some (ll.1,ll.2.1,(t2 ll).1,(t3 ll).1,(t4 ll).1,(t5 ll).1,(t6 ll).1,(t7 ll).1,(t8 ll).1,(t9 ll).1,(t9 ll.2).1,(t9 (t2 ll)).1,(t9 (t3 ll)).1,(t9 (t4 ll)).1,(t9 (t5 ll)).1,(t9 (t6 ll)).1,(t9 (t7 ll)).1,(t9 (t8 ll)).1,(t9 (t9 ll)).1,(t9 (t9 ll.2)).1,(t9 (t9 (t2 ll))).1,(t9 (t9 (t3 ll))).1,(t9 (t9 (t4 ll))).1,(t9 (t9 (t5 ll))).1,(t9 (t9 (t6 ll))).1,(t9 (t9 (t7 ll))).1,(t9 (t9 (t8 ll))).1,Ks.2.1,(t2 Ks).1,(t3 Ks))
    else
     some (QF,QG,QH,QI,QV,QW,QJ,QK,QX,QL,QY,QM,QN,QO,QP,QZ,Q0,QQ,QR,Q1,Q2,Q3,QS,QT,QU,Q4,Q5,Ks.2.1,(t2 Ks).1,(t3 Ks))) k Mz.1 Mz.2.1 (t2 Mz).1 (t3 Mz) lj.1 lj.2.1 (t2 lj).1 (t3 lj).1 (t6 lj).1 (t7 lj).1 (t9 lj).1 (t9 (t2 lj)).1 (t9 (t3 lj)).1 (t9 (t4 lj)).1 (t9 (t5 lj)).1 (t9 (t8 lj)).1 (t9 (t9 lj)).1 (t9 (t9 (t4 lj))).1 (t9 (t9 (t5 lj))).1 (t9 (t9 (t6 lj))).1 (t4 lj).1 (t5 lj).1 (t8 lj).1 (t9 lj.2).1 (t9 (t6 lj)).1 (t9 (t7 lj)).1 (t9 (t9 lj.2)).1 (t9 (t9 (t2 lj))).1 (t9 (t9 (t3 lj))).1 (t9 (t9 (t7 lj))).1 (t9 (t9 (t8 lj))))=some (t.yk (b,i',h'))/\su b i' /\t.sm/\bf t=true:=fun r {i3} h3 c3 ro rs=>by
  have KW:=ed.made hk rs ro
  have T1:=Ee rs
  have nT:=Ef ro
  obtain ⟨o,i4,h4,e4,c4⟩:=aI.ok k h3 6 c3
  cases o with
  |true=>
   have e5:=cu.eq hk 0 3 5
   generalize pQ [(0:Int),3,5] =x at e5
   have e6:=cX.eq hk T1 x
   have s1:=nA T1 x
   have s2:bf (fo (BF r) x).1=true:=lx nT
   generalize fo (BF r) x=q at e6 s1 s2
   exact ⟨q.1,i4,h4,(aa KW).trans ((aa e4).trans ((ak rfl).trans ((aa e5).trans (aa e6)))),c4,s1,s2⟩
  |false=>
   obtain ⟨y,i5,h5,e5,c5,_⟩:=ao.ok k h4 900 c4
   obtain ⟨u,eu,us,uT⟩:=bm.ok hk T1 nT y
   obtain ⟨z,i6,h6,e6,c6,p1,p2,_⟩:=ao.ok k h5 10 c5
   have p2:=p2 (by omega)
   have lp:=fun e0=>aT.loop (R:=Int×Int×Bool×Bool×List Int×List Int×Int×Int×List Int×Bool×List Int×Int×Int×Bool×Bool×List Int×List Int×Int×Int×List (List Int)×List Int×List Int×Int×Int×Int×List Int×List (List Int)×List Int×Int×Int) hk e0 z.toNat k h6 u c6 (by simp[cO] at hk;omega) (by omega) us uT
   rw[show ((z.toNat:Nat):Int)=z by omega] at lp
   obtain ⟨v,i7,h7,e7,c7,vs,vT⟩:=lp _
   obtain ⟨o2,i8,h8,e8,c8⟩:=aI.ok k h7 2 c7
   have e9:=eL.eq hk vs
   have s1:=sG vs
   have s2:bf (fv v).1=true:=lx vT
   generalize fv v=q at e9 s1 s2
   cases o2 with
   |true=>exact ⟨q.1,i8,h8,(aa KW).trans ((aa e4).trans ((af rfl).trans ((aa e5).trans ((aa eu).trans ((aa e6).trans (e7.trans ((aa e8).trans ((ak rfl).trans (aa e9))))))))),c8,s1,s2⟩
   |false=>exact ⟨v,i8,h8,(aa KW).trans ((aa e4).trans ((af rfl).trans ((aa e5).trans ((aa eu).trans ((aa e6).trans (e7.trans ((aa e8).trans (af rfl)))))))),c8,vs,vT⟩
 cases o with
 |true=>
  obtain ⟨x,i3,h3,e3,c3,p1,p2,_⟩:=ao.ok k h2 6 c2
  have p2:=p2 (by omega)
  have ex:IntKind.wrap .i64 (1+x)=1+x:=wrap_i64 (by omega) (by omega)
  obtain ⟨t,i',h',e,c',s1,s2⟩:=rest {r0 with l:=IntKind.wrap .i64 (1+x)} h3 c3 (by
   rw[ex]
   unfold Rl.ok mj at Tq ⊢
   simp only[Bool.and_eq_true] at Tq ⊢
   exact ⟨Tq.1,eD.2 ⟨by omega,by omega⟩⟩) ⟨by show r0.w.length<_;omega,by show r0.f.length<_;omega⟩
  exact ⟨t,i',h',(aa e1).trans ((aa e2).trans ((ak rfl).trans ((aa e3).trans e))),c',s1,s2⟩
 |false=>
  obtain ⟨t,i',h',e,c',s1,s2⟩:=rest r0 h2 c2 Tq ⟨by omega,by omega⟩
  exact ⟨t,i',h',(aa e1).trans ((aa e2).trans ((af rfl).trans e)),c',s1,s2⟩
theorem AW (t:Tb) (s:Int):(fo t s).1.r=t.r/\(fo t s).1.on=t.on:=by
 unfold fo done
 cases (!t.on&&bf t&&bf {t with cm:=t.cm++[s]})<;>exact ⟨rfl,rfl⟩
abbrev Tb.OJ (t:Tb) (ss bs:List Int):Int×Int×Bool×Bool×List Int×List Int×Int×Int×List Int×Bool×List Int×Int×Int×Bool×Bool×List Int×List Int×Int×Int×List (List Int)×List Int×List Int×Int×Int×Int×List Int×List (List Int)×List Int×List Int:=(t.r.n,t.r.e,t.r.b1,t.r.b2,t.r.w,t.r.f,t.r.t,t.r.l,t.cm,t.on,t.jy,t.g.r.n,t.g.r.e,t.g.r.b1,t.g.r.b2,t.g.r.w,t.g.r.f,t.g.r.t,t.g.r.l,t.g.hs,t.g.st,t.g.hp,t.g.tn,t.g.mv,t.g.ps,t.rd,t.gp,ss,bs)
theorem aO.loop {R:Type} {k:Nat} (hk:cO<=k) (e0:Int->Int->Bool->Bool->Int->Int->Bool->Int->Int->Bool->Bool->Int->Int->Int->Int->Int->List Int->List Int->List Int->List Int->List Int->List Int->List (List Int)->List Int->List Int->List Int->List (List Int)->List Int->List Int->Option R): ∀(m j n:Nat) (t:Tb) (ss bs:List Int),t.sm->t.on=false->m<n->(j:Int)+(m:Int)=t.r.n->t.r.n<=6->ss.length=j->bs.length=j->
 ∃(u:Tb) (N3 Mk:List Int),t.pm (aO.l6 k e0 n (j:Int)) ss bs=u.pm e0 N3 Mk/\u.sm/\u.on=false/\(N3.length:Int)=t.r.n
 |m,j,0,t,ss,bs,_,_,hn,_,_,_,_=>absurd hn (by omega)
 |0,j,n+1,t,ss,bs,ht,ho,hn,hm,h6,hs,hb=>⟨t,ss,bs,(aO.gO ..).trans (af (aM (by omega))),ht,ho,by omega⟩
 |m+1,j,n+1,t,ss,bs,ht,ho,hn,hm,h6,hs,hb=>by
  have e1:=cu.eq hk (j:Int) (IntKind.wrap .i64 (7*(j:Int))) 5
  generalize pQ [(j:Int),IntKind.wrap .i64 (7*(j:Int)),5] =s at e1
  have e2:=cX.eq hk ht s
  have Jh:=nA ht s
  obtain ⟨k1,k2⟩:=AW t s
  generalize fo t s=q at e2 Jh k1 k2
  obtain ⟨u,N3,Mk,e,h1,h2,h3⟩:=aO.loop hk e0 m (j+1) n q.1 (ss++[IntKind.wrap .i64 (7*(j:Int))]) (bs++[5]) Jh (k2.trans ho) (by omega) (by rw[k1];omega) (by rw[k1];omega) (by simp;omega) (by simp;omega)
  rw[k1] at h3
  refine ⟨u,N3,Mk,?_,h1,h2,h3⟩
  rw[<- aR (by omega)] at e
  exact (aO.gO ..).trans ((ak (ae (by omega))).trans ((aa e1).trans ((aa e2).trans ((ab (lN (by omega))).trans ((ab (lN (by omega))).trans e)))))
theorem aO.ok {k:Nat} (hk:cO<=k) {a:List Int} (ha:a.length<1048577): ∃(t:Tb) (ss bs:List Int),aO.f k a=some (t.OJ ss bs)/\t.sm/\t.on=false:=by
 obtain ⟨h0,e0,c0⟩:=bw.ok hk ha
 obtain ⟨r,i1,h1,e1,c1,ro,lw,lf⟩:=di.ok hk h0 c0
 have rs:r.sm:=⟨by omega,by omega⟩
 have hn:=(lP ro).1
 have KW:=ed.made hk rs ro
 obtain ⟨o,i2,h2,e2,c2⟩:=aI.ok k h1 3 c1
 have lp:=fun e0=>aO.loop (R:=Int×Int×Bool×Bool×List Int×List Int×Int×Int×List Int×Bool×List Int×Int×Int×Bool×Bool×List Int×List Int×Int×Int×List (List Int)×List Int×List Int×Int×Int×Int×List Int×List (List Int)×List Int×List Int) hk e0 r.n.toNat 0 k (BF r) [] [] (Ee rs) rfl (by simp[cO] at hk;omega) (by show ((0:Nat):Int)+_=r.n;omega) (by show r.n<=6;omega) rfl rfl
 obtain ⟨t,ss,bs,e,ts,to,hl⟩:=lp _
 have hl:(ss.length:Int)=r.n:=hl
 have pre: ∀X,_=X->aO.f k a=X:=fun X hX=>(aa e0).trans ((aa e1).trans ((aa KW).trans (e.trans ((aa e2).trans hX))))
 cases o with
 |true=>
  obtain ⟨x,i3,h3,e3,c3,_⟩:=cv.ok k h2 (l:=[1,(-1),1000001]) (by simp) c2
  exact ⟨t,ss.set 0 x,bs,pre _ ((ak rfl).trans ((aa e3).trans (ab (ae (show (0:Int)<(ss.length:Int) by omega))))),ts,to⟩
 |false=>exact ⟨t,ss,bs,pre _ (af rfl),ts,to⟩
theorem kz.ok {k:Nat} (hk:cO<=k) {b:List Int} {i:Int} (h:Int) (hc:su b i): ∃x i' h',kz.f k b i h=some (x,b,i',h')/\su b i' /\x.length<=7:=by
 obtain ⟨x,i1,h1,e1,c1,l0,l1,_⟩:=aV.two hk (d:=2) (by omega) h hc
 obtain ⟨y,i2,h2,e2,c2,_⟩:=ao.ok k h1 10 c1
 cases y0:(y==0) with
 |true=>
  obtain ⟨z,i3,h3,e3,c3,p1,p2,_⟩:=ao.ok k h2 (x.length:Int) c2
  have p2:=p2 (by omega)
  obtain ⟨u,i4,h4,e4,c4,_⟩:=cv.ok k h3 (l:=[104,99,213,313,401,(-4),(-2),9223372036854775807]) (by simp) c3
  exact ⟨x.set z.toNat u,i4,h4,(aa e1).trans ((aa e2).trans ((ak y0).trans ((aa e3).trans ((aa e4).trans (ab (ch (ae p1) (ae p2))))))),c4,by rw[List.length_set];omega⟩
 |false=>
  cases y1:(y==1) with
  |true=>
   have q0:(0:Int)<=(x.length:Int):=by omega
   have q1:(1:Int)<=(x.length:Int):=by omega
   exact ⟨(x.take ((x.length:Int).toNat)).drop 1,i2,h2,(aa e1).trans ((aa e2).trans ((af y0).trans ((ak y1).trans ((ab (ch (ae q0) (ae (Int.le_refl _)))).trans (ab (ae q1)))))),c2,by rw[List.length_drop,List.length_take];omega⟩
  |false=>exact ⟨x,i2,h2,(aa e1).trans ((aa e2).trans ((af y0).trans (af y1))),c2,l1⟩
theorem jw.ok {k:Nat} (hk:cO<=k) {b:List Int} {i:Int} (h:Int) (hc:su b i): ∃(r:Rl) (i' h':Int),jw.f k b i h=some (r.n,r.e,r.b1,r.b2,r.w,r.f,r.t,r.l,b,i',h')/\su b i' /\r.w.length<=7/\r.f.length<=7:=by
 obtain ⟨r,i1,h1,e1,c1,hr,lw,lf⟩:=di.ok hk h hc
 obtain ⟨y,i2,h2,e2,c2,_⟩:=ao.ok k h1 14 c1
 cases y0:(y==0) with
 |true=>
  obtain ⟨u,i3,h3,e3,c3,_⟩:=cv.ok k h2 (l:=[1,6,7]) (by simp) c2
  exact ⟨{r with n:=u},i3,h3,(aa e1).trans ((aa e2).trans ((ak y0).trans (aa e3))),c3,lw,lf⟩
 |false=>
  cases y1:(y==1) with
  |true=>
   obtain ⟨u,i3,h3,e3,c3,_⟩:=cv.ok k h2 (l:=[0,8,9]) (by simp) c2
   exact ⟨{r with e:=u},i3,h3,(aa e1).trans ((aa e2).trans ((af y0).trans ((ak y1).trans (aa e3)))),c3,lw,lf⟩
  |false=>
   cases y2:(y==2) with
   |true=>exact ⟨{r with b2:=false},i2,h2,(aa e1).trans ((aa e2).trans ((af y0).trans ((af y1).trans (ak y2)))),c2,lw,lf⟩
   |false=>
    cases y3:(y==3) with
    |true=>
     obtain ⟨u,i3,h3,e3,c3,lu⟩:=kz.ok hk h2 c2
     exact ⟨{r with w:=u},i3,h3,(aa e1).trans ((aa e2).trans ((af y0).trans ((af y1).trans ((af y2).trans ((ak y3).trans (aa e3)))))),c3,lu,lf⟩
    |false=>
     cases y4:(y==4) with
     |true=>
      obtain ⟨u,i3,h3,e3,c3,_⟩:=cv.ok k h2 (l:=[0,4,5]) (by simp) c2
      exact ⟨{r with t:=u},i3,h3,(aa e1).trans ((aa e2).trans ((af y0).trans ((af y1).trans ((af y2).trans ((af y3).trans ((ak y4).trans (aa e3))))))),c3,lw,lf⟩
     |false=>
      cases y5:(y==5) with
      |true=>
       obtain ⟨u,i3,h3,e3,c3,_⟩:=cv.ok k h2 (l:=[0,400,401]) (by simp) c2
       exact ⟨{r with l:=u},i3,h3,(aa e1).trans ((aa e2).trans ((af y0).trans ((af y1).trans ((af y2).trans ((af y3).trans ((af y4).trans ((ak y5).trans (aa e3)))))))),c3,lw,lf⟩
      |false=>exact ⟨r,i2,h2,(aa e1).trans ((aa e2).trans ((af y0).trans ((af y1).trans ((af y2).trans ((af y3).trans ((af y4).trans (af y5))))))),c2,lw,lf⟩
theorem pZ {a b:ByteArray} (h:a.data.toList=b.data.toList):a=b:=by
 cases a;cases b
 congr 1
 exact Array.ext' h
theorem kG (a b:ByteArray):(a++b).data.toList=a.data.toList++b.data.toList:=by rw[ByteArray.data_append,Array.toList_append]
theorem Ji (x0:List UInt8) (l:List (List UInt8)) (x sep:List UInt8):Go.Lib.join ((x0::l)++[x]) sep=Go.Lib.join (x0::l) sep++sep++x:=by
 rw[List.cons_append,Go.Lib.join_cons,Go.Lib.join_cons]
 simp[Go.Lib.joinTail,List.append_assoc]
theorem Jj (x sep:ByteArray):ob [x] sep=x:=pZ (by show (Go.Lib.join [x.data.toList] _).toArray.toList=_;rw[Go.Lib.join_one])
theorem G9 {l:List ByteArray} (hl:l≠[]) (x sep:ByteArray):ob (l++[x]) sep=ob l sep++sep++x:=by
 cases l with
 |nil=>exact absurd rfl hl
 |cons x0 l=>
  refine pZ ?_
  rw[kG,kG]
  show (Go.Lib.join (((x0::l)++[x]).map (·.data.toList)) sep.data.toList).toArray.toList=(Go.Lib.join ((x0::l).map (·.data.toList)) sep.data.toList).toArray.toList++_++_
  rw[List.map_append,List.map_cons,List.map_cons,List.map_nil,Ji]
theorem Jk {α:Type} {l:List α} {i:Nat} (h:i<l.length):l.take (i+1)=l.take i++[l[i]]:=List.take_succ_eq_append_getElem h
theorem G_ (l:List ByteArray) (sep:ByteArray) {i:Nat} (h:i<l.length):ob (l.take (i+1)) sep=bif decide (0<i) then ob (l.take i) sep++sep++l[i] else l[i]:=by
 rw[Jk h]
 rcases Nat.eq_zero_or_pos i with e|e
 ·subst e;simp[Jj]
 ·rw[ae e]
  refine G9 ?_ _ _
  intro hn
  have:=congrArg List.length hn
  rw[List.length_take,List.length_nil] at this
  omega
theorem KX {l:List ByteArray} {sep:ByteArray} (hs: ∀y∈l,y.size<=33554432) (hp:sep.size<=1048576): ∀i,i<=l.length->(ob (l.take i) sep).size<=34603008*i:=by
 intro i
 induction i with
 |zero=>intro _;exact Nat.le_refl _
 |succ i ih=>
  intro h
  have h1:=ih (by omega)
  have h2:=hs _ (List.getElem_mem (show i<l.length by omega))
  rw[G_ l sep (by omega)]
  cases decide (0<i) with
  |true=>simp only[cond_true,ByteArray.size_append];omega
  |false=>simp only[cond_false];omega
theorem strings_Join.eq (k:Nat) {l:List ByteArray} {sep:ByteArray} (hl:l.length<1048577) (hs: ∀y∈l,y.size<=33554432) (hp:sep.size<=1048576):strings_Join.f k l sep=some (ob l sep):=by
 have h:=KX hs hp l.length (Nat.le_refl _)
 rw[List.take_length] at h
 exact ab (ch (Nat.ble_eq_true_of_le (by omega)) (Nat.ble_eq_true_of_le (by omega)))
def AX (u:Nat):List UInt8:=if u=0 then [] else Go.Lib.decDigits u
theorem uv {u:Nat} (h:0<u):AX u=Go.Lib.decDigits u:=by unfold AX;rw[if_neg (by omega)]
theorem BG {u:Nat} (h:0<u):AX u=AX (u/10)++[UInt8.ofNat (48+u%10)]:=by
 rw[uv h]
 by_cases Mh:u<10
 ·rw[Go.Lib.decDigits_one Mh,show u/10=0 by omega,Nat.mod_eq_of_lt Mh];rfl
 ·rw[uv (u:=u/10) (by omega)]
  conv=>lhs;rw[Go.Lib.decDigits,dif_neg Mh]
theorem yN: ∀(m u:Nat),u<10^m->(AX u).length<=m
 |0,u,h=>by
  have:u=0:=by simpa using h
  subst this;exact Nat.zero_le _
 |m+1,u,h=>by
  rcases Nat.eq_zero_or_pos u with e|e
  ·subst e;exact Nat.zero_le _
  ·rw[Nat.pow_succ] at h
   have:=yN m (u/10) (by omega)
   rw[BG e,List.length_append,List.length_singleton]
   omega
theorem OK {n:Int} (h:yO .i64 n): -9223372036854775808<=n/\n<=9223372036854775807:=by
 simpa[yO,Lit.wf,IntKind.min,IntKind.max,IntKind.signed,IntKind.bits] using h
theorem Eg {d:Nat} (h:d<10):strOf [IntKind.wrap .u8 (IntKind.wrap .i64 (48+(d:Int)))] =⟨#[UInt8.ofNat (48+d)]⟩:=by
 have:d=0\/d=1\/d=2\/d=3\/d=4\/d=5\/d=6\/d=7\/d=8\/d=9:=by omega
 rcases this with rfl|rfl|rfl|rfl|rfl|rfl|rfl|rfl|rfl|rfl<;>rfl
theorem OL (x:Int):x.tmod 10=((x.natAbs%10:Nat):Int)\/x.tmod 10= -((x.natAbs%10:Nat):Int):=by
 rcases Int.natAbs_eq x with h|h
 ·left;rw[h];rfl
 ·right;rw[h,Int.neg_tmod,Int.natAbs_neg];rfl
theorem CA (l:List UInt8) (x:UInt8) (v:ByteArray):(⟨(l++[x]).toArray⟩:ByteArray)++v=(⟨l.toArray⟩:ByteArray)++((⟨#[x]⟩:ByteArray)++v):=pZ (by
 rw[kG,kG,kG]
 simp)
theorem aN.loop {R:Type} (k:Nat) (e0:ByteArray->Option R): ∀(m n:Nat) (x:Int) (v:ByteArray),x.natAbs<10^m->x.natAbs<=9223372036854775808->m<n->v.size+m<=40->aN.l5 k e0 n v x=e0 ((⟨(AX x.natAbs).toArray⟩:ByteArray)++v)
 |m,0,x,v,_,_,hn,_=>absurd hn (by omega)
 |m,n+1,x,v,hx,hb,hn,hv=>by
  by_cases h0:x=0
  ·subst h0
   refine (aN.de ..).trans ((af rfl).trans (congrArg e0 (pZ ?_)))
   rw[kG];rfl
  ·have AY:0<x.natAbs:=by omega
   cases m with
   |zero=>simp at hx;omega
   |succ m=>
    have mg:(x != 0)=true:=by simpa using h0
    have hq:(x.tdiv 10).natAbs=x.natAbs/10:=by rw[Int.natAbs_tdiv];rfl
    have hr:x.natAbs%10<10:=Nat.mod_lt _ (by omega)
    rw[Nat.pow_succ] at hx
    have ih:=aN.loop k e0 m n (x.tdiv 10) ((⟨#[UInt8.ofNat (48+x.natAbs%10)]⟩:ByteArray)++v) (by omega) (by omega) (by omega) (by rw[ByteArray.size_append];show 1+v.size+m<=40;omega)
    have ew:IntKind.wrap .i64 (x.tdiv 10)=x.tdiv 10:=wrap_i64 (by omega) (by omega)
    have mb:(⟨#[UInt8.ofNat (48+x.natAbs%10)]⟩:ByteArray).size+v.size<=eo:=by show 1+v.size<=9223372036854775807;omega
    have fin:aN.l5 k e0 n ((⟨#[UInt8.ofNat (48+x.natAbs%10)]⟩:ByteArray)++v) (x.tdiv 10)=e0 ((⟨(AX x.natAbs).toArray⟩:ByteArray)++v):=by
     rw[ih,BG AY,CA,hq]
    refine (aN.de ..).trans ((ak mg).trans ?_)
    rw[ew]
    have ht:=OL x
    by_cases hd:x.tmod 10<0
    ·have e1:IntKind.wrap .i64 (0-x.tmod 10)=((x.natAbs%10:Nat):Int):=by rw[wrap_i64 (by omega) (by omega)];omega
     rw[e1,Eg hr]
     exact (ak (ae hd)).trans ((ab (ae mb)).trans fin)
    ·have e1:x.tmod 10=((x.natAbs%10:Nat):Int):=by omega
     rw[e1,Eg hr]
     exact (af (aM (by omega))).trans ((ab (ae mb)).trans fin)
theorem aN.eq {k:Nat} (hk:cO<=k) {n:Int} (hn:yO .i64 n):aN.f k n=some (jT n):=by
 have hw:=OK hn
 by_cases h0:n=0
 ·subst h0
  refine (ak rfl).trans (congrArg some (pZ ?_))
  show _=Go.Lib.itoa 0
  unfold Go.Lib.itoa
  rw[if_neg (by omega),show (0:Int).toNat=0 from rfl,Go.Lib.decDigits_one (by omega)];rfl
 ·have hl:=aN.loop k (fun x1=>bif decide (n<0) then aC (decide ((⟨#[45]⟩:ByteArray).size+x1.size<=eo))<|some ((⟨#[45]⟩:ByteArray)++x1) else some x1) 19 k n ByteArray.empty (by omega) (by omega) (by simp[cO] at hk;omega) (by show 0+19<=40;omega)
  have hlen:=yN 19 n.natAbs (by omega)
  have e0:(⟨(AX n.natAbs).toArray⟩:ByteArray)++ByteArray.empty=⟨(AX n.natAbs).toArray⟩:=pZ (by rw[kG];simp)
  rw[e0] at hl
  refine (af (by simpa using h0)).trans (hl.trans ?_)
  have hd:=uv (u:=n.natAbs) (by omega)
  by_cases MT:n<0
  ·refine (ak (ae MT)).trans ((ab (ae ?_)).trans (congrArg some (pZ ?_)))
   ·show 1+(AX n.natAbs).toArray.size<=9223372036854775807
    rw[List.size_toArray];omega
   ·rw[kG,hd]
    show [45]++Go.Lib.decDigits n.natAbs=Go.Lib.itoa n
    unfold Go.Lib.itoa
    rw[if_pos MT];rfl
  ·refine (af (aM MT)).trans (congrArg some (pZ ?_))
   rw[hd]
   show Go.Lib.decDigits n.natAbs=Go.Lib.itoa n
   unfold Go.Lib.itoa
   rw[if_neg MT,show n.toNat=n.natAbs by omega]
theorem cg.eq (k:Nat) {n:Int} (hn:yO .i64 n):cg.f k n=some (jT n):=by
 have hw:=OK hn
 exact aa (ab (ch (ae hw.1) (ae hw.2)))
theorem jk {n:Int} (hn:yO .i64 n):(jT n).size<=21:=by
 have hw:=OK hn
 show (Go.Lib.itoa n).toArray.size<=21
 rw[List.size_toArray]
 unfold Go.Lib.itoa
 have key: ∀u:Nat,u<=9223372036854775808->(Go.Lib.decDigits u).length<=20:=fun u hu=>by
  rcases Nat.eq_zero_or_pos u with e|e
  ·subst e;rw[Go.Lib.decDigits_one (by omega)];simp
  ·rw[<- uv e]
   have:=yN 19 u (by omega)
   omega
 split
 ·have:=key n.natAbs (by omega)
  rw[List.length_cons];omega
 ·have:=key n.toNat (by omega)
  omega
theorem oj {a b:ByteArray} (h:a.data.toList=b.data.toList):a=b:=by
 cases a;cases b
 congr 1
 exact Array.ext' h
theorem o4 {a b:ByteArray}:(a.toList==b.toList)=decide (a.data.toList=b.data.toList):=by
 rw[Go.Lib.toList_data,Go.Lib.toList_data]
 by_cases h:a.data.toList=b.data.toList
 ·rw[h];simp
 ·rw[aM h];simpa using h
theorem ol (a b:ByteArray):(a++b).data.toList=a.data.toList++b.data.toList:=by rw[ByteArray.data_append,Array.toList_append]
theorem wK (a:ByteArray):a.data.toList.length=a.size:=by rw[Array.length_toList];rfl
end Go.Proofs.YtbmmhdmljajcfaaGreatDoor
