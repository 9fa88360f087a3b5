/- Plain laws of the program's functions, joined. Conditions: as each theorem says. -/
import Derived.Test.YtbmmhdmljajcfaaGreatDoorKit
import Derived.Test.YtbmmhdmljajcfaaGreatDoorFSpecConsoleLine
import Derived.Test.YtbmmhdmljajcfaaGreatDoorFImplConsoleLine
set_option linter.unusedVariables false
set_option linter.unusedSimpArgs false
set_option linter.unusedSectionVars false
namespace Go.Proofs.YtbmmhdmljajcfaaGreatDoor
open Go V
variable {R:Type} {k:Nat}
theorem bb.eq (k:Nat) (a lo hi:Int):bb.f k a lo hi=some (mJ a lo hi):=by
 unfold bb.f mJ
 by_cases h:lo<=a<;>simp[h]
theorem aI.eq (k:Nat) (a lo hi:Int):aI.f k a lo hi=some (mJ a lo hi):=by
 unfold aI.f mJ
 by_cases h:lo<=a<;>simp[h]
def bI (c:Int):Bool:=mJ c 0 51
def bJ (c:Int):Int:=bif bI c then c.tdiv 13 else-1
def cu (c:Int):Int:=bif bI c then c.tmod 13 else-1
def O3 (c:Int):Bool:=mJ (bJ c) 1 2
theorem cU {c:Int}:bI c=true↔0<=c/\c<=51:=ja
theorem Cg (c:Int): -1<=bJ c/\bJ c<=3:=by
 unfold bJ
 cases h:bI c with
 |false=>simp
 |true=>
  have:=cU.1 h
  simp only[ak]
  rw[Int.tdiv_eq_ediv_of_nonneg this.1]
  omega
theorem Ch (c:Int): -1<=cu c/\cu c<=12:=by
 unfold cu
 cases h:bI c with
 |false=>simp
 |true=>
  have:=cU.1 h
  simp only[ak]
  rw[aX this.1]
  omega
theorem cc.eq (k:Nat) (c:Int):cc.f k c=some (bI c):=bN (bb.eq ..)
theorem bH.eq (k:Nat) (c:Int):bH.f k c=some (bI c):=bN (aI.eq ..)
theorem Ci {c:Int} (h:bI c=true):aF (c.tdiv 13)=c.tdiv 13:=by
 have:=cU.1 h
 have e:=Int.tdiv_eq_ediv_of_nonneg (b:=13) this.1
 exact wrap_i64
theorem bP.eq (k:Nat) (c:Int):bP.f k c=some (bJ c):=by
 refine bS (cc.eq ..) ?_
 unfold bJ
 cases h:bI c with
 |false=>rfl
 |true=>exact bF rfl (by rw[Ci h];rfl)
theorem bU.eq (k:Nat) (c:Int):bU.f k c=some (bJ c):=by
 refine bS (bH.eq ..) ?_
 unfold bJ
 cases h:bI c with
 |false=>rfl
 |true=>exact bF rfl (by rw[Ci h];rfl)
theorem eh.eq (k:Nat) (c:Int):eh.f k c=some (cu c):=by
 refine bS (cc.eq ..) ?_
 unfold cu
 cases bI c<;>rfl
theorem cV.eq (k:Nat) (c:Int):cV.f k c=some (cu c):=by
 refine bS (bH.eq ..) ?_
 unfold cu
 cases bI c<;>rfl
theorem pp.eq (k:Nat) (c:Int):pp.f k c=some (O3 c):=bS (bP.eq ..) (bN (bb.eq ..))
theorem pn.eq (k:Nat) (c:Int):pn.f k c=some (O3 c):=by
 refine bS (bU.eq ..) ?_
 unfold O3 mJ
 by_cases h:bJ c=1
 ·rw[h];rfl
 ·refine bF (by simpa using h) (bS (bU.eq ..) ?_)
  by_cases h2:bJ c=2
  ·rw[h2];rfl
  ·have e1:(bJ c==(2:Int))=false:=by simp[h2]
   have e2:(decide (1<=bJ c)&&decide (bJ c<=2))=false:=by
    by_cases h3:1<=bJ c
    ·rw[ae h3,aC (p:=bJ c<=2) (by omega)];rfl
    ·rw[aC h3];rfl
   rw[e1,e2]
def bq (l:LI) (c:Int):Bool:=l.any fun x=>x==c
theorem K7 (l:LI) (c:Int):(l.all fun x=> !(x==c))= !bq l c:=by
 unfold bq
 induction l with
 |nil=>rfl
 |cons a l ih=>rw[List.all_cons,List.any_cons,ih,Bool.not_or]
theorem cW.eq (hk:cy<=k) {l:LI} (c:Int) (hl:l.length<1073741824):cW.f k l c=some (bq l c):=by
 have h:=scan (B:=Unit) l (fun m b i=>cW.l2 k l c (some true) (some false) m i) (fun _ a=> !(a==c)) (fun b a=>b) (fun _=>some false) (fun _ _=>some true) (fun i b=>True)
  (fun m b i h hI=>by
    refine kz rfl (bT ae (cT (cg h) ?_))
    rw[aa,aN _ h,aK]
    cases l[i]==c<;>rfl)
  (fun b i h hI hp=>trivial)
  (fun m b hI=>kz rfl (br aC))
  l.length 0 k () (by omega) (pV hk hl) trivial
 refine h.trans ?_
 rw[ah,tv,K7]
 cases bq l c<;>rfl
def sr:LI->LI->Bool
 |_,[]=>true
 |seen,a::l=>bI a&& !bq seen a&&sr (seen++[a]) l
def dz (l:LI):Bool:=sr [] l
theorem xb {B:Type} (sn:B->LI) (g:B->Int->B) (hg: ∀b a,sn (g b a)=sn b++[a]): ∀(l:LI) (b:B),run (fun b a=>bI a&& !bq (sn b) a) g (fun _=>some true) (fun _ _=>some false) l b=some (sr (sn b) l)
 | [],b=>rfl
 |a::l,b=>by
  show (bif (bI a&& !bq (sn b) a) then run _ g _ _ l (g b a) else some false)=some (bI a&& !bq (sn b) a&&sr (sn b++[a]) l)
  rw[xb sn g hg l (g b a),hg]
  cases (bI a&& !bq (sn b) a)<;>rfl
theorem bQ.eq (hk:cy<=k) {l:LI} (hl:l.length<1073741824):bQ.f k l=some (dz l):=by
 have h:=scan (B:=LI) l (fun m b i=>bQ.l2 k l (some false) (some true) m i) (fun b a=>bI a&& !bq b a) (fun b a=>b++[a]) (fun _=>some true) (fun _ _=>some false) (fun i b=>b=l.take i)
  (fun m b i h hI=>by
    subst hI
    refine kz rfl (bT ae (cT (cg h) ?_))
    rw[aa,aN _ h,aK]
    refine bS (cc.eq ..) ?_
    cases bI l[i] with
    |false=>rfl
    |true=>
     refine bF rfl (cT (bA ae ae) (cT (cg h) (bS (cW.eq hk _ (by rw[aP];omega)) ?_)))
     cases bq (l.take i) l[i]<;>rfl)
  (fun b i h hI hp=>by subst hI;exact (be h).symm)
  (fun m b hI=>kz rfl (br aC))
  l.length 0 k [] (by omega) (pV hk hl) rfl
 refine h.trans ?_
 rw[ah,xb (fun b=>b) _ (fun _ _=>rfl)]
 rfl
theorem AF (l:LI) (a c:Int):bq (l++[a]) c=(bq l c||(a==c)):=by simp[bq]
theorem bo.eq (hk:cy<=k) {l:LI} (hl:l.length<1073741824):bo.f k l=some (dz l):=by
 have h:=scan (B:=List Bool×LI) l (fun m b i=>bo.l3 k l (l.length:Int) (some false) (some true) m i b.1) (fun b a=>bI a&& !bq b.2 a) (fun b a=>(b.1.set a.toNat true,b.2++[a])) (fun _=>some true) (fun _ _=>some false)
  (fun i b=>b.1.length=52/\ ∀c,bI c=true->b.1.getD c.toNat false=bq b.2 c)
  (fun m b i h hI=>by
    refine bV rfl (bT ae (cT (cg h) ?_))
    rw[aa,aN _ h,aK]
    refine bS (bH.eq ..) ?_
    cases hc:bI l[i] with
    |false=>rfl
    |true=>
     have hb:=cU.1 hc
     refine bF rfl (cT (bA ae ae) ?_)
     rw[hI.2 _ hc]
     cases bq b.2 l[i] with
     |true=>rfl
     |false=>exact bF rfl (bW (bA ae ae)))
  (fun b i h hI hp=>by
    obtain ⟨hc,_⟩:=Bool.and_eq_true_iff.1 hp
    have hb:=cU.1 hc
    refine ⟨by simpa using hI.1,fun c K8=> ?_⟩
    have tq:=cU.1 K8
    rw[AF,<- hI.2 c K8]
    by_cases e:l[i] =c
    ·subst e
     rw[EH _ _ (by omega)]
     simp
    ·have e1:(l[i]==c)=false:=by simp[e]
     have e2: ¬l[i].toNat=c.toNat:=by omega
     rw[e1,Bool.or_false,aL,List.getElem?_set,aD e2,<- aL])
  (fun m b hI=>bV rfl (br aC))
  l.length 0 k (List.replicate 52 false,[]) (by omega) (pV hk hl) ⟨by simp,fun c hc=>by
   have hb:=cU.1 hc
   rw[aL,List.getElem?_replicate]
   have:c.toNat<52:=by omega
   simp[this,bq]⟩
 refine Eq.trans ?_ (h.trans ?_)
 ·rfl
 ·rw[ah]
  exact xb (fun b:List Bool×List Int=>b.2) _ (fun _ _=>rfl) l _
def eu (l:LI) (c:Int):LI:=l.filter fun x=>x != c
theorem fp.eq (hk:cy<=k) {l:LI} (c:Int) (hl:l.length<1048577):fp.f k l c=some (eu l c):=by
 have h:=scan (B:=LI) l (fun m b i=>fp.l3 k l c (fun x1=>some x1) m i b) (fun _ _=>true) (fun b a=>bif a != c then b++[a] else b) (fun x1=>some x1) (fun _ _=>none) (fun i b=>b.length<=i)
  (fun m b i h hI=>by
    refine bV rfl (bT ae (cT (cg h) ?_))
    rw[aa,aN _ h,aK]
    cases (l[i] != c) with
    |false=>rfl
    |true=>exact bT rfl (cT (cg h) (bW (ae (by simp[room];omega)))))
  (fun b i h hI _=>by cases (l[i] != c)<;>simp<;>omega)
  (fun m b hI=>bV rfl (br aC))
  l.length 0 k [] (by omega) (cd hk hl) (by simp)
 refine h.trans ?_
 rw[ah,bX]
 have key: ∀(l b:LI),l.foldl (fun b a=>bif a != c then b++[a] else b) b=b++eu l c:=by
  intro l
  induction l with
  |nil=>intro b;simp[eu]
  |cons a l ih=>
   intro b
   rw[aY,ih]
   unfold eu
   rw[List.filter_cons]
   cases (a != c)<;>simp
 rw[key,aM]
theorem n_ {l:LI} {c:Int}:bq l c=true↔c∈l:=by
 unfold bq
 rw[List.any_eq_true]
 constructor
 ·rintro ⟨x,hx,e⟩
  rw[cG] at e;subst e;exact hx
 ·intro h;exact ⟨c,h,by simp⟩
theorem vm {l:LI} {c:Int}:bq l c=false↔c∉l:=by
 rw[<- n_];cases bq l c<;>simp
theorem EM: ∀(l seen:LI),sr seen l=true↔(∀x∈l,bI x=true)/\l.Nodup/\ ∀x∈l,x∉seen
 | [],seen=>by simp[sr]
 |a::l,seen=>by
  rw[sr,ay,ay,EM l (seen++[a])]
  constructor
  ·rintro ⟨⟨h1,h2⟩,h3,h4,h5⟩
   have h2':a∉seen:=vm.1 (by simpa using h2)
   refine ⟨fun x hx=> ?_,List.nodup_cons.2 ⟨fun h=>h5 a h (by simp),h4⟩,fun x hx=> ?_⟩
   ·rcases List.mem_cons.1 hx with rfl|hx
    ·exact h1
    ·exact h3 x hx
   ·rcases List.mem_cons.1 hx with rfl|hx
    ·exact h2'
    ·exact fun h=>h5 x hx (by simp[h])
  ·rintro ⟨h1,h2,h3⟩
   obtain ⟨h4,h5⟩:=List.nodup_cons.1 h2
   refine ⟨⟨h1 a (by simp),by rw[vm.2 (h3 a (by simp))];rfl⟩,fun x hx=>h1 x (by simp[hx]),h5,fun x hx h=> ?_⟩
   rcases List.mem_append.1 h with h|h
   ·exact h3 x (by simp[hx]) h
   ·obtain rfl:=List.mem_singleton.1 h;exact h4 hx
theorem jy {l:LI}:dz l=true↔(∀x∈l,bI x=true)/\l.Nodup:=by
 unfold dz
 rw[EM]
 simp
theorem tw {l l':LI} (h:l.Perm l'):dz l=dz l':=by
 rw[Bool.eq_iff_iff,jy,jy,h.nodup_iff]
 simp only[h.mem_iff]
theorem zd: ∀(N:Nat) (l:LI),l.Nodup->(∀x∈l,0<=x/\x<(N:Int))->l.length<=N
 |0,l,h,h2=>by
  cases l with
  |nil=>simp
  |cons a l=>have:=h2 a (by simp);omega
 |N+1,l,h,h2=>by
  have h3:=zd N (l.erase (N:Int)) (h.erase _) (fun x hx=>by
   have h4:=(h.mem_erase_iff).1 hx
   have:=h2 x h4.2
   have:x≠(N:Int):=h4.1
   omega)
  have:=List.length_erase (a:=(N:Int)) (l:=l)
  split at this<;>omega
theorem uD {l:LI} (h:dz l=true):l.length<=52:=by
 obtain ⟨h1,h2⟩:=jy.1 h
 exact zd 52 l h2 (fun x hx=>by have:=cU.1 (h1 x hx);omega)
def whole (ls:LL):Bool:=dz ls.flatten&&((ls.flatten.length:Int)==52)
theorem EN {a b:LL} (h:a.flatten.Perm b.flatten):whole a=whole b:=by
 unfold whole
 rw[tw h,h.length_eq]
theorem H8 {ls:LL} (h:whole ls=true):ls.flatten.length=52:=by
 unfold whole at h
 rw[ay,cG] at h
 omega
theorem K9 {ls:LL} (h:whole ls=true):ls.flatten.Nodup:=by
 unfold whole at h
 rw[ay] at h
 exact (jy.1 h.1).2
theorem K_ {ls:LL} {l:LI} (h:l∈ls):l.length<=ls.flatten.length:=by
 induction ls with
 |nil=>cases h
 |cons a ls ih=>
  rw[List.flatten_cons,au]
  rcases List.mem_cons.1 h with rfl|h
  ·omega
  ·have:=ih h;omega
theorem xc: ∀(hs:LL) (t:Nat) (x:LI) (h:t<hs.length),∃q:LI,hs.flatten.Perm (hs[t]++q)/\(hs.set t x).flatten.Perm (x++q)
 |a::l,0,x,h=>⟨l.flatten,by simp,by simp⟩
 |a::l,t+1,x,h=>by
  obtain ⟨q,h1,h2⟩:=xc l t x (by simpa using h)
  refine ⟨a++q,?_,?_⟩
  ·rw[List.flatten_cons,List.getElem_cons_succ]
   exact (h1.append_left a).trans (List.perm_append_comm_assoc _ _ _)
  ·rw[List.set_cons_succ,List.flatten_cons]
   exact (h2.append_left a).trans (List.perm_append_comm_assoc _ _ _)
theorem AG: ∀ {l:LI} {c:Int},l.Nodup->c∈l->l.Perm (eu l c++[c])
 |a::l,c,h,hc=>by
  obtain ⟨h1,h2⟩:=List.nodup_cons.1 h
  unfold eu
  rw[List.filter_cons]
  by_cases e:a=c
  ·subst e
   have e1:(a != a)=false:=by simp
   have e2:l.filter (fun x=>x != a)=l:=List.filter_eq_self.2 (fun x hx=>by
    have:x≠a:=fun q=>h1 (q ▸ hx)
    simpa using this)
   rw[e1,e2]
   exact (List.perm_append_comm (l₁:=[a]) (l₂:=l))
  ·have e1:(a != c)=true:=by simp[e]
   rw[e1]
   have K8:c∈l:=by
    rcases List.mem_cons.1 hc with q|q
    ·exact absurd q.symm e
    ·exact q
   exact (AG h2 K8).cons a
theorem qV (l:LI) (c:Int):(eu l c).length<=l.length:=List.length_filter_le _ _
def rm (c:Int) (v:LI):Nat->Nat
 |0=>0
 |k+1=>bif decide (v.getD k 0>c) then rm c v k else k+1
theorem AH (c:Int) (v:LI): ∀k,rm c v k<=k
 |0=>ai _
 |k+1=>by
  have:=AH c v k
  unfold rm
  cases decide (v.getD k 0>c) with
  |true=>simp only[ak];omega
  |false=>simp only[an];omega
def uF (v:LI) (c:Int):LI:=v.take (rm c v v.length)++c::v.drop (rm c v v.length)
def dN (l:LI):LI:=l.foldl uF []
theorem La (v:LI) (c:Int):(uF v c).length=v.length+1:=by
 have:=AH c v v.length
 simp[uF];omega
theorem Sl {v:LI} {j:Nat} (d c:Int) (hj:j<=v.length) (n:Nat) (hn:n=(v++[d]).length):
 (((v++[d]).take (j+1))++(((((v++[d]).take n).drop j).take (n-(j+1)))++((v++[d]).drop ((j+1)+(min (n-j) (n-(j+1))))))).set j c=v.take j++c::v.drop j:=by
 have hm:n=v.length+1:=by rw[hn];simp
 have e1:(v++[d]).take n=v++[d]:=List.take_of_length_le (by simp;omega)
 have e2:(v++[d]).drop ((j+1)+(min (n-j) (n-(j+1))))=[]:=aZ (by simp;omega)
 have e3:((v++[d]).drop j).take (n-(j+1))=v.drop j:=by
  rw[List.drop_append_of_le_length hj,List.take_append_of_le_length (by simp;omega),List.take_of_length_le (by simp;omega)]
 rw[e1,e2,e3,cm,List.set_eq_take_append_cons_drop]
 have hl:((v++[d]).take (j+1)).length=j+1:=by simp;omega
 rw[aS (by rw[au,hl];omega)]
 congr 1
 ·rw[List.take_append_of_le_length (by omega),List.take_take,show min j (j+1)=j by omega,List.take_append_of_le_length hj]
 ·rw[List.drop_append,hl,Nat.sub_self,ah,aZ (by omega),aM]
theorem db.inner (k:Nat) (c:Int) (v:LI) (e0:Int->Option R) (hv:v.length<1048577): ∀(j n:Nat),j<=v.length->j<n->db.l6 k c v e0 n (j:Int)=e0 ((rm c v j:Nat):Int):=by
 intro j
 induction j with
 |zero=>
  intro n hj hn
  obtain ⟨n,rfl⟩: ∃n',n=n' +1:=⟨n-1,by omega⟩
  exact kz rfl (br aC)
 |succ j ih=>
  intro n hj hn
  obtain ⟨n,rfl⟩: ∃n',n=n' +1:=⟨n-1,by omega⟩
  refine kz rfl (bT ae ?_)
  have e:aF (((j+1:Nat):Int)-1)=(j:Int):=by rw[wrap_i64];omega
  rw[e]
  refine cT (cg (by omega)) ?_
  rw[aa]
  unfold rm
  cases h:decide (v.getD j 0>c) with
  |true=>exact bT rfl (ih n (by omega) (by omega))
  |false=>rfl
theorem db.eq (hk:cy<=k) {l:LI} (hl:l.length<1048577):db.f k l=some (dN l):=by
 have h:=scan (B:=LI) l (fun m b i=>db.l3 k l (l.length:Int) (fun x2=>some x2) m i b) (fun _ _=>true) uF (fun x2=>some x2) (fun _ _=>none) (fun i b=>b.length=i)
  (fun m b i h hI=>by
    have hp:=AH l[i] b b.length
    have hb:b.length<1048577:=by omega
    refine bV rfl (bT ae (cT (cg h) ?_))
    rw[aa,aN _ h]
    refine (db.inner k l[i] b _ hb b.length k (ai _) (cd hk hb)).trans ?_
    have hx:(((b++[(0:Int)]).length:Nat):Int)=((b.length+1:Nat):Int):=by simp
    refine cT (ae (by simp[room];omega)) ?_
    refine cT (bA ae ae) ?_
    rw[aK]
    refine cT (bA ae ae) ?_
    refine cT (bA ae ae) ?_
    refine cT (bA ae ae) ?_
    have hex:=fun c=>Sl (v:=b) (j:=rm l[i] b b.length) 0 c hp (b++[(0:Int)]).length rfl
    rw[aa,aa,aa]
    refine cT (bA ae (ae ?_)) ?_
    ·have:=congrArg List.length (hex 0)
     rw[fg] at this
     rw[this];simp;omega
    ·rw[hex,aK]
     rfl)
  (fun b i h hI _=>by rw[La];omega)
  (fun m b hI=>bV rfl (br aC))
  l.length 0 k [] (by omega) (cd hk hl) rfl
 refine h.trans ?_
 rw[ah,bX]
 rfl
def mX (a:Int):Bool:=mJ a 100 103||mJ a 200 212||mJ a 300 312||(a==400)
theorem mV.eq (k:Nat) (a:Int):mV.f k a=some (mX a):=by
 unfold mV.f mX
 simp only[bb.eq,aO]
 cases mJ a 100 103<;>cases mJ a 200 212<;>cases mJ a 300 312<;>rfl
theorem mU.eq (k:Nat) (a:Int):mU.f k a=some (mX a):=by
 unfold mU.f mX
 simp only[aI.eq,aO]
 cases mJ a 100 103<;>cases mJ a 200 212<;>cases mJ a 300 312<;>rfl
def mK (d a:Int):Bool:=mX a||((a== -1)&&decide (1<=d))||((a== -2||a== -3)&&decide (2<=d))
def oa (d a:Int):Int:=bif mX a then d+1 else bif a== -1 then d else d-1
def qW:LI->Int->Bool
 | [],d=>d==1
 |a::l,d=>mK d a&&qW l (oa d a)
theorem Jq (q:Bool): ∀(l:LI) (d:Int),run mK oa (fun d=>some ((d==1)&&q)) (fun _ _=>some false) l d=some (qW l d&&q)
 | [],d=>rfl
 |a::l,d=>by
  show (bif mK d a then run mK oa _ _ l (oa d a) else some false)=some (mK d a&&qW l (oa d a)&&q)
  rw[Jq q l (oa d a)]
  cases mK d a<;>rfl
theorem yf {d a:Int} (h:mK d a=true) (h0:0<=d):0<=oa d a/\oa d a<=d+1:=by
 unfold mK at h
 cases hl:mX a with
 |true=>have e:oa d a=d+1:=by unfold oa;rw[hl];rfl
        omega
 |false=>
  by_cases h1:a= -1
  ·have e:oa d a=d:=by unfold oa;rw[hl,h1];rfl
   omega
  ·have Y1:(a==(-1:Int))=false:=by simp[h1]
   have e:oa d a=d-1:=by unfold oa;rw[hl,Y1];rfl
   rw[hl,Y1] at h
   simp at h
   omega
theorem H9 (d a:Int) (X Y Z W:Option R) (hX:mX a=true->X=W) (hY:a= -1->Y=W) (hZ:(a= -2\/a= -3)->Z=W) (e:Option R) (hle:mX a=true->a≠ -1/\a≠ -2/\a≠ -3):
 (bif mX a then X else bif (a==(-1:Int)) then (bif decide (d>=1) then Y else bif (a==(-2:Int)) then (bif decide (d>=2) then Z else e) else bif (a==(-3:Int)) then (bif decide (d>=2) then Z else e) else e) else bif (a==(-2:Int)) then (bif decide (d>=2) then Z else e) else bif (a==(-3:Int)) then (bif decide (d>=2) then Z else e) else e)=bif mK d a then W else e:=by
 unfold mK
 cases hl:mX a with
 |true=>simp[hX hl]
 |false=>
  by_cases h1:a= -1
  ·subst h1
   by_cases hd:1<=d<;>simp[hd,hY rfl]
  ·by_cases h2:a= -2
   ·subst h2
    by_cases hd:2<=d<;>simp[hd,hZ (.inl rfl)]
   ·by_cases h3:a= -3
    ·subst h3
     by_cases hd:2<=d<;>simp[hd,hZ (.inr rfl)]
    ·have e1:(a==(-1:Int))=false:=by simp[h1]
     have e2:(a==(-2:Int))=false:=by simp[h2]
     have e3:(a==(-3:Int))=false:=by simp[h3]
     rw[e1,e2,e3]
     rfl
theorem AI {a:Int} (h:mX a=true):a≠ -1/\a≠ -2/\a≠ -3:=by
 refine ⟨?_,?_,?_⟩<;>rintro rfl<;>exact absurd h (by decide)
def jf (l:LI):Bool:=qW l 0&&decide ((l.length:Int)<=20)
theorem dP.eq (hk:cy<=k) {l:LI} (hl:l.length<1048577):dP.f k l=some (jf l):=by
 have h:=scan (B:=Int) l (fun m b i=>dP.l3 k l (fun x2=>some false) (fun x3=>bif (x3==(1:Int)) then some (decide ((l.length:Int)<=(20:Int))) else some false) m b i) mK oa (fun d=>some ((d==1)&&decide ((l.length:Int)<=20))) (fun _ _=>some false) (fun i b=>0<=b/\b<=(i:Int))
  (fun m b i h hI=>by
    refine bV rfl ?_
    refine bT ae ?_
    refine cT (cg h) ?_
    rw[aa,aN _ h]
    refine bS (mV.eq ..) ?_
    simp only[bW (cg h)]
    rw[aK,wrap_i64 (n:=b+1),wrap_i64 (n:=b-1)]
    refine H9 b l[i] _ _ _ _ (fun e=>by unfold oa;rw[e];rfl) (fun e=>by unfold oa;rw[e];rfl) (fun e=>by unfold oa;rcases e with e|e<;>rw[e]<;>rfl) _ AI)
  (fun b i h hI hp=>by have:=yf hp hI.1;constructor<;>omega)
  (fun m b hI=>bV rfl (bF aC (by show (bif (b==(1:Int)) then _ else _)=_;cases (b==(1:Int))<;>rfl)))
  l.length 0 k 0 (by omega) (cd hk hl) (by simp)
 refine h.trans ?_
 rw[ah,Jq]
 rfl
theorem dO.eq (hk:cy<=k) {l:LI} (hl:l.length<1048577):dO.f k l=some (jf l):=by
 have h:=scan (B:=Int) l (fun m b i=>dO.l3 k l (l.length:Int) (fun x2=>some false) (fun x3=>(aI.f k (l.length:Int) (1:Int) (20:Int)).bind fun r4=>bif r4 then some (x3==(1:Int)) else some false) m b i) mK oa (fun d=>some ((d==1)&&mJ (l.length:Int) 1 20)) (fun _ _=>some false) (fun i b=>0<=b/\b<=(i:Int))
  (fun m b i h hI=>by
    refine bV rfl ?_
    refine bT ae ?_
    refine cT (cg h) ?_
    rw[aa,aN _ h]
    refine bS (mU.eq ..) ?_
    rw[aK,wrap_i64 (n:=b+1),wrap_i64 (n:=b-1)]
    refine H9 b l[i] _ _ _ _ (fun e=>by unfold oa;rw[e];rfl) (fun e=>by unfold oa;rw[e];rfl) (fun e=>by unfold oa;rcases e with e|e<;>rw[e]<;>rfl) _ AI)
  (fun b i h hI hp=>by have:=yf hp hI.1;constructor<;>omega)
  (fun m b hI=>bV rfl (bF aC (bS (aI.eq ..) (by cases mJ (l.length:Int) 1 20<;>simp))))
  l.length 0 k 0 (by omega) (cd hk hl) (by simp)
 refine h.trans ?_
 rw[ah,Jq]
 unfold jf mJ
 cases l with
 |nil=>rfl
 |cons a l=>
  have e:decide ((1:Int)<=((a::l).length:Int))=true:=ae (by simp;omega)
  rw[e];rfl
def oY (l:LI):Bool:=((l.length:Int)==0)||jf l
theorem gr.eq (hk:cy<=k) {l:LI} (hl:l.length<1048577):gr.f k l=some (oY l):=by
 unfold gr.f oY
 rw[dP.eq hk hl]
 cases ((l.length:Int)==0)<;>rfl
theorem jl.eq (hk:cy<=k) {l:LI} (hl:l.length<1048577):jl.f k l=some (oY l):=by
 unfold jl.f oY
 rw[dO.eq hk hl]
 cases ((l.length:Int)==0)<;>rfl
def vn (n c:Int) (b1 b2:Bool) (w f:LI) (m t:Int):Bool:=mJ n 2 6&&mJ c 1 8&&(b1||b2)&&oY w&&oY f&&mJ m 1 4&&mJ t 1 400
theorem dm.eq (hk:cy<=k) (n c:Int) (b1 b2:Bool) {w f:LI} (m t:Int) (hw:w.length<1048577) (hf:f.length<1048577):dm.f k n c b1 b2 w f m t=some (vn n c b1 b2 w f m t):=by
 unfold dm.f vn
 simp only[bb.eq,gr.eq hk hw,gr.eq hk hf,aO]
 cases mJ n 2 6<;>cases mJ c 1 8<;>cases b1<;>cases b2<;>cases oY w<;>cases oY f<;>cases mJ m 1 4<;>rfl
theorem dk.eq (hk:cy<=k) (n c:Int) (b1 b2:Bool) {w f:LI} (m t:Int) (hw:w.length<1048577) (hf:f.length<1048577):dk.f k n c b1 b2 w f m t=some (vn n c b1 b2 w f m t):=by
 unfold dk.f vn
 simp only[aI.eq,jl.eq hk hw,jl.eq hk hf,aO]
 cases mJ n 2 6<;>cases mJ c 1 8<;>cases b1<;>cases b2<;>cases oY w<;>cases oY f<;>cases mJ m 1 4<;>rfl
def P7 (a c:Int):Bool:=bif a==400 then O3 c else bif decide (a>=300) then decide (cu c>=aF (a-300)) else bif decide (a>=200) then cu c==aF (a-200) else bJ c==aF (a-100)
theorem lP.eq (k:Nat) (a c:Int):lP.f k a c=some (P7 a c):=by
 unfold lP.f P7
 simp only[pp.eq,eh.eq,bP.eq,aO]
 cases (a==(400:Int))<;>cases decide (a>=300)<;>cases decide (a>=200)<;>rfl
theorem pv.eq (k:Nat) (a c:Int):pv.f k a c=some (P7 a c):=by
 unfold pv.f P7
 simp only[pn.eq,cV.eq,bU.eq,aO]
 cases (a==(400:Int))<;>cases decide (a>=300)<;>cases decide (a>=200)<;>rfl
def ze (c:Int) (st:List Bool) (a:Int):List Bool:=
 bif a== -1 then st.set (st.length-1) (!(st.getD (st.length-1) false))
 else bif a== -2 then st.take (st.length-2)++[bif st.getD (st.length-2) false then st.getD (st.length-1) false else false]
 else bif a== -3 then st.take (st.length-2)++[bif st.getD (st.length-2) false then true else st.getD (st.length-1) false]
 else st++[P7 a c]
theorem Jr (c:Int) (st:List Bool) {a:Int} (h:a= -1):ze c st a=st.set (st.length-1) (!(st.getD (st.length-1) false)):=by subst h;rfl
theorem Js (c:Int) (st:List Bool) {a:Int} (h:a= -2):ze c st a=st.take (st.length-2)++[bif st.getD (st.length-2) false then st.getD (st.length-1) false else false]:=by subst h;rfl
theorem Jt (c:Int) (st:List Bool) {a:Int} (h:a= -3):ze c st a=st.take (st.length-2)++[bif st.getD (st.length-2) false then true else st.getD (st.length-1) false]:=by subst h;rfl
theorem Ju (c:Int) (st:List Bool) {a:Int} (h1:a≠ -1) (h2:a≠ -2) (h3:a≠ -3):ze c st a=st++[P7 a c]:=by
 unfold ze
 rw[show (a==(-1:Int))=false by simp[h1],show (a==(-2:Int))=false by simp[h2],show (a==(-3:Int))=false by simp[h3]]
 rfl
theorem O4 {d:Nat} (h:mK (d:Int) (-1)=true):1<=d:=by
 have e:mX (-1)=false:=by decide
 unfold mK at h;rw[e] at h;simp at h;omega
theorem Jv {d:Nat} (h:mK (d:Int) (-2)=true):2<=d:=by
 have e:mX (-2)=false:=by decide
 unfold mK at h;rw[e] at h;simp at h;omega
theorem Jw {d:Nat} (h:mK (d:Int) (-3)=true):2<=d:=by
 have e:mX (-3)=false:=by decide
 unfold mK at h;rw[e] at h;simp at h;omega
theorem Cj (c:Int) (st:List Bool) (a:Int) (h:mK (st.length:Int) a=true):((ze c st a).length:Int)=oa (st.length:Int) a:=by
 by_cases h1:a= -1
 ·subst h1;rw[Jr c st rfl,show oa (st.length:Int) (-1)=st.length from rfl];simp
 ·by_cases h2:a= -2
  ·subst h2;have:=Jv h;rw[Js c st rfl,show oa (st.length:Int) (-2)=(st.length:Int)-1 from rfl];simp;omega
  ·by_cases h3:a= -3
   ·subst h3;have:=Jw h;rw[Jt c st rfl,show oa (st.length:Int) (-3)=(st.length:Int)-1 from rfl];simp;omega
   ·rw[Ju c st h1 h2 h3]
    unfold mK at h
    unfold oa
    cases e:mX a with
    |true=>simp
    |false=>rw[e] at h;simp[h1,h2,h3] at h
theorem Ck (c:Int): ∀(l:LI) (st:List Bool),qW l (st.length:Int)=true->((l.foldl (ze c) st).length:Int)=1
 | [],st,h=>by simpa[qW] using h
 |a::l,st,h=>by
  obtain ⟨h1,h2⟩:=Bool.and_eq_true_iff.1 h
  rw[aY]
  exact Ck c l _ (by rw[Cj c st a h1];exact h2)
theorem uG {n:Nat} (h:1<=n:=by omega) (h2:n<4611686018427387904:=by omega):aF ((n:Int)-1)=((n-1:Nat):Int):=by rw[wrap_i64];omega
theorem AJ {n:Nat} (h:2<=n:=by omega) (h2:n<4611686018427387904:=by omega):aF ((n:Int)-2)=((n-2:Nat):Int):=by rw[wrap_i64];omega
def ob (l:LI) (c:Int):Bool:=bif jf l then bif bI c then (l.foldl (ze c) []).getD 0 false else false else false
theorem d_.eq (hk:cy<=k) {l:LI} (c:Int) (hl:l.length<1048577):d_.f k l c=some (ob l c):=by
 unfold ob
 refine bS (dP.eq hk hl) ?_
 cases hp:jf l with
 |false=>rfl
 |true=>
  refine bF rfl (bS (cc.eq ..) ?_)
  cases hc:bI c with
  |false=>rfl
  |true=>
   refine bF rfl ?_
   have ZO:qW l 0=true:=by unfold jf at hp;simp only[ay] at hp;exact hp.1
   have h:=scan (B:=List Bool) l (fun m b i=>d_.l5 k l c (fun x4=>bY (decide ((0:Int)<(x4.length:Int)))<|some (x4.getD 0 false)) m i b) (fun _ _=>true) (ze c) (fun x4=>bY (decide ((0:Int)<(x4.length:Int)))<|some (x4.getD 0 false)) (fun _ _=>none) (fun i b=>qW (l.drop i) (b.length:Int)=true/\b.length<=i)
    (fun m b i h hI=>by
      obtain ⟨hI,hle⟩:=hI
      rw[drop_cons h] at hI
      obtain ⟨ho,_⟩:=Bool.and_eq_true_iff.1 hI
      refine bV rfl ?_
      refine bT ae ?_
      refine cT (cg h) ?_
      rw[aa,aN _ h,aK]
      simp only[ak]
      by_cases h1:l[i] = -1
      ·have hd:=O4 (h1 ▸ ho)
       refine bT (by simp[h1]) ?_
       rw[uG]
       refine cT (cg (by omega)) (cT (cg (by omega)) ?_)
       rw[aa,Jr c b h1]
      ·refine bF (by simp[h1]) ?_
       by_cases h2:l[i] = -2
       ·have hd:=Jv (h2 ▸ ho)
        refine bT (by simp[h2]) ?_
        rw[uG,AJ]
        refine cT (bA ae ae) (cT ae (cT (cg (by omega)) ?_))
        rw[aa,aa,Js c b h2]
        cases e:b.getD (b.length-2) false with
        |true=>exact bT rfl (cT (cg (by omega)) (bW (ae (by simp[room];omega))))
        |false=>exact bF rfl (bW (ae (by simp[room];omega)))
       ·refine bF (by simp[h2]) ?_
        by_cases h3:l[i] = -3
        ·have hd:=Jw (h3 ▸ ho)
         refine bT (by simp[h3]) ?_
         rw[uG,AJ]
         refine cT (bA ae ae) (cT ae (cT (cg (by omega)) ?_))
         rw[aa,aa,Jt c b h3]
         cases e:b.getD (b.length-2) false with
         |true=>exact bT rfl (bW (ae (by simp[room];omega)))
         |false=>exact bF rfl (cT (cg (by omega)) (bW (ae (by simp[room];omega))))
        ·refine bF (by simp[h3]) ?_
         refine cT (cg h) ?_
         refine bS (lP.eq ..) ?_
         refine cT (ae (by simp[room];omega)) ?_
         rw[Ju c b h1 h2 h3])
    (fun b i h hI _=>by
      obtain ⟨hI,hle⟩:=hI
      rw[drop_cons h] at hI
      obtain ⟨ho,hr⟩:=Bool.and_eq_true_iff.1 hI
      have hs:=Cj c b l[i] ho
      have:=yf ho (by omega)
      exact ⟨by rw[hs];exact hr,by omega⟩)
    (fun m b hI=>bV rfl (br aC))
    l.length 0 k [] (by omega) (cd hk hl) ⟨by simpa using ZO,by simp⟩
   refine h.trans ?_
   rw[ah,bX]
   have hf:=Ck c l [] (by simpa using ZO)
   exact bW ae
theorem dX.eq (hk:cy<=k) {l:LI} (c:Int) (hl:l.length<1048577):dX.f k l c=some (ob l c):=by
 unfold ob
 refine bS (dO.eq hk hl) ?_
 cases hp:jf l with
 |false=>rfl
 |true=>
  refine bF rfl (bS (bH.eq ..) ?_)
  cases hc:bI c with
  |false=>rfl
  |true=>
   refine bF rfl ?_
   have ZO:qW l 0=true:=by unfold jf at hp;simp only[ay] at hp;exact hp.1
   have h:=scan (B:=List Bool) l (fun m b i=>dX.l5 k c l (l.length:Int) (fun x4=>bY (decide ((0:Int)<(x4.length:Int)))<|some (x4.getD 0 false)) m i b) (fun _ _=>true) (ze c) (fun x4=>bY (decide ((0:Int)<(x4.length:Int)))<|some (x4.getD 0 false)) (fun _ _=>none) (fun i b=>qW (l.drop i) (b.length:Int)=true/\b.length<=i)
    (fun m b i h hI=>by
      obtain ⟨hI,hle⟩:=hI
      rw[drop_cons h] at hI
      obtain ⟨ho,_⟩:=Bool.and_eq_true_iff.1 hI
      refine bV rfl ?_
      refine bT ae ?_
      refine cT (cg h) ?_
      rw[aa,aN _ h,aK]
      simp only[ak]
      by_cases h1:l[i] = -1
      ·have hd:=O4 (h1 ▸ ho)
       refine bT (by simp[h1]) ?_
       rw[uG]
       refine cT (cg (by omega)) (cT (cg (by omega)) ?_)
       rw[aa,Jr c b h1]
      ·refine bF (by simp[h1]) ?_
       by_cases h2:l[i] = -2
       ·have hd:=Jv (h2 ▸ ho)
        refine bT (by simp[h2]) ?_
        rw[uG,AJ]
        refine cT (bA ae ae) (cT ae (cT (cg (by omega)) ?_))
        rw[aa,aa,Js c b h2]
        cases e:b.getD (b.length-2) false with
        |true=>exact bT rfl (cT (cg (by omega)) (bW (ae (by simp[room];omega))))
        |false=>exact bF rfl (bW (ae (by simp[room];omega)))
       ·refine bF (by simp[h2]) ?_
        by_cases h3:l[i] = -3
        ·have hd:=Jw (h3 ▸ ho)
         refine bT (by simp[h3]) ?_
         rw[uG,AJ]
         refine cT (bA ae ae) (cT ae (cT (cg (by omega)) ?_))
         rw[aa,aa,Jt c b h3]
         cases e:b.getD (b.length-2) false with
         |true=>exact bT rfl (bW (ae (by simp[room];omega)))
         |false=>exact bF rfl (cT (cg (by omega)) (bW (ae (by simp[room];omega))))
        ·refine bF (by simp[h3]) ?_
         refine bS (pv.eq ..) ?_
         refine cT (ae (by simp[room];omega)) ?_
         rw[Ju c b h1 h2 h3])
    (fun b i h hI _=>by
      obtain ⟨hI,hle⟩:=hI
      rw[drop_cons h] at hI
      obtain ⟨ho,hr⟩:=Bool.and_eq_true_iff.1 hI
      have hs:=Cj c b l[i] ho
      have:=yf ho (by omega)
      exact ⟨by rw[hs];exact hr,by omega⟩)
    (fun m b hI=>bV rfl (br aC))
    l.length 0 k [] (by omega) (cd hk hl) ⟨by simpa using ZO,by simp⟩
   refine h.trans ?_
   rw[ah,bX]
   have hf:=Ck c l [] (by simpa using ZO)
   exact bW ae
theorem P8 (v:LI) (c:Int):(uF v c).Perm (c::v):=by
 unfold uF
 have h:(v.take (rm c v v.length)++c::v.drop (rm c v v.length)).Perm (c::(v.take (rm c v v.length)++v.drop (rm c v v.length))):=List.perm_middle
 rwa [b_] at h
theorem EO: ∀(l b:LI),(l.foldl uF b).Perm (b++l)
 | [],b=>by simp
 |a::l,b=>by
  rw[aY]
  refine (EO l (uF b a)).trans (((P8 b a).append_right l).trans ?_)
  exact (List.perm_middle (l₁:=b) (a:=a) (l₂:=l)).symm
theorem AK (l:LI):(dN l).Perm l:=EO l []
theorem xd (l:LI):(dN l).length=l.length:=(AK l).length_eq
structure Rl where
 n:Int
 e:Int
 b1:Bool
 b2:Bool
 w:LI
 f:LI
 t:Int
 l:Int
def Rl.ok (r:Rl):Bool:=vn r.n r.e r.b1 r.b2 r.w r.f r.t r.l
abbrev Rl.sm (r:Rl):Prop:=r.w.length<1048577/\r.f.length<1048577
structure Gm where
 r:Rl
 hs:LL
 st:LI
 hp:LI
 tn:Int
 mv:Int
 ps:Int
abbrev Rl.ap {β:Type} (F:Int->Int->Bool->Bool->LI->LI->Int->Int->β) (r:Rl):β:=F r.n r.e r.b1 r.b2 r.w r.f r.t r.l
abbrev Rl.tp (r:Rl):Int×Int×Bool×Bool×LI×LI×Int×Int:=(r.n,r.e,r.b1,r.b2,r.w,r.f,r.t,r.l)
abbrev Gm.ap {β:Type} (F:Int->Int->Bool->Bool->LI->LI->Int->Int->LL->LI->LI->Int->Int->Int->β) (g:Gm):β:=F g.r.n g.r.e g.r.b1 g.r.b2 g.r.w g.r.f g.r.t g.r.l g.hs g.st g.hp g.tn g.mv g.ps
abbrev Gm.tp (g:Gm):Int×Int×Bool×Bool×LI×LI×Int×Int×LL×LI×LI×Int×Int×Int:=(g.r.n,g.r.e,g.r.b1,g.r.b2,g.r.w,g.r.f,g.r.t,g.r.l,g.hs,g.st,g.hp,g.tn,g.mv,g.ps)
abbrev Gm.wF (g:Gm) (b:Bool):Int×Int×Bool×Bool×LI×LI×Int×Int×LL×LI×LI×Int×Int×Int×Bool:=(g.r.n,g.r.e,g.r.b1,g.r.b2,g.r.w,g.r.f,g.r.t,g.r.l,g.hs,g.st,g.hp,g.tn,g.mv,g.ps,b)
abbrev Wl (l:LI):Prop:=l.length<1048577
abbrev Cl (l:LL):Prop:=l.length<1048577/\ ∀y∈l,y.length<1048577
abbrev Gm.sm (g:Gm):Prop:=g.r.sm/\Cl g.hs/\Wl g.st/\Wl g.hp
theorem tz {r:Rl} (h:r.ok=true):(2<=r.n/\r.n<=6)/\(1<=r.e/\r.e<=8)/\(1<=r.t/\r.t<=4)/\(1<=r.l/\r.l<=400):=by
 unfold Rl.ok vn at h
 simp only[ay] at h
 exact ⟨ja.1 h.1.1.1.1.1.1,ja.1 h.1.1.1.1.1.2,ja.1 h.1.2,ja.1 h.2⟩
def eG (g:Gm):Bool:=g.r.ok&&((g.hs.length:Int)==g.r.n)&&whole (g.hs++[g.st,g.hp])&&decide (0<g.hp.length)&&mJ g.tn 0 (g.r.n-1)&&mJ g.mv 0 g.r.l&&mJ g.ps 0 g.mv
theorem hR {g:Gm}:eG g=true↔g.r.ok=true/\(g.hs.length:Int)=g.r.n/\whole (g.hs++[g.st,g.hp])=true/\0<g.hp.length/\(0<=g.tn/\g.tn<=g.r.n-1)/\(0<=g.mv/\g.mv<=g.r.l)/\(0<=g.ps/\g.ps<=g.mv):=by
 unfold eG
 simp only[ay,cG,dH,ja,and_assoc]
theorem kZ (g:Gm):(g.hs++[g.st,g.hp]).flatten=g.hs.flatten++(g.st++g.hp):=by simp
theorem zQ {g:Gm} (h:eG g=true):g.hs.length<=6/\(∀y∈g.hs,y.length<=52)/\g.st.length<=52/\g.hp.length<=52:=by
 obtain ⟨h1,h2,h3,h4,_⟩:=hR.1 h
 have hr:=tz h1
 have hl:=H8 h3
 rw[kZ,au,au] at hl
 exact ⟨by omega,fun y hy=>by have:=K_ hy;omega,by omega,by omega⟩
def qy:Int->LL->Int
 |_,[]=> -1
 |i,h::l=>bif ((h.length:Int)==0) then i else qy (i+1) l
theorem H_: ∀(l:LL) (i:Int),qy i l= -1\/(i<=qy i l/\qy i l<i+(l.length:Int))
 | [],i=> .inl rfl
 |h::l,i=>by
  unfold qy
  cases ((h.length:Int)==0) with
  |true=>right;simp only[ak,ab];omega
  |false=>
   rcases H_ l (i+1) with h|h
   ·left;simpa using h
   ·right;simp only[an,ab];omega
def lL (g:Gm):Int:=bif eG g then qy 0 g.hs else-1
def qq (g:Gm):Bool:=decide (qy 0 g.hs>=0)||(g.mv==g.r.l)||decide (g.ps>=g.r.n)
def pg (g:Gm):Bool:=eG g&&qq g
def fits (r:Rl) (top c:Int):Bool:=r.ok&&bI top&&bI c&&((r.b1&&(bJ c==bJ top))||(r.b2&&(cu c==cu top))||ob r.w c)
def qX (r:Rl) (c:Int):Bool:=r.ok&&ob r.f c
def Gm.hand (g:Gm):LI:=g.hs.getD g.tn.toNat []
def Gm.top (g:Gm):Int:=g.hp.getD (g.hp.length-1) 0
def cv (g:Gm):LI:=bif eG g&& !qq g then (dN g.hand).filter (fits g.r g.top) else []
theorem ou {g:Gm} {c:Int} (h:bq (cv g) c=true):eG g=true/\qq g=false/\c∈g.hand/\bI c=true:=by
 rw[n_] at h
 unfold cv at h
 cases h1:eG g<;>rw[h1] at h
 ·simp at h
 ·cases h2:qq g<;>rw[h2] at h
  ·simp only[Bool.not_false,Bool.and_self,ak,List.mem_filter] at h
   refine ⟨rfl,rfl,(AK _).mem_iff.1 h.1,?_⟩
   have:=h.2
   unfold fits at this
   simp only[ay] at this
   exact this.1.2
  ·simp at h
theorem ov (g:Gm):(cv g).length<=52:=by
 unfold cv
 cases h1:eG g with
 |false=>simp
 |true=>
  cases h2:qq g with
  |true=>simp
  |false=>
   simp only[Bool.not_false,Bool.and_self,ak]
   refine bx (List.length_filter_le _ _) ?_
   rw[xd]
   have:=zQ h1
   unfold Gm.hand
   by_cases ht:g.tn.toNat<g.hs.length
   ·rw[aN _ ht];exact this.2.1 _ (aj ht)
   ·rw[aL,List.getElem?_eq_none (by omega)];simp
theorem oZ {g:Gm} {c:Int} (h:c∈cv g):bI c=true:=(ou (n_.2 h)).2.2.2
def pq (g:Gm) (c:Int):Gm×Bool:=
 bif bq (cv g) c then
  ({g with hs:=g.hs.set g.tn.toNat (eu g.hand c),hp:=g.hp++[c],mv:=g.mv+1,ps:=0,tn:=(g.tn+(bif qX g.r c then 2 else 1)).tmod g.r.n},true)
 else (g,false)
def takeN (t:Nat):Nat->LL->LI->LI->Nat->LL×LI×LI×Nat
 |0,hs,st,hp,n=>(hs,st,hp,n)
 |m+1,hs,st,hp,n=>
  match (bif ((st.length:Int)==0) then hp.take (hp.length-1) else st),(bif ((st.length:Int)==0) then hp.drop (hp.length-1) else hp) with
  | [],xe=>(hs,[],xe,n)
  |c::st2,xe=>takeN t m (hs.set t (hs.getD t []++[c])) st2 xe (n+1)
def ki (g:Gm):Gm×Bool:=
 bif eG g&& !qq g then
  let q:=takeN g.tn.toNat g.r.t.toNat g.hs g.st g.hp 0
  ({g with hs:=q.1,st:=q.2.1,hp:=q.2.2.1,mv:=g.mv+1,ps:=bif q.2.2.2==0 then g.ps+1 else 0,tn:=(g.tn+1).tmod g.r.n},true)
 else (g,false)
def ch (g:Gm) (m:Int):Gm×Bool:=bif m== -1 then ki g else pq g m
def gA:LI->Int->Gm->Gm×Int
 | [],i,g=>(g,i)
 |m::l,i,g=>bif (ch g m).2 then gA l (i+1) (ch g m).1 else (g,i)
theorem zR {a n:Int} (h0:0<=a) (hn:1<=n):0<=a.tmod n/\a.tmod n<=n-1:=by
 rw[aX h0]
 have h1:=Int.emod_nonneg a (b:=n) (by omega)
 have h2:=Int.emod_lt_of_pos a (b:=n) (by omega)
 omega
theorem Lb {g:Gm} (h:eG g=true) (ho:qq g=false):g.mv+1<=g.r.l:=by
 obtain ⟨_,_,_,_,_,h6,_⟩:=hR.1 h
 unfold qq at ho
 simp only[Bool.or_eq_false_iff] at ho
 have:=ho.1.2
 simp at this
 omega
theorem No (a b c:LI):(a++b++c).Perm (a++c++b):=by
 rw[bp,bp]
 exact List.Perm.append_left _ List.perm_append_comm
theorem Lc {g:Gm} {c:Int} (h:(pq g c).2=true):eG (pq g c).1=true/\(pq g c).1.mv=g.mv+1/\(pq g c).1.r=g.r:=by
 unfold pq at h ⊢
 cases hc:bq (cv g) c with
 |false=>rw[hc] at h;cases h
 |true=>
  obtain ⟨h1,h2,h3,h4⟩:=ou hc
  obtain ⟨g1,g2,g3,g4,g5,g6,g7⟩:=hR.1 h1
  have hr:=tz g1
  have ht:g.tn.toNat<g.hs.length:=by omega
  simp only[ak]
  refine ⟨hR.2 ⟨g1,by simpa using g2,?_,by simp,?_,⟨by show 0<=g.mv+1;omega,Lb h1 h2⟩,⟨by simp,by show (0:Int)<=g.mv+1;omega⟩⟩,trivial,trivial⟩
  ·rw[<- g3]
   refine EN ?_
   rw[kZ,kZ]
   have hh:g.hand=g.hs[g.tn.toNat]:=aN _ ht
   obtain ⟨q,q1,q2⟩:=xc g.hs g.tn.toNat (eu g.hand c) ht
   have nd:g.hand.Nodup:=by
    have:=K9 g3
    rw[kZ] at this
    have:=(List.nodup_append.1 this).1
    have:=(q1.nodup_iff).1 this
    rw[hh]
    exact (List.nodup_append.1 this).1
   refine (q2.append_right _).trans (List.Perm.trans ?_ (q1.append_right _).symm)
   rw[<- hh]
   have hw:=(AG nd h3).symm
   have e:eu g.hand c++q++(g.st++(g.hp++[c]))=(eu g.hand c++(q++(g.st++g.hp)))++[c]:=by simp
   have e2:g.hand++q++(g.st++g.hp)=g.hand++(q++(g.st++g.hp)):=by simp
   rw[e,e2]
   refine List.Perm.trans ?_ (hw.append_right _)
   exact No _ _ _
  ·refine zR ?_ (by omega)
   show 0<=g.tn+_
   cases qX g.r c<;>simp only[ak,an]<;>omega
theorem C9 (t:Nat): ∀(m:Nat) (hs:LL) (st hp:LI) (n:Nat),t<hs.length->0<hp.length->
 ((takeN t m hs st hp n).1.flatten++((takeN t m hs st hp n).2.1++(takeN t m hs st hp n).2.2.1)).Perm (hs.flatten++(st++hp))/\0<(takeN t m hs st hp n).2.2.1.length/\(takeN t m hs st hp n).1.length=hs.length/\n<=(takeN t m hs st hp n).2.2.2
 |0,hs,st,hp,n,ht,hh=>⟨List.Perm.refl _,hh,rfl,ai _⟩
 |m+1,hs,st,hp,n,ht,hh=>by
  have key: ∀(st1 xe:LI),(st1++xe).Perm (st++hp)->0<xe.length->
   (let q:=(match st1,xe with
     | [],xe=>(hs,[],xe,n)
     |c::st2,xe=>takeN t m (hs.set t (hs.getD t []++[c])) st2 xe (n+1):LL×LI×LI×Nat)
   (q.1.flatten++(q.2.1++q.2.2.1)).Perm (hs.flatten++(st++hp))/\0<q.2.2.1.length/\q.1.length=hs.length/\n<=q.2.2.2):=by
   intro st1 xe h1 h2
   cases st1 with
   |nil=>exact ⟨List.Perm.append_left _ h1,h2,rfl,ai _⟩
   |cons c st2=>
    obtain ⟨k1,k2,k3,k4⟩:=C9 t m (hs.set t (hs.getD t []++[c])) st2 xe (n+1) (by simpa using ht) h2
    refine ⟨k1.trans ?_,k2,by simpa using k3,Nat.le_of_succ_le k4⟩
    obtain ⟨q,q1,q2⟩:=xc hs t (hs.getD t []++[c]) ht
    refine (q2.append_right _).trans (List.Perm.trans ?_ ((List.Perm.append_left _ h1).trans (List.Perm.refl _)))
    refine List.Perm.trans ?_ (q1.append_right _).symm
    rw[aN _ ht]
    have e1:hs[t]++[c]++q++(st2++xe)=hs[t]++([c]++(q++(st2++xe))):=by simp
    have e2:hs[t]++q++(c::st2++xe)=hs[t]++(q++([c]++(st2++xe))):=by simp
    rw[e1,e2]
    exact List.Perm.append_left _ (List.perm_append_comm_assoc _ _ _)
  unfold takeN
  cases he:((st.length:Int)==0) with
  |false=>exact key st hp (List.Perm.refl _) hh
  |true=>
   have:st=[]:=by
    have h0:(st.length:Int)=0:=by simpa using he
    exact List.length_eq_zero_iff.1 (by omega)
   subst this
   refine key _ _ ?_ (by simp only[ak,cO];omega)
   simp only[ak,b_,aM]
   exact List.Perm.refl _
theorem EP {g:Gm} (h:(ki g).2=true):eG (ki g).1=true/\(ki g).1.mv=g.mv+1/\(ki g).1.r=g.r:=by
 unfold ki at h ⊢
 cases h1:eG g with
 |false=>rw[h1] at h;cases h
 |true=>
  cases h2:qq g with
  |true=>rw[h1,h2] at h;cases h
  |false=>
   obtain ⟨g1,g2,g3,g4,g5,g6,g7⟩:=hR.1 h1
   have hr:=tz g1
   have ht:g.tn.toNat<g.hs.length:=by omega
   obtain ⟨k1,k2,k3,k4⟩:=C9 g.tn.toNat g.r.t.toNat g.hs g.st g.hp 0 ht g4
   simp only[Bool.not_false,Bool.and_self,ak]
   refine ⟨hR.2 ⟨g1,by show ((takeN _ _ _ _ _ _).1.length:Int)=_;rw[k3];exact g2,?_,k2,zR (by show 0<=g.tn+1;omega) (by omega),⟨by show 0<=g.mv+1;omega,Lb h1 h2⟩,?_⟩,trivial,trivial⟩
   ·rw[<- g3]
    refine EN ?_
    rw[kZ,kZ]
    exact k1
   ·show 0<=(bif _ then _ else _)/\(bif _ then _ else _)<=g.mv+1
    cases ((takeN g.tn.toNat g.r.t.toNat g.hs g.st g.hp 0).2.2.2==0)<;>simp only[ak,an]<;>omega
theorem wG {g:Gm} {c:Int} (h:(ch g c).2=true):eG (ch g c).1=true/\(ch g c).1.mv=g.mv+1/\(ch g c).1.r=g.r:=by
 unfold ch at h ⊢
 cases hc:(c== -1) with
 |true=>rw[hc] at h;exact EP h
 |false=>rw[hc] at h;exact Lc h
theorem Jx {g:Gm} (h:(ki g).2=false):(ki g).1=g:=by
 unfold ki at h ⊢
 cases h1:(eG g&& !qq g) with
 |false=>rfl
 |true=>rw[h1] at h;cases h
theorem P9 {g:Gm} {c:Int} (h:(pq g c).2=false):(pq g c).1=g:=by
 unfold pq at h ⊢
 cases hc:bq (cv g) c with
 |false=>rfl
 |true=>rw[hc] at h;cases h
theorem Hs {g:Gm} {c:Int} (h:(ch g c).2=false):(ch g c).1=g:=by
 unfold ch at h ⊢
 cases hc:(c== -1) with
 |true=>rw[hc] at h;exact Jx h
 |false=>rw[hc] at h;exact P9 h
theorem Ia {g:Gm} (h:eG g=true) (hr:g.r.sm):g.sm:=by
 obtain ⟨h1,h2,h3,h4⟩:=zQ h
 exact ⟨hr,⟨by omega,fun y hy=>by have:=h2 y hy;omega⟩,by show g.st.length<_;omega,by show g.hp.length<_;omega⟩
theorem o0 {g:Gm} {c:Int} (h:g.sm):(ch g c).1.sm:=by
 cases hm:(ch g c).2 with
 |true=>
  obtain ⟨h1,_,h3⟩:=wG hm
  exact Ia h1 (by rw[h3];exact h.1)
 |false=>rw[Hs hm];exact h
def od (l:LI):LI:=l.foldl (fun b a=>bif decide (bJ a>=0) then b.set (bJ a).toNat (b.getD (bJ a).toNat 0+1) else b) [0,0,0,0]
def tU (n:Int->Int):LI->Int->Int
 | [],b=>b
 |c::l,b=>tU n l (bif decide (n c>n b) then c else b)
def choice (g:Gm) (k:Int):Int:=
 bif (((cv g).length:Int)==0) then-1
 else bif k==0 then (cv g).getD 0 0
 else bif k==1 then (cv g).getD ((cv g).length-1) 0
 else bif k==2 then tU (fun c=>(od g.hand).getD (bJ c).toNat 0) (cv g) ((cv g).getD 0 0)
 else-1
theorem EQ (n:Int->Int): ∀(l:LI) (b:Int),tU n l b=b\/tU n l b∈l
 | [],b=> .inl rfl
 |c::l,b=>by
  unfold tU
  rcases EQ n l (bif decide (n c>n b) then c else b) with h|h
  ·rw[h]
   cases decide (n c>n b) with
   |true=>right;simp
   |false=>left;rfl
  ·right;simp[h]
theorem P_ (g:Gm) (k:Int):choice g k= -1\/choice g k∈cv g:=by
 unfold choice
 cases h0:(((cv g).length:Int)==0) with
 |true=>left;rfl
 |false=>
  have hl:0<(cv g).length:=by
   have: ¬((cv g).length:Int)=0:=by simpa using h0
   omega
  simp only[an]
  cases (k==0) with
  |true=>right;exact nX _ hl
  |false=>
   cases (k==1) with
   |true=>right;exact nX _ (by omega)
   |false=>
    cases (k==2) with
    |true=>
     right
     simp only[ak,an]
     rcases EQ (fun c=>(od g.hand).getD (bJ c).toNat 0) (cv g) ((cv g).getD 0 0) with h|h
     ·rw[h];exact nX _ hl
     ·exact h
    |false=>left;rfl
theorem bh.eq (k:Nat) {l:LI} (hl:l.length<1048577):bh.f k l=some l:=cT (ae (by simp[room];omega)) rfl
theorem gf.eq (k:Nat) {r:Rl} (h:r.sm):r.ap (gf.f k)=some r.tp:=by
 have h1:=h.1
 have h2:=h.2
 exact cT (nY) (cT (nY) rfl)
theorem df.eq (k:Nat) {r:Rl} (h:r.sm):r.ap (df.f k)=some r.tp:=bS (bh.eq k h.1) (bN (bh.eq k h.2))
theorem gM.eq (hk:cy<=k) {l:LL} (hl:Cl l):gM.f k l=some l:=by
 have h:=scan (B:=LL) l (fun m b i=>gM.l3 k l (fun x=>some x) m i b) (fun _ _=>true) (fun b a=>b++[a]) (fun x=>some x) (fun _ _=>none) (fun i b=>b.length=i)
  (fun m b i h hI=>by
    have:=hl.1
    have:=hl.2 _ (aj h)
    refine bV rfl (bT ae (cT (cg h) ?_))
    rw[aa,aN _ h,aK]
    exact cT (nY) (bW (D6)))
  (fun b i h hI _=>by simp;omega)
  (fun m b hI=>bV rfl (br aC))
  l.length 0 k [] (by omega) (cd hk hl.1) rfl
 refine h.trans ?_
 rw[ah,bX,nZ (fun a=>a)]
 simp
theorem dx.eq (hk:cy<=k) {l:LL} (hl:Cl l):dx.f k l=some l:=by
 have h:=scan (B:=LL) l (fun m b i=>dx.l3 k l (l.length:Int) (fun x=>some x) m i b) (fun _ _=>true) (fun b a=>b++[a]) (fun x=>some x) (fun _ _=>none) (fun i b=>b.length=i)
  (fun m b i h hI=>by
    have:=hl.1
    refine bV rfl (bT ae (cT (cg h) ?_))
    rw[aa,aN _ h,aK]
    exact bS (bh.eq k (hl.2 _ (aj h))) (bW (D6)))
  (fun b i h hI _=>by simp;omega)
  (fun m b hI=>bV rfl (br aC))
  l.length 0 k [] (by omega) (cd hk hl.1) rfl
 refine h.trans ?_
 rw[ah,bX,nZ (fun a=>a)]
 simp
theorem gg.eq (hk:cy<=k) {g:Gm} (h:g.sm):g.ap (gg.f k)=some g.tp:=by
 obtain ⟨h1,h2,h3,h4⟩:=h
 refine bS (gf.eq k h1) (bS (gM.eq hk h2) ?_)
 have h3:g.st.length<1048577:=h3
 have h4:g.hp.length<1048577:=h4
 exact cT (nY) (cT (nY) rfl)
theorem dA.eq (hk:cy<=k) {g:Gm} (h:g.sm):g.ap (dA.f k)=some g.tp:=by
 obtain ⟨h1,h2,h3,h4⟩:=h
 exact bS (df.eq k h1) (bS (dx.eq hk h2) (bS (bh.eq k h3) (bS (bh.eq k h4) rfl)))
theorem vo (hk:cy<=k) {r:Rl} (h:r.sm):r.ap (dm.f k)=some r.ok:=dm.eq hk _ _ _ _ _ _ h.1 h.2
theorem vp (hk:cy<=k) {r:Rl} (h:r.sm):r.ap (dk.f k)=some r.ok:=dk.eq hk _ _ _ _ _ _ h.1 h.2
theorem Cm {z:Nat->LI->Option Int} (hz: ∀b a,z b a=some (b:Int)): ∀(l:LL) (b:Nat),run (fun (_:Nat) (a:LI)=> !((a.length:Int)==0)) (fun b _=>b+1) (fun _=>some (-1)) z l b=some (qy (b:Int) l)
 | [],b=>rfl
 |a::l,b=>by
  show (bif !((a.length:Int)==0) then run _ _ _ _ l (b+1) else z b a)=some (bif ((a.length:Int)==0) then (b:Int) else qy ((b:Int)+1) l)
  rw[Cm hz l (b+1),hz]
  cases ((a.length:Int)==0)<;>rfl
theorem fM.eq (hk:cy<=k) (g:Gm) (h:g.hs.length<1048577):g.ap (fM.f k)=some (qy 0 g.hs):=by
 have h:=scan (B:=Nat) g.hs (fun m b i=>fM.l2 k g.hs (fun x1=>some x1) (some (-1)) m i) (fun _ a=> !((a.length:Int)==0)) (fun b _=>b+1) (fun _=>some (-1)) (fun b _=>some (b:Int)) (fun i b=>b=i)
  (fun m b i h hI=>by
    subst hI
    refine kz rfl (bT ae (cT (cg h) ?_))
    rw[aa,aN _ h,aK]
    cases ((g.hs[b].length:Int)==0)<;>rfl)
  (fun b i h hI _=>by omega)
  (fun m b hI=>kz rfl (br aC))
  g.hs.length 0 k 0 (by omega) (cd hk h) rfl
 refine h.trans ?_
 rw[ah]
 exact Cm (fun _ _=>rfl) g.hs 0
theorem gb.loop (hk:cy<=k) {l:LL} (h:l.length<1048577):gb.l4 k l (l.length:Int) (fun x2=>some x2) (some (-1:Int)) k (0:Int)=some (qy 0 l):=by
 have h:=scan (B:=Nat) l (fun m b i=>gb.l4 k l (l.length:Int) (fun x1=>some x1) (some (-1)) m i) (fun _ a=> !((a.length:Int)==0)) (fun b _=>b+1) (fun _=>some (-1)) (fun b _=>some (b:Int)) (fun i b=>b=i)
  (fun m b i h hI=>by
    subst hI
    refine kz rfl (bT ae (cT (cg h) ?_))
    rw[aa,aN _ h,aK]
    cases ((l[b].length:Int)==0)<;>rfl)
  (fun b i h hI _=>by omega)
  (fun m b hI=>kz rfl (br aC))
  l.length 0 k 0 (by omega) (cd hk h) rfl
 refine h.trans ?_
 rw[ah]
 exact Cm (fun _ _=>rfl) l 0
theorem iR.eq (hk:cy<=k) (g:Gm) (h:g.hs.length<1048577):g.ap (iR.f k)=some (qq g):=by
 refine bS (fM.eq hk g h) ?_
 unfold qq
 cases decide (qy 0 g.hs>=0)<;>cases (g.mv==g.r.l)<;>rfl
theorem xf: ∀(l:LL),(∀y∈l,y.length<1048577)->l.flatten.length<=l.length*1048576
 | [],_=>by simp
 |a::l,h=>by
  have:=xf l (fun y hy=>h y (by simp[hy]))
  have:=h a (by simp)
  rw[List.flatten_cons,au,ab]
  omega
theorem fu.eq (hk:cy<=k) {l:LL} (hl:Cl l) (hf:l.flatten.length<1073741824):fu.f k l=some (dz l.flatten):=by
 have h:=scan (B:=LI) l (fun m b i=>fu.l3 k l (l.length:Int) (fun x1=>(bo.f k x1).bind fun r2=>some r2) m i b) (fun _ _=>true) (fun b a=>b++a) (fun x1=>(bo.f k x1).bind fun r2=>some r2) (fun _ _=>none) (fun i b=>b.length<=i*1048576)
  (fun m b i h hI=>by
    have:=hl.1
    have:=hl.2 _ (aj h)
    refine bV rfl (bT ae (cT (cg h) ?_))
    rw[aa,aN _ h,aK]
    exact bW (nY))
  (fun b i h hI _=>by
    have:=hl.2 _ (aj h)
    rw[au];omega)
  (fun m b hI=>bV rfl (br aC))
  l.length 0 k [] (by omega) (cd hk hl.1) (by simp)
 refine h.trans ?_
 rw[ah,bX,uC,aM]
 exact bN (bo.eq hk hf)
theorem Cn: ∀(l:LL) (b:Int),l.foldl (fun b a=>b+(a.length:Int)) b=b+(l.flatten.length:Int)
 | [],b=>by simp
 |a::l,b=>by
  rw[aY,Cn l,List.flatten_cons,au];omega
theorem dU.eq (hk:cy<=k) {l:LL} (hl:Cl l):dU.f k l=some (l.flatten.length:Int):=by
 have h:=scan (B:=Int) l (fun m b i=>dU.l3 k l (l.length:Int) (fun x1=>some x1) m b i) (fun _ _=>true) (fun b a=>b+(a.length:Int)) (fun x1=>some x1) (fun _ _=>none) (fun i b=>0<=b/\b<=(i:Int)*1048576)
  (fun m b i h hI=>by
    have:=hl.1
    have:=hl.2 _ (aj h)
    refine bV rfl (bT ae (cT (cg h) ?_))
    rw[aa,aN _ h,aK,wrap_i64]
    rfl)
  (fun b i h hI _=>by
    have:=hl.2 _ (aj h)
    omega)
  (fun m b hI=>bV rfl (br aC))
  l.length 0 k 0 (by omega) (cd hk hl.1) (by simp)
 refine h.trans ?_
 rw[ah,bX,Cn,Int.zero_add]
theorem jm.eq (hk:cy<=k) {l:LL} (hl:Cl l) (hf:l.flatten.length<1073741824):jm.f k l=some (whole l):=by
 refine bS (fu.eq hk hl hf) ?_
 unfold whole
 cases dz l.flatten with
 |false=>rfl
 |true=>exact bT rfl (bN (dU.eq hk hl))
theorem cq.loop (hk:cy<=k) {g:Gm} (h:g.sm) (hn:g.hs.length<=6):cq.l5 k g.hs (fun x5=>bif ((x5.length:Int)==(52:Int)) then (bQ.f k x5).bind fun r6=>some r6 else some false) k (0:Int) (([]++g.st)++g.hp)=some (whole (g.hs++[g.st,g.hp])):=by
 obtain ⟨h1,h2,h3,h4⟩:=h
 have h3:g.st.length<1048577:=h3
 have h4:g.hp.length<1048577:=h4
 have h:=scan (B:=LI) g.hs (fun m b i=>cq.l5 k g.hs (fun x5=>bif ((x5.length:Int)==(52:Int)) then (bQ.f k x5).bind fun r6=>some r6 else some false) m i b) (fun _ _=>true) (fun b a=>b++a) (fun x5=>bif ((x5.length:Int)==(52:Int)) then (bQ.f k x5).bind fun r6=>some r6 else some false) (fun _ _=>none) (fun i b=>b.length<=(i+2)*1048576)
  (fun m b i h hI=>by
    have:=h2.2 _ (aj h)
    refine bV rfl (bT ae (cT (cg h) ?_))
    rw[aa,aN _ h,aK]
    exact bW (nY))
  (fun b i h hI _=>by
    have:=h2.2 _ (aj h)
    rw[au];omega)
  (fun m b hI=>bV rfl (br aC))
  g.hs.length 0 k (([]++g.st)++g.hp) (by omega) (cd hk h2.1) (by simp;omega)
 refine h.trans ?_
 rw[ah,bX,uC,aM]
 have hp:(g.st++g.hp++g.hs.flatten).Perm (g.hs++[g.st,g.hp]).flatten:=by
  rw[kZ];exact List.perm_append_comm
 unfold whole
 rw[<- tw hp,<- hp.length_eq]
 cases e:(((g.st++g.hp++g.hs.flatten).length:Int)==52) with
 |false=>simp
 |true=>
  have:((g.st++g.hp++g.hs.flatten).length:Int)=52:=by simpa using e
  refine bT rfl (bS (bQ.eq hk (by omega)) ?_)
  simp
theorem cq.eq (hk:cy<=k) {g:Gm} (h:g.sm):g.ap (cq.f k)=some (eG g):=by
 refine bS (vo hk h.1) ?_
 unfold eG
 cases hr:g.r.ok with
 |false=>rfl
 |true=>
  have Qa:=tz hr
  refine bF rfl ?_
  cases hn:((g.hs.length:Int)==g.r.n) with
  |false=>exact bT (by rw[bne,hn];rfl) (by simp)
  |true=>
   have wE:(g.hs.length:Int)=g.r.n:=by simpa using hn
   refine bF (by rw[bne,hn];rfl) ?_
   cases hh:((g.hp.length:Int)==0) with
   |true=>
    have:(g.hp.length:Int)=0:=by simpa using hh
    refine bT rfl ?_
    rw[aC (p:=0<g.hp.length) (by omega)];simp
   |false=>
    have: ¬(g.hp.length:Int)=0:=by simpa using hh
    rw[ae (p:=0<g.hp.length) (by omega)]
    refine bF rfl (bS (bb.eq ..) ?_)
    rw[wrap_i64]
    cases mJ g.tn 0 (g.r.n-1) with
    |false=>simp
    |true=>
     refine bF rfl (bS (bb.eq ..) ?_)
     cases mJ g.mv 0 g.r.l with
     |false=>simp
     |true=>
      refine bF rfl (bS (bb.eq ..) ?_)
      cases mJ g.ps 0 g.mv with
      |false=>simp
      |true=>
       have h3:g.st.length<1048577:=h.2.2.1
       have h4:g.hp.length<1048577:=h.2.2.2
       refine bF rfl (cT (nY) (cT (nY (by simp;omega)) ((cq.loop hk h (by omega)).trans ?_)))
       simp
theorem dG.eq (hk:cy<=k) {g:Gm} (h:g.sm):g.ap (dG.f k)=some (eG g):=by
 refine bS (vp hk h.1) ?_
 unfold eG
 cases hr:g.r.ok with
 |false=>rfl
 |true=>
  have Qa:=tz hr
  refine bT rfl ?_
  cases hn:((g.hs.length:Int)==g.r.n) with
  |false=>rfl
  |true=>
   have wE:(g.hs.length:Int)=g.r.n:=by simpa using hn
   have h3:g.st.length<1048577:=h.2.2.1
   have h4:g.hp.length<1048577:=h.2.2.2
   have ZP:=xf g.hs h.2.1.2
   refine bT rfl (bS (dx.eq hk h.2.1) (cT (D6) (bS (jm.eq hk ⟨by simp;omega,fun y hy=> ?_⟩ ?_) ?_)))
   ·rcases List.mem_append.1 hy with hy|hy
    ·exact h.2.1.2 y hy
    ·simp only[cL,cA,or_false] at hy
     rcases hy with rfl|rfl
     ·exact h3
     ·exact h4
   ·rw[kZ];simp only[au];omega
   ·cases whole (g.hs++[g.st,g.hp]) with
    |false=>rfl
    |true=>
     refine bT rfl ?_
     have e:decide ((g.hp.length:Int)>0)=decide (0<g.hp.length):=by simp
     rw[e]
     cases decide (0<g.hp.length) with
     |false=>rfl
     |true=>
      refine bT rfl (bS (aI.eq ..) ?_)
      rw[wE,wrap_i64]
      cases mJ g.tn 0 (g.r.n-1) with
      |false=>rfl
      |true=>
       refine bT rfl (bS (aI.eq ..) ?_)
       cases mJ g.mv 0 g.r.l with
       |false=>rfl
       |true=>exact bT rfl (bN (aI.eq ..))
theorem gb.eq (hk:cy<=k) {g:Gm} (h:g.sm):g.ap (gb.f k)=some (lL g):=by
 refine bS (dG.eq hk h) ?_
 unfold lL
 cases eG g with
 |false=>rfl
 |true=>exact bF rfl (gb.loop hk h.2.1.1)
theorem iO.eq (hk:cy<=k) {g:Gm} (h:g.sm):g.ap (iO.f k)=some (pg g):=by
 refine bS (dG.eq hk h) ?_
 unfold pg
 cases hg:eG g with
 |false=>rfl
 |true=>
  refine bT rfl (bS (gb.eq hk h) ?_)
  unfold lL qq
  rw[hg]
  simp only[ak]
  cases decide (qy 0 g.hs>=0)<;>cases (g.mv==g.r.l)<;>rfl
theorem eK.inner (k:Nat) {l:LI} {i:Nat} (h:i<l.length) (v:LI) (e0:Int->Option R) (hv:v.length<1048577): ∀(j n:Nat),j<=v.length->j<n->eK.l6 k l (i:Int) v e0 n (j:Int)=e0 ((rm l[i] v j:Nat):Int):=by
 intro j
 induction j with
 |zero=>
  intro n hj hn
  obtain ⟨n,rfl⟩: ∃n',n=n' +1:=⟨n-1,by omega⟩
  exact kz rfl (br aC)
 |succ j ih=>
  intro n hj hn
  obtain ⟨n,rfl⟩: ∃n',n=n' +1:=⟨n-1,by omega⟩
  refine kz rfl (bT ae ?_)
  have e:aF (((j+1:Nat):Int)-1)=(j:Int):=by rw[wrap_i64];omega
  rw[e]
  refine cT (cg (by omega)) (cT (cg h) ?_)
  rw[aa,aa,aN (l:=l) _ h]
  unfold rm
  cases h:decide (v.getD j 0>l[i]) with
  |true=>exact bT rfl (ih n (by omega) (by omega))
  |false=>rfl
theorem eK.eq (hk:cy<=k) {l:LI} (hl:l.length<1048577):eK.f k l=some (dN l):=by
 have h:=scan (B:=LI) l (fun m b i=>eK.l3 k l (fun x2=>some x2) m i b) (fun _ _=>true) uF (fun x2=>some x2) (fun _ _=>none) (fun i b=>b.length=i)
  (fun m b i h hI=>by
    have hp:=AH l[i] b b.length
    have hb:b.length<1048577:=by omega
    refine bV rfl (bT ae ?_)
    refine (eK.inner k h b _ hb b.length k (ai _) (cd hk hb)).trans ?_
    have t1:((b.take (rm l[i] b b.length)).drop 0).length=rm l[i] b b.length:=by simp;omega
    have t2:((b.take ((b.length:Int).toNat)).drop (rm l[i] b b.length))=b.drop (rm l[i] b b.length):=by rw[aa,List.take_length]
    refine cT (bA ae ae) (cT ae ?_)
    rw[aa]
    refine cT (nY) (cT (cg h) ?_)
    rw[t2]
    refine cT (nY (by simp;omega)) (cT (bA ae ae) (cT (bA ae ae) (cT (nY (by simp;omega)) ?_)))
    rw[aK,aa,aN (l:=l) _ h]
    unfold uF
    simp)
  (fun b i h hI _=>by rw[La];omega)
  (fun m b hI=>bV rfl (br aC))
  l.length 0 k [] (by omega) (cd hk hl) rfl
 refine h.trans ?_
 rw[ah,bX]
 rfl
theorem nR.eq (hk:cy<=k) {r:Rl} (h:r.sm) (top c:Int):r.ap (nR.f k) top c=some (fits r top c):=by
 refine bS (vo hk h) ?_
 unfold fits
 cases r.ok with
 |false=>rfl
 |true=>
  refine bF rfl (bS (cc.eq ..) ?_)
  cases bI top with
  |false=>rfl
  |true=>
   refine bF rfl (bS (cc.eq ..) ?_)
   cases bI c with
   |false=>rfl
   |true=>
    refine bF rfl ?_
    simp only[bP.eq,eh.eq,d_.eq hk _ h.1,aO]
    cases r.b1<;>cases r.b2<;>cases (bJ c==bJ top)<;>cases (cu c==cu top)<;>cases ob r.w c<;>rfl
theorem nM.eq (hk:cy<=k) {r:Rl} (h:r.sm) (top c:Int):r.ap (nM.f k) top c=some (fits r top c):=by
 refine bS (vp hk h) ?_
 unfold fits
 cases r.ok with
 |false=>rfl
 |true=>
  refine bF rfl (bS (bH.eq ..) ?_)
  cases bI top with
  |false=>rfl
  |true=>
   refine bF rfl (bS (bH.eq ..) ?_)
   cases bI c with
   |false=>rfl
   |true=>
    refine bF rfl ?_
    simp only[bU.eq,cV.eq,dX.eq hk _ h.1,aO]
    cases r.b1<;>cases r.b2<;>cases (bJ c==bJ top)<;>cases (cu c==cu top)<;>cases ob r.w c<;>rfl
theorem mr.eq (hk:cy<=k) {r:Rl} (h:r.sm) (c:Int):r.ap (mr.f k) c=some (qX r c):=by
 refine bS (vo hk h) ?_
 unfold qX
 cases r.ok with
 |false=>rfl
 |true=>exact bT rfl (bN (d_.eq hk c h.2))
theorem mg.eq (hk:cy<=k) {r:Rl} (h:r.sm) (c:Int):r.ap (mg.f k) c=some (qX r c):=by
 refine bS (vp hk h) ?_
 unfold qX
 cases r.ok with
 |false=>rfl
 |true=>exact bT rfl (bN (dX.eq hk c h.2))
theorem If (c:Int) {z:Nat->Int->Option Int} (hz: ∀b a,z b a=some (b:Int)): ∀(l:LI) (b:Nat),∃r:Int,run (fun (_:Nat) (a:Int)=> !(a==c)) (fun b _=>b+1) (fun _=>some (-1)) z l b=some r/\decide (r>=0)=bq l c
 | [],b=>⟨-1,rfl,rfl⟩
 |a::l,b=>by
  obtain ⟨r,h1,h2⟩:=If c hz l (b+1)
  have e:run (fun (_:Nat) (a:Int)=> !(a==c)) (fun b _=>b+1) (fun _=>some (-1)) z (a::l) b=bif !(a==c) then run (fun (_:Nat) (a:Int)=> !(a==c)) (fun b _=>b+1) (fun _=>some (-1)) z l (b+1) else z b a:=rfl
  unfold bq
  rw[List.any_cons]
  cases hac:(a==c) with
  |true=>exact ⟨(b:Int),by rw[e,hac,hz];rfl,by simp⟩
  |false=>exact ⟨r,by rw[e,hac];exact h1,by rw[Bool.false_or];exact h2⟩
theorem iP.eq (hk:cy<=k) {l:LI} (c:Int) (hl:l.length<1048577):iP.f k l c=some (bq l c):=by
 have h:=scan (B:=Nat) l (fun m b i=>ko.l2 k c l (l.length:Int) (fun x1=>some x1) (some (-1)) m i) (fun _ a=> !(a==c)) (fun b _=>b+1) (fun _=>some (-1)) (fun b _=>some (b:Int)) (fun i b=>b=i)
  (fun m b i h hI=>by
    subst hI
    refine kz rfl (bT ae (cT (cg h) ?_))
    rw[aa,aN _ h,aK]
    cases (l[b]==c)<;>rfl)
  (fun b i h hI _=>by omega)
  (fun m b hI=>kz rfl (br aC))
  l.length 0 k 0 (by omega) (cd hk hl) rfl
 obtain ⟨r,h1,h2⟩:=If c (z:=fun b _=>some (b:Int)) (fun _ _=>rfl) l 0
 rw[ah,h1] at h
 refine bS (show ko.f k l c=some r from h) ?_
 rw[h2]
theorem gL.eq (hk:cy<=k) {l:LI} (c:Int) (hl:l.length<1048577):gL.f k l c=some (eu l c):=by
 have h:=scan (B:=LI) l (fun m b i=>gL.l3 k c l (l.length:Int) (fun x1=>some x1) m i b) (fun _ _=>true) (fun b a=>bif a != c then b++[a] else b) (fun x1=>some x1) (fun _ _=>none) (fun i b=>b.length<=i)
  (fun m b i h hI=>by
    refine bV rfl (bT ae (cT (cg h) ?_))
    rw[aa,aN _ h,aK]
    cases (l[i] != c) with
    |false=>rfl
    |true=>exact bT rfl (bW (nY)))
  (fun b i h hI _=>by cases (l[i] != c)<;>simp<;>omega)
  (fun m b hI=>bV rfl (br aC))
  l.length 0 k [] (by omega) (cd hk hl) (by simp)
 refine h.trans ?_
 rw[ah,bX,foldl_filter (fun a=>a != c),aM]
 rfl
theorem pw {n:Nat} (h:0<n:=by omega) (h2:n<4611686018427387904:=by omega):aF ((n:Int)-1)=((n-1:Nat):Int):=by rw[wrap_i64];omega
theorem yg {g:Gm} (h:g.sm):g.hand.length<1048577:=by
 unfold Gm.hand
 rw[aL]
 cases e:g.hs[g.tn.toNat]? with
 |none=>simp
 |some x=>exact h.2.1.2 x (List.mem_of_getElem? e)
theorem px {g:Gm} (h:eG g=true):0<=g.tn/\g.tn<(g.hs.length:Int):=by
 obtain ⟨h1,h2,h3,h4,h5,h6,h7⟩:=hR.1 h
 omega
theorem eB.eq (hk:cy<=k) {g:Gm} (h:g.sm):g.ap (eB.f k)=some (cv g):=by
 refine bS (cq.eq hk h) ?_
 unfold cv
 cases hg:eG g with
 |false=>rfl
 |true=>
  refine bF rfl (bS (iR.eq hk g h.2.1.1) ?_)
  cases ho:qq g with
  |true=>rfl
  |false=>
   have ht:=px hg
   have h4:g.hp.length<1048577:=h.2.2.2
   have hp:=(hR.1 hg).2.2.2.1
   have hs:=xd g.hand
   have hh:=yg h
   refine bF rfl (cT (bA (ae ht.1) (ae ht.2)) (bS (eK.eq hk hh) ?_))
   have h:=scan (B:=LI) (dN g.hand) (fun m b i=>eB.l6 k g.r.n g.r.e g.r.b1 g.r.b2 g.r.w g.r.f g.r.t g.r.l g.hp (dN g.hand) (fun x5=>some x5) m i b) (fun _ _=>true) (fun b a=>bif fits g.r g.top a then b++[a] else b) (fun x5=>some x5) (fun _ _=>none) (fun i b=>b.length<=i)
    (fun m b i h' hI=>by
      refine bV rfl (bT ae ?_)
      rw[pw]
      refine cT (cg (by omega)) (cT (cg h') ?_)
      rw[aa,aa,aN (l:=dN g.hand) _ h',aK]
      refine bS (nR.eq hk h.1 _ _) ?_
      show (bif fits g.r g.top (dN g.hand)[i] then _ else _)=_
      cases fits g.r g.top (dN g.hand)[i] with
      |false=>rfl
      |true=>exact bT rfl (cT (cg h') (bW (nY))))
    (fun b i h' hI _=>by cases fits g.r g.top (dN g.hand)[i]<;>simp<;>omega)
    (fun m b hI=>bV rfl (br aC))
    (dN g.hand).length 0 k [] (by omega) (cd hk (by omega)) (by simp)
   refine h.trans ?_
   rw[ah,bX,foldl_filter (fits g.r g.top),aM]
   rfl
theorem AL {g:Gm} (h:eG g=true):pg g=qq g:=by unfold pg;rw[h];rfl
theorem eA.eq (hk:cy<=k) {g:Gm} (h:g.sm):g.ap (eA.f k)=some (cv g):=by
 refine bS (dG.eq hk h) ?_
 unfold cv
 cases hg:eG g with
 |false=>rfl
 |true=>
  refine bF rfl (bS (iO.eq hk h) ?_)
  rw[AL hg]
  cases ho:qq g with
  |true=>rfl
  |false=>
   have ht:=px hg
   have h4:g.hp.length<1048577:=h.2.2.2
   have hp:=(hR.1 hg).2.2.2.1
   have hs:=xd g.hand
   have hh:=yg h
   refine bF rfl (cT (bA (ae ht.1) (ae ht.2)) (bS (db.eq hk hh) ?_))
   have h:=scan (B:=LI) (dN g.hand) (fun m b i=>eA.l5 k ((dN g.hand).length:Int) g.r.n g.r.e g.r.b1 g.r.b2 g.r.w g.r.f g.r.t g.r.l g.hp (dN g.hand) (fun x5=>some x5) m i b) (fun _ _=>true) (fun b a=>bif fits g.r g.top a then b++[a] else b) (fun x5=>some x5) (fun _ _=>none) (fun i b=>b.length<=i)
    (fun m b i h' hI=>by
      refine bV rfl (bT ae ?_)
      rw[pw]
      refine cT (cg h') (cT (cg (by omega)) ?_)
      rw[aa,aa,aN (l:=dN g.hand) _ h',aK]
      refine bS (nM.eq hk h.1 _ _) ?_
      show (bif fits g.r g.top (dN g.hand)[i] then _ else _)=_
      cases fits g.r g.top (dN g.hand)[i] with
      |false=>rfl
      |true=>exact bT rfl (bW (nY)))
    (fun b i h' hI _=>by cases fits g.r g.top (dN g.hand)[i]<;>simp<;>omega)
    (fun m b hI=>bV rfl (br aC))
    (dN g.hand).length 0 k [] (by omega) (cd hk (by omega)) (by simp)
   refine h.trans ?_
   rw[ah,bX,foldl_filter (fits g.r g.top),aM]
   rfl
theorem nS.eq (hk:cy<=k) {g:Gm} (h:g.sm) (c:Int):g.ap (nS.f k) c=some ((pq g c).1.wF (pq g c).2):=by
 have Sm:=ov g
 refine bS (gg.eq hk h) (bS (eB.eq hk h) (bS (cW.eq hk c (by omega)) ?_))
 unfold pq
 cases hc:bq (cv g) c with
 |false=>rfl
 |true=>
  obtain ⟨hg,ho,hm,ZQ⟩:=ou hc
  have ht:=px hg
  obtain ⟨h1,h2,h3,h4,h5,h6,h7⟩:=hR.1 hg
  have Qa:=tz h1
  have h8:g.hp.length<1048577:=h.2.2.2
  refine bF rfl (cT (bA (ae ht.1) (ae ht.2)) (bS (fp.eq hk c (yg h)) (cT (bA (ae ht.1) (ae ht.2)) (cT (nY (show g.hp.length+1<=_ by omega)) (bS (mr.eq hk h.1 c) ?_)))))
  rw[wrap_i64 (n:=g.tn+2),wrap_i64 (n:=g.tn+1),wrap_i64 (n:=g.mv+1)]
  cases qX g.r c with
  |true=>exact bT rfl (bW (by rw[aC (p:=g.r.n=0) (by omega)];rfl))
  |false=>exact bF rfl (bW (by rw[aC (p:=g.r.n=0) (by omega)];rfl))
theorem nN.eq (hk:cy<=k) {g:Gm} (h:g.sm) (c:Int):g.ap (nN.f k) c=some ((pq g c).1.wF (pq g c).2):=by
 have Sm:=ov g
 refine bS (dA.eq hk h) (bS (eA.eq hk h) (bS (iP.eq hk c (by omega)) ?_))
 unfold pq
 cases hc:bq (cv g) c with
 |false=>rfl
 |true=>
  obtain ⟨hg,ho,hm,ZQ⟩:=ou hc
  have ht:=px hg
  obtain ⟨h1,h2,h3,h4,h5,h6,h7⟩:=hR.1 hg
  have Qa:=tz h1
  have h8:g.hp.length<1048577:=h.2.2.2
  refine bF rfl (cT (bA (ae ht.1) (ae ht.2)) (bS (gL.eq hk c (yg h)) (cT (bA (ae ht.1) (ae ht.2)) (cT (nY (show g.hp.length+1<=_ by omega)) (bS (mg.eq hk h.1 c) ?_)))))
  rw[h2,wrap_i64 (n:=g.tn+2),wrap_i64 (n:=g.tn+1),wrap_i64 (n:=g.mv+1)]
  cases qX g.r c with
  |true=>exact bT rfl (bW (by rw[aC (p:=g.r.n=0) (by omega)];rfl))
  |false=>exact bF rfl (bW (by rw[aC (p:=g.r.n=0) (by omega)];rfl))
theorem Ig (t m:Nat) (hs:LL) {st hp:LI} (n:Nat) (h:(bif ((st.length:Int)==0) then hp.take (hp.length-1) else st)=[]):takeN t (m+1) hs st hp n=(hs,[],(bif ((st.length:Int)==0) then hp.drop (hp.length-1) else hp),n):=by
 rw[takeN,h]
theorem vq (t m:Nat) (hs:LL) {st hp:LI} (n:Nat) {c:Int} {st2:LI} (h:(bif ((st.length:Int)==0) then hp.take (hp.length-1) else st)=c::st2):takeN t (m+1) hs st hp n=takeN t m (hs.set t (hs.getD t []++[c])) st2 (bif ((st.length:Int)==0) then hp.drop (hp.length-1) else hp) (n+1):=by
 rw[takeN,h]
theorem rG {hs:LL} {t:Nat} (c:Int) (h:t<hs.length):(hs.set t (hs.getD t []++[c])).flatten.length=hs.flatten.length+1:=by
 obtain ⟨q,q1,q2⟩:=xc hs t (hs.getD t []++[c]) h
 rw[q1.length_eq,q2.length_eq,aN _ h]
 simp only[au,cz]
 omega
theorem Ih (hs:LL) (t:Nat):(hs.getD t []).length<=hs.flatten.length:=by
 rw[aL]
 cases e:hs[t]? with
 |none=>simp
 |some x=>exact K_ (List.mem_of_getElem? e)
theorem Np (l:LI) (n:Nat):[]++((l.take n).drop 0)=l.take n:=by simp
theorem tV (l:LI) (n:Nat):[]++((l.take ((l.length:Int).toNat)).drop n)=l.drop n:=by rw[aa,List.take_length];rfl
def O5 {R:Type} (e0:Int->LL->LI->LI->Option R) (q:LL×LI×LI×Nat):Option R:=e0 (q.2.2.2:Int) q.1 q.2.1 q.2.2.1
theorem fH.loop (k:Nat) (T t:Nat) (hT:T<1000) (e0:Int->LL->LI->LI->Option R): ∀(m i n a:Nat) (hs:LL) (st hp:LI),i+m=T->m<n->a<=i->t<hs.length->0<hp.length->hs.flatten.length+(st.length+hp.length)<1000000->
 fH.l6 k (T:Int) (t:Int) e0 n (a:Int) (i:Int) hs st hp=O5 e0 (takeN t m hs st hp a):=by
 intro m
 induction m with
 |zero=>
  intro i n a hs st hp hi hn ha ht hh hl
  obtain ⟨n,rfl⟩: ∃n',n=n' +1:=⟨n-1,by omega⟩
  exact UZ rfl (br aC)
 |succ m ih=>
  intro i n a hs st hp hi hn ha ht hh hl
  obtain ⟨n,rfl⟩: ∃n',n=n' +1:=⟨n-1,by omega⟩
  refine UZ rfl (bT ae ?_)
  rw[pw hh (by omega),aa,aK,aK]
  have hg:=Ih hs t
  cases lN:((st.length:Int)==0) with
  |true=>
   have Sn:(st.length:Int)=0:=by simpa using lN
   have l1:(hp.take (hp.length-1)).length=hp.length-1:=by simp
   have l2:(hp.drop (hp.length-1)).length=1:=by simp;omega
   refine bT rfl (cT (bA ae ae) (cT ae (cT (nY (by simp;omega)) (cT (bA ae ae) (cT (bA ae ae) (cT (nY (by simp;omega)) ?_))))))
   rw[Np,tV]
   cases hx:hp.take (hp.length-1) with
   |nil=>
    rw[Ig t m hs a (by rw[lN];exact hx),lN]
    rfl
   |cons c st2=>
    rw[hx] at l1
    rw[ab] at l1
    rw[vq t m hs a (c:=c) (st2:=st2) (by rw[lN];exact hx),lN]
    have nL:(((c::st2).length:Int)==0)=false:=by
     have q: ¬(((c::st2).length:Int)=0):=by rw[ab];omega
     simpa using q
    refine bF nL (cT (cg ht) (cT (ae (by rw[ab];omega)) (cT (nY (by simp only[aa];omega)) (cT (cg ht) (cT (by simp) (cT (bA ae ae) (cT (ae (by rw[ab];omega)) (cT (nY (by simp;omega)) ?_))))))))
    rw[tV,aa]
    refine ih (i+1) n (a+1) _ st2 _ (by omega) (by omega) (by omega) (by simpa using ht) (by show 0<(hp.drop (hp.length-1)).length;omega) ?_
    rw[show (c::st2).getD 0 0=c from rfl,rG c ht]
    show _+(st2.length+(hp.drop (hp.length-1)).length)<_
    omega
  |false=>
   have Sn: ¬(st.length:Int)=0:=by simpa using lN
   refine bF rfl (bF rfl ?_)
   cases st with
   |nil=>simp at Sn
   |cons c st2=>
    rw[vq t m hs a (c:=c) (st2:=st2) (by rw[lN];rfl),lN]
    rw[ab] at hl
    refine (cT (cg ht) (cT (ae (by rw[ab];omega)) (cT (nY (by simp only[aa];omega)) (cT (cg ht) (cT (by simp) (cT (bA ae ae) (cT (ae (by rw[ab];omega)) (cT (nY (by simp;omega)) ?_))))))))
    rw[tV,aa]
    refine ih (i+1) n (a+1) _ st2 _ (by omega) (by omega) (by omega) (by simpa using ht) hh ?_
    rw[show (c::st2).getD 0 0=c from rfl,rG c ht]
    show _+(st2.length+hp.length)<_
    omega
theorem fG.loop (k:Nat) (T t:Nat) (hT:T<1000) (e0:Int->LL->LI->LI->Option R): ∀(m i n a:Nat) (hs:LL) (st hp:LI),i+m=T->m<n->a<=i->t<hs.length->0<hp.length->hs.flatten.length+(st.length+hp.length)<1000000->
 fG.l6 k (T:Int) (t:Int) e0 n (a:Int) (i:Int) hs st hp=O5 e0 (takeN t m hs st hp a):=by
 intro m
 induction m with
 |zero=>
  intro i n a hs st hp hi hn ha ht hh hl
  obtain ⟨n,rfl⟩: ∃n',n=n' +1:=⟨n-1,by omega⟩
  exact UZ rfl (br aC)
 |succ m ih=>
  intro i n a hs st hp hi hn ha ht hh hl
  obtain ⟨n,rfl⟩: ∃n',n=n' +1:=⟨n-1,by omega⟩
  refine UZ rfl (bT ae ?_)
  rw[pw hh (by omega),aa,aK,aK]
  have hg:=Ih hs t
  cases lN:((st.length:Int)==0) with
  |true=>
   have Sn:(st.length:Int)=0:=by simpa using lN
   have l1:(hp.take (hp.length-1)).length=hp.length-1:=by simp
   have l2:(hp.drop (hp.length-1)).length=1:=by simp;omega
   refine bT rfl (cT (bA ae ae) (cT ae (bS (bh.eq k (by simp;omega)) (cT (bA ae ae) (cT (bA ae ae) (bS (bh.eq k (by simp;omega)) ?_))))))
   rw[show (hp.take (hp.length-1)).drop 0=hp.take (hp.length-1) by simp,show (hp.take ((hp.length:Int).toNat)).drop (hp.length-1)=hp.drop (hp.length-1) by simp]
   cases hx:hp.take (hp.length-1) with
   |nil=>
    rw[Ig t m hs a (by rw[lN];exact hx),lN]
    rfl
   |cons c st2=>
    rw[hx] at l1
    rw[ab] at l1
    rw[vq t m hs a (c:=c) (st2:=st2) (by rw[lN];exact hx),lN]
    have nL:(((c::st2).length:Int)==0)=false:=by
     have q: ¬(((c::st2).length:Int)=0):=by rw[ab];omega
     simpa using q
    refine bF nL (cT (cg ht) (cT (ae (by rw[ab];omega)) (cT (nY (by simp only[aa];omega)) (cT (cg ht) (cT (by simp) (cT (bA ae ae) (cT (ae (by rw[ab];omega)) (bS (bh.eq k (by simp;omega)) ?_))))))))
    rw[show ((c::st2).take (((c::st2).length:Int).toNat)).drop 1=st2 by simp,aa]
    refine ih (i+1) n (a+1) _ st2 _ (by omega) (by omega) (by omega) (by simpa using ht) (by show 0<(hp.drop (hp.length-1)).length;omega) ?_
    rw[show (c::st2).getD 0 0=c from rfl,rG c ht]
    show _+(st2.length+(hp.drop (hp.length-1)).length)<_
    omega
  |false=>
   have Sn: ¬(st.length:Int)=0:=by simpa using lN
   refine bF rfl (bF rfl ?_)
   cases st with
   |nil=>simp at Sn
   |cons c st2=>
    rw[vq t m hs a (c:=c) (st2:=st2) (by rw[lN];rfl),lN]
    rw[ab] at hl
    refine (cT (cg ht) (cT (ae (by rw[ab];omega)) (cT (nY (by simp only[aa];omega)) (cT (cg ht) (cT (by simp) (cT (bA ae ae) (cT (ae (by rw[ab];omega)) (bS (bh.eq k (by simp;omega)) ?_))))))))
    rw[show ((c::st2).take (((c::st2).length:Int).toNat)).drop 1=st2 by simp,aa]
    refine ih (i+1) n (a+1) _ st2 _ (by omega) (by omega) (by omega) (by simpa using ht) hh ?_
    rw[show (c::st2).getD 0 0=c from rfl,rG c ht]
    show _+(st2.length+hp.length)<_
    omega
theorem ER {g:Gm} (h:eG g=true):g.hs.flatten.length+(g.st.length+g.hp.length)=52:=by
 have:=H8 (hR.1 h).2.2.1
 rw[kZ,au,au] at this
 exact this
theorem fH.eq (hk:cy<=k) {g:Gm} (h:g.sm):g.ap (fH.f k)=some ((ki g).1.wF (ki g).2):=by
 refine bS (gg.eq hk h) (bS (cq.eq hk h) ?_)
 unfold ki
 cases hg:eG g with
 |false=>rfl
 |true=>
  refine bF rfl (bS (iR.eq hk g h.2.1.1) ?_)
  cases ho:qq g with
  |true=>rfl
  |false=>
   have ht:=px hg
   have Co:=ER hg
   obtain ⟨h1,h2,h3,h4,h5,h6,h7⟩:=hR.1 hg
   have Qa:=tz h1
   refine bF rfl ?_
   have e1:g.r.t=((g.r.t.toNat:Nat):Int):=by omega
   have e2:g.tn=((g.tn.toNat:Nat):Int):=by omega
   have lp:=fH.loop k g.r.t.toNat g.tn.toNat (by omega) (fun x4 x5 x6 x7=>
    bif (x4==(0:Int)) then
     bY (!(decide (g.r.n=(0:Int))))<|
     some (g.r.n,g.r.e,g.r.b1,g.r.b2,g.r.w,g.r.f,g.r.t,g.r.l,x5,x6,x7,(aF (g.tn+(1:Int))).tmod g.r.n,aF (g.mv+(1:Int)),aF (g.ps+(1:Int)),true)
    else
     bY (!(decide (g.r.n=(0:Int))))<|
     some (g.r.n,g.r.e,g.r.b1,g.r.b2,g.r.w,g.r.f,g.r.t,g.r.l,x5,x6,x7,(aF (g.tn+(1:Int))).tmod g.r.n,aF (g.mv+(1:Int)),(0:Int),true)) g.r.t.toNat 0 k 0 g.hs g.st g.hp (by omega) (by simp[cy] at hk;omega) (by omega) (by omega) h4 (by omega)
   rw[<- e1,<- e2] at lp
   refine Eq.trans lp ?_
   unfold O5
   rw[wrap_i64 (n:=g.tn+1),wrap_i64 (n:=g.mv+1),wrap_i64 (n:=g.ps+1),aC (p:=g.r.n=0) (by omega)]
   have e3:(((takeN g.tn.toNat g.r.t.toNat g.hs g.st g.hp 0).2.2.2:Int)==0)=((takeN g.tn.toNat g.r.t.toNat g.hs g.st g.hp 0).2.2.2==0):=by
    rw[Bool.eq_iff_iff,cG,cG];omega
   dsimp only
   rw[e3]
   simp only[Bool.not_false,Bool.and_self,ak]
   cases ((takeN g.tn.toNat g.r.t.toNat g.hs g.st g.hp 0).2.2.2==0)<;>rfl
theorem fG.eq (hk:cy<=k) {g:Gm} (h:g.sm):g.ap (fG.f k)=some ((ki g).1.wF (ki g).2):=by
 refine bS (dA.eq hk h) (bS (dG.eq hk h) ?_)
 unfold ki
 cases hg:eG g with
 |false=>rfl
 |true=>
  refine bF rfl (bS (iO.eq hk h) ?_)
  rw[AL hg]
  cases ho:qq g with
  |true=>rfl
  |false=>
   have ht:=px hg
   have Co:=ER hg
   obtain ⟨h1,h2,h3,h4,h5,h6,h7⟩:=hR.1 hg
   have Qa:=tz h1
   refine bF rfl ?_
   have e1:g.r.t=((g.r.t.toNat:Nat):Int):=by omega
   have e2:g.tn=((g.tn.toNat:Nat):Int):=by omega
   have lp:=fG.loop k g.r.t.toNat g.tn.toNat (by omega) (fun x4 x5 x6 x7=>
    bif decide (x4>(0:Int)) then
     bY (!(decide ((g.hs.length:Int)=(0:Int))))<|
     some (g.r.n,g.r.e,g.r.b1,g.r.b2,g.r.w,g.r.f,g.r.t,g.r.l,x5,x6,x7,(aF (g.tn+(1:Int))).tmod (g.hs.length:Int),aF (g.mv+(1:Int)),(0:Int),true)
    else
     bY (!(decide ((g.hs.length:Int)=(0:Int))))<|
     some (g.r.n,g.r.e,g.r.b1,g.r.b2,g.r.w,g.r.f,g.r.t,g.r.l,x5,x6,x7,(aF (g.tn+(1:Int))).tmod (g.hs.length:Int),aF (g.mv+(1:Int)),aF (g.ps+(1:Int)),true)) g.r.t.toNat 0 k 0 g.hs g.st g.hp (by omega) (by simp[cy] at hk;omega) (by omega) (by omega) h4 (by omega)
   rw[<- e1,<- e2] at lp
   refine Eq.trans lp ?_
   unfold O5
   rw[h2,wrap_i64 (n:=g.tn+1),wrap_i64 (n:=g.mv+1),wrap_i64 (n:=g.ps+1),aC (p:=g.r.n=0) (by omega)]
   have e3:decide (((takeN g.tn.toNat g.r.t.toNat g.hs g.st g.hp 0).2.2.2:Int)>0)= !((takeN g.tn.toNat g.r.t.toNat g.hs g.st g.hp 0).2.2.2==0):=by
    cases e:((takeN g.tn.toNat g.r.t.toNat g.hs g.st g.hp 0).2.2.2==0) with
    |true=>rw[cG] at e;rw[e];rfl
    |false=>
     have: ¬(takeN g.tn.toNat g.r.t.toNat g.hs g.st g.hp 0).2.2.2=0:=by simpa using e
     exact ae (by omega)
   dsimp only
   rw[e3]
   simp only[Bool.not_false,Bool.and_self,ak]
   cases ((takeN g.tn.toNat g.r.t.toNat g.hs g.st g.hp 0).2.2.2==0)<;>rfl
theorem iu.eq (hk:cy<=k) {g:Gm} (h:g.sm) (c:Int):g.ap (iu.f k) c=some ((ch g c).1.wF (ch g c).2):=by
 unfold ch
 cases hc:(c== -1) with
 |true=>exact bT hc (bS (fG.eq hk h) rfl)
 |false=>exact bF hc (bS (nN.eq hk h c) rfl)
theorem iE.eq (hk:cy<=k) {g:Gm} (h:g.sm) (c:Int):g.ap (iE.f k) c=some ((ch g c).1.wF (ch g c).2):=by
 unfold ch
 cases hc:(c== -1) with
 |true=>exact bT hc (bS (fH.eq hk h) rfl)
 |false=>exact bF hc (bS (nS.eq hk h c) rfl)
abbrev Gm.Y2 (g:Gm) (b:Int):Int×Int×Bool×Bool×LI×LI×Int×Int×LL×LI×LI×Int×Int×Int×Int:=(g.r.n,g.r.e,g.r.b1,g.r.b2,g.r.w,g.r.f,g.r.t,g.r.l,g.hs,g.st,g.hp,g.tn,g.mv,g.ps,b)
abbrev E15:=Option (Int×Int×Bool×Bool×LI×LI×Int×Int×LL×LI×LI×Int×Int×Int×Int)
theorem dK.loop (hk:cy<=k) {l:LI} (hl:l.length<1073741824): ∀(m i n:Nat) (g:Gm),i+m=l.length->m<n->g.sm->
 dK.l3 k l (fun x3 x4 x5 x6 x7 x8 x9 PU PV Ue Uf Rv Rx Ug Uh=>(some (x4,x5,x6,x7,Uf,Rv,x8,x9,Rx,Ug,Uh,PU,PV,Ue,x3):E15)) (fun Ui Uj Uk Ul Um Un Uo Up Uq Ur Us Ut Uu Uv=>some (Ui,Uj,Uk,Ul,Ur,Us,Um,Un,Ut,Uu,Uv,Uo,Up,Uq,(l.length:Int))) n (i:Int) g.r.n g.r.e g.r.b1 g.r.b2 g.r.t g.r.l g.tn g.mv g.ps g.r.w g.r.f g.hs g.st g.hp=some ((gA (l.drop i) (i:Int) g).1.Y2 (gA (l.drop i) (i:Int) g).2):=by
 intro m
 induction m with
 |zero=>
  intro i n g hi hn hg
  obtain ⟨n,rfl⟩: ∃n',n=n' +1:=⟨n-1,by omega⟩
  rw[aZ (by omega)]
  refine (dK.tk ..).trans (bF aC ?_)
  rw[show (l.length:Int)=(i:Int) by omega]
  rfl
 |succ m ih=>
  intro i n g hi hn hg
  obtain ⟨n,rfl⟩: ∃n',n=n' +1:=⟨n-1,by omega⟩
  have h:i<l.length:=by omega
  refine (dK.tk ..).trans (bT ae (cT (cg h) ?_))
  rw[aa,aN _ h,aK,drop_cons h]
  refine bS (iE.eq hk hg l[i]) ?_
  show (bif !(ch g l[i]).2 then _ else _)=some ((bif (ch g l[i]).2 then gA (l.drop (i+1)) ((i:Int)+1) (ch g l[i]).1 else (g,(i:Int))).1.Y2 (bif (ch g l[i]).2 then gA (l.drop (i+1)) ((i:Int)+1) (ch g l[i]).1 else (g,(i:Int))).2)
  cases hm:(ch g l[i]).2 with
  |false=>rfl
  |true=>
   refine bF rfl ((ih (i+1) n _ (by omega) (by omega) (o0 hg)).trans ?_)
   rw[show ((i+1:Nat):Int)=(i:Int)+1 by omega]
   rfl
theorem dJ.loop (hk:cy<=k) {l:LI} (hl:l.length<1073741824): ∀(m i n:Nat) (g:Gm),i+m=l.length->m<n->g.sm->
 dJ.l3 k l (l.length:Int) (fun x3 x4 x5 x6 x7 x8 x9 PU PV Ue Uf Rv Rx Ug Uh=>(some (x4,x5,x6,x7,Uf,Rv,x8,x9,Rx,Ug,Uh,PU,PV,Ue,x3):E15)) (fun Ui Uj Uk Ul Um Un Uo Up Uq Ur Us Ut Uu Uv=>some (Ui,Uj,Uk,Ul,Ur,Us,Um,Un,Ut,Uu,Uv,Uo,Up,Uq,(l.length:Int))) n (i:Int) g.r.n g.r.e g.r.b1 g.r.b2 g.r.t g.r.l g.tn g.mv g.ps g.r.w g.r.f g.hs g.st g.hp=some ((gA (l.drop i) (i:Int) g).1.Y2 (gA (l.drop i) (i:Int) g).2):=by
 intro m
 induction m with
 |zero=>
  intro i n g hi hn hg
  obtain ⟨n,rfl⟩: ∃n',n=n' +1:=⟨n-1,by omega⟩
  rw[aZ (by omega)]
  refine (dJ.tk ..).trans (bF aC ?_)
  rw[show (l.length:Int)=(i:Int) by omega]
  rfl
 |succ m ih=>
  intro i n g hi hn hg
  obtain ⟨n,rfl⟩: ∃n',n=n' +1:=⟨n-1,by omega⟩
  have h:i<l.length:=by omega
  refine (dJ.tk ..).trans (bT ae (cT (cg h) ?_))
  rw[aa,aN _ h,aK,drop_cons h]
  refine bS (iu.eq hk hg l[i]) ?_
  show (bif !(ch g l[i]).2 then _ else _)=some ((bif (ch g l[i]).2 then gA (l.drop (i+1)) ((i:Int)+1) (ch g l[i]).1 else (g,(i:Int))).1.Y2 (bif (ch g l[i]).2 then gA (l.drop (i+1)) ((i:Int)+1) (ch g l[i]).1 else (g,(i:Int))).2)
  cases hm:(ch g l[i]).2 with
  |false=>rfl
  |true=>
   refine bF rfl ((ih (i+1) n _ (by omega) (by omega) (o0 hg)).trans ?_)
   rw[show ((i+1:Nat):Int)=(i:Int)+1 by omega]
   rfl
theorem dK.eq (hk:cy<=k) {l:LI} (hl:l.length<1073741824) {g:Gm} (hg:g.sm):g.ap (dK.f k) l=some ((gA l 0 g).1.Y2 (gA l 0 g).2):=
 bS (gg.eq hk hg) (dK.loop hk hl l.length 0 k g (by omega) (pV hk hl) hg)
theorem dJ.eq (hk:cy<=k) {l:LI} (hl:l.length<1073741824) {g:Gm} (hg:g.sm):g.ap (dJ.f k) l=some ((gA l 0 g).1.Y2 (gA l 0 g).2):=
 bS (dA.eq hk hg) (dJ.loop hk hl l.length 0 k g (by omega) (pV hk hl) hg)
theorem xg: ∀(l:LI) (i:Int) {g:Gm},g.sm->(gA l i g).1.sm
 | [],i,g,h=>h
 |m::l,i,g,h=>by
  unfold gA
  cases (ch g m).2 with
  |true=>exact xg l (i+1) (o0 h)
  |false=>exact h
theorem AM: ∀(l:LI) (i:Int) {g:Gm},(gA l i g).2=i+(l.length:Int)->(gA l i g).1.mv=g.mv+(l.length:Int)/\(gA l i g).1.r=g.r/\(eG g=true->eG (gA l i g).1=true)
 | [],i,g,_=>⟨by simp[gA],rfl,fun h=>h⟩
 |m::l,i,g,h=>by
  unfold gA at h ⊢
  cases hm:(ch g m).2 with
  |true=>
   rw[hm] at h
   rw[ab] at h
   obtain ⟨g1,g2,g3⟩:=wG hm
   obtain ⟨h1,h2,h3⟩:=AM l (i+1) (g:=(ch g m).1) (by simp only[ak] at h;omega)
   refine ⟨?_,?_,fun _=>h3 g1⟩
   ·simp only[ak];rw[h1,g2,ab];omega
   ·simp only[ak];rw[h2,g3]
  |false=>
   rw[hm] at h
   rw[ab] at h
   simp only[an] at h
   omega
theorem So {α:Type} [DecidableEq α] (x y:α) (s t:List α):decide (x::s=y::t)=(decide (x=y)&&decide (s=t)):=by
 by_cases h1:x=y
 ·subst h1
  by_cases h2:s=t
  ·subst h2;simp
  ·simp[h2]
 ·simp[h1]
theorem tA {α:Type} [DecidableEq α] {a b:List α} {i:Nat} (ha:i<a.length) (hb:i<b.length):decide (a.drop i=b.drop i)=(decide (a[i] =b[i])&&decide (a.drop (i+1)=b.drop (i+1))):=by
 rw[<- So]
 congr 1
 rw[drop_cons ha,drop_cons hb]
theorem cP.loop (k:Nat) {a b:LI} (h:a.length=b.length) (hl:a.length<1073741824) (e0 e1:Option R): ∀(m i n:Nat),i+m=a.length->m<n->cP.l4 k a b e0 e1 n (i:Int)=bif decide (a.drop i=b.drop i) then e1 else e0:=by
 intro m
 induction m with
 |zero=>
  intro i n hi hn
  obtain ⟨n,rfl⟩: ∃n',n=n' +1:=⟨n-1,by omega⟩
  rw[aZ (by omega),aZ (by omega)]
  exact kz rfl (br aC)
 |succ m ih=>
  intro i n hi hn
  obtain ⟨n,rfl⟩: ∃n',n=n' +1:=⟨n-1,by omega⟩
  have ha:i<a.length:=by omega
  have hb:i<b.length:=by omega
  refine kz rfl (bT ae (cT (cg ha) (cT (cg hb) ?_)))
  rw[aa,aN (l:=a) _ ha,aN (l:=b) _ hb,aK,ih (i+1) n (by omega) (by omega),tA ha hb]
  by_cases h1:a[i] =b[i]
  ·rw[ae h1]
   exact bF (by simp[h1]) (by simp)
  ·rw[aC h1]
   exact bT (by simp[h1]) rfl
theorem ck.loop (k:Nat) {a b:LI} (h:a.length=b.length) (hl:a.length<1073741824) (e0 e1:Option R): ∀(m i n:Nat),i+m=a.length->m<n->ck.l4 k a b (a.length:Int) e0 e1 n (i:Int)=bif decide (a.drop i=b.drop i) then e1 else e0:=by
 intro m
 induction m with
 |zero=>
  intro i n hi hn
  obtain ⟨n,rfl⟩: ∃n',n=n' +1:=⟨n-1,by omega⟩
  rw[aZ (by omega),aZ (by omega)]
  exact kz rfl (br aC)
 |succ m ih=>
  intro i n hi hn
  obtain ⟨n,rfl⟩: ∃n',n=n' +1:=⟨n-1,by omega⟩
  have ha:i<a.length:=by omega
  have hb:i<b.length:=by omega
  refine kz rfl (bT ae (cT (cg ha) (cT (cg hb) ?_)))
  rw[aa,aN (l:=a) _ ha,aN (l:=b) _ hb,aK,ih (i+1) n (by omega) (by omega),tA ha hb]
  by_cases h1:a[i] =b[i]
  ·rw[ae h1]
   exact bF (by simp[h1]) (by simp)
  ·rw[aC h1]
   exact bT (by simp[h1]) rfl
def Jy (a b:LI):Bool:=decide (a=b)
theorem Jz {α:Type} [DecidableEq α] {a b:List α} (h: ¬((a.length:Int)=(b.length:Int))):decide (a=b)=false:=aC (fun e=>h (by rw[e]))
theorem cP.eq (hk:cy<=k) {a:LI} (b:LI) (hl:a.length<1073741824):cP.f k a b=some (Jy a b):=by
 unfold Jy
 by_cases h:(a.length:Int)=(b.length:Int)
 ·refine bF (by simp[h]) ((cP.loop k (by omega) hl _ _ a.length 0 k (by omega) (pV hk hl)).trans ?_)
  rw[ah,ah]
  cases decide (a=b)<;>rfl
 ·rw[Jz h]
  exact bT (by simpa using h) rfl
theorem ck.eq (hk:cy<=k) {a:LI} (b:LI) (hl:a.length<1073741824):ck.f k a b=some (Jy a b):=by
 unfold Jy
 by_cases h:(a.length:Int)=(b.length:Int)
 ·refine bF (by simp[h]) ((ck.loop k (by omega) hl _ _ a.length 0 k (by omega) (pV hk hl)).trans ?_)
  rw[ah,ah]
  cases decide (a=b)<;>rfl
 ·rw[Jz h]
  exact bT (by simpa using h) rfl
def Sq (a b:LL):Bool:=decide (a=b)
theorem dq.loop (hk:cy<=k) {a b:LL} (h:a.length=b.length) (hl:Cl a) (e0 e1:Option R): ∀(m i n:Nat),i+m=a.length->m<n->dq.l4 k a b e0 e1 n (i:Int)=bif decide (a.drop i=b.drop i) then e1 else e0:=by
 intro m
 induction m with
 |zero=>
  intro i n hi hn
  obtain ⟨n,rfl⟩: ∃n',n=n' +1:=⟨n-1,by omega⟩
  rw[aZ (by omega),aZ (by omega)]
  exact kz rfl (br aC)
 |succ m ih=>
  intro i n hi hn
  obtain ⟨n,rfl⟩: ∃n',n=n' +1:=⟨n-1,by omega⟩
  have ha:i<a.length:=by omega
  have hb:i<b.length:=by omega
  have:=hl.1
  have:=hl.2 _ (aj ha)
  refine kz rfl (bT ae (cT (cg ha) (cT (cg hb) ?_)))
  rw[aa,aN (l:=a) _ ha,aN (l:=b) _ hb,aK]
  refine bS (cP.eq hk _ (by omega)) ?_
  rw[ih (i+1) n (by omega) (by omega),tA ha hb]
  unfold Jy
  cases decide (a[i] =b[i])<;>rfl
theorem gC.loop (hk:cy<=k) {a b:LL} (h:a.length=b.length) (hl:Cl a) (e0 e1:Option R): ∀(m i n:Nat),i+m=a.length->m<n->gC.l4 k a b (a.length:Int) e0 e1 n (i:Int)=bif decide (a.drop i=b.drop i) then e1 else e0:=by
 intro m
 induction m with
 |zero=>
  intro i n hi hn
  obtain ⟨n,rfl⟩: ∃n',n=n' +1:=⟨n-1,by omega⟩
  rw[aZ (by omega),aZ (by omega)]
  exact kz rfl (br aC)
 |succ m ih=>
  intro i n hi hn
  obtain ⟨n,rfl⟩: ∃n',n=n' +1:=⟨n-1,by omega⟩
  have ha:i<a.length:=by omega
  have hb:i<b.length:=by omega
  have:=hl.1
  have:=hl.2 _ (aj ha)
  refine kz rfl (bT ae (cT (cg ha) (cT (cg hb) ?_)))
  rw[aa,aN (l:=a) _ ha,aN (l:=b) _ hb,aK]
  refine bS (ck.eq hk _ (by omega)) ?_
  rw[ih (i+1) n (by omega) (by omega),tA ha hb]
  unfold Jy
  cases decide (a[i] =b[i])<;>rfl
theorem gC.eq (hk:cy<=k) {a:LL} (b:LL) (hl:Cl a):gC.f k a b=some (Sq a b):=by
 unfold Sq
 by_cases h:(a.length:Int)=(b.length:Int)
 ·refine bF (by simp[h]) ((gC.loop hk (by omega) hl _ _ a.length 0 k (by omega) (cd hk hl.1)).trans ?_)
  rw[ah,ah]
  cases decide (a=b)<;>rfl
 ·rw[Jz h]
  exact bT (by simpa using h) rfl
def Ht (r s:Rl):Bool:=(r.n==s.n)&&(r.e==s.e)&&(r.b1==s.b1)&&(r.b2==s.b2)&&Jy r.w s.w&&Jy r.f s.f&&(r.t==s.t)&&(r.l==s.l)
def Qb (g h:Gm):Bool:=Ht g.r h.r&&Sq g.hs h.hs&&Jy g.st h.st&&Jy g.hp h.hp&&(g.tn==h.tn)&&(g.mv==h.mv)&&(g.ps==h.ps)
theorem iD.eq (hk:cy<=k) {r:Rl} (s:Rl) (h:r.sm):s.ap (r.ap (iD.f k))=some (Ht r s):=by
 show iD.f k r.n r.e r.b1 r.b2 r.w r.f r.t r.l s.n s.e s.b1 s.b2 s.w s.f s.t s.l=_
 have h1:=h.1
 have h2:=h.2
 unfold iD.f Ht
 simp only[cP.eq hk s.w (show r.w.length<1073741824 by omega),cP.eq hk s.f (show r.f.length<1073741824 by omega),aO]
 cases (r.n==s.n)<;>cases (r.e==s.e)<;>cases (r.b1==s.b1)<;>cases (r.b2==s.b2)<;>cases Jy r.w s.w<;>cases Jy r.f s.f<;>cases (r.t==s.t)<;>rfl
theorem ir.eq (hk:cy<=k) {r:Rl} (s:Rl) (h:r.sm):s.ap (r.ap (ir.f k))=some (Ht r s):=by
 show ir.f k r.n r.e r.b1 r.b2 r.w r.f r.t r.l s.n s.e s.b1 s.b2 s.w s.f s.t s.l=_
 have h1:=h.1
 have h2:=h.2
 unfold ir.f Ht
 simp only[ck.eq hk s.w (show r.w.length<1073741824 by omega),ck.eq hk s.f (show r.f.length<1073741824 by omega),aO]
 cases (r.n==s.n)<;>cases (r.e==s.e)<;>cases (r.b1==s.b1)<;>cases (r.b2==s.b2)<;>cases Jy r.w s.w<;>cases Jy r.f s.f<;>cases (r.t==s.t)<;>cases (r.l==s.l)<;>rfl
abbrev EqG (F:Int->Int->Bool->Bool->LI->LI->Int->Int->LL->LI->LI->Int->Int->Int->Int->Int->Bool->Bool->LI->LI->Int->Int->LL->LI->LI->Int->Int->Int->Option Bool) (g h:Gm):Option Bool:=F g.r.n g.r.e g.r.b1 g.r.b2 g.r.w g.r.f g.r.t g.r.l g.hs g.st g.hp g.tn g.mv g.ps h.r.n h.r.e h.r.b1 h.r.b2 h.r.w h.r.f h.r.t h.r.l h.hs h.st h.hp h.tn h.mv h.ps
theorem dq.eq (hk:cy<=k) {g:Gm} (h:Gm) (hg:g.sm):EqG (dq.f k) g h=some (Qb g h):=by
 obtain ⟨h1,h2,h3,h4⟩:=hg
 have h3:g.st.length<1048577:=h3
 have h4:g.hp.length<1048577:=h4
 have hr:=iD.eq hk h.r h1
 have hr:iD.f k g.r.n g.r.e g.r.b1 g.r.b2 g.r.w g.r.f g.r.t g.r.l h.r.n h.r.e h.r.b1 h.r.b2 h.r.w h.r.f h.r.t h.r.l=some (Ht g.r h.r):=hr
 show dq.f k g.r.n g.r.e g.r.b1 g.r.b2 g.r.w g.r.f g.r.t g.r.l g.hs g.st g.hp g.tn g.mv g.ps h.r.n h.r.e h.r.b1 h.r.b2 h.r.w h.r.f h.r.t h.r.l h.hs h.st h.hp h.tn h.mv h.ps=_
 unfold dq.f Qb Sq
 by_cases hl:(g.hs.length:Int)=(h.hs.length:Int)
 ·refine bF (by simp[hl]) ((dq.loop hk (by omega) h2 _ _ g.hs.length 0 k (by omega) (cd hk h2.1)).trans ?_)
  rw[ah,ah,hr]
  simp only[cP.eq hk h.st (show g.st.length<1073741824 by omega),cP.eq hk h.hp (show g.hp.length<1073741824 by omega),aO]
  cases decide (g.hs=h.hs)<;>cases Ht g.r h.r<;>cases Jy g.st h.st<;>cases Jy g.hp h.hp<;>cases (g.tn==h.tn)<;>cases (g.mv==h.mv)<;>rfl
 ·rw[Jz hl]
  refine bT (by simpa using hl) ?_
  cases Ht g.r h.r<;>rfl
theorem gP.eq (hk:cy<=k) {g:Gm} (h:Gm) (hg:g.sm):EqG (gP.f k) g h=some (Qb g h):=by
 obtain ⟨h1,h2,h3,h4⟩:=hg
 have h3:g.st.length<1048577:=h3
 have h4:g.hp.length<1048577:=h4
 have hr:=ir.eq hk h.r h1
 have hr:ir.f k g.r.n g.r.e g.r.b1 g.r.b2 g.r.w g.r.f g.r.t g.r.l h.r.n h.r.e h.r.b1 h.r.b2 h.r.w h.r.f h.r.t h.r.l=some (Ht g.r h.r):=hr
 show gP.f k g.r.n g.r.e g.r.b1 g.r.b2 g.r.w g.r.f g.r.t g.r.l g.hs g.st g.hp g.tn g.mv g.ps h.r.n h.r.e h.r.b1 h.r.b2 h.r.w h.r.f h.r.t h.r.l h.hs h.st h.hp h.tn h.mv h.ps=_
 unfold gP.f Qb
 rw[hr]
 simp only[gC.eq hk h.hs h2,ck.eq hk h.st (show g.st.length<1073741824 by omega),ck.eq hk h.hp (show g.hp.length<1073741824 by omega),aO]
 cases Ht g.r h.r<;>cases Sq g.hs h.hs<;>cases Jy g.st h.st<;>cases Jy g.hp h.hp<;>cases (g.tn==h.tn)<;>cases (g.mv==h.mv)<;>rfl
def zS (d:LI) (n q p:Nat):LI:=(List.range ((q+n-1-p)/n)).map fun i=>d.getD (i*n+p) 0
def lD (d:LI) (n q:Nat):LL:=(List.range n).map (zS d n q)
def xh (d:LI) (n e:Nat):LL:=(List.range n).map fun p=>(List.range e).map fun i=>d.getD (i*n+p) 0
def AN (n:Nat) (b:LL×Nat) (c:Int):LL×Nat:=(b.1.set (b.2%n) (b.1.getD (b.2%n) []++[c]),b.2+1)
theorem Sr {n q p:Nat} (h1:1<=n) (h2:n<=6) (hp:p<n):(q+1+n-1-p)/n=if p=q%n then (q+n-1-p)/n+1 else (q+n-1-p)/n:=by
 have:n=1\/n=2\/n=3\/n=4\/n=5\/n=6:=by omega
 rcases this with rfl|rfl|rfl|rfl|rfl|rfl<;>split<;>omega
theorem Xz {n q:Nat} (h1:1<=n) (h2:n<=6):(q+n-1-q%n)/n*n+q%n=q:=by
 have:n=1\/n=2\/n=3\/n=4\/n=5\/n=6:=by omega
 rcases this with rfl|rfl|rfl|rfl|rfl|rfl<;>omega
theorem U0 {n e p:Nat} (h1:1<=n) (h2:n<=6) (hp:p<n):(n*e+n-1-p)/n=e:=by
 have:n=1\/n=2\/n=3\/n=4\/n=5\/n=6:=by omega
 rcases this with rfl|rfl|rfl|rfl|rfl|rfl<;>omega
theorem JA {d:LI} {n q:Nat} (h1:1<=n) (h2:n<=6) (hq:q<d.length):(lD d n q).set (q%n) ((lD d n q).getD (q%n) []++[d[q]])=lD d n (q+1):=by
 have hm:q%n<n:=Nat.mod_lt _ (by omega)
 have e1:(lD d n q).getD (q%n) [] =zS d n q (q%n):=by
  rw[aN _ (by simpa[lD] using hm)];simp[lD]
 rw[e1]
 refine List.ext_getElem (by simp[lD]) (fun p xe hp2=> ?_)
 have hp:p<n:=by simpa[lD] using hp2
 rw[List.getElem_set]
 have e2:(lD d n (q+1))[p] =zS d n (q+1) p:=by simp[lD]
 rw[e2]
 unfold zS
 rw[Sr h1 h2 hp]
 by_cases hpq:q%n=p
 ·subst hpq
  rw[aS rfl,aS rfl,List.range_succ,List.map_append]
  simp only[bM,List.map_nil]
  rw[Xz h1 h2,aN _ hq]
 ·rw[aD hpq,aD (fun e=>hpq e.symm)]
  simp[lD,zS]
theorem Cq {d:LI} {n:Nat} (h1:1<=n) (h2:n<=6): ∀(q:Nat),q<=d.length->(d.take q).foldl (AN n) (List.replicate n [],0)=(lD d n q,q)
 |0,_=>by
  have e:lD d n 0=List.replicate n []:=by
   refine List.ext_getElem (by simp[lD]) (fun p xe hp2=> ?_)
   have hp:p<n:=by simpa using hp2
   simp only[lD,zS,List.getElem_map,List.getElem_range,List.getElem_replicate]
   rw[show (0+n-1-p)/n=0 from Nat.div_eq_of_lt (by omega)]
   rfl
  rw[e];rfl
 |q+1,h=>by
  rw[be (by omega),List.foldl_append,Cq h1 h2 q (by omega)]
  show AN n (lD d n q,q) d[q] =_
  unfold AN
  rw[JA h1 h2 (by omega)]
theorem C_ {d:LI} {n e:Nat} (h1:1<=n) (h2:n<=6):lD d n (n*e)=xh d n e:=by
 unfold lD xh
 refine List.map_congr_left (fun p hp=> ?_)
 unfold zS
 rw[U0 h1 h2 (List.mem_range.1 hp)]
theorem Ii {n:Nat} (h1:1<=n): ∀(l:LI) (b:LL×Nat),b.1.length=n->((l.foldl (AN n) b).1.flatten).Perm (b.1.flatten++l)
 | [],b,_=>by simp
 |c::l,b,h=>by
  have hm:b.2%n<b.1.length:=by rw[h];exact Nat.mod_lt _ (by omega)
  rw[aY]
  refine (Ii h1 l _ (by simpa[AN] using h)).trans ?_
  obtain ⟨q,q1,q2⟩:=xc b.1 (b.2%n) (b.1.getD (b.2%n) []++[c]) hm
  show ((b.1.set (b.2%n) (b.1.getD (b.2%n) []++[c])).flatten++l).Perm _
  refine (q2.append_right l).trans (List.Perm.trans ?_ (q1.append_right (c::l)).symm)
  rw[aN _ hm]
  have e1:b.1[b.2%n]++[c]++q++l=b.1[b.2%n]++([c]++(q++l)):=by simp
  have e2:b.1[b.2%n]++q++c::l=b.1[b.2%n]++(q++([c]++l)):=by simp
  rw[e1,e2]
  exact List.Perm.append_left _ (List.perm_append_comm_assoc _ _ _)
theorem Nq {d:LI} {n e:Nat} (h1:1<=n) (h2:n<=6) (h:n*e<=d.length):(xh d n e).flatten.Perm (d.take (n*e)):=by
 have:=Ii h1 (d.take (n*e)) (List.replicate n [],0) (by simp)
 rw[Cq h1 h2 _ h,C_ h1 h2] at this
 simpa using this
theorem Qc (d:LI) (n e:Nat):(xh d n e).length=n:=by simp[xh]
theorem jx.loop {k n:Nat} (hk:cy<=k) (h1:1<=n) {v:LI} (hv:v.length<1048577) (e0:LL->Option R):jx.l5 k (n:Int) v (v.length:Int) e0 k (0:Int) (List.replicate n [])=e0 (v.foldl (AN n) (List.replicate n [],0)).1:=by
 have h:=scan (B:=LL×Nat) v (fun m b i=>jx.l5 k (n:Int) v (v.length:Int) e0 m i b.1) (fun _ _=>true) (AN n) (fun b=>e0 b.1) (fun _ _=>none) (fun i b=>b.2=i/\b.1.length=n/\ ∀y∈b.1,y.length<=i)
  (fun m b i h hI=>by
    obtain ⟨Y3,hI2,hI3⟩:=hI
    have hm:i%n<n:=Nat.mod_lt _ (by omega)
    have e:((i:Int)).tmod (n:Int)=((i%n:Nat):Int):=rfl
    have hl:(b.1.getD (i%n) []).length<=i:=by rw[aN _ (by omega)];exact hI3 _ (aj _)
    have hz:(!decide ((n:Int)=0))=true:=by rw[aC (p:=(n:Int)=0) (by omega)];rfl
    refine bV rfl (bT ae (cT (cg h) (cT hz (cT hz ?_))))
    rw[e,aa,aa,aN (l:=v) _ h,aK]
    refine cT (cg (by omega)) (cT (nY) (cT (cg (by omega)) (cT (by simp) ?_)))
    unfold AN
    rw[Y3]
    rfl)
  (fun b i h hI _=>by
    obtain ⟨Y3,hI2,hI3⟩:=hI
    have hm:b.2%n<n:=Nat.mod_lt _ (by omega)
    refine ⟨by show b.2+1=i+1;omega,by simpa[AN] using hI2,fun y hy=> ?_⟩
    rcases List.mem_or_eq_of_mem_set (show y∈b.1.set (b.2%n) _ from hy) with hy|rfl
    ·have:=hI3 y hy;omega
    ·have:(b.1.getD (b.2%n) []).length<=i:=by rw[aN _ (by omega)];exact hI3 _ (aj _)
     rw[au,cz];omega)
  (fun m b hI=>bV rfl (br aC))
  v.length 0 k (List.replicate n [],0) (by omega) (cd hk hv) ⟨rfl,by simp,fun y hy=>by
   obtain rfl:=List.eq_of_mem_replicate hy;simp⟩
 refine h.trans ?_
 rw[ah,bX]
theorem zT {n e:Nat} (h1:n<=6) (h2:e<=20):n*e<=120:=Nat.mul_le_mul h1 h2
theorem jx.eq (hk:cy<=k) {d:LI} {n e:Nat} (h1:1<=n) (h2:n<=6) (h3:e<=20) (hd:dz d=true) (hl:d.length<1048577) (h:n*e<=d.length):jx.f k d (n:Int) (e:Int)=some (xh d n e,d.drop (n*e),true):=by
 have h4:=zT h2 h3
 have hw:aF ((n:Int)*(e:Int))=((n*e:Nat):Int):=by
  have:(n:Int)*(e:Int)=((n*e:Nat):Int):=by simp
  rw[this,wrap_i64]
 refine bS (bo.eq hk (by omega)) ?_
 rw[hd]
 refine bF rfl (bS (aI.eq ..) ?_)
 rw[ja.2 (⟨by omega,by omega⟩:(1:Int)<=(n:Int)/\(n:Int)<=6)]
 refine bF rfl (bS (aI.eq ..) ?_)
 rw[ja.2 (⟨by omega,by omega⟩:(0:Int)<=(e:Int)/\(e:Int)<=20),hw,aa,aa]
 refine bF rfl (bF aC (cT (bA ae (D6)) (cT (bA ae ae) ?_)))
 refine (jx.loop hk h1 (by rw[aP];omega) _).trans (cT (bA ae ae) (bS (bh.eq k (by simp;omega)) ?_))
 rw[Cq h1 h2 _ h,C_ h1 h2]
theorem O6 {α:Type} (f:Nat->α): ∀(m i:Nat) (b:List α),M4 (fun i b=>b++[f i]) m i b=b++(List.range' i m).map f
 |0,i,b=>by simp[M4]
 |m+1,i,b=>by
  show M4 (fun i b=>b++[f i]) m (i+1) (b++[f i])=_
  rw[O6 f m (i+1),List.range'_succ,bM,bp]
  rfl
theorem Ld {α:Type} (f:Nat->α) (m:Nat):M4 (fun i b=>b++[f i]) m 0 [] =(List.range m).map f:=by
 rw[O6,aM,List.range_eq_range']
theorem gz.inner {k n e p:Nat} (hk:cy<=k) (h2:n<=6) (h3:e<=20) (hp:p<n) {d:LI} (hl:d.length<1048577) (h:n*e<=d.length) (e0:LI->Option R):gz.l9 k d (n:Int) (e:Int) (p:Int) e0 k (0:Int) [] =e0 ((List.range e).map fun i=>d.getD (i*n+p) 0):=by
 have h:=upto (B:=LI) e (fun m b i=>gz.l9 k d (n:Int) (e:Int) (p:Int) e0 m i b) (fun i b=>b++[d.getD (i*n+p) 0]) e0 (fun i b=>b.length=i)
  (fun m b i hi hI=>by
    have q1:i*n+n<=e*n:=by
     have:(i+1)*n<=e*n:=Nat.mul_le_mul_right _ hi
     rw[Nat.add_mul,Nat.one_mul] at this
     exact this
    have q2:e*n=n*e:=Nat.mul_comm _ _
    have q3:=zT h2 h3
    have e1:aF ((i:Int)*(n:Int))=((i*n:Nat):Int):=by
     have:(i:Int)*(n:Int)=((i*n:Nat):Int):=by simp
     rw[this,wrap_i64]
    have e2:aF (((i*n:Nat):Int)+(p:Int))=((i*n+p:Nat):Int):=by
     rw[wrap_i64];omega
    refine bV rfl (bT ae ?_)
    rw[e1,e2,aa,aK]
    exact cT (cg (by omega)) (bW (nY)))
  (fun b i hi hI=>by simp;omega)
  (fun m b hI=>bV rfl (br aC))
  e 0 k [] (by omega) (by simp[cy] at hk;omega) rfl
 refine h.trans ?_
 rw[Ld (fun i=>d.getD (i*n+p) 0)]
theorem gz.eq (hk:cy<=k) {d:LI} {n e:Nat} (h1:1<=n) (h2:n<=6) (h3:e<=20) (hd:dz d=true) (hl:d.length<1048577) (h:n*e<=d.length):gz.f k d (n:Int) (e:Int)=some (xh d n e,d.drop (n*e),true):=by
 have h4:=zT h2 h3
 have hw:aF ((n:Int)*(e:Int))=((n*e:Nat):Int):=by
  have:(n:Int)*(e:Int)=((n*e:Nat):Int):=by simp
  rw[this,wrap_i64]
 refine bS (bQ.eq hk (by omega)) ?_
 rw[hd]
 refine bF rfl (bS (bb.eq ..) ?_)
 rw[ja.2 (⟨by omega,by omega⟩:(1:Int)<=(n:Int)/\(n:Int)<=6)]
 refine bF rfl (bS (bb.eq ..) ?_)
 rw[ja.2 (⟨by omega,by omega⟩:(0:Int)<=(e:Int)/\(e:Int)<=20),hw,aa]
 refine bF rfl (bF aC ?_)
 have hL:=upto (B:=LL) n (fun m b i=>gz.l5 k d (n:Int) (e:Int) (fun x5=>bY ((decide ((0:Int)<=((n*e:Nat):Int)))&&(decide (((n*e:Nat):Int)<=(d.length:Int))))<|bY (decide ((0+((d.drop (n*e)).length))*8<=room))<|some (x5,[]++(d.drop (n*e)),true)) m i b) (fun p b=>b++[(List.range e).map fun i=>d.getD (i*n+p) 0]) (fun x5=>bY ((decide ((0:Int)<=((n*e:Nat):Int)))&&(decide (((n*e:Nat):Int)<=(d.length:Int))))<|bY (decide ((0+((d.drop (n*e)).length))*8<=room))<|some (x5,[]++(d.drop (n*e)),true)) (fun i b=>b.length=i)
  (fun m b i hi hI=>by
    refine bV rfl (bT ae ((gz.inner hk h2 h3 hi hl h _).trans (cT (D6) ?_)))
    rw[aK])
  (fun b i hi hI=>by simp;omega)
  (fun m b hI=>bV rfl (br aC))
  n 0 k [] (by omega) (by simp[cy] at hk;omega) rfl
 refine hL.trans (cT (bA ae ae) (cT (nY (by simp;omega)) ?_))
 rw[Ld (fun p=>(List.range e).map fun i=>d.getD (i*n+p) 0)]
 rfl
def Da:Gm:=⟨⟨0,0,false,false,[],[],0,0⟩,[],[],[],0,0,0⟩
def ic (r:Rl) (d:LI):Gm×Bool:=bif r.ok&&dz d&&((d.length:Int)==52) then (⟨r,xh d r.n.toNat r.e.toNat,(d.drop (r.n.toNat*r.e.toNat)).drop 1,(d.drop (r.n.toNat*r.e.toNat)).take 1,0,0,0⟩,true) else (Da,false)
theorem zU {r:Rl} (h:r.ok=true):r.n.toNat*r.e.toNat<=48/\1<=r.n.toNat/\r.n.toNat<=6/\r.e.toNat<=8/\r.n=(r.n.toNat:Int)/\r.e=(r.e.toNat:Int):=by
 have:=tz h
 exact ⟨Nat.mul_le_mul (show r.n.toNat<=6 by omega) (show r.e.toNat<=8 by omega),by omega,by omega,by omega,by omega,by omega⟩
theorem xi:Da.sm:=⟨⟨by decide,by decide⟩,⟨by decide,fun y hy=>by cases hy⟩,by decide,by decide⟩
theorem AO {r:Rl} {d:LI} (h:(ic r d).2=true):eG (ic r d).1=true/\(ic r d).1.r=r:=by
 unfold ic at h ⊢
 cases hc:(r.ok&&dz d&&((d.length:Int)==52)) with
 |false=>rw[hc] at h;cases h
 |true=>
  simp only[ay,cG] at hc
  obtain ⟨⟨h1,h2⟩,h3⟩:=hc
  obtain ⟨b1,b2,b3,b4,b5,b6⟩:=zU h1
  have Qa:=tz h1
  refine ⟨hR.2 ⟨h1,by show ((xh _ _ _).length:Int)=r.n;rw[Qc];omega,?_,by show 0<((d.drop _).take 1).length;simp;omega,⟨by show (0:Int)<=0;omega,by show (0:Int)<=r.n-1;omega⟩,⟨by show (0:Int)<=0;omega,by show (0:Int)<=r.l;omega⟩,⟨by show (0:Int)<=0;omega,by show (0:Int)<=0;omega⟩⟩,rfl⟩
  show whole (xh d r.n.toNat r.e.toNat++[(d.drop (r.n.toNat*r.e.toNat)).drop 1,(d.drop (r.n.toNat*r.e.toNat)).take 1])=true
  have hp:(xh d r.n.toNat r.e.toNat++[(d.drop (r.n.toNat*r.e.toNat)).drop 1,(d.drop (r.n.toNat*r.e.toNat)).take 1]).flatten.Perm d:=by
   rw[List.flatten_append]
   simp only[List.flatten_cons,List.flatten_nil,cm]
   refine ((Nq b2 b3 (by omega)).append_right _).trans ?_
   refine (List.Perm.append_left _ List.perm_append_comm).trans ?_
   rw[b_,b_]
  unfold whole
  rw[tw hp,hp.length_eq,h2,h3]
  rfl
theorem vr {r:Rl} (hr:r.sm) (d:LI):(ic r d).1.sm:=by
 cases h:(ic r d).2 with
 |true=>
  obtain ⟨h1,h2⟩:=AO h
  exact Ia h1 (by rw[h2];exact hr)
 |false=>
  unfold ic at h ⊢
  cases hc:(r.ok&&dz d&&((d.length:Int)==52)) with
  |false=>exact xi
  |true=>rw[hc] at h;cases h
theorem kp.eq (hk:cy<=k) {r:Rl} (hr:r.sm) {d:LI} (hl:d.length<1048577):r.ap (kp.f k) d=some ((ic r d).1.wF (ic r d).2):=by
 refine bS (vo hk hr) ?_
 unfold ic
 cases h1:r.ok with
 |false=>rfl
 |true=>
  refine bF rfl (bS (bQ.eq hk (by omega)) ?_)
  cases h2:dz d with
  |false=>rfl
  |true=>
   refine bF rfl ?_
   cases h3:((d.length:Int)==52) with
   |false=>exact bT (by rw[bne,h3];rfl) rfl
   |true=>
    have h3':(d.length:Int)=52:=by simpa using h3
    obtain ⟨b1,b2,b3,b4,b5,b6⟩:=zU h1
    have hd:=gz.eq hk (d:=d) (n:=r.n.toNat) (e:=r.e.toNat) b2 b3 (by omega) h2 hl (by omega)
    rw[<- b5,<- b6] at hd
    have U1:(d.drop (r.n.toNat*r.e.toNat)).length=52-r.n.toNat*r.e.toNat:=by rw[cO];omega
    refine bF (by rw[bne,h3];rfl) (bS hd (bS (gf.eq k hr) ?_))
    refine cT (ae (show (1:Int)<=((d.drop (r.n.toNat*r.e.toNat)).length:Int) by omega)) (cT (nY (by simp;omega)) (cT (bA ae ae) (cT (ae (show (1:Int)<=((d.drop (r.n.toNat*r.e.toNat)).length:Int) by omega)) (cT (nY (by simp;omega)) ?_))))
    have e1:[]++(((d.drop (r.n.toNat*r.e.toNat)).take (((d.drop (r.n.toNat*r.e.toNat)).length:Int).toNat)).drop 1)=(d.drop (r.n.toNat*r.e.toNat)).drop 1:=by rw[aa,List.take_length];rfl
    show some (_,_,_,_,_,_,_,_,_,[]++(((d.drop (r.n.toNat*r.e.toNat)).take (((d.drop (r.n.toNat*r.e.toNat)).length:Int).toNat)).drop 1),_)=_
    rw[e1]
    rfl
theorem take_one {l:LI} (h:0<l.length):[l.getD 0 0] =l.take 1:=by
 cases l with
 |nil=>simp at h
 |cons a l=>rfl
theorem km.eq (hk:cy<=k) {r:Rl} (hr:r.sm) {d:LI} (hl:d.length<1048577):r.ap (km.f k) d=some ((ic r d).1.wF (ic r d).2):=by
 refine bS (vp hk hr) ?_
 unfold ic
 cases h1:r.ok with
 |false=>rfl
 |true=>
  refine bF rfl (bS (bo.eq hk (by omega)) ?_)
  cases h2:dz d with
  |false=>rfl
  |true=>
   refine bF rfl ?_
   cases h3:((d.length:Int)==52) with
   |false=>exact bT (by rw[bne,h3];rfl) rfl
   |true=>
    have h3':(d.length:Int)=52:=by simpa using h3
    obtain ⟨b1,b2,b3,b4,b5,b6⟩:=zU h1
    have hd:=jx.eq hk (d:=d) (n:=r.n.toNat) (e:=r.e.toNat) b2 b3 (by omega) h2 hl (by omega)
    rw[<- b5,<- b6] at hd
    have U1:(d.drop (r.n.toNat*r.e.toNat)).length=52-r.n.toNat*r.e.toNat:=by rw[cO];omega
    refine bF (by rw[bne,h3];rfl) (bS hd (bS (df.eq k hr) ?_))
    have e1:(((d.drop (r.n.toNat*r.e.toNat)).take (((d.drop (r.n.toNat*r.e.toNat)).length:Int).toNat)).drop 1)=(d.drop (r.n.toNat*r.e.toNat)).drop 1:=by rw[aa,List.take_length]
    refine cT (bA ae ae) (cT (ae (show (1:Int)<=((d.drop (r.n.toNat*r.e.toNat)).length:Int) by omega)) (bS (bh.eq k (by simp;omega)) (cT (ae (show (0:Int)<((d.drop (r.n.toNat*r.e.toNat)).length:Int) by omega)) ?_)))
    show some (_,_,_,_,_,_,_,_,_,(((d.drop (r.n.toNat*r.e.toNat)).take (((d.drop (r.n.toNat*r.e.toNat)).length:Int).toNat)).drop 1),[(d.drop (r.n.toNat*r.e.toNat)).getD 0 0],_)=_
    rw[e1,take_one (by omega)]
    rfl
def ES (r:LI):Bool:=r.all fun x=>mJ x (-1000) 1000
def nJ (n:Int) (r:LI):Bool:=mJ n 2 6&&((r.length:Int)==n)&&ES r&&(r.sum==0)
theorem jq.eq (hk:cy<=k) (n:Int) {r:LI} (hr:r.length<1048577):jq.f k n r=some (nJ n r):=by
 have h:=scan (B:=Int) r (fun m b i=>jq.l3 k r (fun _=>some false) (fun x3=>(bb.f k n 2 6).bind fun r4=>bif r4 then bif ((r.length:Int)==n) then some (x3==(0:Int)) else some false else some false) m b i) (fun _ a=>mJ a (-1000) 1000) (fun b a=>b+a) (fun x3=>(bb.f k n 2 6).bind fun r4=>bif r4 then bif ((r.length:Int)==n) then some (x3==(0:Int)) else some false else some false) (fun _ _=>some false)
  (fun i b=> -1000*(i:Int)<=b/\b<=1000*(i:Int))
  (fun m b i h hI=>by
    refine bV rfl ?_
    refine bT ae ?_
    refine cT (cg h) ?_
    rw[aa,aN _ h]
    refine bS (bb.eq ..) ?_
    cases hp:mJ r[i] (-1000) 1000 with
    |false=>rfl
    |true=>
     have:=ja.1 hp
     refine bF rfl ?_
     refine cT (cg h) ?_
     rw[wrap_i64,aK]
     rfl)
  (fun b i h hI hp=>by have:=ja.1 hp;constructor<;>omega)
  (fun m b hI=>bV rfl (br aC))
  r.length 0 k 0 (by omega) (cd hk hr) (by simp)
 refine h.trans ?_
 rw[ah,tv,foldl_add,bb.eq,Int.zero_add]
 unfold nJ ES
 cases r.all (fun x=>mJ x (-1000) 1000)<;>cases mJ n 2 6<;>cases ((r.length:Int)==n)<;>simp
theorem kM.eq (hk:cy<=k) {r:LI} (lo hi:Int) (hr:r.length<1048577):kM.f k r lo hi=some (r.all fun x=>mJ x lo hi):=by
 have h:=scan (B:=Unit) r (fun m b i=>kM.l2 k lo hi r (r.length:Int) (some false) (some true) m i) (fun _ a=>mJ a lo hi) (fun b a=>b) (fun _=>some true) (fun _ _=>some false) (fun i b=>True)
  (fun m b i h hI=>by
    refine kz rfl ?_
    refine bT ae ?_
    refine cT (cg h) ?_
    rw[aa,aN _ h]
    refine bS (aI.eq ..) ?_
    rw[aK]
    cases mJ r[i] lo hi<;>rfl)
  (fun b i h hI hp=>trivial)
  (fun m b hI=>kz rfl (br aC))
  r.length 0 k () (by omega) (cd hk hr) trivial
 refine h.trans ?_
 rw[ah,tv]
 cases r.all (fun x=>mJ x lo hi)<;>rfl
theorem jO.eq (hk:cy<=k) {r:LI} (hr:r.length<1048577) (hp:ES r=true):jO.f k r=some r.sum:=by
 have h:=scan (B:=Int) r (fun m b i=>jO.l3 k r (r.length:Int) (fun x=>some x) m b i) (fun _ _=>true) (fun b a=>b+a) (fun x=>some x) (fun _ _=>none) (fun i b=> -1000*(i:Int)<=b/\b<=1000*(i:Int))
  (fun m b i h hI=>by
    have:=ja.1 (List.all_eq_true.1 hp _ (aj h))
    refine bV rfl ?_
    refine bT ae ?_
    refine cT (cg h) ?_
    rw[aa,aN _ h,wrap_i64,aK]
    rfl)
  (fun b i h hI _=>by have:=ja.1 (List.all_eq_true.1 hp _ (aj h));constructor<;>omega)
  (fun m b hI=>bV rfl (br aC))
  r.length 0 k 0 (by omega) (cd hk hr) (by simp)
 refine h.trans ?_
 rw[ah,bX,foldl_add,Int.zero_add]
theorem nc.eq (hk:cy<=k) (n:Int) {r:LI} (hr:r.length<1048577):nc.f k n r=some (nJ n r):=by
 refine bS (aI.eq ..) ?_
 unfold nJ
 cases mJ n 2 6 with
 |false=>rfl
 |true=>
  refine bT rfl ?_
  cases ((r.length:Int)==n) with
  |false=>rfl
  |true=>
   refine bT rfl ?_
   refine bS (kM.eq hk _ _ hr) ?_
   cases hp:ES r with
   |false=>exact bF hp (by simp)
   |true=>
    refine bT hp ?_
    exact bS (jO.eq hk hr hp) (by simp)
def lF (n:Int) (s:LL):Bool:=mJ n 2 6&&decide ((s.length:Int)<=50)&&s.all (nJ n)
theorem fo.Qd (hk:cy<=k) (n:Int) {s:LL} (hs:s.length<1073741824) (M8: ∀y∈s,y.length<1048577):fo.f k n s=some (lF n s):=by
 have h:=scan (B:=Unit) s (fun m b i=>fo.l2 k n s (some false) ((bb.f k n 2 6).bind fun r2=>bif r2 then some (decide ((s.length:Int)<=50)) else some false) m i) (fun _ a=>nJ n a) (fun b a=>b) (fun _=>some (mJ n 2 6&&decide ((s.length:Int)<=50))) (fun _ _=>some false) (fun i b=>True)
  (fun m b i h hI=>by
    refine kz rfl ?_
    refine bT ae ?_
    refine cT (cg h) ?_
    rw[aa,aN _ h]
    refine bS (jq.eq hk n (M8 _ (aj h))) ?_
    rw[aK]
    cases nJ n s[i]<;>rfl)
  (fun b i h hI hp=>trivial)
  (fun m b hI=>kz rfl (bF aC (bS (bb.eq ..) (by cases mJ n 2 6<;>rfl))))
  s.length 0 k () (by omega) (pV hk hs) trivial
 refine h.trans ?_
 rw[ah,tv]
 unfold lF
 cases s.all (nJ n)<;>simp
theorem fo.eq (hk:cy<=k) (n:Int) {s:LL} (hs:s.length<1048577) (M8: ∀y∈s,y.length<1048577):fo.f k n s=some (lF n s):=fo.Qd hk n (by omega) M8
theorem fj.Qd (hk:cy<=k) (n:Int) {s:LL} (hs:s.length<1073741824) (M8: ∀y∈s,y.length<1048577):fj.f k n s=some (lF n s):=by
 have h:=scan (B:=Unit) s (fun m b i=>fj.l2 k n s (s.length:Int) (some false) ((aI.f k n 2 6).bind fun r2=>bif r2 then some (decide ((s.length:Int)<=50)) else some false) m i) (fun _ a=>nJ n a) (fun b a=>b) (fun _=>some (mJ n 2 6&&decide ((s.length:Int)<=50))) (fun _ _=>some false) (fun i b=>True)
  (fun m b i h hI=>by
    refine kz rfl ?_
    refine bT ae ?_
    refine cT (cg h) ?_
    rw[aa,aN _ h]
    refine bS (nc.eq hk n (M8 _ (aj h))) ?_
    rw[aK]
    cases nJ n s[i]<;>rfl)
  (fun b i h hI hp=>trivial)
  (fun m b hI=>kz rfl (bF aC (bS (aI.eq ..) (by cases mJ n 2 6<;>rfl))))
  s.length 0 k () (by omega) (pV hk hs) trivial
 refine h.trans ?_
 rw[ah,tv]
 unfold lF
 cases s.all (nJ n)<;>simp
theorem fj.eq (hk:cy<=k) (n:Int) {s:LL} (hs:s.length<1048577) (M8: ∀y∈s,y.length<1048577):fj.f k n s=some (lF n s):=fj.Qd hk n (by omega) M8
structure Tb where
 r:Rl
 fI:LI
 on:Bool
 qn:LI
 g:Gm
 rd:LI
 jJ:LL
abbrev Tb.ap {β:Type} (F:Int->Int->Bool->Bool->LI->LI->Int->Int->LI->Bool->LI->Int->Int->Bool->Bool->LI->LI->Int->Int->LL->LI->LI->Int->Int->Int->LI->LL->β) (t:Tb):β:=F t.r.n t.r.e t.r.b1 t.r.b2 t.r.w t.r.f t.r.t t.r.l t.fI t.on t.qn t.g.r.n t.g.r.e t.g.r.b1 t.g.r.b2 t.g.r.w t.g.r.f t.g.r.t t.g.r.l t.g.hs t.g.st t.g.hp t.g.tn t.g.mv t.g.ps t.rd t.jJ
abbrev Tb.tp (t:Tb):Int×Int×Bool×Bool×LI×LI×Int×Int×LI×Bool×LI×Int×Int×Bool×Bool×LI×LI×Int×Int×LL×LI×LI×Int×Int×Int×LI×LL:=(t.r.n,t.r.e,t.r.b1,t.r.b2,t.r.w,t.r.f,t.r.t,t.r.l,t.fI,t.on,t.qn,t.g.r.n,t.g.r.e,t.g.r.b1,t.g.r.b2,t.g.r.w,t.g.r.f,t.g.r.t,t.g.r.l,t.g.hs,t.g.st,t.g.hp,t.g.tn,t.g.mv,t.g.ps,t.rd,t.jJ)
abbrev Tb.wF (t:Tb) (b:Bool):Int×Int×Bool×Bool×LI×LI×Int×Int×LI×Bool×LI×Int×Int×Bool×Bool×LI×LI×Int×Int×LL×LI×LI×Int×Int×Int×LI×LL×Bool:=(t.r.n,t.r.e,t.r.b1,t.r.b2,t.r.w,t.r.f,t.r.t,t.r.l,t.fI,t.on,t.qn,t.g.r.n,t.g.r.e,t.g.r.b1,t.g.r.b2,t.g.r.w,t.g.r.f,t.g.r.t,t.g.r.l,t.g.hs,t.g.st,t.g.hp,t.g.tn,t.g.mv,t.g.ps,t.rd,t.jJ,b)
abbrev Tb.sm (t:Tb):Prop:=t.r.sm/\Wl t.fI/\Wl t.qn/\t.g.sm/\Wl t.rd/\Cl t.jJ
abbrev Tb.U2 (t:Tb):Prop:=t.r.sm/\Wl t.qn/\t.g.sm/\t.rd.length<1073741824/\t.jJ.length<1073741824/\ ∀y∈t.jJ,y.length<1048577
theorem Tb.xj {t:Tb} (h:t.sm):t.U2:=⟨h.1,h.2.2.1,h.2.2.2.1,by have:=h.2.2.2.2.1;omega,by have:=h.2.2.2.2.2.1;omega,h.2.2.2.2.2.2⟩
def tB (t:Tb):Bool:=(ic t.r t.qn).2&&((t.fI.length:Int)==t.r.n)&&((gA t.rd 0 (ic t.r t.qn).1).2==(t.rd.length:Int))&&Qb (gA t.rd 0 (ic t.r t.qn).1).1 t.g
def jb (t:Tb):Bool:=t.r.ok&& !(decide ((t.fI.length:Int)>t.r.n))&&lF t.r.n t.jJ&&(bif t.on then tB t else ((t.qn.length:Int)==0)&&((t.rd.length:Int)==0)&&Qb t.g Da)
theorem jr.eq (hk:cy<=k) {t:Tb} (h:t.U2):t.ap (jr.f k)=some (jb t):=by
 obtain ⟨h1,h2,h3,h4,h5,h6⟩:=h
 refine bS (vo hk h1) ?_
 unfold jb
 cases t.r.ok with
 |false=>rfl
 |true=>
  refine bF rfl ?_
  cases decide ((t.fI.length:Int)>t.r.n) with
  |true=>rfl
  |false=>
   refine bF rfl (bS (fo.Qd hk _ h5 h6) ?_)
   cases lF t.r.n t.jJ with
   |false=>rfl
   |true=>
    refine bF rfl ?_
    cases t.on with
    |false=>
     refine bT rfl ?_
     cases ((t.qn.length:Int)==0) with
     |false=>rfl
     |true=>
      refine bT rfl ?_
      cases ((t.rd.length:Int)==0) with
      |false=>rfl
      |true=>exact bT rfl (bS (dq.eq hk Da h3) (by simp))
    |true=>
     have hs:=vr h1 t.qn
     refine bF rfl (bS (kp.eq hk h1 h2) (bS (dK.eq hk h4 hs) ?_))
     show (bif (ic t.r t.qn).2 then _ else _)=some (true&& !false&&true&&tB t)
     unfold tB
     cases (ic t.r t.qn).2 with
     |false=>rfl
     |true=>
      refine bT rfl ?_
      cases ((t.fI.length:Int)==t.r.n) with
      |false=>rfl
      |true=>
       refine bT rfl ?_
       show (bif ((gA t.rd 0 (ic t.r t.qn).1).2==(t.rd.length:Int)) then _ else _)=_
       cases ((gA t.rd 0 (ic t.r t.qn).1).2==(t.rd.length:Int)) with
       |false=>rfl
       |true=>exact bT rfl (bS (dq.eq hk t.g (xg t.rd 0 hs)) (by simp))
theorem jn.eq (hk:cy<=k) {t:Tb} (h:t.U2):t.ap (jn.f k)=some (jb t):=by
 obtain ⟨h1,h2,h3,h4,h5,h6⟩:=h
 refine bS (vp hk h1) ?_
 unfold jb
 cases t.r.ok with
 |false=>rfl
 |true=>
  refine bF rfl ?_
  cases decide ((t.fI.length:Int)>t.r.n) with
  |true=>rfl
  |false=>
   refine bF rfl (bS (fj.Qd hk _ h5 h6) ?_)
   cases lF t.r.n t.jJ with
   |false=>rfl
   |true=>
    refine bF rfl ?_
    cases t.on with
    |false=>
     refine bT rfl ?_
     cases ((t.qn.length:Int)==0) with
     |false=>rfl
     |true=>
      refine bT rfl ?_
      cases ((t.rd.length:Int)==0) with
      |false=>rfl
      |true=>exact bT rfl (bS (gP.eq hk Da h3) (by simp))
    |true=>
     have hs:=vr h1 t.qn
     refine bF rfl (bS (km.eq hk h1 h2) ?_)
     show (bif !(ic t.r t.qn).2 then _ else _)=some (true&& !false&&true&&tB t)
     unfold tB
     cases (ic t.r t.qn).2 with
     |false=>rfl
     |true=>
      refine bF rfl ?_
      cases hn:((t.fI.length:Int)==t.r.n) with
      |false=>exact bT (by rw[bne,hn];rfl) rfl
      |true=>
       refine bF (by rw[bne,hn];rfl) (bS (dJ.eq hk h4 hs) ?_)
       show (bif ((gA t.rd 0 (ic t.r t.qn).1).2==(t.rd.length:Int)) then _ else _)=_
       cases ((gA t.rd 0 (ic t.r t.qn).1).2==(t.rd.length:Int)) with
       |false=>rfl
       |true=>exact bT rfl (bS (gP.eq hk t.g (xg t.rd 0 hs)) (by simp))
theorem vt {t:Tb} (h:jb t=true):t.r.ok=true/\(t.fI.length:Int)<=t.r.n/\lF t.r.n t.jJ=true/\t.rd.length<=400/\(t.on=true->tB t=true):=by
 unfold jb at h
 simp only[ay,Bool.not_eq_true',decide_eq_false_iff_not] at h
 obtain ⟨⟨⟨h1,h2⟩,h3⟩,h4⟩:=h
 have Qa:=tz h1
 refine ⟨h1,by omega,h3,?_,fun ho=>by rw[ho] at h4;exact h4⟩
 cases ho:t.on with
 |false=>
  rw[ho] at h4
  simp only[an,ay,cG] at h4
  omega
 |true=>
  rw[ho] at h4
  have h4:tB t=true:=h4
  unfold tB at h4
  simp only[ay,cG] at h4
  obtain ⟨⟨⟨k1,k2⟩,k3⟩,k4⟩:=h4
  obtain ⟨g1,g2⟩:=AO k1
  obtain ⟨q1,q2,q3⟩:=AM t.rd 0 (g:=(ic t.r t.qn).1) (by omega)
  obtain ⟨_,_,_,_,_,m6,_⟩:=hR.1 (q3 g1)
  obtain ⟨_,_,_,_,_,m7,_⟩:=hR.1 g1
  rw[q2,g2] at m6
  omega
theorem bm.eq (hk:cy<=k) {t:Tb} (h:t.sm):t.ap (bm.f k)=some t.tp:=by
 obtain ⟨h1,h2,h3,h4,h5,h6⟩:=h
 have h2:t.fI.length<1048577:=h2
 have h3:t.qn.length<1048577:=h3
 have h5:t.rd.length<1048577:=h5
 exact bS (gf.eq k h1) (cT (nY) (cT (nY) (bS (gg.eq hk h4) (cT (nY) (bS (gM.eq hk h6) rfl)))))
theorem ar.eq (hk:cy<=k) {t:Tb} (h:t.sm):t.ap (ar.f k)=some t.tp:=by
 obtain ⟨h1,h2,h3,h4,h5,h6⟩:=h
 exact bS (df.eq k h1) (bS (bh.eq k h2) (bS (bh.eq k h3) (bS (dA.eq hk h4) (bS (bh.eq k h5) (bS (dx.eq hk h6) rfl)))))
def done (t u:Tb) (ok:Bool):Tb×Bool:=bif ok&&jb t&&jb u then (u,true) else (t,false)
theorem Eo {t u:Tb} (ok:Bool) (ht:t.sm) (h1:u.r.sm) (h2:Wl u.qn) (h3:u.g.sm):(done t u ok).1.sm:=by
 unfold done
 cases h:(ok&&jb t&&jb u) with
 |false=>exact ht
 |true=>
  simp only[ay] at h
  obtain ⟨k1,k2,k3,k4,k5⟩:=vt h.2
  have Qa:=tz k1
  unfold lF at k3
  simp only[ay,dH,List.all_eq_true] at k3
  refine ⟨h1,by show u.fI.length<1048577;omega,h2,h3,by show u.rd.length<1048577;omega,by show u.jJ.length<1048577;omega,fun y hy=> ?_⟩
  have Uy:=k3.2 y hy
  unfold nJ at Uy
  simp only[ay,cG] at Uy
  show y.length<1048577
  omega
theorem dM.eq (hk:cy<=k) {t u:Tb} (ok:Bool) (ht:t.sm) (hu:u.U2):u.ap (t.ap (dM.f k)) ok=some ((done t u ok).1.wF (done t u ok).2):=by
 unfold done
 cases ok with
 |false=>exact bT rfl (bS (bm.eq hk ht) rfl)
 |true=>
  refine bF rfl (bS (jr.eq hk (Tb.xj ht)) ?_)
  cases jb t with
  |false=>exact bT rfl (bS (bm.eq hk ht) rfl)
  |true=>
   refine bF rfl (bS (jr.eq hk hu) ?_)
   cases jb u with
   |false=>exact bT rfl (bS (bm.eq hk ht) rfl)
   |true=>rfl
theorem bu.eq (hk:cy<=k) {t u:Tb} (ok:Bool) (ht:t.sm) (hu:u.U2):u.ap (t.ap (bu.f k)) ok=some ((done t u ok).1.wF (done t u ok).2):=by
 unfold done
 cases ok with
 |false=>exact bT rfl (bS (ar.eq hk ht) rfl)
 |true=>
  refine bF rfl (bS (jn.eq hk (Tb.xj ht)) ?_)
  cases jb t with
  |false=>exact bT rfl (bS (ar.eq hk ht) rfl)
  |true=>
   refine bF rfl (bS (jn.eq hk hu) ?_)
   cases jb u with
   |false=>exact bT rfl (bS (ar.eq hk ht) rfl)
   |true=>rfl
def qY (t:Tb) (s:Int):Tb×Bool:=done t {t with fI:=t.fI++[s]} (!t.on)
theorem Le {t:Tb} (h:t.sm) (s:Int):(qY t s).1.sm:=Eo _ h h.1 h.2.2.1 h.2.2.2.1
theorem vu {t:Tb} (h:t.sm) (s:Int):({t with fI:=t.fI++[s]}:Tb).U2:=by
 obtain ⟨h1,h2,h3,h4,h5,h6⟩:=Tb.xj h
 exact ⟨h1,h2,h3,h4,h5,h6⟩
theorem mA.eq (hk:cy<=k) {t:Tb} (h:t.sm) (s:Int):t.ap (mA.f k) s=some ((qY t s).1.wF (qY t s).2):=by
 have h2:t.fI.length<1048577:=h.2.1
 exact bS (bm.eq hk h) (cT (nY (show t.fI.length+1<=_ by omega)) (bS (dM.eq hk (!t.on) h (vu h s)) rfl))
theorem Nr {t u:Tb} (hr:u.r=t.r) (hs:u.fI.length=t.fI.length+1):done t u (decide ((t.fI.length:Int)<t.r.n))=done t u true:=by
 by_cases hd:(t.fI.length:Int)<t.r.n
 ·rw[ae hd]
 ·rw[aC hd]
  unfold done
  cases hu:jb u with
  |false=>simp
  |true=>
   have:=(vt hu).2.1
   rw[hr,hs] at this
   omega
theorem mh.eq (hk:cy<=k) {t:Tb} (h:t.sm) (s:Int):t.ap (mh.f k) s=some ((qY t s).1.wF (qY t s).2):=by
 have h2:t.fI.length<1048577:=h.2.1
 refine bS (ar.eq hk h) (cT (nY (show t.fI.length+1<=_ by omega)) ?_)
 rcases aV t.on with ho|ho
 ·have hb:=bu.eq hk false h (vu h s)
  have e:qY t s=done t {t with fI:=t.fI++[s]} false:=congrArg (done t _) (by rw[ho];rfl)
  rw[e]
  exact bF (by rw[ho];rfl) (bS hb rfl)
 ·have hb:=bu.eq hk (decide ((t.fI.length:Int)<t.r.n)) h (vu h s)
  have e:qY t s=done t {t with fI:=t.fI++[s]} true:=congrArg (done t _) (by rw[ho];rfl)
  rw[Nr (t:=t) (u:={t with fI:=t.fI++[s]}) rfl (by simp),<- e] at hb
  exact bT (by rw[ho];rfl) (bS hb rfl)
def Lf (a:Int):Int:=(a.tmod 2147483647+2147483647).tmod 2147483647
theorem JB (a:Int): -2147483647<a.tmod 2147483647/\a.tmod 2147483647<2147483647:=by
 constructor
 ·rcases Int.le_total 0 a with h|h
  ·rw[aX h];omega
  ·have e:a.tmod 2147483647= -((-a).tmod 2147483647):=by rw[Int.neg_tmod,Int.neg_neg]
   rw[e,aX (by omega)];omega
 ·rcases Int.le_total 0 a with h|h
  ·rw[aX h];omega
  ·have e:a.tmod 2147483647= -((-a).tmod 2147483647):=by rw[Int.neg_tmod,Int.neg_neg]
   rw[e,aX (by omega)];omega
theorem JC (a:Int):0<=Lf a/\Lf a<2147483647:=by
 have:=JB a
 unfold Lf
 rw[aX (by omega)]
 omega
theorem lj.eq (k:Nat) (a:Int):lj.f k a 2147483647=some (Lf a):=by
 have:=JB a
 refine bS (bb.eq ..) (bF rfl (cT rfl (cT rfl ?_)))
 rw[wrap_i64]
 rfl
theorem la.eq (k:Nat) (a:Int):la.f k a 2147483647=some (Lf a):=by
 have:=JB a
 refine bS (aI.eq ..) (bF rfl (cT rfl (cT rfl ?_)))
 rw[wrap_i64]
 rfl
def Ij (h a:Int):Int:=(h*1000003+Lf a+13).tmod 2147483647
theorem Lg {h:Int} (a:Int) (h0:0<=h/\h<2147483647):0<=Ij h a/\Ij h a<2147483647:=by
 have:=JC a
 unfold Ij
 rw[aX (by omega)]
 omega
def AP (l:LI):Int:=l.foldl Ij 11
theorem ke.eq (hk:cy<=k) {l:LI} (hl:l.length<1048577):ke.f k l=some (AP l):=by
 have h:=scan (B:=Int) l (fun m b i=>ke.l3 k l (fun x=>some x) m b i) (fun _ _=>true) Ij (fun x=>some x) (fun _ _=>none) (fun i b=>0<=b/\b<2147483647)
  (fun m b i h hI=>by
    have hm:=JC l[i]
    refine bV rfl (bT ae (cT (cg h) ?_))
    rw[aa,aN _ h]
    refine bS (lj.eq ..) ?_
    rw[aK,wrap_i64 (n:=b*1000003),wrap_i64 (n:=b*1000003+Lf l[i]),wrap_i64]
    rfl)
  (fun b i h hI _=>Lg _ hI)
  (fun m b hI=>bV rfl (br aC))
  l.length 0 k 11 (by omega) (cd hk hl) (by omega)
 refine h.trans ?_
 rw[ah,bX];rfl
theorem j_.eq (hk:cy<=k) {l:LI} (hl:l.length<1048577):j_.f k l=some (AP l):=by
 have h:=scan (B:=Int) l (fun m b i=>j_.l3 k l (l.length:Int) (fun x=>some x) m b i) (fun _ _=>true) Ij (fun x=>some x) (fun _ _=>none) (fun i b=>0<=b/\b<2147483647)
  (fun m b i h hI=>by
    have hm:=JC l[i]
    refine bV rfl (bT ae (cT (cg h) ?_))
    rw[aa,aN _ h]
    refine bS (la.eq ..) ?_
    rw[aK,wrap_i64 (n:=b*1000003),wrap_i64 (n:=b*1000003+Lf l[i]),wrap_i64]
    rfl)
  (fun b i h hI _=>Lg _ hI)
  (fun m b hI=>bV rfl (br aC))
  l.length 0 k 11 (by omega) (cd hk hl) (by omega)
 refine h.trans ?_
 rw[ah,bX];rfl
theorem jM.eq (hk:cy<=k) (a b c:Int):jM.f k a b c=some (AP [a,b,c]):=bN (ke.eq hk (by simp))
theorem jL.eq (hk:cy<=k) (a b c:Int):jL.f k a b c=some (AP [a,b,c]):=bN (j_.eq hk (by simp))
def ET (a m:Int):Int:=(a.tmod m+m).tmod m
theorem EU (a:Int) {m:Int} (h:1<=m): -m<a.tmod m/\a.tmod m<m:=by
 rcases Int.le_total 0 a with h0|h0
 ·rw[aX h0]
  have:=Int.emod_nonneg a (b:=m) (by omega)
  have:=Int.emod_lt_of_pos a (b:=m) (by omega)
  omega
 ·have e:a.tmod m= -((-a).tmod m):=by rw[Int.neg_tmod,Int.neg_neg]
  rw[e,aX (by omega)]
  have:=Int.emod_nonneg (-a) (b:=m) (by omega)
  have:=Int.emod_lt_of_pos (-a) (b:=m) (by omega)
  omega
theorem Ep (a:Int) {m:Int} (h:1<=m):0<=ET a m/\ET a m<m:=by
 have:=EU a h
 unfold ET
 rw[aX (by omega)]
 exact ⟨Int.emod_nonneg _ (by omega),Int.emod_lt_of_pos _ (by omega)⟩
theorem lj.Qd (k:Nat) (a:Int) {m:Int} (h1:1<=m) (h2:m<=1000000000000):lj.f k a m=some (ET a m):=by
 have:=EU a h1
 refine bS (bb.eq ..) ?_
 rw[ja.2 ⟨h1,h2⟩]
 refine bF rfl (cT (by rw[aC (p:=m=0) (by omega)];rfl) (cT (by rw[aC (p:=m=0) (by omega)];rfl) ?_))
 rw[wrap_i64]
 rfl
theorem la.Qd (k:Nat) (a:Int) {m:Int} (h1:1<=m) (h2:m<=1000000000000):la.f k a m=some (ET a m):=by
 have:=EU a h1
 refine bS (aI.eq ..) ?_
 rw[ja.2 ⟨h1,h2⟩]
 refine bF rfl (cT (by rw[aC (p:=m=0) (by omega)];rfl) (cT (by rw[aC (p:=m=0) (by omega)];rfl) ?_))
 rw[wrap_i64]
 rfl
def ZR (mL:Int) (i:Nat):Nat:=(ET (AP [mL,(i:Int)]) ((i:Int)+1)).toNat
def Ik (mL:Int) (v:LI) (i:Nat):LI:=(v.set i (v.getD (ZR mL i) 0)).set (ZR mL i) (v.getD i 0)
def Li (mL:Int):Nat->LI->LI
 |0,v=>v
 |i+1,v=>Li mL i (Ik mL v (i+1))
def uH (l:LI) (mL:Int):LI:=Li mL (l.length-1) l
theorem Ns (mL:Int) (i:Nat):ZR mL i<=i/\((ZR mL i:Nat):Int)=ET (AP [mL,(i:Int)]) ((i:Int)+1):=by
 have:=Ep (AP [mL,(i:Int)]) (m:=(i:Int)+1) (by omega)
 unfold ZR
 omega
theorem uI (mL:Int) (v:LI) (i:Nat):(Ik mL v i).length=v.length:=by simp[Ik]
theorem EV (mL:Int): ∀(i:Nat) (v:LI),i<v.length\/i=0->(Li mL i v).Perm v
 |0,v,_=>List.Perm.refl _
 |i+1,v,h=>by
  have hj:=(Ns mL (i+1)).1
  refine (EV mL i _ (by rw[uI];omega)).trans ?_
  unfold Ik
  rw[aN _ (by omega),aN _ (by omega)]
  exact List.set_set_perm (by omega) (by omega)
theorem Hv (l:LI) (mL:Int):(uH l mL).Perm l:=EV mL _ l (by omega)
theorem gG.loop (hk:cy<=k) (mL:Int) (e0:LI->Option R): ∀(i n:Nat) (v:LI),i<v.length->v.length<1048577->i<n->gG.l3 k mL e0 n (i:Int) v=e0 (Li mL i v):=by
 intro i
 induction i with
 |zero=>
  intro n v h hv hn
  obtain ⟨n,rfl⟩: ∃n',n=n' +1:=⟨n-1,by omega⟩
  exact bV rfl (br aC)
 |succ i ih=>
  intro n v h hv hn
  obtain ⟨n,rfl⟩: ∃n',n=n' +1:=⟨n-1,by omega⟩
  have hj:=Ns mL (i+1)
  refine bV rfl (bT ae (bS (ke.eq hk (by simp)) ?_))
  rw[wrap_i64 (n:=((i+1:Nat):Int)+1) (by omega) (by omega),show aF (((i+1:Nat):Int)-1)=(i:Int) by rw[wrap_i64];omega]
  refine bS (lj.Qd k _ (by omega) (by omega)) ?_
  rw[<- hj.2]
  refine cT (cg h) (cT (cg (by omega)) (cT (cg h) (cT (cg (by rw[fg];omega)) ?_)))
  rw[aa,aa]
  exact ih n (Ik mL v (i+1)) (by rw[uI];omega) (by rw[uI];omega) (by omega)
theorem gD.loop (hk:cy<=k) (mL:Int) (e0:LI->Option R): ∀(i n:Nat) (v:LI),i<v.length->v.length<1048577->i<n->gD.l3 k mL e0 n (i:Int) v=e0 (Li mL i v):=by
 intro i
 induction i with
 |zero=>
  intro n v h hv hn
  obtain ⟨n,rfl⟩: ∃n',n=n' +1:=⟨n-1,by omega⟩
  exact bV rfl (br aC)
 |succ i ih=>
  intro n v h hv hn
  obtain ⟨n,rfl⟩: ∃n',n=n' +1:=⟨n-1,by omega⟩
  have hj:=Ns mL (i+1)
  refine bV rfl (bT ae (bS (j_.eq hk (by simp)) ?_))
  rw[wrap_i64 (n:=((i+1:Nat):Int)+1) (by omega) (by omega),show aF (((i+1:Nat):Int)-1)=(i:Int) by rw[wrap_i64];omega]
  refine bS (la.Qd k _ (by omega) (by omega)) ?_
  rw[<- hj.2]
  refine cT (cg (by omega)) (cT (cg h) (cT (cg h) (cT (cg (by rw[fg];omega)) ?_)))
  rw[aa,aa]
  exact ih n (Ik mL v (i+1)) (by rw[uI];omega) (by rw[uI];omega) (by omega)
theorem gG.eq (hk:cy<=k) {l:LI} (mL:Int) (hl:l.length<1048577):gG.f k l mL=some (uH l mL):=by
 refine cT (nY) ?_
 unfold uH
 rw[aM]
 by_cases h0:l.length=0
 ·obtain ⟨n,rfl⟩: ∃n',k=n' +1:=⟨k-1,by simp[cy] at hk;omega⟩
  rw[h0]
  exact bV rfl (br (by decide))
 ·rw[pw]
  exact gG.loop hk mL _ (l.length-1) k l (by omega) hl (cd hk (by omega))
theorem gD.eq (hk:cy<=k) {l:LI} (mL:Int) (hl:l.length<1048577):gD.f k l mL=some (uH l mL):=by
 refine bS (bh.eq k hl) ?_
 unfold uH
 by_cases h0:l.length=0
 ·obtain ⟨n,rfl⟩: ∃n',k=n' +1:=⟨k-1,by simp[cy] at hk;omega⟩
  rw[h0]
  exact bV rfl (br (by decide))
 ·rw[pw]
  exact gD.loop hk mL _ (l.length-1) k l (by omega) hl (cd hk (by omega))
def missing (l:LI):LI:=M4 (fun i b=>bif !bq l (i:Int) then b++[(i:Int)] else b) 52 0 []
def AQ:LI:=missing []
theorem vv:AQ.length=52:=by decide+kernel
theorem js.eq (hk:cy<=k) {l:LI} (hl:l.length<1048577):js.f k l=some (missing l):=by
 have h:=upto (B:=LI) 52 (fun m b i=>js.l3 k l (fun x2=>some x2) m i b) (fun i b=>bif !bq l (i:Int) then b++[(i:Int)] else b) (fun x=>some x) (fun i b=>b.length<=i)
  (fun m b i h hI=>by
    refine bV rfl (bT ae (bS (cW.eq hk _ (by omega)) ?_))
    rw[aK]
    cases (!bq l (i:Int)) with
    |false=>rfl
    |true=>exact bT rfl (bW (nY)))
  (fun b i h hI=>by cases (!bq l (i:Int))<;>simp<;>omega)
  (fun m b hI=>bV rfl (br aC))
  52 0 k [] (by omega) (by simp[cy] at hk;omega) (by simp)
 exact h
theorem jo.eq (hk:cy<=k) {l:LI} (hl:l.length<1048577):jo.f k l=some (missing l):=by
 have h:=upto (B:=LI) 52 (fun m b i=>jo.l3 k l (fun x2=>some x2) m i b) (fun i b=>bif !bq l (i:Int) then b++[(i:Int)] else b) (fun x=>some x) (fun i b=>b.length<=i)
  (fun m b i h hI=>by
    refine bV rfl (bT ae (bS (iP.eq hk _ hl) ?_))
    rw[aK]
    cases (!bq l (i:Int)) with
    |false=>rfl
    |true=>exact bT rfl (bW (nY)))
  (fun b i h hI=>by cases (!bq l (i:Int))<;>simp<;>omega)
  (fun m b hI=>bV rfl (br aC))
  52 0 k [] (by omega) (by simp[cy] at hk;omega) (by simp)
 exact h
theorem mC.eq (hk:cy<=k):mC.f k=some AQ:=bN (js.eq hk (by simp))
theorem mj.eq (hk:cy<=k):mj.f k=some AQ:=bN (jo.eq hk (by simp))
def su (p s b q:Int):Bool:=mJ s 0 1000000&&mJ b 0 1000000&&(AP [p,s,b]==q)
theorem mB.eq (hk:cy<=k) (p s b q:Int):mB.f k p s b q=some (su p s b q):=by
 unfold su
 refine bS (bb.eq ..) ?_
 cases mJ s 0 1000000 with
 |false=>rfl
 |true=>
  refine bT rfl (bS (bb.eq ..) ?_)
  cases mJ b 0 1000000 with
  |false=>rfl
  |true=>exact bT rfl (bN (jM.eq hk p s b))
theorem mi.eq (hk:cy<=k) (p s b q:Int):mi.f k p s b q=some (su p s b q):=by
 unfold su
 refine bS (aI.eq ..) ?_
 cases mJ s 0 1000000 with
 |false=>rfl
 |true=>
  refine bT rfl (bS (aI.eq ..) ?_)
  cases mJ b 0 1000000 with
  |false=>rfl
  |true=>exact bT rfl (bN (jL.eq hk p s b))
def opens (ss bs:LI):Nat->LI->Bool
 |_,[]=>true
 |i,q::l=>su (i:Int) (ss.getD i 0) (bs.getD i 0) q&&opens ss bs (i+1) l
theorem fe.loop (hk:cy<=k) (qs ss bs:LI) (h1:qs.length<1048577) (h2:ss.length=qs.length) (h3:bs.length=qs.length) (e0 e1:Option R): ∀(m i n:Nat),i+m=qs.length->m<n->fe.l4 k qs ss bs e0 e1 n (i:Int)=bif opens ss bs i (qs.drop i) then e1 else e0
 |m,i,0,_,h=>absurd h (by omega)
 |0,i,n+1,hi,_=>by
  rw[aZ (by omega)]
  exact bF aC rfl
 |m+1,i,n+1,hi,hn=>by
  have hq:i<qs.length:=by omega
  rw[drop_cons hq]
  have ih:=fe.loop hk qs ss bs h1 h2 h3 e0 e1 m (i+1) n (by omega) (by omega)
  refine bT ae (cT (cg (by omega)) (cT (cg (by omega)) (cT (cg hq) (bS (mB.eq hk ..) ?_))))
  have et:((i:Int)).toNat=i:=aa i
  rw[et,aN (l:=qs) 0 hq]
  unfold opens
  cases su (i:Int) (ss.getD i 0) (bs.getD i 0) qs[i] with
  |false=>rfl
  |true=>
   refine bF rfl ?_
   rw[aK]
   exact ih
theorem fa.loop (hk:cy<=k) (qs ss bs:LI) (h1:qs.length<1048577) (h2:ss.length=qs.length) (h3:bs.length=qs.length) (e0 e1:Option R): ∀(m i n:Nat),i+m=qs.length->m<n->fa.l5 k qs ss bs (qs.length:Int) e0 e1 n (i:Int)=bif opens ss bs i (qs.drop i) then e1 else e0
 |m,i,0,_,h=>absurd h (by omega)
 |0,i,n+1,hi,_=>by
  rw[aZ (by omega)]
  exact bF aC rfl
 |m+1,i,n+1,hi,hn=>by
  have hq:i<qs.length:=by omega
  rw[drop_cons hq]
  have ih:=fa.loop hk qs ss bs h1 h2 h3 e0 e1 m (i+1) n (by omega) (by omega)
  refine bT ae (cT (cg (by omega)) (cT (cg (by omega)) (cT (cg hq) (bS (mi.eq hk ..) ?_))))
  have et:((i:Int)).toNat=i:=aa i
  rw[et,aN (l:=qs) 0 hq]
  unfold opens
  cases su (i:Int) (ss.getD i 0) (bs.getD i 0) qs[i] with
  |false=>rfl
  |true=>
   refine bF rfl ?_
   rw[aK]
   exact ih
def nD (qs ss bs:LI):Bool:=mJ (qs.length:Int) 1 6&&((ss.length:Int)==(qs.length:Int))&&((bs.length:Int)==(qs.length:Int))&&opens ss bs 0 qs
theorem fe.eq (hk:cy<=k) {qs:LI} (ss bs:LI) (h:qs.length<1048577):fe.f k qs ss bs=some (nD qs ss bs):=by
 unfold nD
 refine bS (bb.eq ..) ?_
 cases mJ (qs.length:Int) 1 6 with
 |false=>rfl
 |true=>
  refine bF rfl ?_
  cases h1:((ss.length:Int)==(qs.length:Int)) with
  |false=>exact bT (by rw[bne,h1];rfl) rfl
  |true=>
   refine bF (by rw[bne,h1];rfl) ?_
   cases h2:((bs.length:Int)==(qs.length:Int)) with
   |false=>exact bT (by rw[bne,h2];rfl) rfl
   |true=>
    refine bF (by rw[bne,h2];rfl) ((fe.loop hk qs ss bs h (by have:=aE h1;omega) (by have:=aE h2;omega) (some false) (some true) qs.length 0 k (by omega) (cd hk h)).trans ?_)
    rw[ah]
    cases opens ss bs 0 qs<;>rfl
theorem fa.eq (hk:cy<=k) {qs:LI} (ss bs:LI) (h:qs.length<1048577):fa.f k qs ss bs=some (nD qs ss bs):=by
 unfold nD
 refine bS (aI.eq ..) ?_
 cases mJ (qs.length:Int) 1 6 with
 |false=>rfl
 |true=>
  refine bF rfl ?_
  cases h1:((ss.length:Int)==(qs.length:Int)) with
  |false=>exact bT (by rw[bne,h1];rfl) rfl
  |true=>
   refine bF (by rw[bne,h1];rfl) ?_
   cases h2:((bs.length:Int)==(qs.length:Int)) with
   |false=>exact bT (by rw[bne,h2];rfl) rfl
   |true=>
    refine bF (by rw[bne,h2];rfl) ((fa.loop hk qs ss bs h (by have:=aE h1;omega) (by have:=aE h2;omega) (some false) (some true) qs.length 0 k (by omega) (cd hk h)).trans ?_)
    rw[ah]
    cases opens ss bs 0 qs<;>rfl
theorem zg {qs ss bs:LI} (h:nD qs ss bs=true):ss.length<1048577:=by
 unfold nD at h
 simp only[ay,cG] at h
 have:=ja.1 h.1.1.1
 omega
def AR:LI->Int->Int
 | [],b=>b
 |s::l,b=>AR l ((b+ET s 1000001).tmod 1000001)
def Cr (l:LI):Int:=AR l 0
theorem Lj {b s:Int} (h:0<=b/\b<1000001):0<=(b+ET s 1000001).tmod 1000001/\(b+ET s 1000001).tmod 1000001<1000001:=by
 have:=Ep s (m:=1000001) (by omega)
 have:=zR (a:=b+ET s 1000001) (n:=1000001) (by omega) (by omega)
 omega
theorem ff.loop (l:LI) (h1:l.length<1048577) (e0:Int->Option R): ∀(m i n:Nat) (b:Int),0<=b/\b<1000001->i+m=l.length->m<n->ff.l3 k l e0 n b (i:Int)=e0 (AR (l.drop i) b)
 |m,i,0,b,_,_,h=>absurd h (by omega)
 |0,i,n+1,b,hb,hi,_=>by
  rw[aZ (by omega)]
  exact bF aC rfl
 |m+1,i,n+1,b,hb,hi,hn=>by
  have hq:i<l.length:=by omega
  rw[drop_cons hq]
  have hs:=Ep l[i] (m:=1000001) (by omega)
  have ih:=ff.loop l h1 e0 m (i+1) n _ (Lj (s:=l[i]) hb) (by omega) (by omega)
  have et:((i:Int)).toNat=i:=aa i
  refine bT ae (cT (cg hq) (bS (lj.Qd k _ (by omega) (by omega)) ?_))
  rw[et,aN (l:=l) 0 hq,wrap_i64,aK]
  exact ih
theorem fb.loop (l:LI) (h1:l.length<1048577) (e0:Int->Option R): ∀(m i n:Nat) (b:Int),0<=b/\b<1000001->i+m=l.length->m<n->fb.l3 k l (l.length:Int) e0 n b (i:Int)=e0 (AR (l.drop i) b)
 |m,i,0,b,_,_,h=>absurd h (by omega)
 |0,i,n+1,b,hb,hi,_=>by
  rw[aZ (by omega)]
  exact bF aC rfl
 |m+1,i,n+1,b,hb,hi,hn=>by
  have hq:i<l.length:=by omega
  rw[drop_cons hq]
  have hs:=Ep l[i] (m:=1000001) (by omega)
  have ih:=fb.loop l h1 e0 m (i+1) n _ (Lj (s:=l[i]) hb) (by omega) (by omega)
  have et:((i:Int)).toNat=i:=aa i
  refine bT ae (cT (cg hq) (bS (la.Qd k _ (by omega) (by omega)) ?_))
  rw[et,aN (l:=l) 0 hq,wrap_i64,aK]
  exact ih
theorem ff.eq (hk:cy<=k) {l:LI} (h:l.length<1048577):ff.f k l=some (Cr l):=ff.loop l h _ l.length 0 k 0 (by omega) (by omega) (cd hk h)
theorem fb.eq (hk:cy<=k) {l:LI} (h:l.length<1048577):fb.f k l=some (Cr l):=fb.loop l h _ l.length 0 k 0 (by omega) (by omega) (cd hk h)
def kj (qs ss bs:LI):LI×Bool:=bif nD qs ss bs then (uH AQ (Cr ss),true) else ([],false)
theorem ll.eq (hk:cy<=k) {qs:LI} (ss bs:LI) (h:qs.length<1048577):ll.f k qs ss bs=some (kj qs ss bs):=by
 unfold kj
 refine bS (fe.eq hk ss bs h) ?_
 cases ha:nD qs ss bs with
 |false=>rfl
 |true=>exact bF rfl (bS (mC.eq hk) (bS (ff.eq hk (zg ha)) (bS (gG.eq hk _ (by rw[vv];decide)) rfl)))
theorem lb.eq (hk:cy<=k) {qs:LI} (ss bs:LI) (h:qs.length<1048577):lb.f k qs ss bs=some (kj qs ss bs):=by
 unfold kj
 refine bS (fa.eq hk ss bs h) ?_
 cases ha:nD qs ss bs with
 |false=>rfl
 |true=>exact bF rfl (bS (mj.eq hk) (bS (fb.eq hk (zg ha)) (bS (gD.eq hk _ (by rw[vv];decide)) rfl)))
theorem Hw (qs ss bs:LI):(kj qs ss bs).1.length<=52:=by
 unfold kj
 cases nD qs ss bs with
 |false=>simp
 |true=>simp only[ak];rw[(Hv _ _).length_eq,vv];omega
def oe (t:Tb):Bool:=((t.fI.length:Int)==t.r.n)&& !t.on
theorem mD.eq (k:Nat) (t:Tb):t.ap (mD.f k)=some (oe t):=by
 unfold oe
 show (bif ((t.fI.length:Int)==t.r.n) then _ else _)=_
 cases ((t.fI.length:Int)==t.r.n)<;>rfl
theorem ml.eq (k:Nat) (t:Tb):t.ap (ml.f k)=some (oe t):=by
 unfold oe
 show (bif ((t.fI.length:Int)==t.r.n) then _ else _)=_
 cases ((t.fI.length:Int)==t.r.n)<;>rfl
def tW (t:Tb) (ss bs rd:LI):Tb:=⟨t.r,t.fI,true,(kj t.fI ss bs).1,(ic t.r (kj t.fI ss bs).1).1,rd,t.jJ⟩
def nA (t:Tb) (ss bs:LI):Tb×Bool:=done t (tW t ss bs []) (oe t&&(kj t.fI ss bs).2&&(ic t.r (kj t.fI ss bs).1).2)
theorem tC (t:Tb) (ss bs:LI):Wl (kj t.fI ss bs).1:=by have:=Hw t.fI ss bs;show _<_;omega
theorem Lk {t:Tb} (h:t.sm) (ss bs:LI):(nA t ss bs).1.sm:=Eo _ h h.1 (tC t ss bs) (vr h.1 _)
theorem qz {t:Tb} (h:t.sm) (ss bs:LI) {rd:LI} (hr:rd.length<1073741824):(tW t ss bs rd).U2:=⟨h.1,tC t ss bs,vr h.1 _,hr,(Tb.xj h).2.2.2.2.1,(Tb.xj h).2.2.2.2.2⟩
theorem Ss {t:Tb} (ss bs:LI) (ok:Bool) (hs:ok=true->oe t=true):done t (tW t ss bs t.rd) ok=done t (tW t ss bs []) ok:=by
 unfold done
 cases ok with
 |false=>rfl
 |true=>
  cases hv:jb t with
  |false=>rfl
  |true=>
   have ho:t.on=false:=by
    have:=hs rfl
    unfold oe at this
    simp only[ay,Bool.not_eq_true'] at this
    exact this.2
   have:t.rd=[]:=by
    unfold jb at hv
    rw[ho] at hv
    simp only[an,ay,cG] at hv
    exact List.length_eq_zero_iff.1 (by have:=hv.2.1.2;omega)
   rw[this]
theorem mE.eq (hk:cy<=k) {t:Tb} (h:t.sm) (ss bs:LI):t.ap (mE.f k) ss bs=some ((nA t ss bs).1.wF (nA t ss bs).2):=by
 have hr:t.rd.length<1073741824:=(Tb.xj h).2.2.2.1
 refine bS (bm.eq hk h) (bS (ll.eq hk ss bs h.2.1) (bS (kp.eq hk h.1 (tC t ss bs)) ?_))
 rcases aV (kj t.fI ss bs).2 with h1|h1
 ·refine bT h1 ?_
  rcases aV (ic t.r (kj t.fI ss bs).1).2 with h2|h2
  ·have e:nA t ss bs=done t (tW t ss bs t.rd) (oe t):=(congrArg (done t _) (by rw[h1,h2,Bool.and_true,Bool.and_true])).trans (Ss ss bs (oe t) id).symm
   rw[e]
   exact bT h2 (bS (mD.eq k t) (bS (dM.eq hk (oe t) h (qz h ss bs hr)) rfl))
  ·have e:nA t ss bs=done t (tW t ss bs t.rd) false:=(congrArg (done t _) (by rw[h2,Bool.and_false])).trans rfl
   rw[e]
   exact bF h2 (bS (dM.eq hk false h (qz h ss bs hr)) rfl)
 ·have e:nA t ss bs=done t (tW t ss bs t.rd) false:=(congrArg (done t _) (by rw[h1,Bool.and_false,Bool.false_and])).trans rfl
  rw[e]
  exact bF h1 (bS (dM.eq hk false h (qz h ss bs hr)) rfl)
theorem mm.eq (hk:cy<=k) {t:Tb} (h:t.sm) (ss bs:LI):t.ap (mm.f k) ss bs=some ((nA t ss bs).1.wF (nA t ss bs).2):=by
 have hr:([]:LI).length<1073741824:=by decide
 refine bS (ar.eq hk h) (bS (lb.eq hk ss bs h.2.1) (bS (km.eq hk h.1 (tC t ss bs)) (bS (ml.eq k t) ?_)))
 rcases aV (oe t) with h0|h0
 ·refine bT h0 ?_
  rcases aV (kj t.fI ss bs).2 with h1|h1
  ·have e:nA t ss bs=done t (tW t ss bs []) (ic t.r (kj t.fI ss bs).1).2:=congrArg (done t _) (by rw[h0,h1];rfl)
   rw[e]
   exact bT h1 (bS (bu.eq hk _ h (qz h ss bs hr)) rfl)
  ·have e:nA t ss bs=done t (tW t ss bs []) false:=congrArg (done t _) (by rw[h1,Bool.and_false,Bool.false_and])
   rw[e]
   exact bF h1 (bS (bu.eq hk false h (qz h ss bs hr)) rfl)
 ·have e:nA t ss bs=done t (tW t ss bs []) false:=congrArg (done t _) (by rw[h0,Bool.false_and,Bool.false_and])
  rw[e]
  exact bF h0 (bS (bu.eq hk false h (qz h ss bs hr)) rfl)
def gU (t:Tb) (m:Int):Tb×Bool:=done t {t with g:=(ch t.g m).1,rd:=t.rd++[m]} (t.on&&(ch t.g m).2)
theorem xk {t:Tb} (h:t.sm) (m:Int):(gU t m).1.sm:=Eo _ h h.1 h.2.2.1 (o0 h.2.2.2.1)
theorem rH {t:Tb} (h:t.sm) (m:Int):({t with g:=(ch t.g m).1,rd:=t.rd++[m]}:Tb).U2:=by
 obtain ⟨h1,h2,h3,h4,h5,h6⟩:=h
 have h5:t.rd.length<1048577:=h5
 have h6a:=h6.1
 exact ⟨h1,h3,o0 h4,by show (t.rd++[m]).length<_;rw[au,cz];omega,by show t.jJ.length<_;omega,h6.2⟩
theorem kq.eq (hk:cy<=k) {t:Tb} (h:t.sm) (m:Int):t.ap (kq.f k) m=some ((gU t m).1.wF (gU t m).2):=by
 have h2:t.rd.length<1048577:=h.2.2.2.2.1
 refine bS (bm.eq hk h) (bS (iE.eq hk h.2.2.2.1 m) (cT (nY (show t.rd.length+1<=_ by omega)) ?_))
 rcases aV (ch t.g m).2 with ho|ho
 ·have e:gU t m=done t {t with g:=(ch t.g m).1,rd:=t.rd++[m]} t.on:=congrArg (done t _) (by rw[ho,Bool.and_true])
  rw[e]
  exact bT ho (bS (dM.eq hk t.on h (rH h m)) rfl)
 ·have e:gU t m=done t {t with g:=(ch t.g m).1,rd:=t.rd++[m]} false:=congrArg (done t _) (by rw[ho,Bool.and_false])
  rw[e]
  exact bF ho (bS (dM.eq hk false h (rH h m)) rfl)
theorem jK.eq (hk:cy<=k) {t:Tb} (h:t.sm) (m:Int):t.ap (jK.f k) m=some ((gU t m).1.wF (gU t m).2):=by
 have h2:t.rd.length<1048577:=h.2.2.2.2.1
 refine bS (ar.eq hk h) (bS (iu.eq hk h.2.2.2.1 m) (cT (nY (show t.rd.length+1<=_ by omega)) ?_))
 rcases aV t.on with ho|ho
 ·have e:gU t m=done t {t with g:=(ch t.g m).1,rd:=t.rd++[m]} (ch t.g m).2:=congrArg (done t _) (by rw[ho,Bool.true_and])
  rw[e]
  exact bT ho (bS (bu.eq hk _ h (rH h m)) rfl)
 ·have e:gU t m=done t {t with g:=(ch t.g m).1,rd:=t.rd++[m]} false:=congrArg (done t _) (by rw[ho,Bool.false_and])
  rw[e]
  exact bF ho (bS (bu.eq hk false h (rH h m)) rfl)
def iU (t:Tb) (c:Int):Tb×Bool:=bif bI c then gU t c else (t,false)
theorem Db {t:Tb} (h:t.sm) (c:Int):(iU t c).1.sm:=by
 unfold iU
 cases bI c with
 |false=>exact h
 |true=>exact xk h c
theorem gY.eq (hk:cy<=k) {t:Tb} (h:t.sm) (c:Int):t.ap (gY.f k) c=some ((iU t c).1.wF (iU t c).2):=by
 refine bS (cc.eq ..) ?_
 unfold iU
 cases bI c with
 |false=>exact bT rfl (bS (bm.eq hk h) rfl)
 |true=>exact bF rfl (bS (kq.eq hk h c) rfl)
theorem iv.eq (hk:cy<=k) {t:Tb} (h:t.sm) (c:Int):t.ap (iv.f k) c=some ((iU t c).1.wF (iU t c).2):=by
 refine bS (bH.eq ..) ?_
 unfold iU
 cases bI c with
 |false=>exact bT rfl (bS (ar.eq hk h) rfl)
 |true=>exact bF rfl (bS (jK.eq hk h c) rfl)
theorem gZ.eq (hk:cy<=k) {t:Tb} (h:t.sm):t.ap (gZ.f k)=some ((gU t (-1)).1.wF (gU t (-1)).2):=bN (kq.eq hk h (-1))
theorem iw.eq (hk:cy<=k) {t:Tb} (h:t.sm):t.ap (iw.f k)=some ((gU t (-1)).1.wF (gU t (-1)).2):=bN (jK.eq hk h (-1))
def valueOf (c:Int):Int:=bif decide (cu c<0) then 0 else bif decide (cu c<=8) then cu c+2 else bif cu c==12 then 1 else 10
theorem sw (c:Int):0<=valueOf c/\valueOf c<=10:=by
 have:=Ch c
 unfold valueOf
 cases h:decide (cu c<0) with
 |true=>simp
 |false=>
  have:=of_decide_eq_false h
  cases h2:decide (cu c<=8) with
  |true=>have:=ao h2;simp only[ak,an];omega
  |false=>cases (cu c==12)<;>simp
theorem nh.eq (k:Nat) (c:Int):nh.f k c=some (valueOf c):=by
 have:=Ch c
 refine bS (eh.eq ..) ?_
 rw[wrap_i64]
 unfold valueOf
 cases decide (cu c<0)<;>cases decide (cu c<=8)<;>cases (cu c==12)<;>rfl
theorem nf.eq (k:Nat) (c:Int):nf.f k c=some (valueOf c):=by
 have:=Ch c
 refine bS (cV.eq ..) ?_
 rw[wrap_i64]
 unfold valueOf
 cases decide (cu c<0)<;>cases decide (cu c<=8)<;>cases (cu c==12)<;>rfl
def lQ (h:LI):Int:=(h.map valueOf).sum
theorem Cs: ∀(l:LI) (b:Int),l.foldl (fun b a=>b+valueOf a) b=b+lQ l
 | [],b=>by simp[lQ]
 |a::l,b=>by
  rw[aY,Cs l]
  unfold lQ
  rw[bM,List.sum_cons];omega
theorem vw: ∀(l:LI),0<=lQ l/\lQ l<=10*(l.length:Int)
 | []=>by simp[lQ]
 |a::l=>by
  have:=vw l
  have:=sw a
  unfold lQ at*
  rw[bM,List.sum_cons,ab]
  omega
theorem im.eq (hk:cy<=k) {l:LI} (hl:l.length<1048577):im.f k l=some (lQ l):=by
 have h:=scan (B:=Int) l (fun m b i=>im.l3 k l (fun x=>some x) m b i) (fun _ _=>true) (fun b a=>b+valueOf a) (fun x=>some x) (fun _ _=>none) (fun i b=>0<=b/\b<=10*(i:Int))
  (fun m b i h hI=>by
    have:=sw l[i]
    refine bV rfl (bT ae (cT (cg h) ?_))
    rw[aa,aN _ h,aK]
    refine bS (nh.eq ..) ?_
    rw[wrap_i64]
    rfl)
  (fun b i h hI _=>by have:=sw l[i];omega)
  (fun m b hI=>bV rfl (br aC))
  l.length 0 k 0 (by omega) (cd hk hl) (by simp)
 refine h.trans ?_
 rw[ah,bX,Cs,Int.zero_add]
theorem hD.eq (hk:cy<=k) {l:LI} (hl:l.length<1048577):hD.f k l=some (lQ l):=by
 have h:=scan (B:=Int) l (fun m b i=>hD.l3 k l (l.length:Int) (fun x=>some x) m b i) (fun _ _=>true) (fun b a=>b+valueOf a) (fun x=>some x) (fun _ _=>none) (fun i b=>0<=b/\b<=10*(i:Int))
  (fun m b i h hI=>by
    have:=sw l[i]
    refine bV rfl (bT ae (cT (cg h) ?_))
    rw[aa,aN _ h,aK]
    refine bS (nf.eq ..) ?_
    rw[wrap_i64]
    rfl)
  (fun b i h hI _=>by have:=sw l[i];omega)
  (fun m b hI=>bV rfl (br aC))
  l.length 0 k 0 (by omega) (cd hk hl) (by simp)
 refine h.trans ?_
 rw[ah,bX,Cs,Int.zero_add]
def eJ (g:Gm):LI:=g.hs.map lQ
theorem zh {g:Gm} (h: ∀y∈g.hs,y.length<1048577): ∀x∈eJ g,0<=x/\x<=10485760:=by
 intro x hx
 obtain ⟨y,hy,rfl⟩:=List.mem_map.1 hx
 have:=vw y
 have:=h y hy
 omega
theorem gu.eq (hk:cy<=k) {g:Gm} (h:g.sm):g.ap (gu.f k)=some (eJ g):=by
 have hl:=h.2.1
 have h:=scan (B:=LI) g.hs (fun m b i=>gu.l3 k g.hs (fun x=>some x) m i b) (fun _ _=>true) (fun b a=>b++[lQ a]) (fun x=>some x) (fun _ _=>none) (fun i b=>b.length=i)
  (fun m b i h hI=>by
    have:=hl.1
    refine bV rfl (bT ae (cT (cg h) ?_))
    rw[aa,aN _ h,aK]
    exact bS (im.eq hk (hl.2 _ (aj h))) (bW (nY)))
  (fun b i h hI _=>by simp;omega)
  (fun m b hI=>bV rfl (br aC))
  g.hs.length 0 k [] (by omega) (cd hk hl.1) rfl
 refine h.trans ?_
 rw[ah,bX,nZ lQ]
 rfl
theorem gp.eq (hk:cy<=k) {g:Gm} (h:g.sm):g.ap (gp.f k)=some (eJ g):=by
 have hl:=h.2.1
 have h:=scan (B:=LI) g.hs (fun m b i=>gp.l3 k g.hs (g.hs.length:Int) (fun x=>some x) m i b) (fun _ _=>true) (fun b a=>b++[lQ a]) (fun x=>some x) (fun _ _=>none) (fun i b=>b.length=i)
  (fun m b i h hI=>by
    have:=hl.1
    refine bV rfl (bT ae (cT (cg h) ?_))
    rw[aa,aN _ h,aK]
    exact bS (hD.eq hk (hl.2 _ (aj h))) (bW (nY)))
  (fun b i h hI _=>by simp;omega)
  (fun m b hI=>bV rfl (br aC))
  g.hs.length 0 k [] (by omega) (cd hk hl.1) rfl
 refine h.trans ?_
 rw[ah,bX,nZ lQ]
 rfl
theorem nV.eq (hk:cy<=k) {g:Gm} (h:g.sm):g.ap (nV.f k)=some (lL g):=by
 refine bS (cq.eq hk h) ?_
 unfold lL
 cases eG g with
 |false=>rfl
 |true=>exact bF rfl (bN (fM.eq hk g h.2.1.1))
theorem jO.Qd (hk:cy<=k) {r:LI} (hr:r.length<1048577) (hp: ∀x∈r,0<=x/\x<=10485760):jO.f k r=some r.sum:=by
 have h:=scan (B:=Int) r (fun m b i=>jO.l3 k r (r.length:Int) (fun x=>some x) m b i) (fun _ _=>true) (fun b a=>b+a) (fun x=>some x) (fun _ _=>none) (fun i b=>0<=b/\b<=10485760*(i:Int))
  (fun m b i h hI=>by
    have:=hp _ (aj h)
    refine bV rfl (bT ae (cT (cg h) ?_))
    rw[aa,aN _ h,wrap_i64,aK]
    rfl)
  (fun b i h hI _=>by have:=hp _ (aj h);omega)
  (fun m b hI=>bV rfl (br aC))
  r.length 0 k 0 (by omega) (cd hk hr) (by simp)
 refine h.trans ?_
 rw[ah,bX,foldl_add,Int.zero_add]
theorem ea.sum (hk:cy<=k) {r:LI} (hr:r.length<1048577) (hp: ∀x∈r,0<=x/\x<=10485760) (e0:Int->Option R):ea.Wh k r e0 k (0:Int) (0:Int)=e0 r.sum:=by
 have h:=scan (B:=Int) r (fun m b i=>ea.Wh k r e0 m b i) (fun _ _=>true) (fun b a=>b+a) e0 (fun _ _=>none) (fun i b=>0<=b/\b<=10485760*(i:Int))
  (fun m b i h hI=>by
    have:=hp _ (aj h)
    refine bV rfl (bT ae (cT (cg h) ?_))
    rw[aa,aN _ h,wrap_i64,aK]
    rfl)
  (fun b i h hI _=>by have:=hp _ (aj h);omega)
  (fun m b hI=>bV rfl (br aC))
  r.length 0 k 0 (by omega) (cd hk hr) (by simp)
 refine h.trans ?_
 rw[ah,bX,foldl_add,Int.zero_add]
def settled (g:Gm):LI:=bif eG g then bif decide (lL g<0) then List.replicate g.hs.length 0 else ((eJ g).map fun x=>0-x).set (lL g).toNat (eJ g).sum else []
theorem Ll (w:Nat) (S:Int): ∀(l b:LI),l.foldl (fun b a=>b++[bif ((b.length:Int)==(w:Int)) then S else 0-a]) b=b++(if b.length<=w then (l.map fun x=>0-x).set (w-b.length) S else l.map fun x=>0-x)
 | [],b=>by simp
 |a::l,b=>by
  rw[aY,Ll w S l,au,cz,bp]
  congr 1
  by_cases h:b.length=w
  ·rw[aD (by omega),aS (by omega),show w-b.length=0 by omega]
   rw[show ((b.length:Int)==(w:Int))=true by simp[h]]
   rfl
  ·rw[show ((b.length:Int)==(w:Int))=false by simp;omega]
   by_cases h2:b.length<=w
   ·rw[aS (by omega),aS h2,show w-b.length=(w-(b.length+1))+1 by omega]
    rfl
   ·rw[aD (by omega),aD h2]
    rfl
theorem Il: ∀(l b:LI),l.foldl (fun b _=>b++[(0:Int)]) b=b++List.replicate l.length 0
 | [],b=>by simp
 |a::l,b=>by
  rw[aY,Il l,ab,List.replicate_succ,bp];rfl
theorem ea.eq (hk:cy<=k) {g:Gm} (h:g.sm):g.ap (ea.f k)=some (settled g):=by
 have hb:=zh (g:=g) h.2.1.2
 have ZS:(eJ g).length=g.hs.length:=by simp[eJ]
 have XA:(eJ g).length<1048577:=by rw[ZS];exact h.2.1.1
 refine bS (gu.eq hk h) (bS (nV.eq hk h) ?_)
 unfold settled
 cases hg:eG g with
 |false=>
  obtain ⟨n,rfl⟩: ∃n',k=n' +1:=⟨k-1,by simp[cy] at hk;omega⟩
  refine bV rfl ?_
  by_cases hz:(0:Int)<((eJ g).length:Int)
  ·refine bT (ae hz) (bS (cq.eq hk h) ?_)
   rw[hg];rfl
  ·exact br (aC hz)
 |true=>
  have hgm:=cq.eq hk h
  rw[hg] at hgm
  cases hw:decide (lL g<0) with
  |true=>
   have h:=scan (B:=LI) (eJ g) (fun m b i=>ea.l5 k (lL g) g.r.n g.r.e g.r.b1 g.r.b2 g.r.w g.r.f g.r.t g.r.l g.hs g.st g.hp g.tn g.mv g.ps (eJ g) (fun x=>some x) m i b) (fun _ _=>true) (fun b _=>b++[0]) (fun x=>some x) (fun _ _=>none) (fun i b=>b.length=i)
    (fun m b i h hI=>by
      refine bV rfl (bT ae (bS hgm (bT rfl (bT hw (cT (nY) ?_)))))
      rw[aK]
      rfl)
    (fun b i h hI _=>by simp;omega)
    (fun m b hI=>bV rfl (br aC))
    (eJ g).length 0 k [] (by omega) (cd hk XA) rfl
   refine h.trans ?_
   rw[ah,bX,Il,ZS]
   rfl
  |false=>
   have U3:=of_decide_eq_false hw
   have h:=scan (B:=LI) (eJ g) (fun m b i=>ea.l5 k (lL g) g.r.n g.r.e g.r.b1 g.r.b2 g.r.w g.r.f g.r.t g.r.l g.hs g.st g.hp g.tn g.mv g.ps (eJ g) (fun x=>some x) m i b) (fun _ _=>true) (fun b a=>b++[bif ((b.length:Int)==(((lL g).toNat:Nat):Int)) then (eJ g).sum else 0-a]) (fun x=>some x) (fun _ _=>none) (fun i b=>b.length=i)
    (fun m b i h hI=>by
      have hx:=hb _ (aj h)
      refine bV rfl (bT ae (bS hgm (bT rfl (bF hw ?_))))
      rw[aK,hI,show (((lL g).toNat:Nat):Int)=lL g by omega]
      cases ((i:Int)==lL g) with
      |true=>exact bT rfl ((ea.sum hk XA hb _).trans (bW (nY)))
      |false=>
       refine bF rfl (cT (cg h) (cT (nY) ?_))
       rw[aa,aN _ h,wrap_i64]
       rfl)
    (fun b i h hI _=>by simp;omega)
    (fun m b hI=>bV rfl (br aC))
    (eJ g).length 0 k [] (by omega) (cd hk XA) rfl
   refine h.trans ?_
   rw[ah,bX,Ll]
   simp
theorem Qe {g:Gm} (h:0<=lL g):lL g<(g.hs.length:Int):=by
 unfold lL at*
 cases hg:eG g<;>rw[hg] at h
 ·simp at h
 ·simp only[ak] at*
  rcases H_ g.hs 0 with h1|h1<;>omega
theorem ib.fill (k:Nat) (l:LI) (hl:l.length<1048577) (hb: ∀x∈l,0<=x/\x<=10485760) (e0:LI->Option R): ∀(m i n:Nat),i+m=l.length->m<n->ib.l8 k (l.length:Int) l e0 n (i:Int) ((l.map fun x=>0-x).take i++List.replicate m 0)=e0 (l.map fun x=>0-x):=by
 intro m
 induction m with
 |zero=>
  intro i n hi hn
  obtain ⟨n,rfl⟩: ∃n',n=n' +1:=⟨n-1,by omega⟩
  refine bV rfl (bF aC ?_)
  rw[show (l.map fun x=>0-x).take i=l.map fun x=>0-x from List.take_of_length_le (by rw[ca];omega),List.replicate_zero,cm]
 |succ m ih=>
  intro i n hi hn
  obtain ⟨n,rfl⟩: ∃n',n=n' +1:=⟨n-1,by omega⟩
  have h:i<l.length:=by omega
  have hx:=hb _ (aj h)
  have hml:(l.map fun x=>0-x).length=l.length:=ca _
  refine bV rfl (bT ae (cT (cg h) (cT (cg (by rw[R3 (by omega)];omega)) ?_)))
  rw[aK,aa,aN _ h,wrap_i64]
  have hc:=P1 (l:=l.map fun x=>0-x) (i:=i) (m:=m) (d:=0) (by omega)
  rw[List.getElem_map] at hc
  rw[hc]
  exact ih (i+1) n (by omega) (by omega)
theorem ib.eq (hk:cy<=k) {g:Gm} (h:g.sm):g.ap (ib.f k)=some (settled g):=by
 have hb:=zh (g:=g) h.2.1.2
 have ZS:(eJ g).length=g.hs.length:=by simp[eJ]
 have XA:(eJ g).length<1048577:=by rw[ZS];exact h.2.1.1
 refine bS (dG.eq hk h) ?_
 unfold settled
 cases hg:eG g with
 |false=>rfl
 |true=>
  refine bF rfl (bS (gb.eq hk h) (bS (gp.eq hk h) (cT (bA ae (nY)) ?_)))
  rw[aa]
  cases hw:decide (lL g<0) with
  |true=>rw[ZS];rfl
  |false=>
   have U3:=of_decide_eq_false hw
   have hwl:=Qe (g:=g) (by omega)
   refine bF rfl ?_
   have hml:((eJ g).map fun x=>0-x).length=(eJ g).length:=ca _
   have hf:=ib.fill k (eJ g) XA hb (fun x4=>(jO.f k (eJ g)).bind fun r5=>bY ((decide ((0:Int)<=lL g))&&(decide (lL g<(x4.length:Int))))<|some (x4.set (lL g).toNat r5)) (eJ g).length 0 k (by omega) (cd hk XA)
   rw[List.take_zero,aM] at hf
   refine Eq.trans hf ?_
   refine bS (jO.Qd hk XA hb) (cT (bA ae (ae (by rw[hml];omega))) ?_)
   rfl
theorem Lm {g:Gm} (h:eG g=true):(settled g).length=g.hs.length:=by
 unfold settled
 rw[h]
 cases decide (lL g<0) with
 |true=>simp
 |false=>simp[eJ]
theorem ni.eq (hk:cy<=k) {g:Gm} (h:g.sm):g.ap (ni.f k)=some (pg g):=by
 refine bS (cq.eq hk h) ?_
 unfold pg
 cases eG g with
 |false=>rfl
 |true=>exact bT rfl (bN (iR.eq hk g h.2.1.1))
theorem Nu (g:Gm):(settled g).length<=6:=by
 cases h:eG g with
 |true=>rw[Lm h];exact (zQ h).1
 |false=>unfold settled;rw[h];simp
def sx (t:Tb):Tb:=⟨t.r,[],false,[],Da,[],t.jJ++[settled t.g]⟩
def hU (t:Tb):Tb×Bool:=done t (sx t) (t.on&&pg t.g)
theorem zi {t:Tb} (h:t.sm):(hU t).1.sm:=Eo _ h h.1 (by show ([]:LI).length<_;decide) xi
theorem vx {t:Tb} (h:t.sm):(sx t).U2:=by
 have h6:=h.2.2.2.2.2
 have h6a:=h6.1
 refine ⟨h.1,by show ([]:LI).length<_;decide,xi,by show ([]:LI).length<_;decide,by show (t.jJ++[settled t.g]).length<_;rw[au,cz];omega,fun y hy=> ?_⟩
 rcases List.mem_append.1 (show y∈t.jJ++[settled t.g] from hy) with hy|hy
 ·exact h6.2 y hy
 ·rw[List.mem_singleton.1 hy];have:=Nu t.g;omega
theorem iI.eq (hk:cy<=k) {t:Tb} (h:t.sm):t.ap (iI.f k)=some ((hU t).1.wF (hU t).2):=by
 have h2:t.jJ.length<1048577:=h.2.2.2.2.2.1
 refine bS (bm.eq hk h) ?_
 rcases aV t.on with ho|ho
 ·refine bF (by rw[ho];rfl) (bS (ni.eq hk h.2.2.2.1) ?_)
  rcases aV (pg t.g) with he|he
  ·have e:hU t=done t (sx t) true:=congrArg (done t _) (by rw[ho,he];rfl)
   rw[e]
   exact bF (by rw[he];rfl) (bS (ea.eq hk h.2.2.2.1) (cT (D6 (show t.jJ.length+1<=_ by omega)) (bS (dM.eq hk true h (vx h)) rfl)))
  ·have e:hU t=(t,false):=(congrArg (done t (sx t)) (by rw[ho,he];rfl:(t.on&&pg t.g)=false)).trans rfl
   rw[e]
   exact bT (by rw[he];rfl) rfl
 ·have e:hU t=(t,false):=(congrArg (done t (sx t)) (by rw[ho];rfl:(t.on&&pg t.g)=false)).trans rfl
  rw[e]
  exact bT (by rw[ho];rfl) rfl
theorem iy.eq (hk:cy<=k) {t:Tb} (h:t.sm):t.ap (iy.f k)=some ((hU t).1.wF (hU t).2):=by
 have h2:t.jJ.length<1048577:=h.2.2.2.2.2.1
 refine bS (ar.eq hk h) (bS (ib.eq hk h.2.2.2.1) (cT (D6 (show t.jJ.length+1<=_ by omega)) ?_))
 rcases aV t.on with ho|ho
 ·have e:hU t=done t (sx t) (pg t.g):=congrArg (done t _) (by rw[ho,Bool.true_and])
  rw[e]
  exact bT ho (bS (iO.eq hk h.2.2.2.1) (bS (bu.eq hk (pg t.g) h (vx h)) rfl))
 ·have e:hU t=done t (sx t) false:=congrArg (done t _) (by rw[ho,Bool.false_and])
  rw[e]
  exact bF ho (bS (bu.eq hk false h (vx h)) rfl)
def iW (t:Tb) (a b:Int) (ss bs:LI):Tb×Bool:=
 bif a==1 then qY t b else bif a==2 then nA t ss bs else bif a==3 then iU t b else bif a==4 then gU t (-1) else bif a==5 then hU t else (t,false)
theorem tX {t:Tb} (h:t.sm) (a b:Int) (ss bs:LI):(iW t a b ss bs).1.sm:=by
 unfold iW
 cases (a==1) with
 |true=>exact Le h b
 |false=>
  cases (a==2) with
  |true=>exact Lk h ss bs
  |false=>
   cases (a==3) with
   |true=>exact Db h b
   |false=>
    cases (a==4) with
    |true=>exact xk h (-1)
    |false=>
     cases (a==5) with
     |true=>exact zi h
     |false=>exact h
theorem kQ.eq (hk:cy<=k) {t:Tb} (h:t.sm) (a b:Int) (ss bs:LI):t.ap (kQ.f k) a b ss bs=some ((iW t a b ss bs).1.wF (iW t a b ss bs).2):=by
 unfold iW
 show (bif a==1 then _ else _)=_
 rcases aV (a==1) with ha|ha
 ·exact bT ha (bS (mA.eq hk h b) (by rw[ha];rfl))
 rw[ha]
 refine bF rfl ?_
 rcases aV (a==2) with ha|ha
 ·exact bT ha (bS (mE.eq hk h ss bs) (by rw[ha];rfl))
 rw[ha]
 refine bF rfl ?_
 rcases aV (a==3) with ha|ha
 ·exact bT ha (bS (gY.eq hk h b) (by rw[ha];rfl))
 rw[ha]
 refine bF rfl ?_
 rcases aV (a==4) with ha|ha
 ·exact bT ha (bS (gZ.eq hk h) (by rw[ha];rfl))
 rw[ha]
 refine bF rfl ?_
 rcases aV (a==5) with ha|ha
 ·exact bT ha (bS (iI.eq hk h) (by rw[ha];rfl))
 rw[ha]
 exact bF rfl (bS (bm.eq hk h) rfl)
theorem kN.eq (hk:cy<=k) {t:Tb} (h:t.sm) (a b:Int) (ss bs:LI):t.ap (kN.f k) a b ss bs=some ((iW t a b ss bs).1.wF (iW t a b ss bs).2):=by
 unfold iW
 show (bif a==1 then _ else _)=_
 rcases aV (a==1) with ha|ha
 ·exact bT ha (bS (mh.eq hk h b) (by rw[ha];rfl))
 rw[ha]
 refine bF rfl ?_
 rcases aV (a==2) with ha|ha
 ·exact bT ha (bS (mm.eq hk h ss bs) (by rw[ha];rfl))
 rw[ha]
 refine bF rfl ?_
 rcases aV (a==3) with ha|ha
 ·exact bT ha (bS (iv.eq hk h b) (by rw[ha];rfl))
 rw[ha]
 refine bF rfl ?_
 rcases aV (a==4) with ha|ha
 ·exact bT ha (bS (iw.eq hk h) (by rw[ha];rfl))
 rw[ha]
 refine bF rfl ?_
 rcases aV (a==5) with ha|ha
 ·exact bT ha (bS (iy.eq hk h) (by rw[ha];rfl))
 rw[ha]
 exact bF rfl (bS (ar.eq hk h) rfl)
abbrev Tb.pm {β:Type} (F:Int->Int->Bool->Bool->Int->Int->Bool->Int->Int->Bool->Bool->Int->Int->Int->Int->Int->LI->LI->LI->LI->LI->LI->LL->LI->LI->LI->LL->β) (t:Tb):β:=F t.r.n t.r.e t.r.b1 t.r.b2 t.r.t t.r.l t.on t.g.r.n t.g.r.e t.g.r.b1 t.g.r.b2 t.g.r.t t.g.r.l t.g.tn t.g.mv t.g.ps t.r.w t.r.f t.fI t.qn t.g.r.w t.g.r.f t.g.hs t.g.st t.g.hp t.rd t.jJ
def zj (sy:Int) (b:List (List iQ)×LI) (a:Int):List (List iQ)×LI:=(b.1++[[.int 1,.int (AP [(b.1.length:Int),a,sy]),.ints [],.ints []]],b.2++[sy])
def xl (ok:Bool) (n:Int) (AS:LI) (sy:Int):List (List iQ):=bif ok then bif ((AS.length:Int) != n) then [] else (AS.foldl (zj sy) ([],[])).1++[[.int 2,.int 0,.ints AS,.ints (AS.foldl (zj sy) ([],[])).2]] else []
theorem Im (sy:Int): ∀(l:LI) (b:List (List iQ)×LI),(l.foldl (zj sy) b).1.length=b.1.length+l.length/\(l.foldl (zj sy) b).2.length=b.2.length+l.length
 | [],b=>⟨rfl,rfl⟩
 |a::l,b=>by
  obtain ⟨h1,h2⟩:=Im sy l (zj sy b a)
  rw[aY,h1,h2]
  simp[zj]
  omega
theorem Nv (ok:Bool) (n:Int) (AS:LI) (sy:Int):(xl ok n AS sy).length<=AS.length+1:=by
 unfold xl
 cases ok with
 |false=>simp
 |true=>
  cases ((AS.length:Int) != n) with
  |true=>simp
  |false=>
   simp only[ak,an,au,cz,(Im sy AS ([],[])).1,List.length_nil]
   omega
theorem dt.eq (hk:cy<=k) {r:Rl} (hr:r.sm) {l:LI} (hl:l.length<1048577) (sy:Int):r.ap (dt.f k) l sy=some (xl r.ok r.n l sy):=by
 refine bS (vo hk hr) ?_
 unfold xl
 cases r.ok with
 |false=>rfl
 |true=>
  cases hn:((l.length:Int) != r.n) with
  |true=>exact bF rfl (jV rfl)
  |false=>
   refine bF rfl (bF rfl ?_)
   have h:=scan (B:=List (List iQ)×LI) l (fun m b i=>dt.l6 k l sy (fun x3 x4=>bY (decide ((0+l.length)*8<=room))<|bY (decide ((x3.length+1)*64<=room))<|some (x3++([[.int (2:Int),.int (0:Int),.ints ([]++l),.ints x4]]))) m i b.1 b.2) (fun _ _=>true) (zj sy) (fun b=>some (b.1++[[.int 2,.int 0,.ints l,.ints b.2]])) (fun _ _=>none) (fun i b=>b.1.length=i/\b.2.length=i)
    (fun m b i h hI=>by
      obtain ⟨Y3,hI2⟩:=hI
      refine (dt.OV ..).trans (bT ae (cT (cg h) ?_))
      rw[aa,aN _ h]
      refine bS (jM.eq hk ..) (cT (ae (by simp[room];omega)) (cT (ae (by simp[room];omega)) ?_))
      rw[aK]
      subst Y3
      rfl)
    (fun b i h hI _=>by simp[zj];omega)
    (fun m b hI=>(dt.OV ..).trans (bF aC (cT (ae (by simp[room];omega)) (cT (ae (by simp[room];omega)) rfl))))
    l.length 0 k ([],[]) (by omega) (cd hk hl) (by simp)
   refine h.trans ?_
   rw[ah,bX]
   rfl
theorem Ln (c:Int):decide (bJ c>=0)=bI c:=by
 cases h:bI c with
 |false=>unfold bJ;rw[h];rfl
 |true=>
  have h0:=cU.1 h
  unfold bJ
  rw[h,ak,Int.tdiv_eq_ediv_of_nonneg h0.1]
  exact ae (by omega)
theorem yh {c:Int} (h:bI c=true):0<=bJ c/\bJ c<4:=by
 have h1:=Ln c
 rw[h,dH] at h1
 have:=Cg c
 omega
def zW (b:LI) (a:Int):LI:=bif decide (bJ a>=0) then b.set (bJ a).toNat (b.getD (bJ a).toNat 0+1) else b
def EW (i:Nat) (b:LI):Prop:=b.length=4/\ ∀x∈b,0<=x/\x<=(i:Int)
theorem zX {i:Nat} {b:LI} (h:EW i b) (a:Int):EW (i+1) (zW b a):=by
 unfold zW
 cases hs:decide (bJ a>=0) with
 |false=>exact ⟨h.1,fun x hx=>by have:=h.2 x hx;omega⟩
 |true=>
  have ZT:=ao hs
  have:=Cg a
  have hm:=h.2 _ (nX (l:=b) (i:=(bJ a).toNat) 0 (by have:=h.1;omega))
  refine ⟨by simpa using h.1,fun x hx=> ?_⟩
  rcases List.mem_or_eq_of_mem_set hx with hx|rfl
  ·have:=h.2 x hx;omega
  ·omega
theorem EX: ∀(l:LI) (i:Nat) (b:LI),EW i b->EW (i+l.length) (l.foldl zW b)
 | [],i,b,h=>h
 |a::l,i,b,h=>by
  have:=EX l (i+1) _ (zX h a)
  rw[ab,show i+(l.length+1)=i+1+l.length by omega]
  exact this
theorem JD:EW 0 [0,0,0,0]:=⟨rfl,fun x hx=>by
 simp only[cL,cA,or_false,or_self] at hx
 subst hx;simp⟩
theorem xm (l:LI):(od l).length=4:=(EX l 0 _ JD).1
theorem gv.eq (hk:cy<=k) {l:LI} (hl:l.length<1048577):gv.f k l=some (od l):=by
 have h:=scan (B:=LI) l (fun m b i=>gv.l3 k l (fun x2=>some x2) m i b) (fun _ _=>true) zW (fun x2=>some x2) (fun _ _=>none) EW
  (fun m b i h hI=>by
    refine bV rfl (bT ae (cT (cg h) ?_))
    rw[aa,aN _ h,aK]
    refine bS (bP.eq ..) ?_
    unfold zW
    cases hs:decide (bJ l[i]>=0) with
    |false=>rfl
    |true=>
     have ZT:=ao hs
     have:=Cg l[i]
     have:=hI.1
     have hm:=hI.2 _ (nX (l:=b) (i:=(bJ l[i]).toNat) 0 (by omega))
     refine bT rfl (cT (bA rfl ae) (cT (bA rfl ae) ?_))
     rw[wrap_i64]
     rfl)
  (fun b i h hI _=>zX hI _)
  (fun m b hI=>bV rfl (br aC))
  l.length 0 k [0,0,0,0] (by omega) (cd hk hl) JD
 refine h.trans ?_
 rw[ah,bX]
 rfl
theorem gq.eq (hk:cy<=k) {l:LI} (hl:l.length<1048577):gq.f k l=some (od l):=by
 have h:=scan (B:=LI) l (fun m b i=>gq.l3 k l (l.length:Int) (fun x2=>some x2) m i b) (fun _ _=>true) zW (fun x2=>some x2) (fun _ _=>none) EW
  (fun m b i h hI=>by
    refine bV rfl (bT ae (cT (cg h) ?_))
    rw[aa,aN _ h,aK]
    refine bS (bH.eq ..) ?_
    unfold zW
    rw[Ln]
    cases hs:bI l[i] with
    |false=>rfl
    |true=>
     have ZT:=yh hs
     have:=hI.1
     have hm:=hI.2 _ (nX (l:=b) (i:=(bJ l[i]).toNat) 0 (by omega))
     refine bT rfl (bS (bU.eq ..) (cT (bA (ae ZT.1) ae) (cT (bA (ae ZT.1) ae) ?_)))
     rw[wrap_i64]
     rfl)
  (fun b i h hI _=>zX hI _)
  (fun m b hI=>bV rfl (br aC))
  l.length 0 k [0,0,0,0] (by omega) (cd hk hl) JD
 refine h.trans ?_
 rw[ah,bX]
 rfl
def xn (l:LI) (b:Int×Nat) (a:Int):Int×Nat:=(bif decide (b.1<0) then (b.2:Int) else bif decide (a>l.getD b.1.toNat 0) then (b.2:Int) else b.1,b.2+1)
def Cu (l:LI):Int:=(l.foldl (xn l) (-1,0)).1
theorem i_.eq (hk:cy<=k) {l:LI} (hl:l.length<1048577):i_.f k l=some (Cu l):=by
 have h:=scan (B:=Int×Nat) l (fun m b i=>i_.l3 k l (fun x1=>some x1) m b.1 i) (fun _ _=>true) (xn l) (fun b=>some b.1) (fun _ _=>none) (fun i b=>b.2=i/\b.1<(i:Int))
  (fun m b i h hI=>by
    refine bV rfl (bT ae ?_)
    rw[aK,aa,aN _ h]
    unfold xn
    rw[hI.1]
    cases hn:decide (b.1<0) with
    |true=>rfl
    |false=>
     have:=of_decide_eq_false hn
     refine bF rfl (cT (cg h) (cT (bA ae ae) ?_))
     cases decide (l[i]>l.getD b.1.toNat 0)<;>rfl)
  (fun b i h hI _=>by
    unfold xn
    refine ⟨by show b.2+1=i+1;omega,?_⟩
    show (bif _ then _ else bif _ then _ else _)<_
    cases decide (b.1<0) with
    |true=>simp only[ak];omega
    |false=>cases decide (l[i]>l.getD b.1.toNat 0)<;>simp only[ak,an]<;>omega)
  (fun m b hI=>bV rfl (br aC))
  l.length 0 k (-1,0) (by omega) (cd hk hl) (by simp)
 refine h.trans ?_
 rw[ah,bX]
 rfl
theorem Io (n:Int->Int) (p:LI): ∀(rest pre:LI) (j:Nat),p=pre++rest->j<pre.length->
 ∃j':Nat,(rest.map n).foldl (xn (p.map n)) ((j:Int),pre.length)=((j':Int),p.length)/\j' <p.length/\p.getD j' 0=tU n rest (p.getD j 0)
 | [],pre,j,hp,hj=>by
   subst hp
   exact ⟨j,by simp,by simpa using hj,rfl⟩
 |c::rest,pre,j,hp,hj=>by
  have hl:p.length=pre.length+(rest.length+1):=by rw[hp];simp
  have e1:(p.map n).getD ((j:Int).toNat) 0=n (p.getD j 0):=by
   rw[aa,aN _ (by rw[ca];omega),aN _ (by omega),List.getElem_map]
  have ec:p.getD pre.length 0=c:=by
   rw[hp,aN _ (by simp)];simp
  have Ip:xn (p.map n) ((j:Int),pre.length) (n c)=(((bif decide (n c>n (p.getD j 0)) then pre.length else j:Nat):Int),(pre++[c]).length):=by
   unfold xn
   rw[aC (p:=((j:Int))<0) (by omega),e1]
   cases decide (n c>n (p.getD j 0))<;>simp
  obtain ⟨j',h1,h2,h3⟩:=Io n p rest (pre++[c]) (bif decide (n c>n (p.getD j 0)) then pre.length else j) (by rw[hp];simp) (by
   cases decide (n c>n (p.getD j 0))<;>simp<;>omega)
  refine ⟨j',?_,h2,?_⟩
  ·rw[bM,aY,Ip]
   exact h1
  ·rw[h3]
   show _=tU n rest (bif decide (n c>n (p.getD j 0)) then c else p.getD j 0)
   cases decide (n c>n (p.getD j 0)) with
   |true=>simp only[ak];rw[ec]
   |false=>rfl
theorem Lq (n:Int->Int) {p:LI} (h:0<p.length):0<=Cu (p.map n)/\Cu (p.map n)<(p.length:Int)/\p.getD (Cu (p.map n)).toNat 0=tU n p (p.getD 0 0):=by
 cases p with
 |nil=>simp at h
 |cons c rest=>
  obtain ⟨j',h1,h2,h3⟩:=Io n (c::rest) rest [c] 0 rfl (by simp)
  have e:Cu ((c::rest).map n)=(j':Int):=by
   unfold Cu
   rw[bM,aY]
   have hs:xn (n c::rest.map n) (-1,0) (n c)=(((0:Nat):Int),[c].length):=rfl
   rw[hs]
   exact congrArg Prod.fst h1
  rw[e,aa]
  refine ⟨by omega,by omega,?_⟩
  rw[h3]
  show _=tU n rest (bif decide (n c>n c) then c else c)
  rw[aC (p:=n c>n c) (by omega)]
  rfl
abbrev tD (g:Gm) (c:Int):Int:=(od g.hand).getD (bJ c).toNat 0
theorem iJ.eq (hk:cy<=k) {g:Gm} (h:g.sm) (kd:Int):g.ap (iJ.f k) kd=some (choice g kd):=by
 have Sm:=ov g
 refine bS (eB.eq hk h) ?_
 unfold choice
 cases h0:(((cv g).length:Int)==0) with
 |true=>rfl
 |false=>
  have nL: ¬((cv g).length:Int)=0:=by simpa using h0
  have hm:=(ou (n_.2 (nX (l:=cv g) (i:=0) 0 (by omega)))).1
  have ht:=px hm
  refine bF rfl ?_
  cases kd==0 with
  |true=>exact bT rfl (bW ae)
  |false=>
   refine bF rfl ?_
   rw[pw]
   cases kd==1 with
   |true=>exact bT rfl (bW (bA ae ae))
   |false=>
    refine bF rfl ?_
    cases kd==2 with
    |false=>rfl
    |true=>
     refine bT rfl (cT (bA (ae ht.1) (ae ht.2)) (bS (gv.eq hk (yg h)) ?_))
     have h4:=xm g.hand
     have h:=scan (B:=LI) (cv g) (fun m b i=>iJ.Wh k (cv g) (od g.hand) (fun x4=>(i_.f k x4).bind fun r5=>bY ((decide ((0:Int)<=r5))&&(decide (r5<((cv g).length:Int))))<|some ((cv g).getD r5.toNat 0)) m i b) (fun _ _=>true) (fun b a=>b++[tD g a]) (fun x4=>(i_.f k x4).bind fun r5=>bY ((decide ((0:Int)<=r5))&&(decide (r5<((cv g).length:Int))))<|some ((cv g).getD r5.toNat 0)) (fun _ _=>none) (fun i b=>b.length=i)
      (fun m b i h hI=>by
        have hs:=yh (oZ (aj h))
        refine bV rfl (bT ae (cT (cg h) ?_))
        rw[aa,aN _ h,aK]
        exact bS (bP.eq ..) (cT (bA (ae hs.1) ae) (bW (nY))))
      (fun b i h hI _=>by simp;omega)
      (fun m b hI=>bV rfl (br aC))
      (cv g).length 0 k [] (by omega) (cd hk (by omega)) rfl
     refine h.trans ?_
     rw[ah,bX,nZ (tD g),aM]
     obtain ⟨m1,m2,m3⟩:=Lq (tD g) (p:=cv g) (by omega)
     refine bS (i_.eq hk (by rw[ca];omega)) (cT (bA (ae m1) (ae m2)) ?_)
     rw[m3]
     rfl
theorem iz.eq (hk:cy<=k) {g:Gm} (h:g.sm) (kd:Int):g.ap (iz.f k) kd=some (choice g kd):=by
 have Sm:=ov g
 refine bS (eA.eq hk h) ?_
 unfold choice
 cases h0:(((cv g).length:Int)==0) with
 |true=>rfl
 |false=>
  have nL: ¬((cv g).length:Int)=0:=by simpa using h0
  have hm0:=nX (l:=cv g) (i:=0) 0 (by omega)
  have hm:=(ou (n_.2 hm0)).1
  have ht:=px hm
  refine bF rfl ?_
  cases kd==0 with
  |true=>exact bT rfl (bW ae)
  |false=>
   refine bF rfl ?_
   rw[pw]
   cases kd==1 with
   |true=>exact bT rfl (bW (bA ae ae))
   |false=>
    refine bF rfl ?_
    cases kd==2 with
    |false=>rfl
    |true=>
     refine bT rfl (cT (bA (ae ht.1) (ae ht.2)) (bS (gq.eq hk (yg h)) (cT ae ?_)))
     have h4:=xm g.hand
     have h:=scan (B:=Int) (cv g) (fun m b i=>iz.RV k ((cv g).length:Int) (od g.hand) (cv g) (fun x5=>some x5) m b i) (fun _ _=>true) (fun b a=>bif decide (tD g a>tD g b) then a else b) (fun x5=>some x5) (fun _ _=>none) (fun i b=>bI b=true)
      (fun m b i h hI=>by
        have hs:=yh (oZ (aj h))
        have M8:=yh hI
        refine bV rfl (bT ae (cT (cg h) ?_))
        rw[aa,aN _ h,aK]
        refine bS (bU.eq ..) (cT (bA (ae hs.1) ae) (bS (bU.eq ..) (cT (bA (ae M8.1) ae) ?_)))
        show (bif decide (tD g (cv g)[i]>tD g b) then _ else _)=_
        cases decide (tD g (cv g)[i]>tD g b)<;>rfl)
      (fun b i h hI _=>by
        cases decide (tD g (cv g)[i]>tD g b) with
        |true=>exact oZ (aj h)
        |false=>exact hI)
      (fun m b hI=>bV rfl (br aC))
      (cv g).length 0 k ((cv g).getD 0 0) (by omega) (cd hk (by omega)) (oZ hm0)
     refine h.trans ?_
     rw[ah,bX]
     have key: ∀(l:LI) (b:Int),l.foldl (fun b a=>bif decide (tD g a>tD g b) then a else b) b=tU (tD g) l b:=by
      intro l
      induction l with
      |nil=>intro b;rfl
      |cons a l ih=>intro b;rw[aY,ih];rfl
     rw[key]
     rfl
theorem uJ {a b:BA} (h:a.data.toList=b.data.toList):a=b:=by
 cases a;cases b
 congr 1
 exact Array.ext' h
theorem ju {a b:BA}:(a.toList==b.toList)=decide (a.data.toList=b.data.toList):=by
 rw[Go.Lib.toList_data,Go.Lib.toList_data]
 by_cases h:a.data.toList=b.data.toList
 ·rw[h];simp
 ·rw[aC h];simpa using h
theorem uK (a b:BA):(a++b).data.toList=a.data.toList++b.data.toList:=by rw[ByteArray.data_append,Array.toList_append]
theorem fC (a:BA):a.data.toList.length=a.size:=by rw[bC];rfl
theorem JE {s:BA} {i:Nat} {b:UInt8} {l:List UInt8} (h:s.data.toList.drop i=b::l):sb s i=(b.toNat:Int):=by
 have h1:s.data.toList[i]? =some b:=by
  have:=congrArg (fun l=>l[0]?) h
  simpa using this
 have h2:s.data[i]? =some b:=by rw[<- Array.getElem?_toList];exact h1
 unfold sb
 rw[h2];rfl
theorem EY {p:UInt8->Bool} (h:(List.range 256).all (fun n=>p (UInt8.ofNat n))=true) (b:UInt8):p b=true:=by
 have h1:=List.all_eq_true.1 h b.toNat (List.mem_range.2 b.toNat_lt)
 rwa [UInt8.ofNat_toNat] at h1
def wR (s:BA) (c:Int):Nat->Nat->Nat->List BA
 |0,a,i=>[s.extract a i]
 |m+1,a,i=>bif sb s i==c then s.extract a i::wR s c m (i+1) (i+1) else wR s c m a (i+1)
def words (s:BA) (c:Int):List BA:=wR s c s.size 0 0
theorem AT (s:BA) (c:Int): ∀m a i,(wR s c m a i).length<=m+1/\1<=(wR s c m a i).length
 |0,a,i=>by simp[wR]
 |m+1,a,i=>by
  unfold wR
  cases sb s i==c with
  |true=>have:=AT s c m (i+1) (i+1);simp only[ak,ab];omega
  |false=>have:=AT s c m a (i+1);simp only[an];omega
theorem Er (s:BA) (c:Int): ∀m a i,∀w∈wR s c m a i,w.size<=s.size
 |0,a,i,w,h=>by
  rw[List.mem_singleton.1 h,ByteArray.size_extract];omega
 |m+1,a,i,w,h=>by
  unfold wR at h
  cases hb:sb s i==c with
  |true=>
   rw[hb,ak] at h
   rcases List.mem_cons.1 h with rfl|h
   ·rw[ByteArray.size_extract];omega
   ·exact Er s c m _ _ w h
  |false=>rw[hb,an] at h;exact Er s c m _ _ w h
theorem JF {n:Nat} (h:n<=2097153:=by omega):decide (n*16<=room)=true:=ae (by unfold room;omega)
theorem cb.loop (k:Nat) {s:BA} (c:Int) (hs:s.size<1048577) (e0:Int->List BA->Option R) (X:List BA->Option R) (he: ∀(a:Nat) acc,a<=s.size->acc.length<=s.size->e0 (a:Int) acc=X (acc++[s.extract a s.size])):
 ∀(m n a i:Nat) (acc:List BA),i+m=s.size->m<n->a<=i->acc.length<=i->cb.l3 k s c (s.size:Int) e0 n (a:Int) (i:Int) acc=X (acc++wR s c m a i):=by
 intro m
 induction m with
 |zero=>
  intro n a i acc hi hn ha Hx
  obtain ⟨n,rfl⟩: ∃j,n=j+1:=⟨n-1,by omega⟩
  obtain rfl:i=s.size:=by omega
  rw[cb.tk]
  unfold cb.s3
  rw[br aC]
  exact he a acc ha Hx
 |succ m ih=>
  intro n a i acc hi hn ha Hx
  obtain ⟨n,rfl⟩: ∃j,n=j+1:=⟨n-1,by omega⟩
  rw[cb.tk]
  unfold cb.s3
  rw[jV ae,bW (bA ae ae),show ((i:Int)).toNat=i from aa i,aK]
  unfold wR
  cases sb s i==c with
  |true=>
   refine bT rfl ?_
   rw[bW (bA ae ae),bW (bA ae ae),bW (JF),show ((a:Int)).toNat=a from aa a,ih n (i+1) (i+1) _ (by omega) (by omega) (by omega) (by simp;omega),bp]
   rfl
  |false=>
   refine bF rfl ?_
   rw[ih n a (i+1) acc (by omega) (by omega) (by omega) (by omega)]
   rfl
theorem cb.eq (hk:cy<=k) {s:BA} (c:Int) (hs:s.size<1048577):cb.f k s c=some (words s c):=by
 have hB:cy=1073741824:=rfl
 unfold cb.f
 rw[show (0:Int)=((0:Nat):Int) from rfl,cb.loop k c hs _ (fun x=>some x) (fun a acc ha Hx=> ?_) s.size k 0 0 [] (by omega) (by omega) (by omega) (by simp)]
 ·rfl
 ·rw[bW (bA ae ae),bW (bA ae ae),bW (JF)]
  rw[show ((a:Int)).toNat=a from aa a,show ((s.size:Int)).toNat=s.size from aa _]
theorem extract_data (s:BA) (a b:Nat):(s.extract a b).data.toList=(s.data.toList.take b).drop a:=by
 rw[ByteArray.data_extract,Array.toList_extract]
 simp[List.extract_eq_take_drop,List.drop_take]
theorem rn {a b:BA} (h:a.data.toList=b.data.toList):a=b:=by
 cases a;cases b
 congr 1
 exact Array.ext' h
theorem nE (a b:BA):(a++b).data.toList=a.data.toList++b.data.toList:=by rw[ByteArray.data_append,Array.toList_append]
theorem Qf (x0:List UInt8) (l:List (List UInt8)) (x sep:List UInt8):Go.Lib.join ((x0::l)++[x]) sep=Go.Lib.join (x0::l) sep++sep++x:=by
 rw[List.cons_append,Go.Lib.join_cons,Go.Lib.join_cons]
 simp[Go.Lib.joinTail,bp]
theorem Qg (x sep:BA):pR [x] sep=x:=rn (by show (Go.Lib.join [x.data.toList] _).toArray.toList=_;rw[Go.Lib.join_one])
theorem Nw {l:List BA} (hl:l≠[]) (x sep:BA):pR (l++[x]) sep=pR l sep++sep++x:=by
 cases l with
 |nil=>exact absurd rfl hl
 |cons x0 l=>
  refine rn ?_
  rw[nE,nE]
  show (Go.Lib.join (((x0::l)++[x]).map (·.data.toList)) sep.data.toList).toArray.toList=(Go.Lib.join ((x0::l).map (·.data.toList)) sep.data.toList).toArray.toList++_++_
  rw[List.map_append,bM,bM,List.map_nil,Qf]
theorem Qh {α:Type} {l:List α} {i:Nat} (h:i<l.length):l.take (i+1)=l.take i++[l[i]]:=be h
theorem zY (l:List BA) (sep:BA) {i:Nat} (h:i<l.length):pR (l.take (i+1)) sep=bif decide (0<i) then pR (l.take i) sep++sep++l[i] else l[i]:=by
 rw[Qh h]
 rcases bf i with e|e
 ·subst e;simp[Qg]
 ·rw[ae e]
  refine Nw ?_ _ _
  intro hn
  have:=congrArg List.length hn
  rw[aP,List.length_nil] at this
  omega
theorem Lr {l:List BA} {sep:BA} (hs: ∀y∈l,y.size<=33554432) (hp:sep.size<=1048576): ∀i,i<=l.length->(pR (l.take i) sep).size<=34603008*i:=by
 intro i
 induction i with
 |zero=>intro _;exact ai _
 |succ i ih=>
  intro h
  have h1:=ih (by omega)
  have h2:=hs _ (aj (show i<l.length by omega))
  rw[zY l sep (by omega)]
  cases decide (0<i) with
  |true=>simp only[ak,aq];omega
  |false=>simp only[an];omega
theorem strings_Join.eq (k:Nat) {l:List BA} {sep:BA} (hl:l.length<1048577) (hs: ∀y∈l,y.size<=33554432) (hp:sep.size<=1048576):strings_Join.f k l sep=some (pR l sep):=by
 have h:=Lr hs hp l.length (ai _)
 rw[List.take_length] at h
 exact bW (bA (Nat.ble_eq_true_of_le (by omega)) (Nat.ble_eq_true_of_le (by omega)))
def rp (l:List BA) (sep:BA):BA:=bif ((l.length:Int)==0) then K3 else pR l sep
theorem cx.eq (hk:cy<=k) {l:List BA} {sep:BA} (hl:l.length<1048577) (hs: ∀y∈l,y.size<=33554432) (hp:sep.size<=1048576):cx.f k l sep=some (rp l sep):=by
 have key: ∀(r i n:Nat),i+r=l.length->r<n->cx.l3 k l sep (fun x1=>bif ((l.length:Int)==(0:Int)) then some (K3:BA) else some x1) n (pR (l.take i) sep) (i:Int)=some (rp l sep):=by
  intro r
  induction r with
  |zero=>
   intro i n hi hn
   obtain ⟨n,rfl⟩: ∃n',n=n' +1:=⟨n-1,by omega⟩
   refine bV rfl (bF aC ?_)
   rw[List.take_of_length_le (by omega)]
   unfold rp
   show (bif ((l.length:Int)==(0:Int)) then _ else _)=_
   cases ((l.length:Int)==0)<;>rfl
  |succ r ih=>
   intro i n hi hn
   obtain ⟨n,rfl⟩: ∃n',n=n' +1:=⟨n-1,by omega⟩
   have tu:i<l.length:=by omega
   have h1:=Lr hs hp i (by omega)
   have h2:=hs _ (aj tu)
   have hj:=zY l sep tu
   refine bV rfl (bT ae ?_)
   rw[aa,aN _ tu,aK]
   rcases bf i with e|e
   ·subst e
    refine bF aC (cT (cg tu) (cT (ae (by simp only[ia];omega)) ?_))
    have:=ih 1 n (by omega) (by omega)
    rw[hj] at this
    refine Eq.trans ?_ this
    rw[show pR (l.take 0) sep++l[0] =l[0] from rn (by rw[nE];rfl)]
    rfl
   ·refine bT ae (cT (ae (by simp only[ia];omega)) (cT (cg tu) (cT (ae (by rw[aq];simp only[ia];omega)) ?_)))
    have:=ih (i+1) n (by omega) (by omega)
    rw[hj,ae e] at this
    exact this
 exact key l.length 0 k (by omega) (cd hk hl)
def Hy (u:Nat):List UInt8:=if u=0 then [] else Go.Lib.decDigits u
theorem AU {u:Nat} (h:0<u):Hy u=Go.Lib.decDigits u:=by unfold Hy;rw[aD (by omega)]
theorem Iq {u:Nat} (h:0<u):Hy u=Hy (u/10)++[UInt8.ofNat (48+u%10)]:=by
 rw[AU h]
 by_cases UH:u<10
 ·rw[Go.Lib.decDigits_one UH,show u/10=0 by omega,Nat.mod_eq_of_lt UH];rfl
 ·rw[AU (u:=u/10) (by omega)]
  conv=>lhs;rw[Go.Lib.decDigits,dif_neg UH]
theorem EZ: ∀(m u:Nat),u<10^m->(Hy u).length<=m
 |0,u,h=>by
  have:u=0:=by simpa using h
  subst this;exact Nat.zero_le _
 |m+1,u,h=>by
  rcases bf u with e|e
  ·subst e;exact Nat.zero_le _
  ·rw[Nat.pow_succ] at h
   have:=EZ m (u/10) (by omega)
   rw[Iq e,au,cz]
   omega
theorem XB {n:Int} (h:tf .i64 n): -9223372036854775808<=n/\n<=9223372036854775807:=by
 simpa[tf,Lit.wf,IntKind.min,IntKind.max,IntKind.signed,IntKind.bits] using h
theorem Ls {d:Nat} (h:d<10):strOf [IntKind.wrap .u8 (aF (48+(d:Int)))] =⟨#[UInt8.ofNat (48+d)]⟩:=by
 have:d=0\/d=1\/d=2\/d=3\/d=4\/d=5\/d=6\/d=7\/d=8\/d=9:=by omega
 rcases this with rfl|rfl|rfl|rfl|rfl|rfl|rfl|rfl|rfl|rfl<;>rfl
theorem XC (x:Int):x.tmod 10=((x.natAbs%10:Nat):Int)\/x.tmod 10= -((x.natAbs%10:Nat):Int):=by
 rcases Int.natAbs_eq x with h|h
 ·left;rw[h];rfl
 ·right;rw[h,Int.neg_tmod,Int.natAbs_neg];rfl
theorem JG (l:List UInt8) (x:UInt8) (v:BA):(⟨(l++[x]).toArray⟩:BA)++v=(⟨l.toArray⟩:BA)++((⟨#[x]⟩:BA)++v):=rn (by
 rw[nE,nE,nE]
 simp)
theorem aT.loop (k:Nat) (e0:BA->Option R): ∀(m n:Nat) (x:Int) (v:BA),x.natAbs<10^m->x.natAbs<=9223372036854775808->m<n->v.size+m<=40->aT.l5 k e0 n v x=e0 ((⟨(Hy x.natAbs).toArray⟩:BA)++v)
 |m,0,x,v,_,_,hn,_=>absurd hn (by omega)
 |m,n+1,x,v,hx,hb,hn,hv=>by
  by_cases h0:x=0
  ·subst h0
   refine bV rfl (bF rfl (congrArg e0 (rn ?_)))
   rw[nE];rfl
  ·have D9:0<x.natAbs:=by omega
   cases m with
   |zero=>simp at hx;omega
   |succ m=>
    have nL:(x != 0)=true:=by simpa using h0
    have hq:(x.tdiv 10).natAbs=x.natAbs/10:=by rw[Int.natAbs_tdiv];rfl
    have hr:x.natAbs%10<10:=Nat.mod_lt _ (by omega)
    rw[Nat.pow_succ] at hx
    have ih:=aT.loop k e0 m n (x.tdiv 10) ((⟨#[UInt8.ofNat (48+x.natAbs%10)]⟩:BA)++v) (by omega) (by omega) (by omega) (by rw[aq];show 1+v.size+m<=40;omega)
    have ew:aF (x.tdiv 10)=x.tdiv 10:=wrap_i64
    have oX:(⟨#[UInt8.ofNat (48+x.natAbs%10)]⟩:BA).size+v.size<=ia:=by show 1+v.size<=9223372036854775807;omega
    have fin:aT.l5 k e0 n ((⟨#[UInt8.ofNat (48+x.natAbs%10)]⟩:BA)++v) (x.tdiv 10)=e0 ((⟨(Hy x.natAbs).toArray⟩:BA)++v):=by
     rw[ih,Iq D9,JG,hq]
    refine bV rfl (bT nL ?_)
    rw[ew]
    have ht:=XC x
    by_cases hd:x.tmod 10<0
    ·have e1:aF (0-x.tmod 10)=((x.natAbs%10:Nat):Int):=by rw[wrap_i64];omega
     rw[e1,Ls hr]
     exact bT (ae hd) (cT (ae oX) fin)
    ·have e1:x.tmod 10=((x.natAbs%10:Nat):Int):=by omega
     rw[e1,Ls hr]
     exact bF aC (cT (ae oX) fin)
theorem aT.eq (hk:cy<=k) {n:Int} (hn:tf .i64 n):aT.f k n=some (iM n):=by
 have hw:=XB hn
 by_cases h0:n=0
 ·subst h0
  refine bT rfl (congrArg some (rn ?_))
  show _=Go.Lib.itoa 0
  unfold Go.Lib.itoa
  rw[aD (by omega),show (0:Int).toNat=0 from rfl,Go.Lib.decDigits_one (by omega)];rfl
 ·have hl:=aT.loop k (fun x1=>bif decide (n<0) then bY (decide ((K3:BA).size+x1.size<=ia))<|some ((K3:BA)++x1) else some x1) 19 k n bE (by omega) (by omega) (by simp[cy] at hk;omega) (by show 0+19<=40;omega)
  have hlen:=EZ 19 n.natAbs (by omega)
  have e0:(⟨(Hy n.natAbs).toArray⟩:BA)++bE=⟨(Hy n.natAbs).toArray⟩:=rn (by rw[nE];simp)
  rw[e0] at hl
  refine bF (by simpa using h0) (hl.trans ?_)
  have hd:=AU (u:=n.natAbs) (by omega)
  by_cases U4:n<0
  ·refine bT (ae U4) (cT (ae ?_) (congrArg some (rn ?_)))
   ·show 1+(Hy n.natAbs).toArray.size<=9223372036854775807
    rw[List.size_toArray];omega
   ·rw[nE,hd]
    show [45]++Go.Lib.decDigits n.natAbs=Go.Lib.itoa n
    unfold Go.Lib.itoa
    rw[aS U4];rfl
  ·refine bF (aC U4) (congrArg some (rn ?_))
   rw[hd]
   show Go.Lib.decDigits n.natAbs=Go.Lib.itoa n
   unfold Go.Lib.itoa
   rw[aD U4,show n.toNat=n.natAbs by omega]
theorem a_.eq (k:Nat) {n:Int} (hn:tf .i64 n):a_.f k n=some (iM n):=by
 have hw:=XB hn
 exact bN (bW (bA (ae hw.1) (ae hw.2)))
theorem gV {n:Int} (hn:tf .i64 n):(iM n).size<=21:=by
 have hw:=XB hn
 show (Go.Lib.itoa n).toArray.size<=21
 rw[List.size_toArray]
 unfold Go.Lib.itoa
 have key: ∀u:Nat,u<=9223372036854775808->(Go.Lib.decDigits u).length<=20:=fun u hu=>by
  rcases bf u with e|e
  ·subst e;rw[Go.Lib.decDigits_one (by omega)];simp
  ·rw[<- AU e]
   have:=EZ 19 u (by omega)
   omega
 split
 ·have:=key n.natAbs (by omega)
  rw[ab];omega
 ·have:=key n.toNat (by omega)
  omega
def wH (l:LI) (sep:BA):BA:=pR (l.map iM) sep
theorem JH {l:LI} (hw: ∀n∈l,tf .i64 n): ∀y∈l.map iM,y.size<=21:=fun y hy=>by
 obtain ⟨n,h1,rfl⟩:=List.mem_map.1 hy
 exact gV (hw n h1)
theorem Nx {l:List BA} {sep:BA} (hs: ∀y∈l,y.size<=21) (hp:sep.size<=1):(pR l sep).size<=22*l.length:=by
 have key: ∀i,i<=l.length->(pR (l.take i) sep).size<=22*i:=by
  intro i
  induction i with
  |zero=>intro _;exact ai _
  |succ i ih=>
   intro h
   have h1:=ih (by omega)
   have h2:=hs _ (aj (show i<l.length by omega))
   rw[zY l sep (by omega)]
   cases decide (0<i) with
   |true=>simp only[ak,aq];omega
   |false=>simp only[an];omega
 have:=key l.length (ai _)
 rwa [List.take_length] at this
theorem xp {l:LI} {sep:BA} (hw: ∀n∈l,tf .i64 n) (hp:sep.size<=1):(wH l sep).size<=22*l.length:=by
 have:=Nx (JH hw) hp
 rwa [ca] at this
theorem Lt (l:LI): ∀(b:List BA),l.foldl (fun b a=>b++[iM a]) b=b++l.map iM:=by
 induction l with
 |nil=>intro b;simp
 |cons a l ih=>intro b;rw[aY,ih];simp
theorem dr.eq (hk:cy<=k) {l:LI} (hl:l.length<1048577) (hw: ∀n∈l,tf .i64 n):dr.f k l=some (l.map iM):=by
 have h:=scan (B:=List BA) l (fun m b i=>dr.l3 k l (fun x2=>some x2) m i b) (fun _ _=>true) (fun b a=>b++[iM a]) (fun x=>some x) (fun _ _=>none) (fun i b=>b.length=i)
  (fun m b i h hI=>by
    refine bV rfl (bT ae (cT (cg h) ?_))
    rw[aa,aN _ h,aK]
    exact bS (aT.eq hk (hw _ (aj h))) (bW (ae (by simp[room];omega))))
  (fun b i h hI _=>by simp;omega)
  (fun m b hI=>bV rfl (br aC))
  l.length 0 k [] (by omega) (cd hk hl) rfl
 refine h.trans ?_
 rw[ah,bX,Lt,aM]
theorem cK.eq (hk:cy<=k) {l:LI} {sep:BA} (hl:l.length<1048577) (hw: ∀n∈l,tf .i64 n) (hp:sep.size<=1):cK.f k l sep=some (wH l sep):=by
 have h:=scan (B:=List BA) l (fun m b i=>cK.l3 k l (l.length:Int) (fun x2=>(strings_Join.f k x2 sep).bind fun r3=>some r3) m i b) (fun _ _=>true) (fun b a=>b++[iM a]) (fun x2=>(strings_Join.f k x2 sep).bind fun r3=>some r3) (fun _ _=>none) (fun i b=>b.length=i)
  (fun m b i h hI=>by
    refine bV rfl (bT ae (cT (cg h) ?_))
    rw[aa,aN _ h,aK]
    exact bS (a_.eq k (hw _ (aj h))) (bW (ae (by simp[room];omega))))
  (fun b i h hI _=>by simp;omega)
  (fun m b hI=>bV rfl (br aC))
  l.length 0 k [] (by omega) (cd hk hl) rfl
 refine h.trans ?_
 rw[ah,bX,Lt,aM]
 exact bN (strings_Join.eq k (by simpa using hl) (fun y hy=>by have:=JH hw y hy;omega) (by omega))
def xq (l:LI) (sep:BA):BA:=bif ((l.length:Int)==0) then K3 else wH l sep
theorem cx.XD (hk:cy<=k) {l:LI} {sep:BA} (hl:l.length<1048577) (hw: ∀n∈l,tf .i64 n) (hp:sep.size<=1):cx.f k (l.map iM) sep=some (xq l sep):=by
 refine (cx.eq hk (by simpa using hl) (fun y hy=>by have:=JH hw y hy;omega) (by omega)).trans ?_
 unfold rp xq
 rw[ca];rfl
theorem gN.eq (hk:cy<=k) {l:LI} (hl:l.length<1048577) (hw: ∀n∈l,tf .i64 n):gN.f k l=some (xq l uz):=
 bS (dr.eq hk hl hw) (bN (cx.XD hk hl hw (ai 1)))
theorem Su {n:Int} (h1: -9223372036854775808<=n) (h2:n<=9223372036854775807):tf .i64 n:=by
 simp[tf,Lit.wf,IntKind.min,IntKind.max,IntKind.signed,IntKind.bits];omega
theorem JI (l:List UInt8) (b:UInt8): ∀acc:Nat,Go.Lib.decFrom acc (l++[b])=(Go.Lib.decFrom acc l).bind fun n=>(Go.Lib.digitVal b).map fun d=>n*10+d:=by
 induction l with
 |nil=>intro acc;simp only[aM,Go.Lib.decFrom,aO];cases Go.Lib.digitVal b<;>rfl
 |cons a t ih=>
  intro acc
  simp only[List.cons_append,Go.Lib.decFrom]
  cases Go.Lib.digitVal a with
  |none=>rfl
  |some d=>exact ih _
theorem Lu {d:Nat} (h:d<10):Go.Lib.digitVal (UInt8.ofNat (48+d))=some d:=by
 have:d=0\/d=1\/d=2\/d=3\/d=4\/d=5\/d=6\/d=7\/d=8\/d=9:=by omega
 rcases this with rfl|rfl|rfl|rfl|rfl|rfl|rfl|rfl|rfl|rfl<;>decide+kernel
theorem Ny: ∀(m u:Nat),u<m->Go.Lib.decFrom 0 (Go.Lib.decDigits u)=some u/\(Go.Lib.decDigits u≠[]):=by
 intro m
 induction m with
 |zero=>intro u h;omega
 |succ m ih=>
  intro u hu
  rw[Go.Lib.decDigits]
  by_cases h:u<10
  ·rw[dif_pos h]
   refine ⟨?_,by simp⟩
   simp only[Go.Lib.decFrom,Lu h]
   rw[show 0*10+u=u by omega]
  ·rw[dif_neg h]
   refine ⟨?_,by simp⟩
   rw[JI,(ih (u/10) (by omega)).1,aO,Lu (by omega),Option.map_some]
   rw[show u/10*10+u%10=u by omega]
theorem Nz {b:UInt8} {l:List UInt8} {acc n:Nat} (h:Go.Lib.decFrom acc (b::l)=some n):(b==45)=false/\(b==43)=false:=by
 have hd:Go.Lib.digitVal b≠none:=fun e=>by simp only[Go.Lib.decFrom,e] at h;cases h
 constructor
 ·cases e:b==45 with
  |false=>rfl
  |true=>rw[beq_iff_eq.1 e] at hd;exact absurd (by decide+kernel) hd
 ·cases e:b==43 with
  |false=>rfl
  |true=>rw[beq_iff_eq.1 e] at hd;exact absurd (by decide+kernel) hd
theorem Sv {l:List UInt8} {n:Nat} (hl:l≠[]) (h:Go.Lib.decFrom 0 l=some n):Go.Lib.atoi l=some (n:Int):=by
 cases l with
 |nil=>exact absurd rfl hl
 |cons b r=>
  obtain ⟨h1,h2⟩:=Nz h
  unfold Go.Lib.atoi
  show (if (b==45)=true then _ else if (b==43)=true then _ else (Go.Lib.decNat (b::r)).map _)=_
  rw[aD (by rw[h1];decide),aD (by rw[h2];decide)]
  unfold Go.Lib.decNat
  rw[show (b::r).isEmpty=false from rfl]
  show (Go.Lib.decFrom 0 (b::r)).map _=_
  rw[h];rfl
theorem Qi (n:Nat):(iM (n:Int)).data.toList=Go.Lib.decDigits n:=by
 show (Go.Lib.itoa (n:Int)).toArray.toList=_
 unfold Go.Lib.itoa
 rw[aD (by omega)]
 simp
theorem Ir (n:Nat):Go.Lib.atoi (iM (n:Int)).data.toList=some (n:Int)/\Go.Lib.decFrom 0 (iM (n:Int)).data.toList=some n/\(iM (n:Int)).data.toList≠[]:=by
 obtain ⟨h1,h2⟩:=Ny (n+1) n (Nat.lt_succ_self n)
 rw[Qi]
 exact ⟨Sv h2 h1,h1,h2⟩
def bw (s:BA):Int×Bool:=match Go.Lib.decFrom 0 s.data.toList with
 |some n=>bif decide (1<=s.size)&&decide (s.size<=13)&&decide (n<=1000000000000)&&((iM (n:Int)).toList==s.toList) then ((n:Int),true) else (0,false)
 |none=>(0,false)
theorem Hz {n:Nat} (h:n<=1000000000000) (hs:(iM (n:Int)).size<=13):bw (iM (n:Int))=((n:Int),true):=by
 obtain ⟨_,h1,h2⟩:=Ir n
 have h3:1<=(iM (n:Int)).size:=by rw[<- fC];exact List.length_pos_iff.2 h2
 unfold bw
 rw[h1]
 show (bif _ then _ else _)=_
 rw[ae h3,ae hs,ae h,beq_self_eq_true];rfl
theorem kV.eq {s:BA} (hs:s.size<1048577):kV.f k s=some (bw s):=by
 unfold kV.f
 by_cases Ux:(s.size:Int)>13
 ·rw[jV (ae Ux)]
  unfold bw
  split
  ·rename_i n _
   rw[aC (p:=s.size<=13) (by omega),Bool.and_false,Bool.false_and,Bool.false_and];rfl
  ·rfl
 rw[br (aC Ux)]
 refine bS (show strconv_Atoi.f k s=some (uB s,tT s) from bW (Nat.ble_eq_true_of_le (by omega))) ?_
 by_cases hn: ∃n:Nat,n<=1000000000000/\iM (n:Int)=s
 ·obtain ⟨n,hn,rfl⟩:=hn
  obtain ⟨h1,_,_⟩:=Ir n
  have e1:uB (iM (n:Int))=n:=by unfold uB;rw[h1]
  have e2:tT (iM (n:Int))=true:=by unfold tT;rw[h1];rfl
  rw[Hz hn (by omega)]
  refine bF (by rw[e2];rfl) (bS (aI.eq k _ _ _) ?_)
  rw[e1]
  refine bF (by unfold mJ;rw[ae (by omega),ae (by omega)];rfl) (bS (a_.eq k (show tf .i64 (n:Int) from Su (by omega) (by omega))) ?_)
  exact br (by rw[beq_self_eq_true];rfl)
 ·have hp:bw s=(0,false):=by
   unfold bw
   split
   ·rename_i n _
    by_cases hle:n<=1000000000000
    ·have:((iM (n:Int)).toList==s.toList)=false:=by
      rw[ju]
      exact aC fun e=>hn ⟨n,hle,uJ e⟩
     rw[this,Bool.and_false];rfl
    ·rw[aC hle,Bool.and_false,Bool.false_and];rfl
   ·rfl
  rw[hp]
  cases zk:tT s with
  |false=>exact jV rfl
  |true=>
   refine bF rfl (bS (aI.eq k _ _ _) ?_)
   cases hr:mJ (uB s) 0 1000000000000 with
   |false=>exact jV rfl
   |true=>
    unfold mJ at hr
    simp only[ay,dH] at hr
    obtain ⟨n,hna⟩: ∃n:Nat,uB s=(n:Int):=⟨(uB s).toNat,by omega⟩
    refine bF rfl (bS (a_.eq k (show tf .i64 (uB s) from Su (by omega) (by omega))) ?_)
    refine jV ?_
    rw[ju,hna]
    rw[aC fun e=>hn ⟨n,by omega,uJ e⟩];rfl
theorem Dc {b:UInt8}:(mJ (b.toNat:Int) 48 57=true->Go.Lib.digitVal b=some (b.toNat-48)/\48<=b.toNat/\b.toNat<=57)/\(mJ (b.toNat:Int) 48 57=false->Go.Lib.digitVal b=none):=by
 unfold mJ Go.Lib.digitVal
 constructor
 ·intro h
  simp only[ay,dH] at h
  rw[aS (by omega)]
  exact ⟨rfl,by omega,by omega⟩
 ·intro h
  rw[aD]
  intro hc
  rw[ae (by omega),ae (by omega)] at h
  cases h
theorem di.loop {s:BA} (hs:s.size<=13) (e0 e1:Int->Option R) (X:Option R) (hX: ∀x,e0 x=X): ∀(m n i acc:Nat),i+m=s.size->m<n->acc<10^i->
 di.l5 k s e0 e1 n (acc:Int) (i:Int)=match Go.Lib.decFrom acc (s.data.toList.drop i) with|some v=>e1 (v:Int)|none=>X:=by
 intro m
 induction m with
 |zero=>
  intro n i acc hi hn Hx
  obtain ⟨n,rfl⟩: ∃j,n=j+1:=⟨n-1,by omega⟩
  rw[di.pQ]
  unfold di.s5
  rw[br aC,List.drop_of_length_le (by rw[fC];omega)]
  rfl
 |succ m ih=>
  intro n i acc hi hn Hx
  obtain ⟨n,rfl⟩: ∃j,n=j+1:=⟨n-1,by omega⟩
  have hlen:i<s.data.toList.length:=by rw[fC];omega
  have hd:s.data.toList.drop i=s.data.toList[i]::s.data.toList.drop (i+1):=List.drop_eq_getElem_cons hlen
  generalize s.data.toList[i] =b at hd
  have hb:=b.toNat_lt
  have hsb:sb s i=(b.toNat:Int):=JE hd
  have ab5:(10:Nat)^i<=10^12:=Nat.pow_le_pow_right (by omega) (by omega)
  have hp:(10:Nat)^(i+1)=10^i*10:=Nat.pow_succ ..
  rw[di.pQ]
  unfold di.s5
  rw[jV ae,bW (bA ae ae),show ((i:Int)).toNat=i from aa i,hsb,wrap_i64]
  refine bS (bb.eq k _ _ _) ?_
  rw[hd]
  cases hr:mJ (b.toNat:Int) 48 57 with
  |false=>
   refine bT rfl ?_
   rw[hX]
   simp only[Go.Lib.decFrom,Dc.2 hr]
  |true=>
   obtain ⟨e,h1,h2⟩:=Dc.1 hr
   have e8:IntKind.wrap .u8 ((b.toNat:Int)-48)=((b.toNat-48:Nat):Int):=by
    have:((b.toNat:Int)-48)=((b.toNat-48:Nat):Int):=by omega
    rw[this]
    have h3:b.toNat-48<10:=by omega
    generalize b.toNat-48=d at h3
    have:d=0\/d=1\/d=2\/d=3\/d=4\/d=5\/d=6\/d=7\/d=8\/d=9:=by omega
    rcases this with rfl|rfl|rfl|rfl|rfl|rfl|rfl|rfl|rfl|rfl<;>decide+kernel
   have ad1:acc<1000000000000:=bR Hx ab5
   refine bF rfl ?_
   rw[bW (bA ae ae),e8,wrap_i64 (n:=((b.toNat-48:Nat):Int)) (by omega) (by omega),wrap_i64 (n:=10*(acc:Int)),wrap_i64,aK]
   rw[show (10*(acc:Int)+((b.toNat-48:Nat):Int))=((acc*10+(b.toNat-48):Nat):Int) by omega]
   rw[ih n (i+1) (acc*10+(b.toNat-48)) (by omega) (by omega) (by omega)]
   simp only[Go.Lib.decFrom,e]
theorem di.eq (hk:cy<=k) {s:BA} (hs:s.size<1048577):di.f k s=some (bw s):=by
 refine bS (bb.eq k _ _ _) ?_
 cases hr:mJ (s.size:Int) 1 13 with
 |false=>
  refine bT rfl ?_
  have:(decide (1<=s.size)&&decide (s.size<=13))=false:=by
   unfold mJ at hr
   rw[<- hr]
   congr 1<;>simp<;>omega
  unfold bw
  split
  ·rw[this,Bool.false_and,Bool.false_and];rfl
  ·rfl
 |true=>
  unfold mJ at hr
  simp only[ay,dH] at hr
  have hB:cy=1073741824:=rfl
  refine bF rfl ((di.loop (by omega) _ _ (some (0,false)) (fun _=>rfl) s.size k 0 0 (by omega) (by omega) (by decide)).trans ?_)
  rw[ah]
  unfold bw
  cases hd:Go.Lib.decFrom 0 s.data.toList with
  |none=>rfl
  |some v=>
   show (bif decide ((v:Int)>1000000000000) then _ else _)=some (bif decide (1<=s.size)&&decide (s.size<=13)&&decide (v<=1000000000000)&&((iM (v:Int)).toList==s.toList) then ((v:Int),true) else (0,false))
   by_cases hv:v<=1000000000000
   ·refine bF aC (bS (aT.eq hk (show tf .i64 (v:Int) from Su (by omega) (by omega))) ?_)
    rw[ae (p:=1<=s.size) (by omega),ae (p:=s.size<=13) (by omega),ae hv]
    cases (iM (v:Int)).toList==s.toList<;>rfl
   ·refine bT ae ?_
    rw[aC hv,Bool.and_false,Bool.false_and];rfl
def GQ (w:BA):Bool:= !(w.toList==bE.toList)
def mM (s:BA):List BA:=(words s 32).filter GQ
theorem Cv (s:BA) (c:Int):(words s c).length<=s.size+1:=(AT s c s.size 0 0).1
theorem JJ (s:BA):(mM s).length<=s.size+1:=bx (List.length_filter_le _ _) (Cv s 32)
theorem Lv (s:BA): ∀w∈mM s,w.size<=s.size:=fun w hw=>Er s 32 _ _ _ w (List.mem_filter.1 hw).1
theorem fE.eq (hk:cy<=k) {s:BA} (hs:s.size<1048577):fE.f k s=some (mM s):=by
 have hl:=Cv s 32
 refine bS (cb.eq hk 32 hs) ?_
 have h:=scan (B:=List BA) (words s 32) (fun n b i=>fE.l3 k ((words s 32).length:Int) (words s 32) (fun x=>some x) n i b) (fun _ _=>true) (fun b a=>bif GQ a then b++[a] else b) (fun x=>some x) (fun _ _=>none) (fun i b=>b.length<=i)
  (fun n b i h hI=>by
    refine bV rfl (bT ae (cT (cg h) ?_))
    rw[aa,aN _ h,aK]
    show (bif GQ (words s 32)[i] then _ else _)=_
    cases GQ (words s 32)[i] with
    |false=>rfl
    |true=>exact bT rfl (bW (JF)))
  (fun b i h hI _=>by cases GQ (words s 32)[i]<;>simp<;>omega)
  (fun n b hI=>bV rfl (br aC))
  (words s 32).length 0 k [] (by omega) (by simp[cy] at hk;omega) (by simp)
 refine h.trans ?_
 rw[ah,bX,foldl_filter,aM];rfl
theorem JK (s:BA) {a i:Nat} (h:a<=i) (hi:i<s.size):s.extract a i++s.extract i (i+1)=s.extract a (i+1):=rn (by
 rw[nE,extract_data,extract_data,extract_data]
 have e:s.data.toList.take (i+1)=s.data.toList.take i++[s.data.toList[i]'(by rw[fC];exact hi)]:=be (by rw[fC];exact hi)
 have hl:=fC s
 rw[e,List.drop_append_of_le_length (by rw[aP];omega),List.drop_append_of_le_length (by rw[aP];omega),List.drop_of_length_le (l:=s.data.toList.take i) (i:=i) (by rw[aP];omega)]
 rfl)
theorem dY.loop (k:Nat) {s:BA} (hs:s.size<1048577) (e0:List BA->Option R):
 ∀(m n a i:Nat) (acc:List BA),i+m=s.size->m+1<n->a<=i->acc.length<=i->dY.l4 k s e0 n (s.extract a i) (i:Int) acc=e0 (acc++(wR s 32 m a i).filter GQ):=by
 intro m
 induction m with
 |zero=>
  intro n a i acc hi hn ha Hx
  obtain ⟨n,rfl⟩: ∃j,n=j+1+1:=⟨n-2,by omega⟩
  obtain rfl:i=s.size:=by omega
  refine xr rfl (bT ae (bF aC ?_))
  rw[aK]
  have stop: ∀w b,dY.l4 k s e0 (n+1) w ((s.size+1:Nat):Int) b=e0 b:=fun w b=>xr rfl (br aC)
  show (bif GQ (s.extract a s.size) then _ else _)=_
  unfold wR
  rw[List.filter_cons]
  cases GQ (s.extract a s.size) with
  |true=>exact bT rfl (cT (JF) (stop _ _))
  |false=>exact bF rfl ((stop _ _).trans (by simp))
 |succ m ih=>
  intro n a i acc hi hn ha Hx
  obtain ⟨n,rfl⟩: ∃j,n=j+1:=⟨n-1,by omega⟩
  have e32:((sb s i) != 32)= !(sb s i==32):=rfl
  refine xr rfl (bT ae (bT ae (cT (bA ae ae) ?_)))
  rw[aa,aK,aa,e32]
  unfold wR
  cases sb s i==32 with
  |false=>
   refine bT rfl (cT (bA ae ae) (cT (bA ae ae) (cT (ae ?_) ?_)))
   ·rw[ByteArray.size_extract,ByteArray.size_extract];unfold ia;omega
   ·rw[JK s ha (by omega)]
    exact ih n a (i+1) acc (by omega) (by omega) (by omega) (by omega)
  |true=>
   refine bF rfl ?_
   have ee:bE=s.extract (i+1) (i+1):=rn (by rw[extract_data,List.drop_of_length_le (by rw[aP];omega)];rfl)
   show (bif GQ (s.extract a i) then _ else _)=_
   simp only[ak]
   rw[List.filter_cons]
   cases GQ (s.extract a i) with
   |true=>
    refine bT rfl (cT (JF) ?_)
    rw[ee,ih n (i+1) (i+1) _ (by omega) (by omega) (by omega) (by simp;omega),bp];rfl
   |false=>
    refine bF rfl ?_
    rw[ee,ih n (i+1) (i+1) acc (by omega) (by omega) (by omega) (by omega)];rfl
theorem dY.eq (hk:cy<=k) {s:BA} (hs:s.size<1048577):dY.f k s=some (mM s):=by
 have e:bE=s.extract 0 0:=rn (by rw[extract_data];rfl)
 unfold dY.f
 rw[e]
 refine (dY.loop k hs _ s.size k 0 0 [] (by omega) (by simp[cy] at hk;omega) (ai _) (by simp)).trans ?_
 rw[aM];rfl
def nG (ws:List BA):Bool:=ws.all fun w=>(bw w).2
def qt (ws:List BA):LI:=ws.map fun w=>(bw w).1
theorem de.eq (hk:cy<=k) {ws:List BA} (hl:ws.length<1048577) (hs: ∀w∈ws,w.size<1048577): ∃v,de.f k ws=some (v,nG ws)/\(nG ws=true->v=qt ws):=by
 have key: ∀(m i n:Nat),i+m=ws.length->m<n-> ∃v,de.l3 k ws (fun x2=>some (x2,false)) (fun x3=>some (x3,true)) n (i:Int) (qt (ws.take i))=some (v,nG (ws.drop i))/\(nG (ws.drop i)=true->v=qt ws):=by
  intro m
  induction m with
  |zero=>
   intro i n hi hn
   obtain ⟨n,rfl⟩: ∃n',n=n' +1:=⟨n-1,by omega⟩
   refine ⟨qt (ws.take i),?_,fun _=>by rw[List.take_of_length_le (by omega)]⟩
   rw[List.drop_of_length_le (by omega)]
   exact bV rfl (br aC)
  |succ m ih=>
   intro i n hi hn
   obtain ⟨n,rfl⟩: ∃n',n=n' +1:=⟨n-1,by omega⟩
   have tu:i<ws.length:=by omega
   have hp:=di.eq hk (hs ws[i] (aj tu))
   have hlen:(qt (ws.take i)).length<=i:=by unfold qt;rw[ca,aP];omega
   have ed:nG (ws.drop i)=((bw ws[i]).2&&nG (ws.drop (i+1))):=by rw[drop_cons tu];rfl
   have pre: ∀X,_=X->de.l3 k ws (fun x2=>some (x2,false)) (fun x3=>some (x3,true)) (n+1) (i:Int) (qt (ws.take i))=X:=fun X hX=>bV rfl (bT ae (cT (cg tu) (bS (by rw[aa,aN _ tu];exact hp) hX)))
   rw[ed]
   cases hb:(bw ws[i]).2 with
   |false=>exact ⟨_,pre _ (jV (by rw[hb];rfl)),fun h=>by cases h⟩
   |true=>
    obtain ⟨v,h1,h2⟩:=ih (i+1) n (by omega) (by omega)
    refine ⟨v,pre _ (bF (by rw[hb];rfl) (cT (nY) ?_)),h2⟩
    rw[aK]
    have e:qt (ws.take i)++[(bw ws[i]).1] =qt (ws.take (i+1)):=by
     unfold qt
     rw[be tu,List.map_append];rfl
    rw[e];exact h1
 obtain ⟨v,h1,h2⟩:=key ws.length 0 k (by omega) (cd hk hl)
 exact ⟨v,h1,h2⟩
