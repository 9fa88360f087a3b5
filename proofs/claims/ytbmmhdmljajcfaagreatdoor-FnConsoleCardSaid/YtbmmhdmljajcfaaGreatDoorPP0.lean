/- Plain laws of the program's functions, joined. Conditions: as each theorem says. -/
import Derived.Test.YtbmmhdmljajcfaaGreatDoorKit
import Derived.Test.YtbmmhdmljajcfaaGreatDoorFFnConsole
import Derived.Test.YtbmmhdmljajcfaaGreatDoorFImplConsoleLine
import Derived.Test.YtbmmhdmljajcfaaGreatDoorVExt
set_option linter.unusedVariables false
set_option linter.unusedSimpArgs false
set_option linter.unusedSectionVars false
namespace Go.Proofs.YtbmmhdmljajcfaaGreatDoor
open Go Go.Proofs.YtbmmhdmljajcfaaGreatDoor.V
theorem aO.eq (k:Nat) (a lo hi:Int):aO.f k a lo hi=some (kH a lo hi):=by
 unfold aO.f kH
 by_cases h:lo<=a<;>simp[h]
theorem an.eq (k:Nat) (a lo hi:Int):an.f k a lo hi=some (kH a lo hi):=by
 unfold an.f kH
 by_cases h:lo<=a<;>simp[h]
def be (c:Int):Bool:=kH c 0 51
def br (c:Int):Int:=bif be c then c.tdiv 13 else-1
def bu (c:Int):Int:=bif be c then c.tmod 13 else-1
def K0 (c:Int):Bool:=kH (br c) 1 2
theorem dF {c:Int}:be c=true↔0<=c/\c<=51:=eA
theorem DH (c:Int): -1<=br c/\br c<=3:=by
 unfold br
 cases h:be c with
 |false=>simp
 |true=>
  have:=dF.1 h
  simp only[cond_true]
  rw[Int.tdiv_eq_ediv_of_nonneg this.1]
  omega
theorem yr (c:Int): -1<=bu c/\bu c<=12:=by
 unfold bu
 cases h:be c with
 |false=>simp
 |true=>
  have:=dF.1 h
  simp only[cond_true]
  rw[Int.tmod_eq_emod_of_nonneg this.1]
  omega
theorem cP.eq (k:Nat) (c:Int):cP.f k c=some (be c):=aa (aO.eq ..)
theorem aT.eq (k:Nat) (c:Int):aT.f k c=some (be c):=aa (an.eq ..)
theorem yt {c:Int} (h:be c=true):IntKind.wrap .i64 (c.tdiv 13)=c.tdiv 13:=by
 have:=dF.1 h
 have e:=Int.tdiv_eq_ediv_of_nonneg (b:=13) this.1
 exact wrap_i64 (by omega) (by omega)
theorem fR.eq (k:Nat) (c:Int):fR.f k c=some (br c):=by
 refine (aa (cP.eq ..)).trans ?_
 unfold br
 cases h:be c with
 |false=>rfl
 |true=>exact (ab rfl).trans (by rw[yt h];rfl)
theorem aZ.eq (k:Nat) (c:Int):aZ.f k c=some (br c):=by
 refine (aa (aT.eq ..)).trans ?_
 unfold br
 cases h:be c with
 |false=>rfl
 |true=>exact (ab rfl).trans (by rw[yt h];rfl)
theorem eQ.eq (k:Nat) (c:Int):eQ.f k c=some (bu c):=by
 refine (aa (cP.eq ..)).trans ?_
 unfold bu
 cases be c<;>rfl
theorem bN.eq (k:Nat) (c:Int):bN.f k c=some (bu c):=by
 refine (aa (aT.eq ..)).trans ?_
 unfold bu
 cases be c<;>rfl
theorem mh.eq (k:Nat) (c:Int):mh.f k c=some (K0 c):=(aa (fR.eq ..)).trans (aa (aO.eq ..))
theorem mj.eq (k:Nat) (c:Int):mj.f k c=some (K0 c):=by
 refine (aa (aZ.eq ..)).trans ?_
 unfold K0 kH
 by_cases h:br c=1
 ·rw[h];rfl
 ·refine (ab (by simpa using h)).trans ((aa (aZ.eq ..)).trans ?_)
  by_cases h2:br c=2
  ·rw[h2];rfl
  ·have e1:(br c==(2:Int))=false:=by simp[h2]
   have e2:(decide (1<=br c)&&decide (br c<=2))=false:=by
    by_cases h3:1<=br c
    ·rw[ae h3,aH (p:=br c<=2) (by omega)];rfl
    ·rw[aH h3];rfl
   rw[e1,e2]
def aU (l:List Int) (c:Int):Bool:=l.any fun x=>x==c
theorem He (l:List Int) (c:Int):(l.all fun x=> !(x==c))= !aU l c:=by
 unfold aU
 induction l with
 |nil=>rfl
 |cons a l ih=>rw[List.all_cons,List.any_cons,ih,Bool.not_or]
theorem bU.eq {k:Nat} (hk:cO<=k) {l:List Int} (c:Int) (hl:l.length<1073741824):bU.f k l c=some (aU l c):=by
 have h:=scan (B:=Unit) l (fun m b i=>bU.l2 k l c (some true) (some false) m i) (fun _ a=> !(a==c)) (fun b a=>b) (fun _=>some false) (fun _ _=>some true) (fun i b=>True)
  (fun m b i h hI=>by
    refine (bU.fQ ..).trans ((ai (ae (by omega))).trans ((af (bP h)).trans ?_))
    rw[Int.toNat_natCast,aD _ h,aL (by omega)]
    cases l[i]==c<;>rfl)
  (fun b i h hI hp=>trivial)
  (fun m b hI=>(bU.fQ ..).trans (ab (aH (by omega))))
  l.length 0 k () (by omega) (mR hk hl) trivial
 refine h.trans ?_
 rw[List.drop_zero,rr,He]
 cases aU l c<;>rfl
def o6:List Int->List Int->Bool
 |_,[]=>true
 |seen,a::l=>be a&& !aU seen a&&o6 (seen++[a]) l
def dx (l:List Int):Bool:=o6 [] l
theorem sX {B:Type} (sn:B->List Int) (g:B->Int->B) (hg: ∀b a,sn (g b a)=sn b++[a]): ∀(l:List Int) (b:B),run (fun b a=>be a&& !aU (sn b) a) g (fun _=>some true) (fun _ _=>some false) l b=some (o6 (sn b) l)
 | [],b=>rfl
 |a::l,b=>by
  show (bif (be a&& !aU (sn b) a) then run _ g _ _ l (g b a) else some false)=some (be a&& !aU (sn b) a&&o6 (sn b++[a]) l)
  rw[sX sn g hg l (g b a),hg]
  cases (be a&& !aU (sn b) a)<;>rfl
theorem bx.eq {k:Nat} (hk:cO<=k) {l:List Int} (hl:l.length<1073741824):bx.f k l=some (dx l):=by
 have h:=scan (B:=List Int) l (fun m b i=>bx.l2 k l (some false) (some true) m i) (fun b a=>be a&& !aU b a) (fun b a=>b++[a]) (fun _=>some true) (fun _ _=>some false) (fun i b=>b=l.take i)
  (fun m b i h hI=>by
    subst hI
    refine (bx.fQ ..).trans ((ai (ae (by omega))).trans ((af (bP h)).trans ?_))
    rw[Int.toNat_natCast,aD _ h,aL (by omega)]
    refine (aa (cP.eq ..)).trans ?_
    cases be l[i] with
    |false=>rfl
    |true=>
     refine (ab rfl).trans ((af (bi (ae (by omega)) (ae (by omega)))).trans ((af (bP h)).trans ((aa (bU.eq hk _ (by rw[List.length_take];omega))).trans ?_)))
     cases aU (l.take i) l[i]<;>rfl)
  (fun b i h hI hp=>by subst hI;exact (List.take_succ_eq_append_getElem h).symm)
  (fun m b hI=>(bx.fQ ..).trans (ab (aH (by omega))))
  l.length 0 k [] (by omega) (mR hk hl) rfl
 refine h.trans ?_
 rw[List.drop_zero,sX (fun b=>b) _ (fun _ _=>rfl)]
 rfl
theorem wR (l:List Int) (a c:Int):aU (l++[a]) c=(aU l c||(a==c)):=by simp[aU]
theorem aB.eq {k:Nat} (hk:cO<=k) {l:List Int} (hl:l.length<1073741824):aB.f k l=some (dx l):=by
 have h:=scan (B:=List Bool×List Int) l (fun m b i=>aB.l3 k l (l.length:Int) (some false) (some true) m i b.1) (fun b a=>be a&& !aU b.2 a) (fun b a=>(b.1.set a.toNat true,b.2++[a])) (fun _=>some true) (fun _ _=>some false)
  (fun i b=>b.1.length=52/\ ∀c,be c=true->b.1.getD c.toNat false=aU b.2 c)
  (fun m b i h hI=>by
    refine (aB.aA ..).trans ((ai (ae (by omega))).trans ((af (bP h)).trans ?_))
    rw[Int.toNat_natCast,aD _ h,aL (by omega)]
    refine (aa (aT.eq ..)).trans ?_
    cases hc:be l[i] with
    |false=>rfl
    |true=>
     have hb:=dF.1 hc
     refine (ab rfl).trans ((af (bi (ae (by omega)) (ae (by omega)))).trans ?_)
     rw[hI.2 _ hc]
     cases aU b.2 l[i] with
     |true=>rfl
     |false=>exact (ab rfl).trans (af (bi (ae (by omega)) (ae (by omega)))))
  (fun b i h hI hp=>by
    obtain ⟨hc,_⟩:=Bool.and_eq_true_iff.1 hp
    have hb:=dF.1 hc
    refine ⟨by simpa using hI.1,fun c Hf=> ?_⟩
    have pJ:=dF.1 Hf
    rw[wR,<- hI.2 c Hf]
    by_cases e:l[i] =c
    ·subst e
     rw[Bd _ _ (by omega)]
     simp
    ·have e1:(l[i]==c)=false:=by simp[e]
     have e2: ¬l[i].toNat=c.toNat:=by omega
     rw[e1,Bool.or_false,List.getD_eq_getElem?_getD,List.getElem?_set,if_neg e2,<- List.getD_eq_getElem?_getD])
  (fun m b hI=>(aB.aA ..).trans (ab (aH (by omega))))
  l.length 0 k (List.replicate 52 false,[]) (by omega) (mR hk hl) ⟨by simp,fun c hc=>by
   have hb:=dF.1 hc
   rw[List.getD_eq_getElem?_getD,List.getElem?_replicate]
   have:c.toNat<52:=by omega
   simp[this,aU]⟩
 refine Eq.trans ?_ (h.trans ?_)
 ·rfl
 ·rw[List.drop_zero]
  exact sX (fun b:List Bool×List Int=>b.2) _ (fun _ _=>rfl) l _
def fM (l:List Int) (c:Int):List Int:=l.filter fun x=>x != c
theorem dN.eq {k:Nat} (hk:cO<=k) {l:List Int} (c:Int) (hl:l.length<1048577):dN.f k l c=some (fM l c):=by
 have h:=scan (B:=List Int) l (fun m b i=>dN.l3 k l c (fun x1=>some x1) m i b) (fun _ _=>true) (fun b a=>bif a != c then b++[a] else b) (fun x1=>some x1) (fun _ _=>none) (fun i b=>b.length<=i)
  (fun m b i h hI=>by
    refine (dN.aA ..).trans ((ai (ae (by omega))).trans ((af (bP h)).trans ?_))
    rw[Int.toNat_natCast,aD _ h,aL (by omega)]
    cases (l[i] != c) with
    |false=>rfl
    |true=>exact (ai rfl).trans ((af (bP h)).trans (af (ae (by simp[room];omega)))))
  (fun b i h hI _=>by cases (l[i] != c)<;>simp<;>omega)
  (fun m b hI=>(dN.aA ..).trans (ab (aH (by omega))))
  l.length 0 k [] (by omega) (bV hk hl) (by simp)
 refine h.trans ?_
 rw[List.drop_zero,bX]
 have key: ∀(l b:List Int),l.foldl (fun b a=>bif a != c then b++[a] else b) b=b++fM l c:=by
  intro l
  induction l with
  |nil=>intro b;simp[fM]
  |cons a l ih=>
   intro b
   rw[List.foldl_cons,ih]
   unfold fM
   rw[List.filter_cons]
   cases (a != c)<;>simp
 rw[key,List.nil_append]
theorem mz {l:List Int} {c:Int}:aU l c=true↔c∈l:=by
 unfold aU
 rw[List.any_eq_true]
 constructor
 ·rintro ⟨x,hx,e⟩
  rw[beq_iff_eq] at e;subst e;exact hx
 ·intro h;exact ⟨c,h,by simp⟩
theorem rz {l:List Int} {c:Int}:aU l c=false↔c∉l:=by
 rw[<- mz];cases aU l c<;>simp
theorem Bi: ∀(l seen:List Int),o6 seen l=true↔(∀x∈l,be x=true)/\l.Nodup/\ ∀x∈l,x∉seen
 | [],seen=>by simp[o6]
 |a::l,seen=>by
  rw[o6,Bool.and_eq_true,Bool.and_eq_true,Bi l (seen++[a])]
  constructor
  ·rintro ⟨⟨h1,h2⟩,h3,h4,h5⟩
   have Yz:a∉seen:=rz.1 (by simpa using h2)
   refine ⟨fun x hx=> ?_,List.nodup_cons.2 ⟨fun h=>h5 a h (by simp),h4⟩,fun x hx=> ?_⟩
   ·rcases List.mem_cons.1 hx with rfl|hx
    ·exact h1
    ·exact h3 x hx
   ·rcases List.mem_cons.1 hx with rfl|hx
    ·exact Yz
    ·exact fun h=>h5 x hx (by simp[h])
  ·rintro ⟨h1,h2,h3⟩
   obtain ⟨h4,h5⟩:=List.nodup_cons.1 h2
   refine ⟨⟨h1 a (by simp),by rw[rz.2 (h3 a (by simp))];rfl⟩,fun x hx=>h1 x (by simp[hx]),h5,fun x hx h=> ?_⟩
   rcases List.mem_append.1 h with h|h
   ·exact h3 x (by simp[hx]) h
   ·obtain rfl:=List.mem_singleton.1 h;exact h4 hx
theorem i_ {l:List Int}:dx l=true↔(∀x∈l,be x=true)/\l.Nodup:=by
 unfold dx
 rw[Bi]
 simp
theorem sY {l l':List Int} (h:l.Perm l'):dx l=dx l':=by
 rw[Bool.eq_iff_iff,i_,i_,h.nodup_iff]
 simp only[h.mem_iff]
theorem vb: ∀(N:Nat) (l:List Int),l.Nodup->(∀x∈l,0<=x/\x<(N:Int))->l.length<=N
 |0,l,h,h2=>by
  cases l with
  |nil=>simp
  |cons a l=>have:=h2 a (by simp);omega
 |N+1,l,h,h2=>by
  have h3:=vb N (l.erase (N:Int)) (h.erase _) (fun x hx=>by
   have h4:=(h.mem_erase_iff).1 hx
   have:=h2 x h4.2
   have:x≠(N:Int):=h4.1
   omega)
  have:=List.length_erase (a:=(N:Int)) (l:=l)
  split at this<;>omega
theorem ul {l:List Int} (h:dx l=true):l.length<=52:=by
 obtain ⟨h1,h2⟩:=i_.1 h
 exact vb 52 l h2 (fun x hx=>by have:=dF.1 (h1 x hx);omega)
def whole (ls:List (List Int)):Bool:=dx ls.flatten&&((ls.flatten.length:Int)==52)
theorem Bj {a b:List (List Int)} (h:a.flatten.Perm b.flatten):whole a=whole b:=by
 unfold whole
 rw[sY h,h.length_eq]
theorem DI {ls:List (List Int)} (h:whole ls=true):ls.flatten.length=52:=by
 unfold whole at h
 rw[Bool.and_eq_true,beq_iff_eq] at h
 omega
theorem Hg {ls:List (List Int)} (h:whole ls=true):ls.flatten.Nodup:=by
 unfold whole at h
 rw[Bool.and_eq_true] at h
 exact (i_.1 h.1).2
theorem Hh {ls:List (List Int)} {l:List Int} (h:l∈ls):l.length<=ls.flatten.length:=by
 induction ls with
 |nil=>cases h
 |cons a ls ih=>
  rw[List.flatten_cons,List.length_append]
  rcases List.mem_cons.1 h with rfl|h
  ·omega
  ·have:=ih h;omega
theorem sZ: ∀(hs:List (List Int)) (t:Nat) (x:List Int) (h:t<hs.length),∃q:List Int,hs.flatten.Perm (hs[t]++q)/\(hs.set t x).flatten.Perm (x++q)
 |a::l,0,x,h=>⟨l.flatten,by simp,by simp⟩
 |a::l,t+1,x,h=>by
  obtain ⟨q,h1,h2⟩:=sZ l t x (by simpa using h)
  refine ⟨a++q,?_,?_⟩
  ·rw[List.flatten_cons,List.getElem_cons_succ]
   exact (h1.append_left a).trans (List.perm_append_comm_assoc _ _ _)
  ·rw[List.set_cons_succ,List.flatten_cons]
   exact (h2.append_left a).trans (List.perm_append_comm_assoc _ _ _)
theorem wS: ∀ {l:List Int} {c:Int},l.Nodup->c∈l->l.Perm (fM l c++[c])
 |a::l,c,h,hc=>by
  obtain ⟨h1,h2⟩:=List.nodup_cons.1 h
  unfold fM
  rw[List.filter_cons]
  by_cases e:a=c
  ·subst e
   have e1:(a != a)=false:=by simp
   have e2:l.filter (fun x=>x != a)=l:=List.filter_eq_self.2 (fun x hx=>by
    have:x≠a:=fun q=>h1 (q ▸ hx)
    simpa using this)
   rw[e1,e2]
   exact (List.perm_append_comm (l₁:=[a]) (l₂:=l))
  ·have e1:(a != c)=true:=by simp[e]
   rw[e1]
   have Hf:c∈l:=by
    rcases List.mem_cons.1 hc with q|q
    ·exact absurd q.symm e
    ·exact q
   exact (wS h2 Hf).cons a
theorem s_ (l:List Int) (c:Int):(fM l c).length<=l.length:=List.length_filter_le _ _
def oi (c:Int) (v:List Int):Nat->Nat
 |0=>0
 |k+1=>bif decide (v.getD k 0>c) then oi c v k else k+1
theorem wT (c:Int) (v:List Int): ∀k,oi c v k<=k
 |0=>Nat.le_refl _
 |k+1=>by
  have:=wT c v k
  unfold oi
  cases decide (v.getD k 0>c) with
  |true=>simp only[cond_true];omega
  |false=>simp only[cond_false];omega
def qI (v:List Int) (c:Int):List Int:=v.take (oi c v v.length)++c::v.drop (oi c v v.length)
def cW (l:List Int):List Int:=l.foldl qI []
theorem Hi (v:List Int) (c:Int):(qI v c).length=v.length+1:=by
 have:=wT c v v.length
 simp[qI];omega
theorem OP {v:List Int} {j:Nat} (d c:Int) (hj:j<=v.length) (n:Nat) (hn:n=(v++[d]).length):
 (((v++[d]).take (j+1))++(((((v++[d]).take n).drop j).take (n-(j+1)))++((v++[d]).drop ((j+1)+(min (n-j) (n-(j+1))))))).set j c=v.take j++c::v.drop j:=by
 have hm:n=v.length+1:=by rw[hn];simp
 have e1:(v++[d]).take n=v++[d]:=List.take_of_length_le (by simp;omega)
 have e2:(v++[d]).drop ((j+1)+(min (n-j) (n-(j+1))))=[]:=List.drop_eq_nil_of_le (by simp;omega)
 have e3:((v++[d]).drop j).take (n-(j+1))=v.drop j:=by
  rw[List.drop_append_of_le_length hj,List.take_append_of_le_length (by simp;omega),List.take_of_length_le (by simp;omega)]
 rw[e1,e2,e3,List.append_nil,List.set_eq_take_append_cons_drop]
 have hl:((v++[d]).take (j+1)).length=j+1:=by simp;omega
 rw[if_pos (by rw[List.length_append,hl];omega)]
 congr 1
 ·rw[List.take_append_of_le_length (by omega),List.take_take,show min j (j+1)=j by omega,List.take_append_of_le_length hj]
 ·rw[List.drop_append,hl,Nat.sub_self,List.drop_zero,List.drop_eq_nil_of_le (by omega),List.nil_append]
theorem aX.inner {R:Type} (k:Nat) (c:Int) (v:List Int) (e0:Int->Option R) (hv:v.length<1048577): ∀(j n:Nat),j<=v.length->j<n->aX.l6 k c v e0 n (j:Int)=e0 ((oi c v j:Nat):Int):=by
 intro j
 induction j with
 |zero=>
  intro n hj hn
  obtain ⟨n,rfl⟩: ∃n',n=n' +1:=⟨n-1,by omega⟩
  exact (aX.iz ..).trans (ab (aH (by omega)))
 |succ j ih=>
  intro n hj hn
  obtain ⟨n,rfl⟩: ∃n',n=n' +1:=⟨n-1,by omega⟩
  refine (aX.iz ..).trans ((ai (ae (by omega))).trans ?_)
  have e:IntKind.wrap .i64 (((j+1:Nat):Int)-1)=(j:Int):=by rw[wrap_i64 (by omega) (by omega)];omega
  rw[e]
  refine (af (bP (by omega))).trans ?_
  rw[Int.toNat_natCast]
  unfold oi
  cases h:decide (v.getD j 0>c) with
  |true=>exact (ai rfl).trans (ih n (by omega) (by omega))
  |false=>rfl
theorem aX.eq {k:Nat} (hk:cO<=k) {l:List Int} (hl:l.length<1048577):aX.f k l=some (cW l):=by
 have h:=scan (B:=List Int) l (fun m b i=>aX.l3 k l (l.length:Int) (fun x2=>some x2) m i b) (fun _ _=>true) qI (fun x2=>some x2) (fun _ _=>none) (fun i b=>b.length=i)
  (fun m b i h hI=>by
    have hp:=wT l[i] b b.length
    have hb:b.length<1048577:=by omega
    refine (aX.aA ..).trans ((ai (ae (by omega))).trans ((af (bP h)).trans ?_))
    rw[Int.toNat_natCast,aD _ h]
    refine (aX.inner k l[i] b _ hb b.length k (Nat.le_refl _) (bV hk hb)).trans ?_
    have hx:(((b++[(0:Int)]).length:Nat):Int)=((b.length+1:Nat):Int):=by simp
    refine (af (ae (by simp[room];omega))).trans ?_
    refine (af (bi (ae (by omega)) (ae (by omega)))).trans ?_
    rw[aL (by omega)]
    refine (af (bi (ae (by omega)) (ae (by omega)))).trans ?_
    refine (af (bi (ae (by omega)) (ae (by omega)))).trans ?_
    refine (af (bi (ae (by omega)) (ae (by omega)))).trans ?_
    have hex:=fun c=>OP (v:=b) (j:=oi l[i] b b.length) 0 c hp (b++[(0:Int)]).length rfl
    rw[Int.toNat_natCast,Int.toNat_natCast,Int.toNat_natCast]
    refine (af (bi (ae (by omega)) (ae ?_))).trans ?_
    ·have:=congrArg List.length (hex 0)
     rw[List.length_set] at this
     rw[this];simp;omega
    ·rw[hex,aL (by omega)]
     rfl)
  (fun b i h hI _=>by rw[Hi];omega)
  (fun m b hI=>(aX.aA ..).trans (ab (aH (by omega))))
  l.length 0 k [] (by omega) (bV hk hl) rfl
 refine h.trans ?_
 rw[List.drop_zero,bX]
 rfl
def jW (a:Int):Bool:=kH a 100 103||kH a 200 212||kH a 300 312||(a==400)
theorem kf.eq (k:Nat) (a:Int):kf.f k a=some (jW a):=by
 unfold kf.f jW
 simp only[aO.eq,Option.bind_some]
 cases kH a 100 103<;>cases kH a 200 212<;>cases kH a 300 312<;>rfl
theorem kh.eq (k:Nat) (a:Int):kh.f k a=some (jW a):=by
 unfold kh.f jW
 simp only[an.eq,Option.bind_some]
 cases kH a 100 103<;>cases kH a 200 212<;>cases kH a 300 312<;>rfl
def il (d a:Int):Bool:=jW a||((a== -1)&&decide (1<=d))||((a== -2||a== -3)&&decide (2<=d))
def j6 (d a:Int):Int:=bif jW a then d+1 else bif a== -1 then d else d-1
def mA:List Int->Int->Bool
 | [],d=>d==1
 |a::l,d=>il d a&&mA l (j6 d a)
theorem EU (q:Bool): ∀(l:List Int) (d:Int),run il j6 (fun d=>some ((d==1)&&q)) (fun _ _=>some false) l d=some (mA l d&&q)
 | [],d=>rfl
 |a::l,d=>by
  show (bif il d a then run il j6 _ _ l (j6 d a) else some false)=some (il d a&&mA l (j6 d a)&&q)
  rw[EU q l (j6 d a)]
  cases il d a<;>rfl
theorem wU {d a:Int} (h:il d a=true) (h0:0<=d):0<=j6 d a/\j6 d a<=d+1:=by
 unfold il at h
 cases hl:jW a with
 |true=>have e:j6 d a=d+1:=by unfold j6;rw[hl];rfl
        omega
 |false=>
  by_cases h1:a= -1
  ·have e:j6 d a=d:=by unfold j6;rw[hl,h1];rfl
   omega
  ·have Vk:(a==(-1:Int))=false:=by simp[h1]
   have e:j6 d a=d-1:=by unfold j6;rw[hl,Vk];rfl
   rw[hl,Vk] at h
   simp at h
   omega
theorem DJ {R:Type} (d a:Int) (X Y Z W:Option R) (hX:jW a=true->X=W) (hY:a= -1->Y=W) (hZ:(a= -2\/a= -3)->Z=W) (e:Option R) (hle:jW a=true->a≠ -1/\a≠ -2/\a≠ -3):
 (bif jW a then X else bif (a==(-1:Int)) then (bif decide (d>=1) then Y else bif (a==(-2:Int)) then (bif decide (d>=2) then Z else e) else bif (a==(-3:Int)) then (bif decide (d>=2) then Z else e) else e) else bif (a==(-2:Int)) then (bif decide (d>=2) then Z else e) else bif (a==(-3:Int)) then (bif decide (d>=2) then Z else e) else e)=bif il d a then W else e:=by
 unfold il
 cases hl:jW a with
 |true=>simp[hX hl]
 |false=>
  by_cases h1:a= -1
  ·subst h1
   by_cases hd:1<=d<;>simp[hd,hY rfl]
  ·by_cases h2:a= -2
   ·subst h2
    by_cases hd:2<=d<;>simp[hd,hZ (.inl rfl)]
   ·by_cases h3:a= -3
    ·subst h3
     by_cases hd:2<=d<;>simp[hd,hZ (.inr rfl)]
    ·have e1:(a==(-1:Int))=false:=by simp[h1]
     have e2:(a==(-2:Int))=false:=by simp[h2]
     have e3:(a==(-3:Int))=false:=by simp[h3]
     rw[e1,e2,e3]
     rfl
theorem wV {a:Int} (h:jW a=true):a≠ -1/\a≠ -2/\a≠ -3:=by
 refine ⟨?_,?_,?_⟩<;>rintro rfl<;>exact absurd h (by decide)
def fu (l:List Int):Bool:=mA l 0&&decide ((l.length:Int)<=20)
theorem bR.eq {k:Nat} (hk:cO<=k) {l:List Int} (hl:l.length<1048577):bR.f k l=some (fu l):=by
 have h:=scan (B:=Int) l (fun m b i=>bR.l3 k l (fun x2=>some false) (fun x3=>bif (x3==(1:Int)) then some (decide ((l.length:Int)<=(20:Int))) else some false) m b i) il j6 (fun d=>some ((d==1)&&decide ((l.length:Int)<=20))) (fun _ _=>some false) (fun i b=>0<=b/\b<=(i:Int))
  (fun m b i h hI=>by
    refine (bR.aA ..).trans ?_
    refine (ai (ae (by omega))).trans ?_
    refine (af (bP h)).trans ?_
    rw[Int.toNat_natCast,aD _ h]
    refine (aa (kf.eq ..)).trans ?_
    simp only[af (bP h)]
    rw[aL (by omega),wrap_i64 (n:=b+1) (by omega) (by omega),wrap_i64 (n:=b-1) (by omega) (by omega)]
    refine DJ b l[i] _ _ _ _ (fun e=>by unfold j6;rw[e];rfl) (fun e=>by unfold j6;rw[e];rfl) (fun e=>by unfold j6;rcases e with e|e<;>rw[e]<;>rfl) _ wV)
  (fun b i h hI hp=>by have:=wU hp hI.1;constructor<;>omega)
  (fun m b hI=>(bR.aA ..).trans ((ab (aH (by omega))).trans (by show (bif (b==(1:Int)) then _ else _)=_;cases (b==(1:Int))<;>rfl)))
  l.length 0 k 0 (by omega) (bV hk hl) (by simp)
 refine h.trans ?_
 rw[List.drop_zero,EU]
 rfl
theorem bq.eq {k:Nat} (hk:cO<=k) {l:List Int} (hl:l.length<1048577):bq.f k l=some (fu l):=by
 have h:=scan (B:=Int) l (fun m b i=>bq.l3 k l (l.length:Int) (fun x2=>some false) (fun x3=>(an.f k (l.length:Int) (1:Int) (20:Int)).bind fun r4=>bif r4 then some (x3==(1:Int)) else some false) m b i) il j6 (fun d=>some ((d==1)&&kH (l.length:Int) 1 20)) (fun _ _=>some false) (fun i b=>0<=b/\b<=(i:Int))
  (fun m b i h hI=>by
    refine (bq.aA ..).trans ?_
    refine (ai (ae (by omega))).trans ?_
    refine (af (bP h)).trans ?_
    rw[Int.toNat_natCast,aD _ h]
    refine (aa (kh.eq ..)).trans ?_
    rw[aL (by omega),wrap_i64 (n:=b+1) (by omega) (by omega),wrap_i64 (n:=b-1) (by omega) (by omega)]
    refine DJ b l[i] _ _ _ _ (fun e=>by unfold j6;rw[e];rfl) (fun e=>by unfold j6;rw[e];rfl) (fun e=>by unfold j6;rcases e with e|e<;>rw[e]<;>rfl) _ wV)
  (fun b i h hI hp=>by have:=wU hp hI.1;constructor<;>omega)
  (fun m b hI=>(bq.aA ..).trans ((ab (aH (by omega))).trans ((aa (an.eq ..)).trans (by cases kH (l.length:Int) 1 20<;>simp))))
  l.length 0 k 0 (by omega) (bV hk hl) (by simp)
 refine h.trans ?_
 rw[List.drop_zero,EU]
 unfold fu kH
 cases l with
 |nil=>rfl
 |cons a l=>
  have e:decide ((1:Int)<=((a::l).length:Int))=true:=ae (by simp;omega)
  rw[e];rfl
def ja (l:List Int):Bool:=((l.length:Int)==0)||fu l
theorem eJ.eq {k:Nat} (hk:cO<=k) {l:List Int} (hl:l.length<1048577):eJ.f k l=some (ja l):=by
 unfold eJ.f ja
 rw[bR.eq hk hl]
 cases ((l.length:Int)==0)<;>rfl
theorem gj.eq {k:Nat} (hk:cO<=k) {l:List Int} (hl:l.length<1048577):gj.f k l=some (ja l):=by
 unfold gj.f ja
 rw[bq.eq hk hl]
 cases ((l.length:Int)==0)<;>rfl
def oz (n c:Int) (b1 b2:Bool) (w f:List Int) (m t:Int):Bool:=kH n 2 6&&kH c 1 8&&(b1||b2)&&ja w&&ja f&&kH m 1 4&&kH t 1 400
theorem dz.eq {k:Nat} (hk:cO<=k) (n c:Int) (b1 b2:Bool) {w f:List Int} (m t:Int) (hw:w.length<1048577) (hf:f.length<1048577):dz.f k n c b1 b2 w f m t=some (oz n c b1 b2 w f m t):=by
 unfold dz.f oz
 simp only[aO.eq,eJ.eq hk hw,eJ.eq hk hf,Option.bind_some]
 cases kH n 2 6<;>cases kH c 1 8<;>cases b1<;>cases b2<;>cases ja w<;>cases ja f<;>cases kH m 1 4<;>rfl
theorem cd.eq {k:Nat} (hk:cO<=k) (n c:Int) (b1 b2:Bool) {w f:List Int} (m t:Int) (hw:w.length<1048577) (hf:f.length<1048577):cd.f k n c b1 b2 w f m t=some (oz n c b1 b2 w f m t):=by
 unfold cd.f oz
 simp only[an.eq,gj.eq hk hw,gj.eq hk hf,Option.bind_some]
 cases kH n 2 6<;>cases kH c 1 8<;>cases b1<;>cases b2<;>cases ja w<;>cases ja f<;>cases kH m 1 4<;>rfl
def MH (a c:Int):Bool:=bif a==400 then K0 c else bif decide (a>=300) then decide (bu c>=IntKind.wrap .i64 (a-300)) else bif decide (a>=200) then bu c==IntKind.wrap .i64 (a-200) else br c==IntKind.wrap .i64 (a-100)
theorem jq.eq (k:Nat) (a c:Int):jq.f k a c=some (MH a c):=by
 unfold jq.f MH
 simp only[mh.eq,eQ.eq,fR.eq,Option.bind_some]
 cases (a==(400:Int))<;>cases decide (a>=300)<;>cases decide (a>=200)<;>rfl
theorem my.eq (k:Nat) (a c:Int):my.f k a c=some (MH a c):=by
 unfold my.f MH
 simp only[mj.eq,bN.eq,aZ.eq,Option.bind_some]
 cases (a==(400:Int))<;>cases decide (a>=300)<;>cases decide (a>=200)<;>rfl
def vc (c:Int) (st:List Bool) (a:Int):List Bool:=
 bif a== -1 then st.set (st.length-1) (!(st.getD (st.length-1) false))
 else bif a== -2 then st.take (st.length-2)++[bif st.getD (st.length-2) false then st.getD (st.length-1) false else false]
 else bif a== -3 then st.take (st.length-2)++[bif st.getD (st.length-2) false then true else st.getD (st.length-1) false]
 else st++[MH a c]
theorem EV (c:Int) (st:List Bool) {a:Int} (h:a= -1):vc c st a=st.set (st.length-1) (!(st.getD (st.length-1) false)):=by subst h;rfl
theorem EW (c:Int) (st:List Bool) {a:Int} (h:a= -2):vc c st a=st.take (st.length-2)++[bif st.getD (st.length-2) false then st.getD (st.length-1) false else false]:=by subst h;rfl
theorem EX (c:Int) (st:List Bool) {a:Int} (h:a= -3):vc c st a=st.take (st.length-2)++[bif st.getD (st.length-2) false then true else st.getD (st.length-1) false]:=by subst h;rfl
theorem EY (c:Int) (st:List Bool) {a:Int} (h1:a≠ -1) (h2:a≠ -2) (h3:a≠ -3):vc c st a=st++[MH a c]:=by
 unfold vc
 rw[show (a==(-1:Int))=false by simp[h1],show (a==(-2:Int))=false by simp[h2],show (a==(-3:Int))=false by simp[h3]]
 rfl
theorem K1 {d:Nat} (h:il (d:Int) (-1)=true):1<=d:=by
 have e:jW (-1)=false:=by decide
 unfold il at h;rw[e] at h;simp at h;omega
theorem EZ {d:Nat} (h:il (d:Int) (-2)=true):2<=d:=by
 have e:jW (-2)=false:=by decide
 unfold il at h;rw[e] at h;simp at h;omega
theorem E1 {d:Nat} (h:il (d:Int) (-3)=true):2<=d:=by
 have e:jW (-3)=false:=by decide
 unfold il at h;rw[e] at h;simp at h;omega
theorem yu (c:Int) (st:List Bool) (a:Int) (h:il (st.length:Int) a=true):((vc c st a).length:Int)=j6 (st.length:Int) a:=by
 by_cases h1:a= -1
 ·subst h1;rw[EV c st rfl,show j6 (st.length:Int) (-1)=st.length from rfl];simp
 ·by_cases h2:a= -2
  ·subst h2;have:=EZ h;rw[EW c st rfl,show j6 (st.length:Int) (-2)=(st.length:Int)-1 from rfl];simp;omega
  ·by_cases h3:a= -3
   ·subst h3;have:=E1 h;rw[EX c st rfl,show j6 (st.length:Int) (-3)=(st.length:Int)-1 from rfl];simp;omega
   ·rw[EY c st h1 h2 h3]
    unfold il at h
    unfold j6
    cases e:jW a with
    |true=>simp
    |false=>rw[e] at h;simp[h1,h2,h3] at h
theorem yv (c:Int): ∀(l:List Int) (st:List Bool),mA l (st.length:Int)=true->((l.foldl (vc c) st).length:Int)=1
 | [],st,h=>by simpa[mA] using h
 |a::l,st,h=>by
  obtain ⟨h1,h2⟩:=Bool.and_eq_true_iff.1 h
  rw[List.foldl_cons]
  exact yv c l _ (by rw[yu c st a h1];exact h2)
theorem qJ {n:Nat} (h:1<=n) (h2:n<4611686018427387904):IntKind.wrap .i64 ((n:Int)-1)=((n-1:Nat):Int):=by rw[wrap_i64 (by omega) (by omega)];omega
theorem wW {n:Nat} (h:2<=n) (h2:n<4611686018427387904):IntKind.wrap .i64 ((n:Int)-2)=((n-2:Nat):Int):=by rw[wrap_i64 (by omega) (by omega)];omega
def mT (l:List Int) (c:Int):Bool:=bif fu l then bif be c then (l.foldl (vc c) []).getD 0 false else false else false
theorem cc.eq {k:Nat} (hk:cO<=k) {l:List Int} (c:Int) (hl:l.length<1048577):cc.f k l c=some (mT l c):=by
 unfold mT
 refine (aa (bR.eq hk hl)).trans ?_
 cases hp:fu l with
 |false=>rfl
 |true=>
  refine (ab rfl).trans ((aa (cP.eq ..)).trans ?_)
  cases hc:be c with
  |false=>rfl
  |true=>
   refine (ab rfl).trans ?_
   have Wl:mA l 0=true:=by unfold fu at hp;simp only[Bool.and_eq_true] at hp;exact hp.1
   have h:=scan (B:=List Bool) l (fun m b i=>cc.l5 k l c (fun x4=>ay (decide ((0:Int)<(x4.length:Int)))<|some (x4.getD 0 false)) m i b) (fun _ _=>true) (vc c) (fun x4=>ay (decide ((0:Int)<(x4.length:Int)))<|some (x4.getD 0 false)) (fun _ _=>none) (fun i b=>mA (l.drop i) (b.length:Int)=true/\b.length<=i)
    (fun m b i h hI=>by
      obtain ⟨hI,hle⟩:=hI
      rw[drop_cons h] at hI
      obtain ⟨ho,_⟩:=Bool.and_eq_true_iff.1 hI
      refine (cc.bp ..).trans ?_
      refine (ai (ae (by omega))).trans ?_
      refine (af (bP h)).trans ?_
      rw[Int.toNat_natCast,aD _ h,aL (by omega)]
      simp only[cond_true]
      by_cases h1:l[i] = -1
      ·have hd:=K1 (h1 ▸ ho)
       refine (ai (by simp[h1])).trans ?_
       rw[qJ (by omega) (by omega)]
       refine (af (bP (by omega))).trans ((af (bP (by omega))).trans ?_)
       rw[Int.toNat_natCast,EV c b h1]
      ·refine (ab (by simp[h1])).trans ?_
       by_cases h2:l[i] = -2
       ·have hd:=EZ (h2 ▸ ho)
        refine (ai (by simp[h2])).trans ?_
        rw[qJ (by omega) (by omega),wW (by omega) (by omega)]
        refine (af (bi (ae (by omega)) (ae (by omega)))).trans ((af (ae (by omega))).trans ((af (bP (by omega))).trans ?_))
        rw[Int.toNat_natCast,Int.toNat_natCast,EW c b h2]
        cases e:b.getD (b.length-2) false with
        |true=>exact (ai rfl).trans ((af (bP (by omega))).trans (af (ae (by simp[room];omega))))
        |false=>exact (ab rfl).trans (af (ae (by simp[room];omega)))
       ·refine (ab (by simp[h2])).trans ?_
        by_cases h3:l[i] = -3
        ·have hd:=E1 (h3 ▸ ho)
         refine (ai (by simp[h3])).trans ?_
         rw[qJ (by omega) (by omega),wW (by omega) (by omega)]
         refine (af (bi (ae (by omega)) (ae (by omega)))).trans ((af (ae (by omega))).trans ((af (bP (by omega))).trans ?_))
         rw[Int.toNat_natCast,Int.toNat_natCast,EX c b h3]
         cases e:b.getD (b.length-2) false with
         |true=>exact (ai rfl).trans (af (ae (by simp[room];omega)))
         |false=>exact (ab rfl).trans ((af (bP (by omega))).trans (af (ae (by simp[room];omega))))
        ·refine (ab (by simp[h3])).trans ?_
         refine (af (bP h)).trans ?_
         refine (aa (jq.eq ..)).trans ?_
         refine (af (ae (by simp[room];omega))).trans ?_
         rw[EY c b h1 h2 h3])
    (fun b i h hI _=>by
      obtain ⟨hI,hle⟩:=hI
      rw[drop_cons h] at hI
      obtain ⟨ho,hr⟩:=Bool.and_eq_true_iff.1 hI
      have hs:=yu c b l[i] ho
      have:=wU ho (by omega)
      exact ⟨by rw[hs];exact hr,by omega⟩)
    (fun m b hI=>(cc.bp ..).trans (ab (aH (by omega))))
    l.length 0 k [] (by omega) (bV hk hl) ⟨by simpa using Wl,by simp⟩
   refine h.trans ?_
   rw[List.drop_zero,bX]
   have hf:=yv c l [] (by simpa using Wl)
   exact af (ae (by omega))
theorem bF.eq {k:Nat} (hk:cO<=k) {l:List Int} (c:Int) (hl:l.length<1048577):bF.f k l c=some (mT l c):=by
 unfold mT
 refine (aa (bq.eq hk hl)).trans ?_
 cases hp:fu l with
 |false=>rfl
 |true=>
  refine (ab rfl).trans ((aa (aT.eq ..)).trans ?_)
  cases hc:be c with
  |false=>rfl
  |true=>
   refine (ab rfl).trans ?_
   have Wl:mA l 0=true:=by unfold fu at hp;simp only[Bool.and_eq_true] at hp;exact hp.1
   have h:=scan (B:=List Bool) l (fun m b i=>bF.l5 k c l (l.length:Int) (fun x4=>ay (decide ((0:Int)<(x4.length:Int)))<|some (x4.getD 0 false)) m i b) (fun _ _=>true) (vc c) (fun x4=>ay (decide ((0:Int)<(x4.length:Int)))<|some (x4.getD 0 false)) (fun _ _=>none) (fun i b=>mA (l.drop i) (b.length:Int)=true/\b.length<=i)
    (fun m b i h hI=>by
      obtain ⟨hI,hle⟩:=hI
      rw[drop_cons h] at hI
      obtain ⟨ho,_⟩:=Bool.and_eq_true_iff.1 hI
      refine (bF.bp ..).trans ?_
      refine (ai (ae (by omega))).trans ?_
      refine (af (bP h)).trans ?_
      rw[Int.toNat_natCast,aD _ h,aL (by omega)]
      simp only[cond_true]
      by_cases h1:l[i] = -1
      ·have hd:=K1 (h1 ▸ ho)
       refine (ai (by simp[h1])).trans ?_
       rw[qJ (by omega) (by omega)]
       refine (af (bP (by omega))).trans ((af (bP (by omega))).trans ?_)
       rw[Int.toNat_natCast,EV c b h1]
      ·refine (ab (by simp[h1])).trans ?_
       by_cases h2:l[i] = -2
       ·have hd:=EZ (h2 ▸ ho)
        refine (ai (by simp[h2])).trans ?_
        rw[qJ (by omega) (by omega),wW (by omega) (by omega)]
        refine (af (bi (ae (by omega)) (ae (by omega)))).trans ((af (ae (by omega))).trans ((af (bP (by omega))).trans ?_))
        rw[Int.toNat_natCast,Int.toNat_natCast,EW c b h2]
        cases e:b.getD (b.length-2) false with
        |true=>exact (ai rfl).trans ((af (bP (by omega))).trans (af (ae (by simp[room];omega))))
        |false=>exact (ab rfl).trans (af (ae (by simp[room];omega)))
       ·refine (ab (by simp[h2])).trans ?_
        by_cases h3:l[i] = -3
        ·have hd:=E1 (h3 ▸ ho)
         refine (ai (by simp[h3])).trans ?_
         rw[qJ (by omega) (by omega),wW (by omega) (by omega)]
         refine (af (bi (ae (by omega)) (ae (by omega)))).trans ((af (ae (by omega))).trans ((af (bP (by omega))).trans ?_))
         rw[Int.toNat_natCast,Int.toNat_natCast,EX c b h3]
         cases e:b.getD (b.length-2) false with
         |true=>exact (ai rfl).trans (af (ae (by simp[room];omega)))
         |false=>exact (ab rfl).trans ((af (bP (by omega))).trans (af (ae (by simp[room];omega))))
        ·refine (ab (by simp[h3])).trans ?_
         refine (aa (my.eq ..)).trans ?_
         refine (af (ae (by simp[room];omega))).trans ?_
         rw[EY c b h1 h2 h3])
    (fun b i h hI _=>by
      obtain ⟨hI,hle⟩:=hI
      rw[drop_cons h] at hI
      obtain ⟨ho,hr⟩:=Bool.and_eq_true_iff.1 hI
      have hs:=yu c b l[i] ho
      have:=wU ho (by omega)
      exact ⟨by rw[hs];exact hr,by omega⟩)
    (fun m b hI=>(bF.bp ..).trans (ab (aH (by omega))))
    l.length 0 k [] (by omega) (bV hk hl) ⟨by simpa using Wl,by simp⟩
   refine h.trans ?_
   rw[List.drop_zero,bX]
   have hf:=yv c l [] (by simpa using Wl)
   exact af (ae (by omega))
theorem MI (v:List Int) (c:Int):(qI v c).Perm (c::v):=by
 unfold qI
 have h:(v.take (oi c v v.length)++c::v.drop (oi c v v.length)).Perm (c::(v.take (oi c v v.length)++v.drop (oi c v v.length))):=List.perm_middle
 rwa [List.take_append_drop] at h
theorem Bk: ∀(l b:List Int),(l.foldl qI b).Perm (b++l)
 | [],b=>by simp
 |a::l,b=>by
  rw[List.foldl_cons]
  refine (Bk l (qI b a)).trans (((MI b a).append_right l).trans ?_)
  exact (List.perm_middle (l₁:=b) (a:=a) (l₂:=l)).symm
theorem wX (l:List Int):(cW l).Perm l:=Bk l []
theorem ta (l:List Int):(cW l).length=l.length:=(wX l).length_eq
structure Rl where
 n:Int
 e:Int
 b1:Bool
 b2:Bool
 w:List Int
 f:List Int
 t:Int
 l:Int
def Rl.ok (r:Rl):Bool:=oz r.n r.e r.b1 r.b2 r.w r.f r.t r.l
abbrev Rl.sm (r:Rl):Prop:=r.w.length<1048577/\r.f.length<1048577
structure Gm where
 r:Rl
 hs:List (List Int)
 st:List Int
 hp:List Int
 tn:Int
 mv:Int
 ps:Int
abbrev Rl.ap {β:Type} (F:Int->Int->Bool->Bool->List Int->List Int->Int->Int->β) (r:Rl):β:=F r.n r.e r.b1 r.b2 r.w r.f r.t r.l
abbrev Rl.tp (r:Rl):Int×Int×Bool×Bool×List Int×List Int×Int×Int:=(r.n,r.e,r.b1,r.b2,r.w,r.f,r.t,r.l)
abbrev Gm.ap {β:Type} (F:Int->Int->Bool->Bool->List Int->List Int->Int->Int->List (List Int)->List Int->List Int->Int->Int->Int->β) (g:Gm):β:=F g.r.n g.r.e g.r.b1 g.r.b2 g.r.w g.r.f g.r.t g.r.l g.hs g.st g.hp g.tn g.mv g.ps
abbrev Gm.tp (g:Gm):Int×Int×Bool×Bool×List Int×List Int×Int×Int×List (List Int)×List Int×List Int×Int×Int×Int:=(g.r.n,g.r.e,g.r.b1,g.r.b2,g.r.w,g.r.f,g.r.t,g.r.l,g.hs,g.st,g.hp,g.tn,g.mv,g.ps)
abbrev Gm.u4 (g:Gm) (b:Bool):Int×Int×Bool×Bool×List Int×List Int×Int×Int×List (List Int)×List Int×List Int×Int×Int×Int×Bool:=(g.r.n,g.r.e,g.r.b1,g.r.b2,g.r.w,g.r.f,g.r.t,g.r.l,g.hs,g.st,g.hp,g.tn,g.mv,g.ps,b)
abbrev Sz (l:List Int):Prop:=l.length<1048577
abbrev Bl (l:List (List Int)):Prop:=l.length<1048577/\ ∀y∈l,y.length<1048577
abbrev Gm.sm (g:Gm):Prop:=g.r.sm/\Bl g.hs/\Sz g.st/\Sz g.hp
theorem om {r:Rl} (h:r.ok=true):(2<=r.n/\r.n<=6)/\(1<=r.e/\r.e<=8)/\(1<=r.t/\r.t<=4)/\(1<=r.l/\r.l<=400):=by
 unfold Rl.ok oz at h
 simp only[Bool.and_eq_true] at h
 exact ⟨eA.1 h.1.1.1.1.1.1,eA.1 h.1.1.1.1.1.2,eA.1 h.1.2,eA.1 h.2⟩
def dy (g:Gm):Bool:=g.r.ok&&((g.hs.length:Int)==g.r.n)&&whole (g.hs++[g.st,g.hp])&&decide (0<g.hp.length)&&kH g.tn 0 (g.r.n-1)&&kH g.mv 0 g.r.l&&kH g.ps 0 g.mv
theorem fg {g:Gm}:dy g=true↔g.r.ok=true/\(g.hs.length:Int)=g.r.n/\whole (g.hs++[g.st,g.hp])=true/\0<g.hp.length/\(0<=g.tn/\g.tn<=g.r.n-1)/\(0<=g.mv/\g.mv<=g.r.l)/\(0<=g.ps/\g.ps<=g.mv):=by
 unfold dy
 simp only[Bool.and_eq_true,beq_iff_eq,decide_eq_true_eq,eA,and_assoc]
theorem jr (g:Gm):(g.hs++[g.st,g.hp]).flatten=g.hs.flatten++(g.st++g.hp):=by simp
theorem vJ {g:Gm} (h:dy g=true):g.hs.length<=6/\(∀y∈g.hs,y.length<=52)/\g.st.length<=52/\g.hp.length<=52:=by
 obtain ⟨h1,h2,h3,h4,_⟩:=fg.1 h
 have hr:=om h1
 have hl:=DI h3
 rw[jr,List.length_append,List.length_append] at hl
 exact ⟨by omega,fun y hy=>by have:=Hh hy;omega,by omega,by omega⟩
def nv:Int->List (List Int)->Int
 |_,[]=> -1
 |i,h::l=>bif ((h.length:Int)==0) then i else nv (i+1) l
theorem DM: ∀(l:List (List Int)) (i:Int),nv i l= -1\/(i<=nv i l/\nv i l<i+(l.length:Int))
 | [],i=> .inl rfl
 |h::l,i=>by
  unfold nv
  cases ((h.length:Int)==0) with
  |true=>right;simp only[cond_true,List.length_cons];omega
  |false=>
   rcases DM l (i+1) with h|h
   ·left;simpa using h
   ·right;simp only[cond_false,List.length_cons];omega
def jl (g:Gm):Int:=bif dy g then nv 0 g.hs else-1
def nj (g:Gm):Bool:=decide (nv 0 g.hs>=0)||(g.mv==g.r.l)||decide (g.ps>=g.r.n)
def lX (g:Gm):Bool:=dy g&&nj g
def fits (r:Rl) (top c:Int):Bool:=r.ok&&be top&&be c&&((r.b1&&(br c==br top))||(r.b2&&(bu c==bu top))||mT r.w c)
def n7 (r:Rl) (c:Int):Bool:=r.ok&&mT r.f c
def Gm.hand (g:Gm):List Int:=g.hs.getD g.tn.toNat []
def Gm.top (g:Gm):Int:=g.hp.getD (g.hp.length-1) 0
def cJ (g:Gm):List Int:=bif dy g&& !nj g then (cW g.hand).filter (fits g.r g.top) else []
theorem mU {g:Gm} {c:Int} (h:aU (cJ g) c=true):dy g=true/\nj g=false/\c∈g.hand/\be c=true:=by
 rw[mz] at h
 unfold cJ at h
 cases h1:dy g<;>rw[h1] at h
 ·simp at h
 ·cases h2:nj g<;>rw[h2] at h
  ·simp only[Bool.not_false,Bool.and_self,cond_true,List.mem_filter] at h
   refine ⟨rfl,rfl,(wX _).mem_iff.1 h.1,?_⟩
   have:=h.2
   unfold fits at this
   simp only[Bool.and_eq_true] at this
   exact this.1.2
  ·simp at h
theorem oA (g:Gm):(cJ g).length<=52:=by
 unfold cJ
 cases h1:dy g with
 |false=>simp
 |true=>
  cases h2:nj g with
  |true=>simp
  |false=>
   simp only[Bool.not_false,Bool.and_self,cond_true]
   refine Nat.le_trans (List.length_filter_le _ _) ?_
   rw[ta]
   have:=vJ h1
   unfold Gm.hand
   by_cases ht:g.tn.toNat<g.hs.length
   ·rw[aD _ ht];exact this.2.1 _ (List.getElem_mem ht)
   ·rw[List.getD_eq_getElem?_getD,List.getElem?_eq_none (by omega)];simp
theorem qi {g:Gm} {c:Int} (h:c∈cJ g):be c=true:=(mU (mz.2 h)).2.2.2
def mm (g:Gm) (c:Int):Gm×Bool:=
 bif aU (cJ g) c then
  ({g with hs:=g.hs.set g.tn.toNat (fM g.hand c),hp:=g.hp++[c],mv:=g.mv+1,ps:=0,tn:=(g.tn+(bif n7 g.r c then 2 else 1)).tmod g.r.n},true)
 else (g,false)
def takeN (t:Nat):Nat->List (List Int)->List Int->List Int->Nat->List (List Int)×List Int×List Int×Nat
 |0,hs,st,hp,n=>(hs,st,hp,n)
 |m+1,hs,st,hp,n=>
  match (bif ((st.length:Int)==0) then hp.take (hp.length-1) else st),(bif ((st.length:Int)==0) then hp.drop (hp.length-1) else hp) with
  | [],um=>(hs,[],um,n)
  |c::st2,um=>takeN t m (hs.set t (hs.getD t []++[c])) st2 um (n+1)
def gZ (g:Gm):Gm×Bool:=
 bif dy g&& !nj g then
  let q:=takeN g.tn.toNat g.r.t.toNat g.hs g.st g.hp 0
  ({g with hs:=q.1,st:=q.2.1,hp:=q.2.2.1,mv:=g.mv+1,ps:=bif q.2.2.2==0 then g.ps+1 else 0,tn:=(g.tn+1).tmod g.r.n},true)
 else (g,false)
def ba (g:Gm) (m:Int):Gm×Bool:=bif m== -1 then gZ g else mm g m
def eN:List Int->Int->Gm->Gm×Int
 | [],i,g=>(g,i)
 |m::l,i,g=>bif (ba g m).2 then eN l (i+1) (ba g m).1 else (g,i)
theorem vK {a n:Int} (h0:0<=a) (hn:1<=n):0<=a.tmod n/\a.tmod n<=n-1:=by
 rw[Int.tmod_eq_emod_of_nonneg h0]
 have h1:=Int.emod_nonneg a (b:=n) (by omega)
 have h2:=Int.emod_lt_of_pos a (b:=n) (by omega)
 omega
theorem Hj {g:Gm} (h:dy g=true) (ho:nj g=false):g.mv+1<=g.r.l:=by
 obtain ⟨_,_,_,_,_,h6,_⟩:=fg.1 h
 unfold nj at ho
 simp only[Bool.or_eq_false_iff] at ho
 have:=ho.1.2
 simp at this
 omega
theorem Jw (a b c:List Int):(a++b++c).Perm (a++c++b):=by
 rw[List.append_assoc,List.append_assoc]
 exact List.Perm.append_left _ List.perm_append_comm
theorem Hk {g:Gm} {c:Int} (h:(mm g c).2=true):dy (mm g c).1=true/\(mm g c).1.mv=g.mv+1/\(mm g c).1.r=g.r:=by
 unfold mm at h ⊢
 cases hc:aU (cJ g) c with
 |false=>rw[hc] at h;cases h
 |true=>
  obtain ⟨h1,h2,h3,h4⟩:=mU hc
  obtain ⟨g1,g2,g3,g4,g5,g6,g7⟩:=fg.1 h1
  have hr:=om g1
  have ht:g.tn.toNat<g.hs.length:=by omega
  simp only[cond_true]
  refine ⟨fg.2 ⟨g1,by simpa using g2,?_,by simp,?_,⟨by show 0<=g.mv+1;omega,Hj h1 h2⟩,⟨by simp,by show (0:Int)<=g.mv+1;omega⟩⟩,trivial,trivial⟩
  ·rw[<- g3]
   refine Bj ?_
   rw[jr,jr]
   have hh:g.hand=g.hs[g.tn.toNat]:=aD _ ht
   obtain ⟨q,q1,q2⟩:=sZ g.hs g.tn.toNat (fM g.hand c) ht
   have nd:g.hand.Nodup:=by
    have:=Hg g3
    rw[jr] at this
    have:=(List.nodup_append.1 this).1
    have:=(q1.nodup_iff).1 this
    rw[hh]
    exact (List.nodup_append.1 this).1
   refine (q2.append_right _).trans (List.Perm.trans ?_ (q1.append_right _).symm)
   rw[<- hh]
   have hw:=(wS nd h3).symm
   have e:fM g.hand c++q++(g.st++(g.hp++[c]))=(fM g.hand c++(q++(g.st++g.hp)))++[c]:=by simp
   have e2:g.hand++q++(g.st++g.hp)=g.hand++(q++(g.st++g.hp)):=by simp
   rw[e,e2]
   refine List.Perm.trans ?_ (hw.append_right _)
   exact Jw _ _ _
  ·refine vK ?_ (by omega)
   show 0<=g.tn+_
   cases n7 g.r c<;>simp only[cond_true,cond_false]<;>omega
theorem zy (t:Nat): ∀(m:Nat) (hs:List (List Int)) (st hp:List Int) (n:Nat),t<hs.length->0<hp.length->
 ((takeN t m hs st hp n).1.flatten++((takeN t m hs st hp n).2.1++(takeN t m hs st hp n).2.2.1)).Perm (hs.flatten++(st++hp))/\0<(takeN t m hs st hp n).2.2.1.length/\(takeN t m hs st hp n).1.length=hs.length/\n<=(takeN t m hs st hp n).2.2.2
 |0,hs,st,hp,n,ht,hh=>⟨List.Perm.refl _,hh,rfl,Nat.le_refl _⟩
 |m+1,hs,st,hp,n,ht,hh=>by
  have key: ∀(XX um:List Int),(XX++um).Perm (st++hp)->0<um.length->
   (let q:=(match XX,um with
     | [],um=>(hs,[],um,n)
     |c::st2,um=>takeN t m (hs.set t (hs.getD t []++[c])) st2 um (n+1):List (List Int)×List Int×List Int×Nat)
   (q.1.flatten++(q.2.1++q.2.2.1)).Perm (hs.flatten++(st++hp))/\0<q.2.2.1.length/\q.1.length=hs.length/\n<=q.2.2.2):=by
   intro XX um h1 h2
   cases XX with
   |nil=>exact ⟨List.Perm.append_left _ h1,h2,rfl,Nat.le_refl _⟩
   |cons c st2=>
    obtain ⟨k1,k2,k3,k4⟩:=zy t m (hs.set t (hs.getD t []++[c])) st2 um (n+1) (by simpa using ht) h2
    refine ⟨k1.trans ?_,k2,by simpa using k3,Nat.le_of_succ_le k4⟩
    obtain ⟨q,q1,q2⟩:=sZ hs t (hs.getD t []++[c]) ht
    refine (q2.append_right _).trans (List.Perm.trans ?_ ((List.Perm.append_left _ h1).trans (List.Perm.refl _)))
    refine List.Perm.trans ?_ (q1.append_right _).symm
    rw[aD _ ht]
    have e1:hs[t]++[c]++q++(st2++um)=hs[t]++([c]++(q++(st2++um))):=by simp
    have e2:hs[t]++q++(c::st2++um)=hs[t]++(q++([c]++(st2++um))):=by simp
    rw[e1,e2]
    exact List.Perm.append_left _ (List.perm_append_comm_assoc _ _ _)
  unfold takeN
  cases he:((st.length:Int)==0) with
  |false=>exact key st hp (List.Perm.refl _) hh
  |true=>
   have:st=[]:=by
    have h0:(st.length:Int)=0:=by simpa using he
    exact List.length_eq_zero_iff.1 (by omega)
   subst this
   refine key _ _ ?_ (by simp only[cond_true,List.length_drop];omega)
   simp only[cond_true,List.take_append_drop,List.nil_append]
   exact List.Perm.refl _
theorem Bm {g:Gm} (h:(gZ g).2=true):dy (gZ g).1=true/\(gZ g).1.mv=g.mv+1/\(gZ g).1.r=g.r:=by
 unfold gZ at h ⊢
 cases h1:dy g with
 |false=>rw[h1] at h;cases h
 |true=>
  cases h2:nj g with
  |true=>rw[h1,h2] at h;cases h
  |false=>
   obtain ⟨g1,g2,g3,g4,g5,g6,g7⟩:=fg.1 h1
   have hr:=om g1
   have ht:g.tn.toNat<g.hs.length:=by omega
   obtain ⟨k1,k2,k3,k4⟩:=zy g.tn.toNat g.r.t.toNat g.hs g.st g.hp 0 ht g4
   simp only[Bool.not_false,Bool.and_self,cond_true]
   refine ⟨fg.2 ⟨g1,by show ((takeN _ _ _ _ _ _).1.length:Int)=_;rw[k3];exact g2,?_,k2,vK (by show 0<=g.tn+1;omega) (by omega),⟨by show 0<=g.mv+1;omega,Hj h1 h2⟩,?_⟩,trivial,trivial⟩
   ·rw[<- g3]
    refine Bj ?_
    rw[jr,jr]
    exact k1
   ·show 0<=(bif _ then _ else _)/\(bif _ then _ else _)<=g.mv+1
    cases ((takeN g.tn.toNat g.r.t.toNat g.hs g.st g.hp 0).2.2.2==0)<;>simp only[cond_true,cond_false]<;>omega
theorem sI {g:Gm} {c:Int} (h:(ba g c).2=true):dy (ba g c).1=true/\(ba g c).1.mv=g.mv+1/\(ba g c).1.r=g.r:=by
 unfold ba at h ⊢
 cases hc:(c== -1) with
 |true=>rw[hc] at h;exact Bm h
 |false=>rw[hc] at h;exact Hk h
theorem E2 {g:Gm} (h:(gZ g).2=false):(gZ g).1=g:=by
 unfold gZ at h ⊢
 cases h1:(dy g&& !nj g) with
 |false=>rfl
 |true=>rw[h1] at h;cases h
theorem MJ {g:Gm} {c:Int} (h:(mm g c).2=false):(mm g c).1=g:=by
 unfold mm at h ⊢
 cases hc:aU (cJ g) c with
 |false=>rfl
 |true=>rw[hc] at h;cases h
theorem C1 {g:Gm} {c:Int} (h:(ba g c).2=false):(ba g c).1=g:=by
 unfold ba at h ⊢
 cases hc:(c== -1) with
 |true=>rw[hc] at h;exact E2 h
 |false=>rw[hc] at h;exact MJ h
theorem DN {g:Gm} (h:dy g=true) (hr:g.r.sm):g.sm:=by
 obtain ⟨h1,h2,h3,h4⟩:=vJ h
 exact ⟨hr,⟨by omega,fun y hy=>by have:=h2 y hy;omega⟩,by show g.st.length<_;omega,by show g.hp.length<_;omega⟩
theorem lJ {g:Gm} {c:Int} (h:g.sm):(ba g c).1.sm:=by
 cases hm:(ba g c).2 with
 |true=>
  obtain ⟨h1,_,h3⟩:=sI hm
  exact DN h1 (by rw[h3];exact h.1)
 |false=>rw[C1 hm];exact h
def o7 (l:List Int):List Int:=l.foldl (fun b a=>bif decide (br a>=0) then b.set (br a).toNat (b.getD (br a).toNat 0+1) else b) [0,0,0,0]
def Jx (n:Int->Int):List Int->Int->Int
 | [],b=>b
 |c::l,b=>Jx n l (bif decide (n c>n b) then c else b)
def choice (g:Gm) (k:Int):Int:=
 bif (((cJ g).length:Int)==0) then-1
 else bif k==0 then (cJ g).getD 0 0
 else bif k==1 then (cJ g).getD ((cJ g).length-1) 0
 else bif k==2 then Jx (fun c=>(o7 g.hand).getD (br c).toNat 0) (cJ g) ((cJ g).getD 0 0)
 else-1
theorem aJ.eq (k:Nat) {l:List Int} (hl:l.length<1048577):aJ.f k l=some l:=(af (ae (by simp[room];omega))).trans rfl
theorem dY.eq (k:Nat) {r:Rl} (h:r.sm):r.ap (dY.f k)=some r.tp:=by
 have h1:=h.1
 have h2:=h.2
 exact (af (mN (by omega))).trans ((af (mN (by omega))).trans rfl)
theorem bY.eq (k:Nat) {r:Rl} (h:r.sm):r.ap (bY.f k)=some r.tp:=(aa (aJ.eq k h.1)).trans (aa (aJ.eq k h.2))
theorem da.eq {k:Nat} (hk:cO<=k) {l:List (List Int)} (hl:Bl l):da.f k l=some l:=by
 have h:=scan (B:=List (List Int)) l (fun m b i=>da.l3 k l (fun x=>some x) m i b) (fun _ _=>true) (fun b a=>b++[a]) (fun x=>some x) (fun _ _=>none) (fun i b=>b.length=i)
  (fun m b i h hI=>by
    have:=hl.1
    have:=hl.2 _ (List.getElem_mem h)
    refine (da.aA ..).trans ((ai (ae (by omega))).trans ((af (bP h)).trans ?_))
    rw[Int.toNat_natCast,aD _ h,aL (by omega)]
    exact (af (mN (by omega))).trans (af (EQ (by omega))))
  (fun b i h hI _=>by simp;omega)
  (fun m b hI=>(da.aA ..).trans (ab (aH (by omega))))
  l.length 0 k [] (by omega) (bV hk hl.1) rfl
 refine h.trans ?_
 rw[List.drop_zero,bX,nu (fun a=>a)]
 simp
theorem bm.eq {k:Nat} (hk:cO<=k) {l:List (List Int)} (hl:Bl l):bm.f k l=some l:=by
 have h:=scan (B:=List (List Int)) l (fun m b i=>bm.l3 k l (l.length:Int) (fun x=>some x) m i b) (fun _ _=>true) (fun b a=>b++[a]) (fun x=>some x) (fun _ _=>none) (fun i b=>b.length=i)
  (fun m b i h hI=>by
    have:=hl.1
    refine (bm.aA ..).trans ((ai (ae (by omega))).trans ((af (bP h)).trans ?_))
    rw[Int.toNat_natCast,aD _ h,aL (by omega)]
    exact (aa (aJ.eq k (hl.2 _ (List.getElem_mem h)))).trans (af (EQ (by omega))))
  (fun b i h hI _=>by simp;omega)
  (fun m b hI=>(bm.aA ..).trans (ab (aH (by omega))))
  l.length 0 k [] (by omega) (bV hk hl.1) rfl
 refine h.trans ?_
 rw[List.drop_zero,bX,nu (fun a=>a)]
 simp
theorem eo.eq {k:Nat} (hk:cO<=k) {g:Gm} (h:g.sm):g.ap (eo.f k)=some g.tp:=by
 obtain ⟨h1,h2,h3,h4⟩:=h
 refine (aa (dY.eq k h1)).trans ((aa (da.eq hk h2)).trans ?_)
 have h3:g.st.length<1048577:=h3
 have h4:g.hp.length<1048577:=h4
 exact (af (mN (by omega))).trans ((af (mN (by omega))).trans rfl)
theorem cN.eq {k:Nat} (hk:cO<=k) {g:Gm} (h:g.sm):g.ap (cN.f k)=some g.tp:=by
 obtain ⟨h1,h2,h3,h4⟩:=h
 exact (aa (bY.eq k h1)).trans ((aa (bm.eq hk h2)).trans ((aa (aJ.eq k h3)).trans ((aa (aJ.eq k h4)).trans rfl)))
theorem rA {k:Nat} (hk:cO<=k) {r:Rl} (h:r.sm):r.ap (dz.f k)=some r.ok:=dz.eq hk _ _ _ _ _ _ h.1 h.2
theorem rB {k:Nat} (hk:cO<=k) {r:Rl} (h:r.sm):r.ap (cd.f k)=some r.ok:=cd.eq hk _ _ _ _ _ _ h.1 h.2
theorem yw {z:Nat->List Int->Option Int} (hz: ∀b a,z b a=some (b:Int)): ∀(l:List (List Int)) (b:Nat),run (fun (_:Nat) (a:List Int)=> !((a.length:Int)==0)) (fun b _=>b+1) (fun _=>some (-1)) z l b=some (nv (b:Int) l)
 | [],b=>rfl
 |a::l,b=>by
  show (bif !((a.length:Int)==0) then run _ _ _ _ l (b+1) else z b a)=some (bif ((a.length:Int)==0) then (b:Int) else nv ((b:Int)+1) l)
  rw[yw hz l (b+1),hz]
  cases ((a.length:Int)==0)<;>rfl
theorem cq.eq {k:Nat} (hk:cO<=k) (g:Gm) (h:g.hs.length<1048577):g.ap (cq.f k)=some (nv 0 g.hs):=by
 have h:=scan (B:=Nat) g.hs (fun m b i=>cq.l2 k g.hs (fun x1=>some x1) (some (-1)) m i) (fun _ a=> !((a.length:Int)==0)) (fun b _=>b+1) (fun _=>some (-1)) (fun b _=>some (b:Int)) (fun i b=>b=i)
  (fun m b i h hI=>by
    subst hI
    refine (cq.fQ ..).trans ((ai (ae (by omega))).trans ((af (bP h)).trans ?_))
    rw[Int.toNat_natCast,aD _ h,aL (by omega)]
    cases ((g.hs[b].length:Int)==0)<;>rfl)
  (fun b i h hI _=>by omega)
  (fun m b hI=>(cq.fQ ..).trans (ab (aH (by omega))))
  g.hs.length 0 k 0 (by omega) (bV hk h) rfl
 refine h.trans ?_
 rw[List.drop_zero]
 exact yw (fun _ _=>rfl) g.hs 0
theorem cZ.loop {k:Nat} (hk:cO<=k) {l:List (List Int)} (h:l.length<1048577):cZ.l4 k l (l.length:Int) (fun x2=>some x2) (some (-1:Int)) k (0:Int)=some (nv 0 l):=by
 have h:=scan (B:=Nat) l (fun m b i=>cZ.l4 k l (l.length:Int) (fun x1=>some x1) (some (-1)) m i) (fun _ a=> !((a.length:Int)==0)) (fun b _=>b+1) (fun _=>some (-1)) (fun b _=>some (b:Int)) (fun i b=>b=i)
  (fun m b i h hI=>by
    subst hI
    refine (cZ.hO ..).trans ((ai (ae (by omega))).trans ((af (bP h)).trans ?_))
    rw[Int.toNat_natCast,aD _ h,aL (by omega)]
    cases ((l[b].length:Int)==0)<;>rfl)
  (fun b i h hI _=>by omega)
  (fun m b hI=>(cZ.hO ..).trans (ab (aH (by omega))))
  l.length 0 k 0 (by omega) (bV hk h) rfl
 refine h.trans ?_
 rw[List.drop_zero]
 exact yw (fun _ _=>rfl) l 0
theorem fI.eq {k:Nat} (hk:cO<=k) (g:Gm) (h:g.hs.length<1048577):g.ap (fI.f k)=some (nj g):=by
 refine (aa (cq.eq hk g h)).trans ?_
 unfold nj
 cases decide (nv 0 g.hs>=0)<;>cases (g.mv==g.r.l)<;>rfl
theorem tb: ∀(l:List (List Int)),(∀y∈l,y.length<1048577)->l.flatten.length<=l.length*1048576
 | [],_=>by simp
 |a::l,h=>by
  have:=tb l (fun y hy=>h y (by simp[hy]))
  have:=h a (by simp)
  rw[List.flatten_cons,List.length_append,List.length_cons]
  omega
theorem bK.eq {k:Nat} (hk:cO<=k) {l:List (List Int)} (hl:Bl l) (hf:l.flatten.length<1073741824):bK.f k l=some (dx l.flatten):=by
 have h:=scan (B:=List Int) l (fun m b i=>bK.l3 k l (l.length:Int) (fun x1=>(aB.f k x1).bind fun r2=>some r2) m i b) (fun _ _=>true) (fun b a=>b++a) (fun x1=>(aB.f k x1).bind fun r2=>some r2) (fun _ _=>none) (fun i b=>b.length<=i*1048576)
  (fun m b i h hI=>by
    have:=hl.1
    have:=hl.2 _ (List.getElem_mem h)
    refine (bK.aA ..).trans ((ai (ae (by omega))).trans ((af (bP h)).trans ?_))
    rw[Int.toNat_natCast,aD _ h,aL (by omega)]
    exact af (mN (by omega)))
  (fun b i h hI _=>by
    have:=hl.2 _ (List.getElem_mem h)
    rw[List.length_append];omega)
  (fun m b hI=>(bK.aA ..).trans (ab (aH (by omega))))
  l.length 0 k [] (by omega) (bV hk hl.1) (by simp)
 refine h.trans ?_
 rw[List.drop_zero,bX,uj,List.nil_append]
 exact aa (aB.eq hk hf)
theorem yx: ∀(l:List (List Int)) (b:Int),l.foldl (fun b a=>b+(a.length:Int)) b=b+(l.flatten.length:Int)
 | [],b=>by simp
 |a::l,b=>by
  rw[List.foldl_cons,yx l,List.flatten_cons,List.length_append];omega
theorem bg.eq {k:Nat} (hk:cO<=k) {l:List (List Int)} (hl:Bl l):bg.f k l=some (l.flatten.length:Int):=by
 have h:=scan (B:=Int) l (fun m b i=>bg.l3 k l (l.length:Int) (fun x1=>some x1) m b i) (fun _ _=>true) (fun b a=>b+(a.length:Int)) (fun x1=>some x1) (fun _ _=>none) (fun i b=>0<=b/\b<=(i:Int)*1048576)
  (fun m b i h hI=>by
    have:=hl.1
    have:=hl.2 _ (List.getElem_mem h)
    refine (bg.aA ..).trans ((ai (ae (by omega))).trans ((af (bP h)).trans ?_))
    rw[Int.toNat_natCast,aD _ h,aL (by omega),wrap_i64 (by omega) (by omega)]
    rfl)
  (fun b i h hI _=>by
    have:=hl.2 _ (List.getElem_mem h)
    omega)
  (fun m b hI=>(bg.aA ..).trans (ab (aH (by omega))))
  l.length 0 k 0 (by omega) (bV hk hl.1) (by simp)
 refine h.trans ?_
 rw[List.drop_zero,bX,yx,Int.zero_add]
theorem mK.eq {k:Nat} (hk:cO<=k) {l:List (List Int)} (hl:Bl l) (hf:l.flatten.length<1073741824):mK.f k l=some (whole l):=by
 refine (aa (bK.eq hk hl hf)).trans ?_
 unfold whole
 cases dx l.flatten with
 |false=>rfl
 |true=>exact (ai rfl).trans (aa (bg.eq hk hl))
theorem bh.loop {k:Nat} (hk:cO<=k) {g:Gm} (h:g.sm) (hn:g.hs.length<=6):bh.l5 k g.hs (fun x5=>bif ((x5.length:Int)==(52:Int)) then (bx.f k x5).bind fun r6=>some r6 else some false) k (0:Int) (([]++g.st)++g.hp)=some (whole (g.hs++[g.st,g.hp])):=by
 obtain ⟨h1,h2,h3,h4⟩:=h
 have h3:g.st.length<1048577:=h3
 have h4:g.hp.length<1048577:=h4
 have h:=scan (B:=List Int) g.hs (fun m b i=>bh.l5 k g.hs (fun x5=>bif ((x5.length:Int)==(52:Int)) then (bx.f k x5).bind fun r6=>some r6 else some false) m i b) (fun _ _=>true) (fun b a=>b++a) (fun x5=>bif ((x5.length:Int)==(52:Int)) then (bx.f k x5).bind fun r6=>some r6 else some false) (fun _ _=>none) (fun i b=>b.length<=(i+2)*1048576)
  (fun m b i h hI=>by
    have:=h2.2 _ (List.getElem_mem h)
    refine (bh.bp ..).trans ((ai (ae (by omega))).trans ((af (bP h)).trans ?_))
    rw[Int.toNat_natCast,aD _ h,aL (by omega)]
    exact af (mN (by omega)))
  (fun b i h hI _=>by
    have:=h2.2 _ (List.getElem_mem h)
    rw[List.length_append];omega)
  (fun m b hI=>(bh.bp ..).trans (ab (aH (by omega))))
  g.hs.length 0 k (([]++g.st)++g.hp) (by omega) (bV hk h2.1) (by simp;omega)
 refine h.trans ?_
 rw[List.drop_zero,bX,uj,List.nil_append]
 have hp:(g.st++g.hp++g.hs.flatten).Perm (g.hs++[g.st,g.hp]).flatten:=by
  rw[jr];exact List.perm_append_comm
 unfold whole
 rw[<- sY hp,<- hp.length_eq]
 cases e:(((g.st++g.hp++g.hs.flatten).length:Int)==52) with
 |false=>simp
 |true=>
  have:((g.st++g.hp++g.hs.flatten).length:Int)=52:=by simpa using e
  refine (ai rfl).trans ((aa (bx.eq hk (by omega))).trans ?_)
  simp
theorem bh.eq {k:Nat} (hk:cO<=k) {g:Gm} (h:g.sm):g.ap (bh.f k)=some (dy g):=by
 refine (aa (rA hk h.1)).trans ?_
 unfold dy
 cases hr:g.r.ok with
 |false=>rfl
 |true=>
  have N7:=om hr
  refine (ab rfl).trans ?_
  cases hn:((g.hs.length:Int)==g.r.n) with
  |false=>exact (ai (by rw[bne,hn];rfl)).trans (by simp)
  |true=>
   have sH:(g.hs.length:Int)=g.r.n:=by simpa using hn
   refine (ab (by rw[bne,hn];rfl)).trans ?_
   cases hh:((g.hp.length:Int)==0) with
   |true=>
    have:(g.hp.length:Int)=0:=by simpa using hh
    refine (ai rfl).trans ?_
    rw[aH (p:=0<g.hp.length) (by omega)];simp
   |false=>
    have: ¬(g.hp.length:Int)=0:=by simpa using hh
    rw[ae (p:=0<g.hp.length) (by omega)]
    refine (ab rfl).trans ((aa (aO.eq ..)).trans ?_)
    rw[wrap_i64 (by omega) (by omega)]
    cases kH g.tn 0 (g.r.n-1) with
    |false=>simp
    |true=>
     refine (ab rfl).trans ((aa (aO.eq ..)).trans ?_)
     cases kH g.mv 0 g.r.l with
     |false=>simp
     |true=>
      refine (ab rfl).trans ((aa (aO.eq ..)).trans ?_)
      cases kH g.ps 0 g.mv with
      |false=>simp
      |true=>
       have h3:g.st.length<1048577:=h.2.2.1
       have h4:g.hp.length<1048577:=h.2.2.2
       refine (ab rfl).trans ((af (mN (by omega))).trans ((af (mN (by simp;omega))).trans ((bh.loop hk h (by omega)).trans ?_)))
       simp
theorem cQ.eq {k:Nat} (hk:cO<=k) {g:Gm} (h:g.sm):g.ap (cQ.f k)=some (dy g):=by
 refine (aa (rB hk h.1)).trans ?_
 unfold dy
 cases hr:g.r.ok with
 |false=>rfl
 |true=>
  have N7:=om hr
  refine (ai rfl).trans ?_
  cases hn:((g.hs.length:Int)==g.r.n) with
  |false=>rfl
  |true=>
   have sH:(g.hs.length:Int)=g.r.n:=by simpa using hn
   have h3:g.st.length<1048577:=h.2.2.1
   have h4:g.hp.length<1048577:=h.2.2.2
   have Wm:=tb g.hs h.2.1.2
   refine (ai rfl).trans ((aa (bm.eq hk h.2.1)).trans ((af (EQ (by omega))).trans ((aa (mK.eq hk ⟨by simp;omega,fun y hy=> ?_⟩ ?_)).trans ?_)))
   ·rcases List.mem_append.1 hy with hy|hy
    ·exact h.2.1.2 y hy
    ·simp only[List.mem_cons,List.not_mem_nil,or_false] at hy
     rcases hy with rfl|rfl
     ·exact h3
     ·exact h4
   ·rw[jr];simp only[List.length_append];omega
   ·cases whole (g.hs++[g.st,g.hp]) with
    |false=>rfl
    |true=>
     refine (ai rfl).trans ?_
     have e:decide ((g.hp.length:Int)>0)=decide (0<g.hp.length):=by simp
     rw[e]
     cases decide (0<g.hp.length) with
     |false=>rfl
     |true=>
      refine (ai rfl).trans ((aa (an.eq ..)).trans ?_)
      rw[sH,wrap_i64 (by omega) (by omega)]
      cases kH g.tn 0 (g.r.n-1) with
      |false=>rfl
      |true=>
       refine (ai rfl).trans ((aa (an.eq ..)).trans ?_)
       cases kH g.mv 0 g.r.l with
       |false=>rfl
       |true=>exact (ai rfl).trans (aa (an.eq ..))
theorem cZ.eq {k:Nat} (hk:cO<=k) {g:Gm} (h:g.sm):g.ap (cZ.f k)=some (jl g):=by
 refine (aa (cQ.eq hk h)).trans ?_
 unfold jl
 cases dy g with
 |false=>rfl
 |true=>exact (ab rfl).trans (cZ.loop hk h.2.1.1)
theorem fJ.eq {k:Nat} (hk:cO<=k) {g:Gm} (h:g.sm):g.ap (fJ.f k)=some (lX g):=by
 refine (aa (cQ.eq hk h)).trans ?_
 unfold lX
 cases hg:dy g with
 |false=>rfl
 |true=>
  refine (ai rfl).trans ((aa (cZ.eq hk h)).trans ?_)
  unfold jl nj
  rw[hg]
  simp only[cond_true]
  cases decide (nv 0 g.hs>=0)<;>cases (g.mv==g.r.l)<;>rfl
theorem bB.inner {R:Type} (k:Nat) {l:List Int} {i:Nat} (h:i<l.length) (v:List Int) (e0:Int->Option R) (hv:v.length<1048577): ∀(j n:Nat),j<=v.length->j<n->bB.l6 k l (i:Int) v e0 n (j:Int)=e0 ((oi l[i] v j:Nat):Int):=by
 intro j
 induction j with
 |zero=>
  intro n hj hn
  obtain ⟨n,rfl⟩: ∃n',n=n' +1:=⟨n-1,by omega⟩
  exact (bB.iz ..).trans (ab (aH (by omega)))
 |succ j ih=>
  intro n hj hn
  obtain ⟨n,rfl⟩: ∃n',n=n' +1:=⟨n-1,by omega⟩
  refine (bB.iz ..).trans ((ai (ae (by omega))).trans ?_)
  have e:IntKind.wrap .i64 (((j+1:Nat):Int)-1)=(j:Int):=by rw[wrap_i64 (by omega) (by omega)];omega
  rw[e]
  refine (af (bP (by omega))).trans ((af (bP h)).trans ?_)
  rw[Int.toNat_natCast,Int.toNat_natCast,aD (l:=l) _ h]
  unfold oi
  cases h:decide (v.getD j 0>l[i]) with
  |true=>exact (ai rfl).trans (ih n (by omega) (by omega))
  |false=>rfl
theorem bB.eq {k:Nat} (hk:cO<=k) {l:List Int} (hl:l.length<1048577):bB.f k l=some (cW l):=by
 have h:=scan (B:=List Int) l (fun m b i=>bB.l3 k l (fun x2=>some x2) m i b) (fun _ _=>true) qI (fun x2=>some x2) (fun _ _=>none) (fun i b=>b.length=i)
  (fun m b i h hI=>by
    have hp:=wT l[i] b b.length
    have hb:b.length<1048577:=by omega
    refine (bB.aA ..).trans ((ai (ae (by omega))).trans ?_)
    refine (bB.inner k h b _ hb b.length k (Nat.le_refl _) (bV hk hb)).trans ?_
    have t1:((b.take (oi l[i] b b.length)).drop 0).length=oi l[i] b b.length:=by simp;omega
    have t2:((b.take ((b.length:Int).toNat)).drop (oi l[i] b b.length))=b.drop (oi l[i] b b.length):=by rw[Int.toNat_natCast,List.take_length]
    refine (af (bi (ae (by omega)) (ae (by omega)))).trans ((af (ae (by omega))).trans ?_)
    rw[Int.toNat_natCast]
    refine (af (mN (by omega))).trans ((af (bP h)).trans ?_)
    rw[t2]
    refine (af (mN (by simp;omega))).trans ((af (bi (ae (by omega)) (ae (by omega)))).trans ((af (bi (ae (by omega)) (ae (by omega)))).trans ((af (mN (by simp;omega))).trans ?_)))
    rw[aL (by omega),Int.toNat_natCast,aD (l:=l) _ h]
    unfold qI
    simp)
  (fun b i h hI _=>by rw[Hi];omega)
  (fun m b hI=>(bB.aA ..).trans (ab (aH (by omega))))
  l.length 0 k [] (by omega) (bV hk hl) rfl
 refine h.trans ?_
 rw[List.drop_zero,bX]
 rfl
theorem kN.eq {k:Nat} (hk:cO<=k) {r:Rl} (h:r.sm) (top c:Int):r.ap (kN.f k) top c=some (fits r top c):=by
 refine (aa (rA hk h)).trans ?_
 unfold fits
 cases r.ok with
 |false=>rfl
 |true=>
  refine (ab rfl).trans ((aa (cP.eq ..)).trans ?_)
  cases be top with
  |false=>rfl
  |true=>
   refine (ab rfl).trans ((aa (cP.eq ..)).trans ?_)
   cases be c with
   |false=>rfl
   |true=>
    refine (ab rfl).trans ?_
    simp only[fR.eq,eQ.eq,cc.eq hk _ h.1,Option.bind_some]
    cases r.b1<;>cases r.b2<;>cases (br c==br top)<;>cases (bu c==bu top)<;>cases mT r.w c<;>rfl
theorem kQ.eq {k:Nat} (hk:cO<=k) {r:Rl} (h:r.sm) (top c:Int):r.ap (kQ.f k) top c=some (fits r top c):=by
 refine (aa (rB hk h)).trans ?_
 unfold fits
 cases r.ok with
 |false=>rfl
 |true=>
  refine (ab rfl).trans ((aa (aT.eq ..)).trans ?_)
  cases be top with
  |false=>rfl
  |true=>
   refine (ab rfl).trans ((aa (aT.eq ..)).trans ?_)
   cases be c with
   |false=>rfl
   |true=>
    refine (ab rfl).trans ?_
    simp only[aZ.eq,bN.eq,bF.eq hk _ h.1,Option.bind_some]
    cases r.b1<;>cases r.b2<;>cases (br c==br top)<;>cases (bu c==bu top)<;>cases mT r.w c<;>rfl
theorem jG.eq {k:Nat} (hk:cO<=k) {r:Rl} (h:r.sm) (c:Int):r.ap (jG.f k) c=some (n7 r c):=by
 refine (aa (rA hk h)).trans ?_
 unfold n7
 cases r.ok with
 |false=>rfl
 |true=>exact (ai rfl).trans (aa (cc.eq hk c h.2))
theorem jN.eq {k:Nat} (hk:cO<=k) {r:Rl} (h:r.sm) (c:Int):r.ap (jN.f k) c=some (n7 r c):=by
 refine (aa (rB hk h)).trans ?_
 unfold n7
 cases r.ok with
 |false=>rfl
 |true=>exact (ai rfl).trans (aa (bF.eq hk c h.2))
theorem DO (c:Int) {z:Nat->Int->Option Int} (hz: ∀b a,z b a=some (b:Int)): ∀(l:List Int) (b:Nat),∃r:Int,run (fun (_:Nat) (a:Int)=> !(a==c)) (fun b _=>b+1) (fun _=>some (-1)) z l b=some r/\decide (r>=0)=aU l c
 | [],b=>⟨-1,rfl,rfl⟩
 |a::l,b=>by
  obtain ⟨r,h1,h2⟩:=DO c hz l (b+1)
  have e:run (fun (_:Nat) (a:Int)=> !(a==c)) (fun b _=>b+1) (fun _=>some (-1)) z (a::l) b=bif !(a==c) then run (fun (_:Nat) (a:Int)=> !(a==c)) (fun b _=>b+1) (fun _=>some (-1)) z l (b+1) else z b a:=rfl
  unfold aU
  rw[List.any_cons]
  cases Z_:(a==c) with
  |true=>exact ⟨(b:Int),by rw[e,Z_,hz];rfl,by simp⟩
  |false=>exact ⟨r,by rw[e,Z_];exact h1,by rw[Bool.false_or];exact h2⟩
theorem fK.eq {k:Nat} (hk:cO<=k) {l:List Int} (c:Int) (hl:l.length<1048577):fK.f k l c=some (aU l c):=by
 have h:=scan (B:=Nat) l (fun m b i=>ey.l2 k c l (l.length:Int) (fun x1=>some x1) (some (-1)) m i) (fun _ a=> !(a==c)) (fun b _=>b+1) (fun _=>some (-1)) (fun b _=>some (b:Int)) (fun i b=>b=i)
  (fun m b i h hI=>by
    subst hI
    refine (ey.fQ ..).trans ((ai (ae (by omega))).trans ((af (bP h)).trans ?_))
    rw[Int.toNat_natCast,aD _ h,aL (by omega)]
    cases (l[b]==c)<;>rfl)
  (fun b i h hI _=>by omega)
  (fun m b hI=>(ey.fQ ..).trans (ab (aH (by omega))))
  l.length 0 k 0 (by omega) (bV hk hl) rfl
 obtain ⟨r,h1,h2⟩:=DO c (z:=fun b _=>some (b:Int)) (fun _ _=>rfl) l 0
 rw[List.drop_zero,h1] at h
 refine (aa (show ey.f k l c=some r from h)).trans ?_
 rw[h2]
theorem db.eq {k:Nat} (hk:cO<=k) {l:List Int} (c:Int) (hl:l.length<1048577):db.f k l c=some (fM l c):=by
 have h:=scan (B:=List Int) l (fun m b i=>db.l3 k c l (l.length:Int) (fun x1=>some x1) m i b) (fun _ _=>true) (fun b a=>bif a != c then b++[a] else b) (fun x1=>some x1) (fun _ _=>none) (fun i b=>b.length<=i)
  (fun m b i h hI=>by
    refine (db.aA ..).trans ((ai (ae (by omega))).trans ((af (bP h)).trans ?_))
    rw[Int.toNat_natCast,aD _ h,aL (by omega)]
    cases (l[i] != c) with
    |false=>rfl
    |true=>exact (ai rfl).trans (af (mN (by omega))))
  (fun b i h hI _=>by cases (l[i] != c)<;>simp<;>omega)
  (fun m b hI=>(db.aA ..).trans (ab (aH (by omega))))
  l.length 0 k [] (by omega) (bV hk hl) (by simp)
 refine h.trans ?_
 rw[List.drop_zero,bX,foldl_filter (fun a=>a != c),List.nil_append]
 rfl
theorem nw {n:Nat} (h:0<n) (h2:n<4611686018427387904):IntKind.wrap .i64 ((n:Int)-1)=((n-1:Nat):Int):=by rw[wrap_i64 (by omega) (by omega)];omega
theorem wY {g:Gm} (h:g.sm):g.hand.length<1048577:=by
 unfold Gm.hand
 rw[List.getD_eq_getElem?_getD]
 cases e:g.hs[g.tn.toNat]? with
 |none=>simp
 |some x=>exact h.2.1.2 x (List.mem_of_getElem? e)
theorem ny {g:Gm} (h:dy g=true):0<=g.tn/\g.tn<(g.hs.length:Int):=by
 obtain ⟨h1,h2,h3,h4,h5,h6,h7⟩:=fg.1 h
 omega
theorem cr.eq {k:Nat} (hk:cO<=k) {g:Gm} (h:g.sm):g.ap (cr.f k)=some (cJ g):=by
 refine (aa (bh.eq hk h)).trans ?_
 unfold cJ
 cases hg:dy g with
 |false=>rfl
 |true=>
  refine (ab rfl).trans ((aa (fI.eq hk g h.2.1.1)).trans ?_)
  cases ho:nj g with
  |true=>rfl
  |false=>
   have ht:=ny hg
   have h4:g.hp.length<1048577:=h.2.2.2
   have hp:=(fg.1 hg).2.2.2.1
   have hs:=ta g.hand
   have hh:=wY h
   refine (ab rfl).trans ((af (bi (ae ht.1) (ae ht.2))).trans ((aa (bB.eq hk hh)).trans ?_))
   have h:=scan (B:=List Int) (cW g.hand) (fun m b i=>cr.l6 k g.r.n g.r.e g.r.b1 g.r.b2 g.r.w g.r.f g.r.t g.r.l g.hp (cW g.hand) (fun x5=>some x5) m i b) (fun _ _=>true) (fun b a=>bif fits g.r g.top a then b++[a] else b) (fun x5=>some x5) (fun _ _=>none) (fun i b=>b.length<=i)
    (fun m b i h' hI=>by
      refine (cr.iz ..).trans ((ai (ae (by omega))).trans ?_)
      rw[nw (by omega) (by omega)]
      refine (af (bP (by omega))).trans ((af (bP h')).trans ?_)
      rw[Int.toNat_natCast,Int.toNat_natCast,aD (l:=cW g.hand) _ h',aL (by omega)]
      refine (aa (kN.eq hk h.1 _ _)).trans ?_
      show (bif fits g.r g.top (cW g.hand)[i] then _ else _)=_
      cases fits g.r g.top (cW g.hand)[i] with
      |false=>rfl
      |true=>exact (ai rfl).trans ((af (bP h')).trans (af (mN (by omega)))))
    (fun b i h' hI _=>by cases fits g.r g.top (cW g.hand)[i]<;>simp<;>omega)
    (fun m b hI=>(cr.iz ..).trans (ab (aH (by omega))))
    (cW g.hand).length 0 k [] (by omega) (bV hk (by omega)) (by simp)
   refine h.trans ?_
   rw[List.drop_zero,bX,foldl_filter (fits g.r g.top),List.nil_append]
   rfl
theorem wZ {g:Gm} (h:dy g=true):lX g=nj g:=by unfold lX;rw[h];rfl
theorem bL.eq {k:Nat} (hk:cO<=k) {g:Gm} (h:g.sm):g.ap (bL.f k)=some (cJ g):=by
 refine (aa (cQ.eq hk h)).trans ?_
 unfold cJ
 cases hg:dy g with
 |false=>rfl
 |true=>
  refine (ab rfl).trans ((aa (fJ.eq hk h)).trans ?_)
  rw[wZ hg]
  cases ho:nj g with
  |true=>rfl
  |false=>
   have ht:=ny hg
   have h4:g.hp.length<1048577:=h.2.2.2
   have hp:=(fg.1 hg).2.2.2.1
   have hs:=ta g.hand
   have hh:=wY h
   refine (ab rfl).trans ((af (bi (ae ht.1) (ae ht.2))).trans ((aa (aX.eq hk hh)).trans ?_))
   have h:=scan (B:=List Int) (cW g.hand) (fun m b i=>bL.l5 k ((cW g.hand).length:Int) g.r.n g.r.e g.r.b1 g.r.b2 g.r.w g.r.f g.r.t g.r.l g.hp (cW g.hand) (fun x5=>some x5) m i b) (fun _ _=>true) (fun b a=>bif fits g.r g.top a then b++[a] else b) (fun x5=>some x5) (fun _ _=>none) (fun i b=>b.length<=i)
    (fun m b i h' hI=>by
      refine (bL.bp ..).trans ((ai (ae (by omega))).trans ?_)
      rw[nw (by omega) (by omega)]
      refine (af (bP h')).trans ((af (bP (by omega))).trans ?_)
      rw[Int.toNat_natCast,Int.toNat_natCast,aD (l:=cW g.hand) _ h',aL (by omega)]
      refine (aa (kQ.eq hk h.1 _ _)).trans ?_
      show (bif fits g.r g.top (cW g.hand)[i] then _ else _)=_
      cases fits g.r g.top (cW g.hand)[i] with
      |false=>rfl
      |true=>exact (ai rfl).trans (af (mN (by omega))))
    (fun b i h' hI _=>by cases fits g.r g.top (cW g.hand)[i]<;>simp<;>omega)
    (fun m b hI=>(bL.bp ..).trans (ab (aH (by omega))))
    (cW g.hand).length 0 k [] (by omega) (bV hk (by omega)) (by simp)
   refine h.trans ?_
   rw[List.drop_zero,bX,foldl_filter (fits g.r g.top),List.nil_append]
   rfl
theorem kO.eq {k:Nat} (hk:cO<=k) {g:Gm} (h:g.sm) (c:Int):g.ap (kO.f k) c=some ((mm g c).1.u4 (mm g c).2):=by
 have QN:=oA g
 refine (aa (eo.eq hk h)).trans ((aa (cr.eq hk h)).trans ((aa (bU.eq hk c (by omega))).trans ?_))
 unfold mm
 cases hc:aU (cJ g) c with
 |false=>rfl
 |true=>
  obtain ⟨hg,ho,hm,Wn⟩:=mU hc
  have ht:=ny hg
  obtain ⟨h1,h2,h3,h4,h5,h6,h7⟩:=fg.1 hg
  have N7:=om h1
  have h8:g.hp.length<1048577:=h.2.2.2
  refine (ab rfl).trans ((af (bi (ae ht.1) (ae ht.2))).trans ((aa (dN.eq hk c (wY h))).trans ((af (bi (ae ht.1) (ae ht.2))).trans ((af (mN (show g.hp.length+1<=_ by omega))).trans ((aa (jG.eq hk h.1 c)).trans ?_)))))
  rw[wrap_i64 (n:=g.tn+2) (by omega) (by omega),wrap_i64 (n:=g.tn+1) (by omega) (by omega),wrap_i64 (n:=g.mv+1) (by omega) (by omega)]
  cases n7 g.r c with
  |true=>exact (ai rfl).trans (af (by rw[aH (p:=g.r.n=0) (by omega)];rfl))
  |false=>exact (ab rfl).trans (af (by rw[aH (p:=g.r.n=0) (by omega)];rfl))
theorem kR.eq {k:Nat} (hk:cO<=k) {g:Gm} (h:g.sm) (c:Int):g.ap (kR.f k) c=some ((mm g c).1.u4 (mm g c).2):=by
 have QN:=oA g
 refine (aa (cN.eq hk h)).trans ((aa (bL.eq hk h)).trans ((aa (fK.eq hk c (by omega))).trans ?_))
 unfold mm
 cases hc:aU (cJ g) c with
 |false=>rfl
 |true=>
  obtain ⟨hg,ho,hm,Wn⟩:=mU hc
  have ht:=ny hg
  obtain ⟨h1,h2,h3,h4,h5,h6,h7⟩:=fg.1 hg
  have N7:=om h1
  have h8:g.hp.length<1048577:=h.2.2.2
  refine (ab rfl).trans ((af (bi (ae ht.1) (ae ht.2))).trans ((aa (db.eq hk c (wY h))).trans ((af (bi (ae ht.1) (ae ht.2))).trans ((af (mN (show g.hp.length+1<=_ by omega))).trans ((aa (jN.eq hk h.1 c)).trans ?_)))))
  rw[h2,wrap_i64 (n:=g.tn+2) (by omega) (by omega),wrap_i64 (n:=g.tn+1) (by omega) (by omega),wrap_i64 (n:=g.mv+1) (by omega) (by omega)]
  cases n7 g.r c with
  |true=>exact (ai rfl).trans (af (by rw[aH (p:=g.r.n=0) (by omega)];rfl))
  |false=>exact (ab rfl).trans (af (by rw[aH (p:=g.r.n=0) (by omega)];rfl))
theorem DQ (t m:Nat) (hs:List (List Int)) {st hp:List Int} (n:Nat) (h:(bif ((st.length:Int)==0) then hp.take (hp.length-1) else st)=[]):takeN t (m+1) hs st hp n=(hs,[],(bif ((st.length:Int)==0) then hp.drop (hp.length-1) else hp),n):=by
 rw[takeN,h]
theorem rC (t m:Nat) (hs:List (List Int)) {st hp:List Int} (n:Nat) {c:Int} {st2:List Int} (h:(bif ((st.length:Int)==0) then hp.take (hp.length-1) else st)=c::st2):takeN t (m+1) hs st hp n=takeN t m (hs.set t (hs.getD t []++[c])) st2 (bif ((st.length:Int)==0) then hp.drop (hp.length-1) else hp) (n+1):=by
 rw[takeN,h]
theorem oB {hs:List (List Int)} {t:Nat} (c:Int) (h:t<hs.length):(hs.set t (hs.getD t []++[c])).flatten.length=hs.flatten.length+1:=by
 obtain ⟨q,q1,q2⟩:=sZ hs t (hs.getD t []++[c]) h
 rw[q1.length_eq,q2.length_eq,aD _ h]
 simp only[List.length_append,List.length_singleton]
 omega
theorem DR (hs:List (List Int)) (t:Nat):(hs.getD t []).length<=hs.flatten.length:=by
 rw[List.getD_eq_getElem?_getD]
 cases e:hs[t]? with
 |none=>simp
 |some x=>exact Hh (List.mem_of_getElem? e)
theorem Jy (l:List Int) (n:Nat):[]++((l.take n).drop 0)=l.take n:=by simp
theorem qj (l:List Int) (n:Nat):[]++((l.take ((l.length:Int).toNat)).drop n)=l.drop n:=by rw[Int.toNat_natCast,List.take_length];rfl
def K2 {R:Type} (e0:Int->List (List Int)->List Int->List Int->Option R) (q:List (List Int)×List Int×List Int×Nat):Option R:=e0 (q.2.2.2:Int) q.1 q.2.1 q.2.2.1
theorem b_.loop {R:Type} (k:Nat) (T t:Nat) (hT:T<1000) (e0:Int->List (List Int)->List Int->List Int->Option R): ∀(m i n a:Nat) (hs:List (List Int)) (st hp:List Int),i+m=T->m<n->a<=i->t<hs.length->0<hp.length->hs.flatten.length+(st.length+hp.length)<1000000->
 b_.l6 k (T:Int) (t:Int) e0 n (a:Int) (i:Int) hs st hp=K2 e0 (takeN t m hs st hp a):=by
 intro m
 induction m with
 |zero=>
  intro i n a hs st hp hi hn ha ht hh hl
  obtain ⟨n,rfl⟩: ∃n',n=n' +1:=⟨n-1,by omega⟩
  exact (b_.iz ..).trans (ab (aH (by omega)))
 |succ m ih=>
  intro i n a hs st hp hi hn ha ht hh hl
  obtain ⟨n,rfl⟩: ∃n',n=n' +1:=⟨n-1,by omega⟩
  refine (b_.iz ..).trans ((ai (ae (by omega))).trans ?_)
  rw[nw hh (by omega),Int.toNat_natCast,aL (by omega),aL (by omega)]
  have hg:=DR hs t
  cases jn:((st.length:Int)==0) with
  |true=>
   have OQ:(st.length:Int)=0:=by simpa using jn
   have l1:(hp.take (hp.length-1)).length=hp.length-1:=by simp
   have l2:(hp.drop (hp.length-1)).length=1:=by simp;omega
   refine (ai rfl).trans ((af (bi (ae (by omega)) (ae (by omega)))).trans ((af (ae (by omega))).trans ((af (mN (by simp;omega))).trans ((af (bi (ae (by omega)) (ae (by omega)))).trans ((af (bi (ae (by omega)) (ae (by omega)))).trans ((af (mN (by simp;omega))).trans ?_))))))
   rw[Jy,qj]
   cases hx:hp.take (hp.length-1) with
   |nil=>
    rw[DQ t m hs a (by rw[jn];exact hx),jn]
    rfl
   |cons c st2=>
    rw[hx] at l1
    rw[List.length_cons] at l1
    rw[rC t m hs a (c:=c) (st2:=st2) (by rw[jn];exact hx),jn]
    have lG:(((c::st2).length:Int)==0)=false:=by
     have q: ¬(((c::st2).length:Int)=0):=by rw[List.length_cons];omega
     simpa using q
    refine (ab lG).trans ((af (bP ht)).trans ((af (ae (by rw[List.length_cons];omega))).trans ((af (mN (by simp only[Int.toNat_natCast];omega))).trans ((af (bP ht)).trans ((af (by simp)).trans ((af (bi (ae (by omega)) (ae (by omega)))).trans ((af (ae (by rw[List.length_cons];omega))).trans ((af (mN (by simp;omega))).trans ?_))))))))
    rw[qj,Int.toNat_natCast]
    refine ih (i+1) n (a+1) _ st2 _ (by omega) (by omega) (by omega) (by simpa using ht) (by show 0<(hp.drop (hp.length-1)).length;omega) ?_
    rw[show (c::st2).getD 0 0=c from rfl,oB c ht]
    show _+(st2.length+(hp.drop (hp.length-1)).length)<_
    omega
  |false=>
   have OQ: ¬(st.length:Int)=0:=by simpa using jn
   refine (ab rfl).trans ((ab rfl).trans ?_)
   cases st with
   |nil=>simp at OQ
   |cons c st2=>
    rw[rC t m hs a (c:=c) (st2:=st2) (by rw[jn];rfl),jn]
    rw[List.length_cons] at hl
    refine ((af (bP ht)).trans ((af (ae (by rw[List.length_cons];omega))).trans ((af (mN (by simp only[Int.toNat_natCast];omega))).trans ((af (bP ht)).trans ((af (by simp)).trans ((af (bi (ae (by omega)) (ae (by omega)))).trans ((af (ae (by rw[List.length_cons];omega))).trans ((af (mN (by simp;omega))).trans ?_))))))))
    rw[qj,Int.toNat_natCast]
    refine ih (i+1) n (a+1) _ st2 _ (by omega) (by omega) (by omega) (by simpa using ht) hh ?_
    rw[show (c::st2).getD 0 0=c from rfl,oB c ht]
    show _+(st2.length+hp.length)<_
    omega
theorem ca.loop {R:Type} (k:Nat) (T t:Nat) (hT:T<1000) (e0:Int->List (List Int)->List Int->List Int->Option R): ∀(m i n a:Nat) (hs:List (List Int)) (st hp:List Int),i+m=T->m<n->a<=i->t<hs.length->0<hp.length->hs.flatten.length+(st.length+hp.length)<1000000->
 ca.l6 k (T:Int) (t:Int) e0 n (a:Int) (i:Int) hs st hp=K2 e0 (takeN t m hs st hp a):=by
 intro m
 induction m with
 |zero=>
  intro i n a hs st hp hi hn ha ht hh hl
  obtain ⟨n,rfl⟩: ∃n',n=n' +1:=⟨n-1,by omega⟩
  exact (ca.iz ..).trans (ab (aH (by omega)))
 |succ m ih=>
  intro i n a hs st hp hi hn ha ht hh hl
  obtain ⟨n,rfl⟩: ∃n',n=n' +1:=⟨n-1,by omega⟩
  refine (ca.iz ..).trans ((ai (ae (by omega))).trans ?_)
  rw[nw hh (by omega),Int.toNat_natCast,aL (by omega),aL (by omega)]
  have hg:=DR hs t
  cases jn:((st.length:Int)==0) with
  |true=>
   have OQ:(st.length:Int)=0:=by simpa using jn
   have l1:(hp.take (hp.length-1)).length=hp.length-1:=by simp
   have l2:(hp.drop (hp.length-1)).length=1:=by simp;omega
   refine (ai rfl).trans ((af (bi (ae (by omega)) (ae (by omega)))).trans ((af (ae (by omega))).trans ((aa (aJ.eq k (by simp;omega))).trans ((af (bi (ae (by omega)) (ae (by omega)))).trans ((af (bi (ae (by omega)) (ae (by omega)))).trans ((aa (aJ.eq k (by simp;omega))).trans ?_))))))
   rw[show (hp.take (hp.length-1)).drop 0=hp.take (hp.length-1) by simp,show (hp.take ((hp.length:Int).toNat)).drop (hp.length-1)=hp.drop (hp.length-1) by simp]
   cases hx:hp.take (hp.length-1) with
   |nil=>
    rw[DQ t m hs a (by rw[jn];exact hx),jn]
    rfl
   |cons c st2=>
    rw[hx] at l1
    rw[List.length_cons] at l1
    rw[rC t m hs a (c:=c) (st2:=st2) (by rw[jn];exact hx),jn]
    have lG:(((c::st2).length:Int)==0)=false:=by
     have q: ¬(((c::st2).length:Int)=0):=by rw[List.length_cons];omega
     simpa using q
    refine (ab lG).trans ((af (bP ht)).trans ((af (ae (by rw[List.length_cons];omega))).trans ((af (mN (by simp only[Int.toNat_natCast];omega))).trans ((af (bP ht)).trans ((af (by simp)).trans ((af (bi (ae (by omega)) (ae (by omega)))).trans ((af (ae (by rw[List.length_cons];omega))).trans ((aa (aJ.eq k (by simp;omega))).trans ?_))))))))
    rw[show ((c::st2).take (((c::st2).length:Int).toNat)).drop 1=st2 by simp,Int.toNat_natCast]
    refine ih (i+1) n (a+1) _ st2 _ (by omega) (by omega) (by omega) (by simpa using ht) (by show 0<(hp.drop (hp.length-1)).length;omega) ?_
    rw[show (c::st2).getD 0 0=c from rfl,oB c ht]
    show _+(st2.length+(hp.drop (hp.length-1)).length)<_
    omega
  |false=>
   have OQ: ¬(st.length:Int)=0:=by simpa using jn
   refine (ab rfl).trans ((ab rfl).trans ?_)
   cases st with
   |nil=>simp at OQ
   |cons c st2=>
    rw[rC t m hs a (c:=c) (st2:=st2) (by rw[jn];rfl),jn]
    rw[List.length_cons] at hl
    refine ((af (bP ht)).trans ((af (ae (by rw[List.length_cons];omega))).trans ((af (mN (by simp only[Int.toNat_natCast];omega))).trans ((af (bP ht)).trans ((af (by simp)).trans ((af (bi (ae (by omega)) (ae (by omega)))).trans ((af (ae (by rw[List.length_cons];omega))).trans ((aa (aJ.eq k (by simp;omega))).trans ?_))))))))
    rw[show ((c::st2).take (((c::st2).length:Int).toNat)).drop 1=st2 by simp,Int.toNat_natCast]
    refine ih (i+1) n (a+1) _ st2 _ (by omega) (by omega) (by omega) (by simpa using ht) hh ?_
    rw[show (c::st2).getD 0 0=c from rfl,oB c ht]
    show _+(st2.length+hp.length)<_
    omega
theorem Bn {g:Gm} (h:dy g=true):g.hs.flatten.length+(g.st.length+g.hp.length)=52:=by
 have:=DI (fg.1 h).2.2.1
 rw[jr,List.length_append,List.length_append] at this
 exact this
theorem b_.eq {k:Nat} (hk:cO<=k) {g:Gm} (h:g.sm):g.ap (b_.f k)=some ((gZ g).1.u4 (gZ g).2):=by
 refine (aa (eo.eq hk h)).trans ((aa (bh.eq hk h)).trans ?_)
 unfold gZ
 cases hg:dy g with
 |false=>rfl
 |true=>
  refine (ab rfl).trans ((aa (fI.eq hk g h.2.1.1)).trans ?_)
  cases ho:nj g with
  |true=>rfl
  |false=>
   have ht:=ny hg
   have yy:=Bn hg
   obtain ⟨h1,h2,h3,h4,h5,h6,h7⟩:=fg.1 hg
   have N7:=om h1
   refine (ab rfl).trans ?_
   have e1:g.r.t=((g.r.t.toNat:Nat):Int):=by omega
   have e2:g.tn=((g.tn.toNat:Nat):Int):=by omega
   have lp:=b_.loop k g.r.t.toNat g.tn.toNat (by omega) (fun x4 x5 x6 x7=>
    bif (x4==(0:Int)) then
     ay (!(decide (g.r.n=(0:Int))))<|
     some (g.r.n,g.r.e,g.r.b1,g.r.b2,g.r.w,g.r.f,g.r.t,g.r.l,x5,x6,x7,(IntKind.wrap .i64 (g.tn+(1:Int))).tmod g.r.n,IntKind.wrap .i64 (g.mv+(1:Int)),IntKind.wrap .i64 (g.ps+(1:Int)),true)
    else
     ay (!(decide (g.r.n=(0:Int))))<|
     some (g.r.n,g.r.e,g.r.b1,g.r.b2,g.r.w,g.r.f,g.r.t,g.r.l,x5,x6,x7,(IntKind.wrap .i64 (g.tn+(1:Int))).tmod g.r.n,IntKind.wrap .i64 (g.mv+(1:Int)),(0:Int),true)) g.r.t.toNat 0 k 0 g.hs g.st g.hp (by omega) (by simp[cO] at hk;omega) (by omega) (by omega) h4 (by omega)
   rw[<- e1,<- e2] at lp
   refine Eq.trans lp ?_
   unfold K2
   rw[wrap_i64 (n:=g.tn+1) (by omega) (by omega),wrap_i64 (n:=g.mv+1) (by omega) (by omega),wrap_i64 (n:=g.ps+1) (by omega) (by omega),aH (p:=g.r.n=0) (by omega)]
   have e3:(((takeN g.tn.toNat g.r.t.toNat g.hs g.st g.hp 0).2.2.2:Int)==0)=((takeN g.tn.toNat g.r.t.toNat g.hs g.st g.hp 0).2.2.2==0):=by
    rw[Bool.eq_iff_iff,beq_iff_eq,beq_iff_eq];omega
   dsimp only
   rw[e3]
   simp only[Bool.not_false,Bool.and_self,cond_true]
   cases ((takeN g.tn.toNat g.r.t.toNat g.hs g.st g.hp 0).2.2.2==0)<;>rfl
theorem ca.eq {k:Nat} (hk:cO<=k) {g:Gm} (h:g.sm):g.ap (ca.f k)=some ((gZ g).1.u4 (gZ g).2):=by
 refine (aa (cN.eq hk h)).trans ((aa (cQ.eq hk h)).trans ?_)
 unfold gZ
 cases hg:dy g with
 |false=>rfl
 |true=>
  refine (ab rfl).trans ((aa (fJ.eq hk h)).trans ?_)
  rw[wZ hg]
  cases ho:nj g with
  |true=>rfl
  |false=>
   have ht:=ny hg
   have yy:=Bn hg
   obtain ⟨h1,h2,h3,h4,h5,h6,h7⟩:=fg.1 hg
   have N7:=om h1
   refine (ab rfl).trans ?_
   have e1:g.r.t=((g.r.t.toNat:Nat):Int):=by omega
   have e2:g.tn=((g.tn.toNat:Nat):Int):=by omega
   have lp:=ca.loop k g.r.t.toNat g.tn.toNat (by omega) (fun x4 x5 x6 x7=>
    bif decide (x4>(0:Int)) then
     ay (!(decide ((g.hs.length:Int)=(0:Int))))<|
     some (g.r.n,g.r.e,g.r.b1,g.r.b2,g.r.w,g.r.f,g.r.t,g.r.l,x5,x6,x7,(IntKind.wrap .i64 (g.tn+(1:Int))).tmod (g.hs.length:Int),IntKind.wrap .i64 (g.mv+(1:Int)),(0:Int),true)
    else
     ay (!(decide ((g.hs.length:Int)=(0:Int))))<|
     some (g.r.n,g.r.e,g.r.b1,g.r.b2,g.r.w,g.r.f,g.r.t,g.r.l,x5,x6,x7,(IntKind.wrap .i64 (g.tn+(1:Int))).tmod (g.hs.length:Int),IntKind.wrap .i64 (g.mv+(1:Int)),IntKind.wrap .i64 (g.ps+(1:Int)),true)) g.r.t.toNat 0 k 0 g.hs g.st g.hp (by omega) (by simp[cO] at hk;omega) (by omega) (by omega) h4 (by omega)
   rw[<- e1,<- e2] at lp
   refine Eq.trans lp ?_
   unfold K2
   rw[h2,wrap_i64 (n:=g.tn+1) (by omega) (by omega),wrap_i64 (n:=g.mv+1) (by omega) (by omega),wrap_i64 (n:=g.ps+1) (by omega) (by omega),aH (p:=g.r.n=0) (by omega)]
   have e3:decide (((takeN g.tn.toNat g.r.t.toNat g.hs g.st g.hp 0).2.2.2:Int)>0)= !((takeN g.tn.toNat g.r.t.toNat g.hs g.st g.hp 0).2.2.2==0):=by
    cases e:((takeN g.tn.toNat g.r.t.toNat g.hs g.st g.hp 0).2.2.2==0) with
    |true=>rw[beq_iff_eq] at e;rw[e];rfl
    |false=>
     have: ¬(takeN g.tn.toNat g.r.t.toNat g.hs g.st g.hp 0).2.2.2=0:=by simpa using e
     exact ae (by omega)
   dsimp only
   rw[e3]
   simp only[Bool.not_false,Bool.and_self,cond_true]
   cases ((takeN g.tn.toNat g.r.t.toNat g.hs g.st g.hp 0).2.2.2==0)<;>rfl
theorem fC.eq {k:Nat} (hk:cO<=k) {g:Gm} (h:g.sm) (c:Int):g.ap (fC.f k) c=some ((ba g c).1.u4 (ba g c).2):=by
 unfold ba
 cases hc:(c== -1) with
 |true=>exact (ai hc).trans ((aa (ca.eq hk h)).trans rfl)
 |false=>exact (ab hc).trans ((aa (kR.eq hk h c)).trans rfl)
theorem fA.eq {k:Nat} (hk:cO<=k) {g:Gm} (h:g.sm) (c:Int):g.ap (fA.f k) c=some ((ba g c).1.u4 (ba g c).2):=by
 unfold ba
 cases hc:(c== -1) with
 |true=>exact (ai hc).trans ((aa (b_.eq hk h)).trans rfl)
 |false=>exact (ab hc).trans ((aa (kO.eq hk h c)).trans rfl)
abbrev Gm.Vl (g:Gm) (b:Int):Int×Int×Bool×Bool×List Int×List Int×Int×Int×List (List Int)×List Int×List Int×Int×Int×Int×Int:=(g.r.n,g.r.e,g.r.b1,g.r.b2,g.r.w,g.r.f,g.r.t,g.r.l,g.hs,g.st,g.hp,g.tn,g.mv,g.ps,b)
abbrev Qj:=Option (Int×Int×Bool×Bool×List Int×List Int×Int×Int×List (List Int)×List Int×List Int×Int×Int×Int×Int)
theorem cR.loop {k:Nat} (hk:cO<=k) {l:List Int} (hl:l.length<1073741824): ∀(m i n:Nat) (g:Gm),i+m=l.length->m<n->g.sm->
 cR.l3 k l (fun x3 x4 x5 x6 x7 x8 x9 LS LU Je N2 N3 LW LX LY=>(some (x4,x5,x6,x7,N2,N3,x8,x9,LW,LX,LY,LS,LU,Je,x3):Qj)) (fun LZ L0 L1 L2 L3 L4 L5 L6 L7 L8 L9 L_ Ma Mb=>some (LZ,L0,L1,L2,L8,L9,L3,L4,L_,Ma,Mb,L5,L6,L7,(l.length:Int))) n (i:Int) g.r.n g.r.e g.r.b1 g.r.b2 g.r.t g.r.l g.tn g.mv g.ps g.r.w g.r.f g.hs g.st g.hp=some ((eN (l.drop i) (i:Int) g).1.Vl (eN (l.drop i) (i:Int) g).2):=by
 intro m
 induction m with
 |zero=>
  intro i n g hi hn hg
  obtain ⟨n,rfl⟩: ∃n',n=n' +1:=⟨n-1,by omega⟩
  rw[List.drop_eq_nil_of_le (by omega)]
  refine (cR.aA ..).trans ((ab (aH (by omega))).trans ?_)
  rw[show (l.length:Int)=(i:Int) by omega]
  rfl
 |succ m ih=>
  intro i n g hi hn hg
  obtain ⟨n,rfl⟩: ∃n',n=n' +1:=⟨n-1,by omega⟩
  have h:i<l.length:=by omega
  refine (cR.aA ..).trans ((ai (ae (by omega))).trans ((af (bP h)).trans ?_))
  rw[Int.toNat_natCast,aD _ h,aL (by omega),drop_cons h]
  refine (aa (fA.eq hk hg l[i])).trans ?_
  show (bif !(ba g l[i]).2 then _ else _)=some ((bif (ba g l[i]).2 then eN (l.drop (i+1)) ((i:Int)+1) (ba g l[i]).1 else (g,(i:Int))).1.Vl (bif (ba g l[i]).2 then eN (l.drop (i+1)) ((i:Int)+1) (ba g l[i]).1 else (g,(i:Int))).2)
  cases hm:(ba g l[i]).2 with
  |false=>rfl
  |true=>
   refine (ab rfl).trans ((ih (i+1) n _ (by omega) (by omega) (lJ hg)).trans ?_)
   rw[show ((i+1:Nat):Int)=(i:Int)+1 by omega]
   rfl
theorem cT.loop {k:Nat} (hk:cO<=k) {l:List Int} (hl:l.length<1073741824): ∀(m i n:Nat) (g:Gm),i+m=l.length->m<n->g.sm->
 cT.l3 k l (l.length:Int) (fun x3 x4 x5 x6 x7 x8 x9 LS LU Je N2 N3 LW LX LY=>(some (x4,x5,x6,x7,N2,N3,x8,x9,LW,LX,LY,LS,LU,Je,x3):Qj)) (fun LZ L0 L1 L2 L3 L4 L5 L6 L7 L8 L9 L_ Ma Mb=>some (LZ,L0,L1,L2,L8,L9,L3,L4,L_,Ma,Mb,L5,L6,L7,(l.length:Int))) n (i:Int) g.r.n g.r.e g.r.b1 g.r.b2 g.r.t g.r.l g.tn g.mv g.ps g.r.w g.r.f g.hs g.st g.hp=some ((eN (l.drop i) (i:Int) g).1.Vl (eN (l.drop i) (i:Int) g).2):=by
 intro m
 induction m with
 |zero=>
  intro i n g hi hn hg
  obtain ⟨n,rfl⟩: ∃n',n=n' +1:=⟨n-1,by omega⟩
  rw[List.drop_eq_nil_of_le (by omega)]
  refine (cT.aA ..).trans ((ab (aH (by omega))).trans ?_)
  rw[show (l.length:Int)=(i:Int) by omega]
  rfl
 |succ m ih=>
  intro i n g hi hn hg
  obtain ⟨n,rfl⟩: ∃n',n=n' +1:=⟨n-1,by omega⟩
  have h:i<l.length:=by omega
  refine (cT.aA ..).trans ((ai (ae (by omega))).trans ((af (bP h)).trans ?_))
  rw[Int.toNat_natCast,aD _ h,aL (by omega),drop_cons h]
  refine (aa (fC.eq hk hg l[i])).trans ?_
  show (bif !(ba g l[i]).2 then _ else _)=some ((bif (ba g l[i]).2 then eN (l.drop (i+1)) ((i:Int)+1) (ba g l[i]).1 else (g,(i:Int))).1.Vl (bif (ba g l[i]).2 then eN (l.drop (i+1)) ((i:Int)+1) (ba g l[i]).1 else (g,(i:Int))).2)
  cases hm:(ba g l[i]).2 with
  |false=>rfl
  |true=>
   refine (ab rfl).trans ((ih (i+1) n _ (by omega) (by omega) (lJ hg)).trans ?_)
   rw[show ((i+1:Nat):Int)=(i:Int)+1 by omega]
   rfl
theorem cR.eq {k:Nat} (hk:cO<=k) {l:List Int} (hl:l.length<1073741824) {g:Gm} (hg:g.sm):g.ap (cR.f k) l=some ((eN l 0 g).1.Vl (eN l 0 g).2):=
 (aa (eo.eq hk hg)).trans (cR.loop hk hl l.length 0 k g (by omega) (mR hk hl) hg)
theorem cT.eq {k:Nat} (hk:cO<=k) {l:List Int} (hl:l.length<1073741824) {g:Gm} (hg:g.sm):g.ap (cT.f k) l=some ((eN l 0 g).1.Vl (eN l 0 g).2):=
 (aa (cN.eq hk hg)).trans (cT.loop hk hl l.length 0 k g (by omega) (mR hk hl) hg)
theorem tc: ∀(l:List Int) (i:Int) {g:Gm},g.sm->(eN l i g).1.sm
 | [],i,g,h=>h
 |m::l,i,g,h=>by
  unfold eN
  cases (ba g m).2 with
  |true=>exact tc l (i+1) (lJ h)
  |false=>exact h
theorem w6: ∀(l:List Int) (i:Int) {g:Gm},(eN l i g).2=i+(l.length:Int)->(eN l i g).1.mv=g.mv+(l.length:Int)/\(eN l i g).1.r=g.r/\(dy g=true->dy (eN l i g).1=true)
 | [],i,g,_=>⟨by simp[eN],rfl,fun h=>h⟩
 |m::l,i,g,h=>by
  unfold eN at h ⊢
  cases hm:(ba g m).2 with
  |true=>
   rw[hm] at h
   rw[List.length_cons] at h
   obtain ⟨g1,g2,g3⟩:=sI hm
   obtain ⟨h1,h2,h3⟩:=w6 l (i+1) (g:=(ba g m).1) (by simp only[cond_true] at h;omega)
   refine ⟨?_,?_,fun _=>h3 g1⟩
   ·simp only[cond_true];rw[h1,g2,List.length_cons];omega
   ·simp only[cond_true];rw[h2,g3]
  |false=>
   rw[hm] at h
   rw[List.length_cons] at h
   simp only[cond_false] at h
   omega
theorem OR {α:Type} [DecidableEq α] (x y:α) (s t:List α):decide (x::s=y::t)=(decide (x=y)&&decide (s=t)):=by
 by_cases h1:x=y
 ·subst h1
  by_cases h2:s=t
  ·subst h2;simp
  ·simp[h2]
 ·simp[h1]
theorem pL {α:Type} [DecidableEq α] {a b:List α} {i:Nat} (ha:i<a.length) (hb:i<b.length):decide (a.drop i=b.drop i)=(decide (a[i] =b[i])&&decide (a.drop (i+1)=b.drop (i+1))):=by
 rw[<- OR]
 congr 1
 rw[drop_cons ha,drop_cons hb]
theorem aY.loop {R:Type} (k:Nat) {a b:List Int} (h:a.length=b.length) (hl:a.length<1073741824) (e0 e1:Option R): ∀(m i n:Nat),i+m=a.length->m<n->aY.l4 k a b e0 e1 n (i:Int)=bif decide (a.drop i=b.drop i) then e1 else e0:=by
 intro m
 induction m with
 |zero=>
  intro i n hi hn
  obtain ⟨n,rfl⟩: ∃n',n=n' +1:=⟨n-1,by omega⟩
  rw[List.drop_eq_nil_of_le (by omega),List.drop_eq_nil_of_le (by omega)]
  exact (aY.hO ..).trans (ab (aH (by omega)))
 |succ m ih=>
  intro i n hi hn
  obtain ⟨n,rfl⟩: ∃n',n=n' +1:=⟨n-1,by omega⟩
  have ha:i<a.length:=by omega
  have hb:i<b.length:=by omega
  refine (aY.hO ..).trans ((ai (ae (by omega))).trans ((af (bP ha)).trans ((af (bP hb)).trans ?_)))
  rw[Int.toNat_natCast,aD (l:=a) _ ha,aD (l:=b) _ hb,aL (by omega),ih (i+1) n (by omega) (by omega),pL ha hb]
  by_cases h1:a[i] =b[i]
  ·rw[ae h1]
   exact (ab (by simp[h1])).trans (by simp)
  ·rw[aH h1]
   exact (ai (by simp[h1])).trans rfl
theorem aI.loop {R:Type} (k:Nat) {a b:List Int} (h:a.length=b.length) (hl:a.length<1073741824) (e0 e1:Option R): ∀(m i n:Nat),i+m=a.length->m<n->aI.l4 k a b (a.length:Int) e0 e1 n (i:Int)=bif decide (a.drop i=b.drop i) then e1 else e0:=by
 intro m
 induction m with
 |zero=>
  intro i n hi hn
  obtain ⟨n,rfl⟩: ∃n',n=n' +1:=⟨n-1,by omega⟩
  rw[List.drop_eq_nil_of_le (by omega),List.drop_eq_nil_of_le (by omega)]
  exact (aI.hO ..).trans (ab (aH (by omega)))
 |succ m ih=>
  intro i n hi hn
  obtain ⟨n,rfl⟩: ∃n',n=n' +1:=⟨n-1,by omega⟩
  have ha:i<a.length:=by omega
  have hb:i<b.length:=by omega
  refine (aI.hO ..).trans ((ai (ae (by omega))).trans ((af (bP ha)).trans ((af (bP hb)).trans ?_)))
  rw[Int.toNat_natCast,aD (l:=a) _ ha,aD (l:=b) _ hb,aL (by omega),ih (i+1) n (by omega) (by omega),pL ha hb]
  by_cases h1:a[i] =b[i]
  ·rw[ae h1]
   exact (ab (by simp[h1])).trans (by simp)
  ·rw[aH h1]
   exact (ai (by simp[h1])).trans rfl
def yz (a b:List Int):Bool:=decide (a=b)
theorem E3 {α:Type} [DecidableEq α] {a b:List α} (h: ¬((a.length:Int)=(b.length:Int))):decide (a=b)=false:=aH (fun e=>h (by rw[e]))
theorem aY.eq {k:Nat} (hk:cO<=k) {a:List Int} (b:List Int) (hl:a.length<1073741824):aY.f k a b=some (yz a b):=by
 unfold yz
 by_cases h:(a.length:Int)=(b.length:Int)
 ·refine (ab (by simp[h])).trans ((aY.loop k (by omega) hl _ _ a.length 0 k (by omega) (mR hk hl)).trans ?_)
  rw[List.drop_zero,List.drop_zero]
  cases decide (a=b)<;>rfl
 ·rw[E3 h]
  exact (ai (by simpa using h)).trans rfl
theorem aI.eq {k:Nat} (hk:cO<=k) {a:List Int} (b:List Int) (hl:a.length<1073741824):aI.f k a b=some (yz a b):=by
 unfold yz
 by_cases h:(a.length:Int)=(b.length:Int)
 ·refine (ab (by simp[h])).trans ((aI.loop k (by omega) hl _ _ a.length 0 k (by omega) (mR hk hl)).trans ?_)
  rw[List.drop_zero,List.drop_zero]
  cases decide (a=b)<;>rfl
 ·rw[E3 h]
  exact (ai (by simpa using h)).trans rfl
def Hl (a b:List (List Int)):Bool:=decide (a=b)
theorem bf.loop {R:Type} {k:Nat} (hk:cO<=k) {a b:List (List Int)} (h:a.length=b.length) (hl:Bl a) (e0 e1:Option R): ∀(m i n:Nat),i+m=a.length->m<n->bf.l4 k a b e0 e1 n (i:Int)=bif decide (a.drop i=b.drop i) then e1 else e0:=by
 intro m
 induction m with
 |zero=>
  intro i n hi hn
  obtain ⟨n,rfl⟩: ∃n',n=n' +1:=⟨n-1,by omega⟩
  rw[List.drop_eq_nil_of_le (by omega),List.drop_eq_nil_of_le (by omega)]
  exact (bf.hO ..).trans (ab (aH (by omega)))
 |succ m ih=>
  intro i n hi hn
  obtain ⟨n,rfl⟩: ∃n',n=n' +1:=⟨n-1,by omega⟩
  have ha:i<a.length:=by omega
  have hb:i<b.length:=by omega
  have:=hl.1
  have:=hl.2 _ (List.getElem_mem ha)
  refine (bf.hO ..).trans ((ai (ae (by omega))).trans ((af (bP ha)).trans ((af (bP hb)).trans ?_)))
  rw[Int.toNat_natCast,aD (l:=a) _ ha,aD (l:=b) _ hb,aL (by omega)]
  refine (aa (aY.eq hk _ (by omega))).trans ?_
  rw[ih (i+1) n (by omega) (by omega),pL ha hb]
  unfold yz
  cases decide (a[i] =b[i])<;>rfl
theorem bQ.loop {R:Type} {k:Nat} (hk:cO<=k) {a b:List (List Int)} (h:a.length=b.length) (hl:Bl a) (e0 e1:Option R): ∀(m i n:Nat),i+m=a.length->m<n->bQ.l4 k a b (a.length:Int) e0 e1 n (i:Int)=bif decide (a.drop i=b.drop i) then e1 else e0:=by
 intro m
 induction m with
 |zero=>
  intro i n hi hn
  obtain ⟨n,rfl⟩: ∃n',n=n' +1:=⟨n-1,by omega⟩
  rw[List.drop_eq_nil_of_le (by omega),List.drop_eq_nil_of_le (by omega)]
  exact (bQ.hO ..).trans (ab (aH (by omega)))
 |succ m ih=>
  intro i n hi hn
  obtain ⟨n,rfl⟩: ∃n',n=n' +1:=⟨n-1,by omega⟩
  have ha:i<a.length:=by omega
  have hb:i<b.length:=by omega
  have:=hl.1
  have:=hl.2 _ (List.getElem_mem ha)
  refine (bQ.hO ..).trans ((ai (ae (by omega))).trans ((af (bP ha)).trans ((af (bP hb)).trans ?_)))
  rw[Int.toNat_natCast,aD (l:=a) _ ha,aD (l:=b) _ hb,aL (by omega)]
  refine (aa (aI.eq hk _ (by omega))).trans ?_
  rw[ih (i+1) n (by omega) (by omega),pL ha hb]
  unfold yz
  cases decide (a[i] =b[i])<;>rfl
theorem bQ.eq {k:Nat} (hk:cO<=k) {a:List (List Int)} (b:List (List Int)) (hl:Bl a):bQ.f k a b=some (Hl a b):=by
 unfold Hl
 by_cases h:(a.length:Int)=(b.length:Int)
 ·refine (ab (by simp[h])).trans ((bQ.loop hk (by omega) hl _ _ a.length 0 k (by omega) (bV hk hl.1)).trans ?_)
  rw[List.drop_zero,List.drop_zero]
  cases decide (a=b)<;>rfl
 ·rw[E3 h]
  exact (ai (by simpa using h)).trans rfl
def yA (r s:Rl):Bool:=(r.n==s.n)&&(r.e==s.e)&&(r.b1==s.b1)&&(r.b2==s.b2)&&yz r.w s.w&&yz r.f s.f&&(r.t==s.t)&&(r.l==s.l)
def Hm (g h:Gm):Bool:=yA g.r h.r&&Hl g.hs h.hs&&yz g.st h.st&&yz g.hp h.hp&&(g.tn==h.tn)&&(g.mv==h.mv)&&(g.ps==h.ps)
theorem fy.eq {k:Nat} (hk:cO<=k) {r:Rl} (s:Rl) (h:r.sm):s.ap (r.ap (fy.f k))=some (yA r s):=by
 show fy.f k r.n r.e r.b1 r.b2 r.w r.f r.t r.l s.n s.e s.b1 s.b2 s.w s.f s.t s.l=_
 have h1:=h.1
 have h2:=h.2
 unfold fy.f yA
 simp only[aY.eq hk s.w (show r.w.length<1073741824 by omega),aY.eq hk s.f (show r.f.length<1073741824 by omega),Option.bind_some]
 cases (r.n==s.n)<;>cases (r.e==s.e)<;>cases (r.b1==s.b1)<;>cases (r.b2==s.b2)<;>cases yz r.w s.w<;>cases yz r.f s.f<;>cases (r.t==s.t)<;>rfl
theorem dW.eq {k:Nat} (hk:cO<=k) {r:Rl} (s:Rl) (h:r.sm):s.ap (r.ap (dW.f k))=some (yA r s):=by
 show dW.f k r.n r.e r.b1 r.b2 r.w r.f r.t r.l s.n s.e s.b1 s.b2 s.w s.f s.t s.l=_
 have h1:=h.1
 have h2:=h.2
 unfold dW.f yA
 simp only[aI.eq hk s.w (show r.w.length<1073741824 by omega),aI.eq hk s.f (show r.f.length<1073741824 by omega),Option.bind_some]
 cases (r.n==s.n)<;>cases (r.e==s.e)<;>cases (r.b1==s.b1)<;>cases (r.b2==s.b2)<;>cases yz r.w s.w<;>cases yz r.f s.f<;>cases (r.t==s.t)<;>cases (r.l==s.l)<;>rfl
abbrev Yt (F:Int->Int->Bool->Bool->List Int->List Int->Int->Int->List (List Int)->List Int->List Int->Int->Int->Int->Int->Int->Bool->Bool->List Int->List Int->Int->Int->List (List Int)->List Int->List Int->Int->Int->Int->Option Bool) (g h:Gm):Option Bool:=F g.r.n g.r.e g.r.b1 g.r.b2 g.r.w g.r.f g.r.t g.r.l g.hs g.st g.hp g.tn g.mv g.ps h.r.n h.r.e h.r.b1 h.r.b2 h.r.w h.r.f h.r.t h.r.l h.hs h.st h.hp h.tn h.mv h.ps
theorem bf.eq {k:Nat} (hk:cO<=k) {g:Gm} (h:Gm) (hg:g.sm):Yt (bf.f k) g h=some (Hm g h):=by
 obtain ⟨h1,h2,h3,h4⟩:=hg
 have h3:g.st.length<1048577:=h3
 have h4:g.hp.length<1048577:=h4
 have hr:=fy.eq hk h.r h1
 have hr:fy.f k g.r.n g.r.e g.r.b1 g.r.b2 g.r.w g.r.f g.r.t g.r.l h.r.n h.r.e h.r.b1 h.r.b2 h.r.w h.r.f h.r.t h.r.l=some (yA g.r h.r):=hr
 show bf.f k g.r.n g.r.e g.r.b1 g.r.b2 g.r.w g.r.f g.r.t g.r.l g.hs g.st g.hp g.tn g.mv g.ps h.r.n h.r.e h.r.b1 h.r.b2 h.r.w h.r.f h.r.t h.r.l h.hs h.st h.hp h.tn h.mv h.ps=_
 unfold bf.f Hm Hl
 by_cases hl:(g.hs.length:Int)=(h.hs.length:Int)
 ·refine (ab (by simp[hl])).trans ((bf.loop hk (by omega) h2 _ _ g.hs.length 0 k (by omega) (bV hk h2.1)).trans ?_)
  rw[List.drop_zero,List.drop_zero,hr]
  simp only[aY.eq hk h.st (show g.st.length<1073741824 by omega),aY.eq hk h.hp (show g.hp.length<1073741824 by omega),Option.bind_some]
  cases decide (g.hs=h.hs)<;>cases yA g.r h.r<;>cases yz g.st h.st<;>cases yz g.hp h.hp<;>cases (g.tn==h.tn)<;>cases (g.mv==h.mv)<;>rfl
 ·rw[E3 hl]
  refine (ai (by simpa using hl)).trans ?_
  cases yA g.r h.r<;>rfl
theorem dD.eq {k:Nat} (hk:cO<=k) {g:Gm} (h:Gm) (hg:g.sm):Yt (dD.f k) g h=some (Hm g h):=by
 obtain ⟨h1,h2,h3,h4⟩:=hg
 have h3:g.st.length<1048577:=h3
 have h4:g.hp.length<1048577:=h4
 have hr:=dW.eq hk h.r h1
 have hr:dW.f k g.r.n g.r.e g.r.b1 g.r.b2 g.r.w g.r.f g.r.t g.r.l h.r.n h.r.e h.r.b1 h.r.b2 h.r.w h.r.f h.r.t h.r.l=some (yA g.r h.r):=hr
 show dD.f k g.r.n g.r.e g.r.b1 g.r.b2 g.r.w g.r.f g.r.t g.r.l g.hs g.st g.hp g.tn g.mv g.ps h.r.n h.r.e h.r.b1 h.r.b2 h.r.w h.r.f h.r.t h.r.l h.hs h.st h.hp h.tn h.mv h.ps=_
 unfold dD.f Hm
 rw[hr]
 simp only[bQ.eq hk h.hs h2,aI.eq hk h.st (show g.st.length<1073741824 by omega),aI.eq hk h.hp (show g.hp.length<1073741824 by omega),Option.bind_some]
 cases yA g.r h.r<;>cases Hl g.hs h.hs<;>cases yz g.st h.st<;>cases yz g.hp h.hp<;>cases (g.tn==h.tn)<;>cases (g.mv==h.mv)<;>rfl
def vM (d:List Int) (n q p:Nat):List Int:=(List.range ((q+n-1-p)/n)).map fun i=>d.getD (i*n+p) 0
def ji (d:List Int) (n q:Nat):List (List Int):=(List.range n).map (vM d n q)
def td (d:List Int) (n e:Nat):List (List Int):=(List.range n).map fun p=>(List.range e).map fun i=>d.getD (i*n+p) 0
def w7 (n:Nat) (b:List (List Int)×Nat) (c:Int):List (List Int)×Nat:=(b.1.set (b.2%n) (b.1.getD (b.2%n) []++[c]),b.2+1)
theorem OS {n q p:Nat} (h1:1<=n) (h2:n<=6) (hp:p<n):(q+1+n-1-p)/n=if p=q%n then (q+n-1-p)/n+1 else (q+n-1-p)/n:=by
 have:n=1\/n=2\/n=3\/n=4\/n=5\/n=6:=by omega
 rcases this with rfl|rfl|rfl|rfl|rfl|rfl<;>split<;>omega
theorem TW {n q:Nat} (h1:1<=n) (h2:n<=6):(q+n-1-q%n)/n*n+q%n=q:=by
 have:n=1\/n=2\/n=3\/n=4\/n=5\/n=6:=by omega
 rcases this with rfl|rfl|rfl|rfl|rfl|rfl<;>omega
theorem Q5 {n e p:Nat} (h1:1<=n) (h2:n<=6) (hp:p<n):(n*e+n-1-p)/n=e:=by
 have:n=1\/n=2\/n=3\/n=4\/n=5\/n=6:=by omega
 rcases this with rfl|rfl|rfl|rfl|rfl|rfl<;>omega
theorem E4 {d:List Int} {n q:Nat} (h1:1<=n) (h2:n<=6) (hq:q<d.length):(ji d n q).set (q%n) ((ji d n q).getD (q%n) []++[d[q]])=ji d n (q+1):=by
 have hm:q%n<n:=Nat.mod_lt _ (by omega)
 have e1:(ji d n q).getD (q%n) [] =vM d n q (q%n):=by
  rw[aD _ (by simpa[ji] using hm)];simp[ji]
 rw[e1]
 refine List.ext_getElem (by simp[ji]) (fun p um TX=> ?_)
 have hp:p<n:=by simpa[ji] using TX
 rw[List.getElem_set]
 have e2:(ji d n (q+1))[p] =vM d n (q+1) p:=by simp[ji]
 rw[e2]
 unfold vM
 rw[OS h1 h2 hp]
 by_cases YA:q%n=p
 ·subst YA
  rw[if_pos rfl,if_pos rfl,List.range_succ,List.map_append]
  simp only[List.map_cons,List.map_nil]
  rw[TW h1 h2,aD _ hq]
 ·rw[if_neg YA,if_neg (fun e=>YA e.symm)]
  simp[ji,vM]
theorem yB {d:List Int} {n:Nat} (h1:1<=n) (h2:n<=6): ∀(q:Nat),q<=d.length->(d.take q).foldl (w7 n) (List.replicate n [],0)=(ji d n q,q)
 |0,_=>by
  have e:ji d n 0=List.replicate n []:=by
   refine List.ext_getElem (by simp[ji]) (fun p um TX=> ?_)
   have hp:p<n:=by simpa using TX
   simp only[ji,vM,List.getElem_map,List.getElem_range,List.getElem_replicate]
   rw[show (0+n-1-p)/n=0 from Nat.div_eq_of_lt (by omega)]
   rfl
  rw[e];rfl
 |q+1,h=>by
  rw[List.take_succ_eq_append_getElem (by omega),List.foldl_append,yB h1 h2 q (by omega)]
  show w7 n (ji d n q,q) d[q] =_
  unfold w7
  rw[E4 h1 h2 (by omega)]
theorem zz {d:List Int} {n e:Nat} (h1:1<=n) (h2:n<=6):ji d n (n*e)=td d n e:=by
 unfold ji td
 refine List.map_congr_left (fun p hp=> ?_)
 unfold vM
 rw[Q5 h1 h2 (List.mem_range.1 hp)]
theorem DS {n:Nat} (h1:1<=n): ∀(l:List Int) (b:List (List Int)×Nat),b.1.length=n->((l.foldl (w7 n) b).1.flatten).Perm (b.1.flatten++l)
 | [],b,_=>by simp
 |c::l,b,h=>by
  have hm:b.2%n<b.1.length:=by rw[h];exact Nat.mod_lt _ (by omega)
  rw[List.foldl_cons]
  refine (DS h1 l _ (by simpa[w7] using h)).trans ?_
  obtain ⟨q,q1,q2⟩:=sZ b.1 (b.2%n) (b.1.getD (b.2%n) []++[c]) hm
  show ((b.1.set (b.2%n) (b.1.getD (b.2%n) []++[c])).flatten++l).Perm _
  refine (q2.append_right l).trans (List.Perm.trans ?_ (q1.append_right (c::l)).symm)
  rw[aD _ hm]
  have e1:b.1[b.2%n]++[c]++q++l=b.1[b.2%n]++([c]++(q++l)):=by simp
  have e2:b.1[b.2%n]++q++c::l=b.1[b.2%n]++(q++([c]++l)):=by simp
  rw[e1,e2]
  exact List.Perm.append_left _ (List.perm_append_comm_assoc _ _ _)
theorem Jz {d:List Int} {n e:Nat} (h1:1<=n) (h2:n<=6) (h:n*e<=d.length):(td d n e).flatten.Perm (d.take (n*e)):=by
 have:=DS h1 (d.take (n*e)) (List.replicate n [],0) (by simp)
 rw[yB h1 h2 _ h,zz h1 h2] at this
 simpa using this
theorem MK (d:List Int) (n e:Nat):(td d n e).length=n:=by simp[td]
theorem ea.loop {R:Type} {k n:Nat} (hk:cO<=k) (h1:1<=n) {v:List Int} (hv:v.length<1048577) (e0:List (List Int)->Option R):ea.l5 k (n:Int) v (v.length:Int) e0 k (0:Int) (List.replicate n [])=e0 (v.foldl (w7 n) (List.replicate n [],0)).1:=by
 have h:=scan (B:=List (List Int)×Nat) v (fun m b i=>ea.l5 k (n:Int) v (v.length:Int) e0 m i b.1) (fun _ _=>true) (w7 n) (fun b=>e0 b.1) (fun _ _=>none) (fun i b=>b.2=i/\b.1.length=n/\ ∀y∈b.1,y.length<=i)
  (fun m b i h hI=>by
    obtain ⟨XY,YB,XZ⟩:=hI
    have hm:i%n<n:=Nat.mod_lt _ (by omega)
    have e:((i:Int)).tmod (n:Int)=((i%n:Nat):Int):=rfl
    have hl:(b.1.getD (i%n) []).length<=i:=by rw[aD _ (by omega)];exact XZ _ (List.getElem_mem _)
    have hz:(!decide ((n:Int)=0))=true:=by rw[aH (p:=(n:Int)=0) (by omega)];rfl
    refine (ea.bp ..).trans ((ai (ae (by omega))).trans ((af (bP h)).trans ((af hz).trans ((af hz).trans ?_))))
    rw[e,Int.toNat_natCast,Int.toNat_natCast,aD (l:=v) _ h,aL (by omega)]
    refine (af (bP (by omega))).trans ((af (mN (by omega))).trans ((af (bP (by omega))).trans ((af (by simp)).trans ?_)))
    unfold w7
    rw[XY]
    rfl)
  (fun b i h hI _=>by
    obtain ⟨XY,YB,XZ⟩:=hI
    have hm:b.2%n<n:=Nat.mod_lt _ (by omega)
    refine ⟨by show b.2+1=i+1;omega,by simpa[w7] using YB,fun y hy=> ?_⟩
    rcases List.mem_or_eq_of_mem_set (show y∈b.1.set (b.2%n) _ from hy) with hy|rfl
    ·have:=XZ y hy;omega
    ·have:(b.1.getD (b.2%n) []).length<=i:=by rw[aD _ (by omega)];exact XZ _ (List.getElem_mem _)
     rw[List.length_append,List.length_singleton];omega)
  (fun m b hI=>(ea.bp ..).trans (ab (aH (by omega))))
  v.length 0 k (List.replicate n [],0) (by omega) (bV hk hv) ⟨rfl,by simp,fun y hy=>by
   obtain rfl:=List.eq_of_mem_replicate hy;simp⟩
 refine h.trans ?_
 rw[List.drop_zero,bX]
theorem vN {n e:Nat} (h1:n<=6) (h2:e<=20):n*e<=120:=Nat.mul_le_mul h1 h2
theorem ea.eq {k:Nat} (hk:cO<=k) {d:List Int} {n e:Nat} (h1:1<=n) (h2:n<=6) (h3:e<=20) (hd:dx d=true) (hl:d.length<1048577) (h:n*e<=d.length):ea.f k d (n:Int) (e:Int)=some (td d n e,d.drop (n*e),true):=by
 have h4:=vN h2 h3
 have hw:IntKind.wrap .i64 ((n:Int)*(e:Int))=((n*e:Nat):Int):=by
  have:(n:Int)*(e:Int)=((n*e:Nat):Int):=by simp
  rw[this,wrap_i64 (by omega) (by omega)]
 refine (aa (aB.eq hk (by omega))).trans ?_
 rw[hd]
 refine (ab rfl).trans ((aa (an.eq ..)).trans ?_)
 rw[eA.2 (⟨by omega,by omega⟩:(1:Int)<=(n:Int)/\(n:Int)<=6)]
 refine (ab rfl).trans ((aa (an.eq ..)).trans ?_)
 rw[eA.2 (⟨by omega,by omega⟩:(0:Int)<=(e:Int)/\(e:Int)<=20),hw,Int.toNat_natCast,Int.toNat_natCast]
 refine (ab rfl).trans ((ab (aH (by omega))).trans ((af (bi (ae (by omega)) (EQ (by omega)))).trans ((af (bi (ae (by omega)) (ae (by omega)))).trans ?_)))
 refine (ea.loop hk h1 (by rw[List.length_take];omega) _).trans ((af (bi (ae (by omega)) (ae (by omega)))).trans ((aa (aJ.eq k (by simp;omega))).trans ?_))
 rw[yB h1 h2 _ h,zz h1 h2]
theorem K3 {α:Type} (f:Nat->α): ∀(m i:Nat) (b:List α),Jg (fun i b=>b++[f i]) m i b=b++(List.range' i m).map f
 |0,i,b=>by simp[Jg]
 |m+1,i,b=>by
  show Jg (fun i b=>b++[f i]) m (i+1) (b++[f i])=_
  rw[K3 f m (i+1),List.range'_succ,List.map_cons,List.append_assoc]
  rfl
theorem Hn {α:Type} (f:Nat->α) (m:Nat):Jg (fun i b=>b++[f i]) m 0 [] =(List.range m).map f:=by
 rw[K3,List.nil_append,List.range_eq_range']
theorem bS.inner {R:Type} {k n e p:Nat} (hk:cO<=k) (h2:n<=6) (h3:e<=20) (hp:p<n) {d:List Int} (hl:d.length<1048577) (h:n*e<=d.length) (e0:List Int->Option R):bS.l9 k d (n:Int) (e:Int) (p:Int) e0 k (0:Int) [] =e0 ((List.range e).map fun i=>d.getD (i*n+p) 0):=by
 have h:=upto (B:=List Int) e (fun m b i=>bS.l9 k d (n:Int) (e:Int) (p:Int) e0 m i b) (fun i b=>b++[d.getD (i*n+p) 0]) e0 (fun i b=>b.length=i)
  (fun m b i hi hI=>by
    have q1:i*n+n<=e*n:=by
     have:(i+1)*n<=e*n:=Nat.mul_le_mul_right _ hi
     rw[Nat.add_mul,Nat.one_mul] at this
     exact this
    have q2:e*n=n*e:=Nat.mul_comm _ _
    have q3:=vN h2 h3
    have e1:IntKind.wrap .i64 ((i:Int)*(n:Int))=((i*n:Nat):Int):=by
     have:(i:Int)*(n:Int)=((i*n:Nat):Int):=by simp
     rw[this,wrap_i64 (by omega) (by omega)]
    have e2:IntKind.wrap .i64 (((i*n:Nat):Int)+(p:Int))=((i*n+p:Nat):Int):=by
     rw[wrap_i64 (by omega) (by omega)];omega
    refine (bS.pI ..).trans ((ai (ae (by omega))).trans ?_)
    rw[e1,e2,Int.toNat_natCast,aL (by omega)]
    exact (af (bP (by omega))).trans (af (mN (by omega))))
  (fun b i hi hI=>by simp;omega)
  (fun m b hI=>(bS.pI ..).trans (ab (aH (by omega))))
  e 0 k [] (by omega) (by simp[cO] at hk;omega) rfl
 refine h.trans ?_
 rw[Hn (fun i=>d.getD (i*n+p) 0)]
theorem bS.eq {k:Nat} (hk:cO<=k) {d:List Int} {n e:Nat} (h1:1<=n) (h2:n<=6) (h3:e<=20) (hd:dx d=true) (hl:d.length<1048577) (h:n*e<=d.length):bS.f k d (n:Int) (e:Int)=some (td d n e,d.drop (n*e),true):=by
 have h4:=vN h2 h3
 have hw:IntKind.wrap .i64 ((n:Int)*(e:Int))=((n*e:Nat):Int):=by
  have:(n:Int)*(e:Int)=((n*e:Nat):Int):=by simp
  rw[this,wrap_i64 (by omega) (by omega)]
 refine (aa (bx.eq hk (by omega))).trans ?_
 rw[hd]
 refine (ab rfl).trans ((aa (aO.eq ..)).trans ?_)
 rw[eA.2 (⟨by omega,by omega⟩:(1:Int)<=(n:Int)/\(n:Int)<=6)]
 refine (ab rfl).trans ((aa (aO.eq ..)).trans ?_)
 rw[eA.2 (⟨by omega,by omega⟩:(0:Int)<=(e:Int)/\(e:Int)<=20),hw,Int.toNat_natCast]
 refine (ab rfl).trans ((ab (aH (by omega))).trans ?_)
 have hL:=upto (B:=List (List Int)) n (fun m b i=>bS.l5 k d (n:Int) (e:Int) (fun x5=>ay ((decide ((0:Int)<=((n*e:Nat):Int)))&&(decide (((n*e:Nat):Int)<=(d.length:Int))))<|ay (decide ((0+((d.drop (n*e)).length))*8<=room))<|some (x5,[]++(d.drop (n*e)),true)) m i b) (fun p b=>b++[(List.range e).map fun i=>d.getD (i*n+p) 0]) (fun x5=>ay ((decide ((0:Int)<=((n*e:Nat):Int)))&&(decide (((n*e:Nat):Int)<=(d.length:Int))))<|ay (decide ((0+((d.drop (n*e)).length))*8<=room))<|some (x5,[]++(d.drop (n*e)),true)) (fun i b=>b.length=i)
  (fun m b i hi hI=>by
    refine (bS.bp ..).trans ((ai (ae (by omega))).trans ((bS.inner hk h2 h3 hi hl h _).trans ((af (EQ (by omega))).trans ?_)))
    rw[aL (by omega)])
  (fun b i hi hI=>by simp;omega)
  (fun m b hI=>(bS.bp ..).trans (ab (aH (by omega))))
  n 0 k [] (by omega) (by simp[cO] at hk;omega) rfl
 refine hL.trans ((af (bi (ae (by omega)) (ae (by omega)))).trans ((af (mN (by simp;omega))).trans ?_))
 rw[Hn (fun p=>(List.range e).map fun i=>d.getD (i*n+p) 0)]
 rfl
def w8:Gm:=⟨⟨0,0,false,false,[],[],0,0⟩,[],[],[],0,0,0⟩
def fj (r:Rl) (d:List Int):Gm×Bool:=bif r.ok&&dx d&&((d.length:Int)==52) then (⟨r,td d r.n.toNat r.e.toNat,(d.drop (r.n.toNat*r.e.toNat)).drop 1,(d.drop (r.n.toNat*r.e.toNat)).take 1,0,0,0⟩,true) else (w8,false)
theorem vO {r:Rl} (h:r.ok=true):r.n.toNat*r.e.toNat<=48/\1<=r.n.toNat/\r.n.toNat<=6/\r.e.toNat<=8/\r.n=(r.n.toNat:Int)/\r.e=(r.e.toNat:Int):=by
 have:=om h
 exact ⟨Nat.mul_le_mul (show r.n.toNat<=6 by omega) (show r.e.toNat<=8 by omega),by omega,by omega,by omega,by omega,by omega⟩
theorem qK:w8.sm:=⟨⟨by decide,by decide⟩,⟨by decide,fun y hy=>by cases hy⟩,by decide,by decide⟩
theorem w9 {r:Rl} {d:List Int} (h:(fj r d).2=true):dy (fj r d).1=true/\(fj r d).1.r=r:=by
 unfold fj at h ⊢
 cases hc:(r.ok&&dx d&&((d.length:Int)==52)) with
 |false=>rw[hc] at h;cases h
 |true=>
  simp only[Bool.and_eq_true,beq_iff_eq] at hc
  obtain ⟨⟨h1,h2⟩,h3⟩:=hc
  obtain ⟨b1,b2,b3,b4,b5,b6⟩:=vO h1
  have N7:=om h1
  refine ⟨fg.2 ⟨h1,by show ((td _ _ _).length:Int)=r.n;rw[MK];omega,?_,by show 0<((d.drop _).take 1).length;simp;omega,⟨by show (0:Int)<=0;omega,by show (0:Int)<=r.n-1;omega⟩,⟨by show (0:Int)<=0;omega,by show (0:Int)<=r.l;omega⟩,⟨by show (0:Int)<=0;omega,by show (0:Int)<=0;omega⟩⟩,rfl⟩
  show whole (td d r.n.toNat r.e.toNat++[(d.drop (r.n.toNat*r.e.toNat)).drop 1,(d.drop (r.n.toNat*r.e.toNat)).take 1])=true
  have hp:(td d r.n.toNat r.e.toNat++[(d.drop (r.n.toNat*r.e.toNat)).drop 1,(d.drop (r.n.toNat*r.e.toNat)).take 1]).flatten.Perm d:=by
   rw[List.flatten_append]
   simp only[List.flatten_cons,List.flatten_nil,List.append_nil]
   refine ((Jz b2 b3 (by omega)).append_right _).trans ?_
   refine (List.Perm.append_left _ List.perm_append_comm).trans ?_
   rw[List.take_append_drop,List.take_append_drop]
  unfold whole
  rw[sY hp,hp.length_eq,h2,h3]
  rfl
theorem rD {r:Rl} (hr:r.sm) (d:List Int):(fj r d).1.sm:=by
 cases h:(fj r d).2 with
 |true=>
  obtain ⟨h1,h2⟩:=w9 h
  exact DN h1 (by rw[h2];exact hr)
 |false=>
  unfold fj at h ⊢
  cases hc:(r.ok&&dx d&&((d.length:Int)==52)) with
  |false=>exact qK
  |true=>rw[hc] at h;cases h
theorem hR.eq {k:Nat} (hk:cO<=k) {r:Rl} (hr:r.sm) {d:List Int} (hl:d.length<1048577):r.ap (hR.f k) d=some ((fj r d).1.u4 (fj r d).2):=by
 refine (aa (rA hk hr)).trans ?_
 unfold fj
 cases h1:r.ok with
 |false=>rfl
 |true=>
  refine (ab rfl).trans ((aa (bx.eq hk (by omega))).trans ?_)
  cases h2:dx d with
  |false=>rfl
  |true=>
   refine (ab rfl).trans ?_
   cases h3:((d.length:Int)==52) with
   |false=>exact (ai (by rw[bne,h3];rfl)).trans rfl
   |true=>
    have h3':(d.length:Int)=52:=by simpa using h3
    obtain ⟨b1,b2,b3,b4,b5,b6⟩:=vO h1
    have hd:=bS.eq hk (d:=d) (n:=r.n.toNat) (e:=r.e.toNat) b2 b3 (by omega) h2 hl (by omega)
    rw[<- b5,<- b6] at hd
    have X0:(d.drop (r.n.toNat*r.e.toNat)).length=52-r.n.toNat*r.e.toNat:=by rw[List.length_drop];omega
    refine (ab (by rw[bne,h3];rfl)).trans ((aa hd).trans ((aa (dY.eq k hr)).trans ?_))
    refine (af (ae (show (1:Int)<=((d.drop (r.n.toNat*r.e.toNat)).length:Int) by omega))).trans ((af (mN (by simp;omega))).trans ((af (bi (ae (by omega)) (ae (by omega)))).trans ((af (ae (show (1:Int)<=((d.drop (r.n.toNat*r.e.toNat)).length:Int) by omega))).trans ((af (mN (by simp;omega))).trans ?_))))
    have e1:[]++(((d.drop (r.n.toNat*r.e.toNat)).take (((d.drop (r.n.toNat*r.e.toNat)).length:Int).toNat)).drop 1)=(d.drop (r.n.toNat*r.e.toNat)).drop 1:=by rw[Int.toNat_natCast,List.take_length];rfl
    show some (_,_,_,_,_,_,_,_,_,[]++(((d.drop (r.n.toNat*r.e.toNat)).take (((d.drop (r.n.toNat*r.e.toNat)).length:Int).toNat)).drop 1),_)=_
    rw[e1]
    rfl
theorem take_one {l:List Int} (h:0<l.length):[l.getD 0 0] =l.take 1:=by
 cases l with
 |nil=>simp at h
 |cons a l=>rfl
theorem ia.eq {k:Nat} (hk:cO<=k) {r:Rl} (hr:r.sm) {d:List Int} (hl:d.length<1048577):r.ap (ia.f k) d=some ((fj r d).1.u4 (fj r d).2):=by
 refine (aa (rB hk hr)).trans ?_
 unfold fj
 cases h1:r.ok with
 |false=>rfl
 |true=>
  refine (ab rfl).trans ((aa (aB.eq hk (by omega))).trans ?_)
  cases h2:dx d with
  |false=>rfl
  |true=>
   refine (ab rfl).trans ?_
   cases h3:((d.length:Int)==52) with
   |false=>exact (ai (by rw[bne,h3];rfl)).trans rfl
   |true=>
    have h3':(d.length:Int)=52:=by simpa using h3
    obtain ⟨b1,b2,b3,b4,b5,b6⟩:=vO h1
    have hd:=ea.eq hk (d:=d) (n:=r.n.toNat) (e:=r.e.toNat) b2 b3 (by omega) h2 hl (by omega)
    rw[<- b5,<- b6] at hd
    have X0:(d.drop (r.n.toNat*r.e.toNat)).length=52-r.n.toNat*r.e.toNat:=by rw[List.length_drop];omega
    refine (ab (by rw[bne,h3];rfl)).trans ((aa hd).trans ((aa (bY.eq k hr)).trans ?_))
    have e1:(((d.drop (r.n.toNat*r.e.toNat)).take (((d.drop (r.n.toNat*r.e.toNat)).length:Int).toNat)).drop 1)=(d.drop (r.n.toNat*r.e.toNat)).drop 1:=by rw[Int.toNat_natCast,List.take_length]
    refine (af (bi (ae (by omega)) (ae (by omega)))).trans ((af (ae (show (1:Int)<=((d.drop (r.n.toNat*r.e.toNat)).length:Int) by omega))).trans ((aa (aJ.eq k (by simp;omega))).trans ((af (ae (show (0:Int)<((d.drop (r.n.toNat*r.e.toNat)).length:Int) by omega))).trans ?_)))
    show some (_,_,_,_,_,_,_,_,_,(((d.drop (r.n.toNat*r.e.toNat)).take (((d.drop (r.n.toNat*r.e.toNat)).length:Int).toNat)).drop 1),[(d.drop (r.n.toNat*r.e.toNat)).getD 0 0],_)=_
    rw[e1,take_one (by omega)]
    rfl
def Bo (r:List Int):Bool:=r.all fun x=>kH x (-1000) 1000
def kK (n:Int) (r:List Int):Bool:=kH n 2 6&&((r.length:Int)==n)&&Bo r&&(r.sum==0)
theorem dK.eq {k:Nat} (hk:cO<=k) (n:Int) {r:List Int} (hr:r.length<1048577):dK.f k n r=some (kK n r):=by
 have h:=scan (B:=Int) r (fun m b i=>dK.l3 k r (fun _=>some false) (fun x3=>(aO.f k n 2 6).bind fun r4=>bif r4 then bif ((r.length:Int)==n) then some (x3==(0:Int)) else some false else some false) m b i) (fun _ a=>kH a (-1000) 1000) (fun b a=>b+a) (fun x3=>(aO.f k n 2 6).bind fun r4=>bif r4 then bif ((r.length:Int)==n) then some (x3==(0:Int)) else some false else some false) (fun _ _=>some false)
  (fun i b=> -1000*(i:Int)<=b/\b<=1000*(i:Int))
  (fun m b i h hI=>by
    refine (dK.aA ..).trans ?_
    refine (ai (ae (by omega))).trans ?_
    refine (af (bP h)).trans ?_
    rw[Int.toNat_natCast,aD _ h]
    refine (aa (aO.eq ..)).trans ?_
    cases hp:kH r[i] (-1000) 1000 with
    |false=>rfl
    |true=>
     have:=eA.1 hp
     refine (ab rfl).trans ?_
     refine (af (bP h)).trans ?_
     rw[wrap_i64 (by omega) (by omega),aL (by omega)]
     rfl)
  (fun b i h hI hp=>by have:=eA.1 hp;constructor<;>omega)
  (fun m b hI=>(dK.aA ..).trans (ab (aH (by omega))))
  r.length 0 k 0 (by omega) (bV hk hr) (by simp)
 refine h.trans ?_
 rw[List.drop_zero,rr,foldl_add,aO.eq,Int.zero_add]
 unfold kK Bo
 cases r.all (fun x=>kH x (-1000) 1000)<;>cases kH n 2 6<;>cases ((r.length:Int)==n)<;>simp
theorem fe.eq {k:Nat} (hk:cO<=k) {r:List Int} (lo hi:Int) (hr:r.length<1048577):fe.f k r lo hi=some (r.all fun x=>kH x lo hi):=by
 have h:=scan (B:=Unit) r (fun m b i=>fe.l2 k lo hi r (r.length:Int) (some false) (some true) m i) (fun _ a=>kH a lo hi) (fun b a=>b) (fun _=>some true) (fun _ _=>some false) (fun i b=>True)
  (fun m b i h hI=>by
    refine (fe.fQ ..).trans ?_
    refine (ai (ae (by omega))).trans ?_
    refine (af (bP h)).trans ?_
    rw[Int.toNat_natCast,aD _ h]
    refine (aa (an.eq ..)).trans ?_
    rw[aL (by omega)]
    cases kH r[i] lo hi<;>rfl)
  (fun b i h hI hp=>trivial)
  (fun m b hI=>(fe.fQ ..).trans (ab (aH (by omega))))
  r.length 0 k () (by omega) (bV hk hr) trivial
 refine h.trans ?_
 rw[List.drop_zero,rr]
 cases r.all (fun x=>kH x lo hi)<;>rfl
theorem eK.eq {k:Nat} (hk:cO<=k) {r:List Int} (hr:r.length<1048577) (hp:Bo r=true):eK.f k r=some r.sum:=by
 have h:=scan (B:=Int) r (fun m b i=>eK.l3 k r (r.length:Int) (fun x=>some x) m b i) (fun _ _=>true) (fun b a=>b+a) (fun x=>some x) (fun _ _=>none) (fun i b=> -1000*(i:Int)<=b/\b<=1000*(i:Int))
  (fun m b i h hI=>by
    have:=eA.1 (List.all_eq_true.1 hp _ (List.getElem_mem h))
    refine (eK.aA ..).trans ?_
    refine (ai (ae (by omega))).trans ?_
    refine (af (bP h)).trans ?_
    rw[Int.toNat_natCast,aD _ h,wrap_i64 (by omega) (by omega),aL (by omega)]
    rfl)
  (fun b i h hI _=>by have:=eA.1 (List.all_eq_true.1 hp _ (List.getElem_mem h));constructor<;>omega)
  (fun m b hI=>(eK.aA ..).trans (ab (aH (by omega))))
  r.length 0 k 0 (by omega) (bV hk hr) (by simp)
 refine h.trans ?_
 rw[List.drop_zero,bX,foldl_add,Int.zero_add]
theorem kq.eq {k:Nat} (hk:cO<=k) (n:Int) {r:List Int} (hr:r.length<1048577):kq.f k n r=some (kK n r):=by
 refine (aa (an.eq ..)).trans ?_
 unfold kK
 cases kH n 2 6 with
 |false=>rfl
 |true=>
  refine (ai rfl).trans ?_
  cases ((r.length:Int)==n) with
  |false=>rfl
  |true=>
   refine (ai rfl).trans ?_
   refine (aa (fe.eq hk _ _ hr)).trans ?_
   cases hp:Bo r with
   |false=>exact (ab hp).trans (by simp)
   |true=>
    refine (ai hp).trans ?_
    exact (aa (eK.eq hk hr hp)).trans (by simp)
def js (n:Int) (s:List (List Int)):Bool:=kH n 2 6&&decide ((s.length:Int)<=50)&&s.all (kK n)
theorem dM.N8 {k:Nat} (hk:cO<=k) (n:Int) {s:List (List Int)} (hs:s.length<1073741824) (K4: ∀y∈s,y.length<1048577):dM.f k n s=some (js n s):=by
 have h:=scan (B:=Unit) s (fun m b i=>dM.l2 k n s (some false) ((aO.f k n 2 6).bind fun r2=>bif r2 then some (decide ((s.length:Int)<=50)) else some false) m i) (fun _ a=>kK n a) (fun b a=>b) (fun _=>some (kH n 2 6&&decide ((s.length:Int)<=50))) (fun _ _=>some false) (fun i b=>True)
  (fun m b i h hI=>by
    refine (dM.fQ ..).trans ?_
    refine (ai (ae (by omega))).trans ?_
    refine (af (bP h)).trans ?_
    rw[Int.toNat_natCast,aD _ h]
    refine (aa (dK.eq hk n (K4 _ (List.getElem_mem h)))).trans ?_
    rw[aL (by omega)]
    cases kK n s[i]<;>rfl)
  (fun b i h hI hp=>trivial)
  (fun m b hI=>(dM.fQ ..).trans ((ab (aH (by omega))).trans ((aa (aO.eq ..)).trans (by cases kH n 2 6<;>rfl))))
  s.length 0 k () (by omega) (mR hk hs) trivial
 refine h.trans ?_
 rw[List.drop_zero,rr]
 unfold js
 cases s.all (kK n)<;>simp
theorem cg.N8 {k:Nat} (hk:cO<=k) (n:Int) {s:List (List Int)} (hs:s.length<1073741824) (K4: ∀y∈s,y.length<1048577):cg.f k n s=some (js n s):=by
 have h:=scan (B:=Unit) s (fun m b i=>cg.l2 k n s (s.length:Int) (some false) ((an.f k n 2 6).bind fun r2=>bif r2 then some (decide ((s.length:Int)<=50)) else some false) m i) (fun _ a=>kK n a) (fun b a=>b) (fun _=>some (kH n 2 6&&decide ((s.length:Int)<=50))) (fun _ _=>some false) (fun i b=>True)
  (fun m b i h hI=>by
    refine (cg.fQ ..).trans ?_
    refine (ai (ae (by omega))).trans ?_
    refine (af (bP h)).trans ?_
    rw[Int.toNat_natCast,aD _ h]
    refine (aa (kq.eq hk n (K4 _ (List.getElem_mem h)))).trans ?_
    rw[aL (by omega)]
    cases kK n s[i]<;>rfl)
  (fun b i h hI hp=>trivial)
  (fun m b hI=>(cg.fQ ..).trans ((ab (aH (by omega))).trans ((aa (an.eq ..)).trans (by cases kH n 2 6<;>rfl))))
  s.length 0 k () (by omega) (mR hk hs) trivial
 refine h.trans ?_
 rw[List.drop_zero,rr]
 unfold js
 cases s.all (kK n)<;>simp
theorem cg.eq {k:Nat} (hk:cO<=k) (n:Int) {s:List (List Int)} (hs:s.length<1048577) (K4: ∀y∈s,y.length<1048577):cg.f k n s=some (js n s):=cg.N8 hk n (by omega) K4
theorem C2 {n:Int} {s:List (List Int)} (h:js n s=true) {r:List Int} (hr:r∈s):(r.length:Int)=n/\2<=n/\n<=6:=by
 unfold js at h
 simp only[Bool.and_eq_true] at h
 have h2:=List.all_eq_true.1 h.2 r hr
 unfold kK at h2
 simp only[Bool.and_eq_true,beq_iff_eq] at h2
 have:=eA.1 h.1.1
 exact ⟨h2.1.1.2,this⟩
structure Tb where
 r:Rl
 dG:List Int
 on:Bool
 lK:List Int
 g:Gm
 rd:List Int
 gx:List (List Int)
abbrev Tb.ap {β:Type} (F:Int->Int->Bool->Bool->List Int->List Int->Int->Int->List Int->Bool->List Int->Int->Int->Bool->Bool->List Int->List Int->Int->Int->List (List Int)->List Int->List Int->Int->Int->Int->List Int->List (List Int)->β) (t:Tb):β:=F t.r.n t.r.e t.r.b1 t.r.b2 t.r.w t.r.f t.r.t t.r.l t.dG t.on t.lK t.g.r.n t.g.r.e t.g.r.b1 t.g.r.b2 t.g.r.w t.g.r.f t.g.r.t t.g.r.l t.g.hs t.g.st t.g.hp t.g.tn t.g.mv t.g.ps t.rd t.gx
abbrev Tb.tp (t:Tb):Int×Int×Bool×Bool×List Int×List Int×Int×Int×List Int×Bool×List Int×Int×Int×Bool×Bool×List Int×List Int×Int×Int×List (List Int)×List Int×List Int×Int×Int×Int×List Int×List (List Int):=(t.r.n,t.r.e,t.r.b1,t.r.b2,t.r.w,t.r.f,t.r.t,t.r.l,t.dG,t.on,t.lK,t.g.r.n,t.g.r.e,t.g.r.b1,t.g.r.b2,t.g.r.w,t.g.r.f,t.g.r.t,t.g.r.l,t.g.hs,t.g.st,t.g.hp,t.g.tn,t.g.mv,t.g.ps,t.rd,t.gx)
abbrev Tb.u4 (t:Tb) (b:Bool):Int×Int×Bool×Bool×List Int×List Int×Int×Int×List Int×Bool×List Int×Int×Int×Bool×Bool×List Int×List Int×Int×Int×List (List Int)×List Int×List Int×Int×Int×Int×List Int×List (List Int)×Bool:=(t.r.n,t.r.e,t.r.b1,t.r.b2,t.r.w,t.r.f,t.r.t,t.r.l,t.dG,t.on,t.lK,t.g.r.n,t.g.r.e,t.g.r.b1,t.g.r.b2,t.g.r.w,t.g.r.f,t.g.r.t,t.g.r.l,t.g.hs,t.g.st,t.g.hp,t.g.tn,t.g.mv,t.g.ps,t.rd,t.gx,b)
abbrev Tb.sm (t:Tb):Prop:=t.r.sm/\Sz t.dG/\Sz t.lK/\t.g.sm/\Sz t.rd/\Bl t.gx
abbrev Tb.Q6 (t:Tb):Prop:=t.r.sm/\Sz t.lK/\t.g.sm/\t.rd.length<1073741824/\t.gx.length<1073741824/\ ∀y∈t.gx,y.length<1048577
theorem Tb.vP {t:Tb} (h:t.sm):t.Q6:=⟨h.1,h.2.2.1,h.2.2.2.1,by have:=h.2.2.2.2.1;omega,by have:=h.2.2.2.2.2.1;omega,h.2.2.2.2.2.2⟩
def pM (t:Tb):Bool:=(fj t.r t.lK).2&&((t.dG.length:Int)==t.r.n)&&((eN t.rd 0 (fj t.r t.lK).1).2==(t.rd.length:Int))&&Hm (eN t.rd 0 (fj t.r t.lK).1).1 t.g
def bW (t:Tb):Bool:=t.r.ok&& !(decide ((t.dG.length:Int)>t.r.n))&&js t.r.n t.gx&&(bif t.on then pM t else ((t.lK.length:Int)==0)&&((t.rd.length:Int)==0)&&Hm t.g w8)
theorem iL.eq {k:Nat} (hk:cO<=k) {t:Tb} (h:t.Q6):t.ap (iL.f k)=some (bW t):=by
 obtain ⟨h1,h2,h3,h4,h5,h6⟩:=h
 refine (aa (rA hk h1)).trans ?_
 unfold bW
 cases t.r.ok with
 |false=>rfl
 |true=>
  refine (ab rfl).trans ?_
  cases decide ((t.dG.length:Int)>t.r.n) with
  |true=>rfl
  |false=>
   refine (ab rfl).trans ((aa (dM.N8 hk _ h5 h6)).trans ?_)
   cases js t.r.n t.gx with
   |false=>rfl
   |true=>
    refine (ab rfl).trans ?_
    cases t.on with
    |false=>
     refine (ai rfl).trans ?_
     cases ((t.lK.length:Int)==0) with
     |false=>rfl
     |true=>
      refine (ai rfl).trans ?_
      cases ((t.rd.length:Int)==0) with
      |false=>rfl
      |true=>exact (ai rfl).trans ((aa (bf.eq hk w8 h3)).trans (by simp))
    |true=>
     have hs:=rD h1 t.lK
     refine (ab rfl).trans ((aa (hR.eq hk h1 h2)).trans ((aa (cR.eq hk h4 hs)).trans ?_))
     show (bif (fj t.r t.lK).2 then _ else _)=some (true&& !false&&true&&pM t)
     unfold pM
     cases (fj t.r t.lK).2 with
     |false=>rfl
     |true=>
      refine (ai rfl).trans ?_
      cases ((t.dG.length:Int)==t.r.n) with
      |false=>rfl
      |true=>
       refine (ai rfl).trans ?_
       show (bif ((eN t.rd 0 (fj t.r t.lK).1).2==(t.rd.length:Int)) then _ else _)=_
       cases ((eN t.rd 0 (fj t.r t.lK).1).2==(t.rd.length:Int)) with
       |false=>rfl
       |true=>exact (ai rfl).trans ((aa (bf.eq hk t.g (tc t.rd 0 hs))).trans (by simp))
theorem gm.eq {k:Nat} (hk:cO<=k) {t:Tb} (h:t.Q6):t.ap (gm.f k)=some (bW t):=by
 obtain ⟨h1,h2,h3,h4,h5,h6⟩:=h
 refine (aa (rB hk h1)).trans ?_
 unfold bW
 cases t.r.ok with
 |false=>rfl
 |true=>
  refine (ab rfl).trans ?_
  cases decide ((t.dG.length:Int)>t.r.n) with
  |true=>rfl
  |false=>
   refine (ab rfl).trans ((aa (cg.N8 hk _ h5 h6)).trans ?_)
   cases js t.r.n t.gx with
   |false=>rfl
   |true=>
    refine (ab rfl).trans ?_
    cases t.on with
    |false=>
     refine (ai rfl).trans ?_
     cases ((t.lK.length:Int)==0) with
     |false=>rfl
     |true=>
      refine (ai rfl).trans ?_
      cases ((t.rd.length:Int)==0) with
      |false=>rfl
      |true=>exact (ai rfl).trans ((aa (dD.eq hk w8 h3)).trans (by simp))
    |true=>
     have hs:=rD h1 t.lK
     refine (ab rfl).trans ((aa (ia.eq hk h1 h2)).trans ?_)
     show (bif !(fj t.r t.lK).2 then _ else _)=some (true&& !false&&true&&pM t)
     unfold pM
     cases (fj t.r t.lK).2 with
     |false=>rfl
     |true=>
      refine (ab rfl).trans ?_
      cases hn:((t.dG.length:Int)==t.r.n) with
      |false=>exact (ai (by rw[bne,hn];rfl)).trans rfl
      |true=>
       refine (ab (by rw[bne,hn];rfl)).trans ((aa (cT.eq hk h4 hs)).trans ?_)
       show (bif ((eN t.rd 0 (fj t.r t.lK).1).2==(t.rd.length:Int)) then _ else _)=_
       cases ((eN t.rd 0 (fj t.r t.lK).1).2==(t.rd.length:Int)) with
       |false=>rfl
       |true=>exact (ai rfl).trans ((aa (dD.eq hk t.g (tc t.rd 0 hs))).trans (by simp))
theorem o8 {t:Tb} (h:bW t=true):t.r.ok=true/\(t.dG.length:Int)<=t.r.n/\js t.r.n t.gx=true/\t.rd.length<=400/\(t.on=true->pM t=true):=by
 unfold bW at h
 simp only[Bool.and_eq_true,Bool.not_eq_true',decide_eq_false_iff_not] at h
 obtain ⟨⟨⟨h1,h2⟩,h3⟩,h4⟩:=h
 have N7:=om h1
 refine ⟨h1,by omega,h3,?_,fun ho=>by rw[ho] at h4;exact h4⟩
 cases ho:t.on with
 |false=>
  rw[ho] at h4
  simp only[cond_false,Bool.and_eq_true,beq_iff_eq] at h4
  omega
 |true=>
  rw[ho] at h4
  have h4:pM t=true:=h4
  unfold pM at h4
  simp only[Bool.and_eq_true,beq_iff_eq] at h4
  obtain ⟨⟨⟨k1,k2⟩,k3⟩,k4⟩:=h4
  obtain ⟨g1,g2⟩:=w9 k1
  obtain ⟨q1,q2,q3⟩:=w6 t.rd 0 (g:=(fj t.r t.lK).1) (by omega)
  obtain ⟨_,_,_,_,_,m6,_⟩:=fg.1 (q3 g1)
  obtain ⟨_,_,_,_,_,m7,_⟩:=fg.1 g1
  rw[q2,g2] at m6
  omega
theorem bM.eq {k:Nat} (hk:cO<=k) {t:Tb} (h:t.sm):t.ap (bM.f k)=some t.tp:=by
 obtain ⟨h1,h2,h3,h4,h5,h6⟩:=h
 have h2:t.dG.length<1048577:=h2
 have h3:t.lK.length<1048577:=h3
 have h5:t.rd.length<1048577:=h5
 exact (aa (dY.eq k h1)).trans ((af (mN (by omega))).trans ((af (mN (by omega))).trans ((aa (eo.eq hk h4)).trans ((af (mN (by omega))).trans ((aa (da.eq hk h6)).trans rfl)))))
theorem ah.eq {k:Nat} (hk:cO<=k) {t:Tb} (h:t.sm):t.ap (ah.f k)=some t.tp:=by
 obtain ⟨h1,h2,h3,h4,h5,h6⟩:=h
 exact (aa (bY.eq k h1)).trans ((aa (aJ.eq k h2)).trans ((aa (aJ.eq k h3)).trans ((aa (cN.eq hk h4)).trans ((aa (aJ.eq k h5)).trans ((aa (bm.eq hk h6)).trans rfl)))))
def done (t u:Tb) (ok:Bool):Tb×Bool:=bif ok&&bW t&&bW u then (u,true) else (t,false)
theorem AM {t u:Tb} (ok:Bool) (ht:t.sm) (h1:u.r.sm) (h2:Sz u.lK) (h3:u.g.sm):(done t u ok).1.sm:=by
 unfold done
 cases h:(ok&&bW t&&bW u) with
 |false=>exact ht
 |true=>
  simp only[Bool.and_eq_true] at h
  obtain ⟨k1,k2,k3,k4,k5⟩:=o8 h.2
  have N7:=om k1
  unfold js at k3
  simp only[Bool.and_eq_true,decide_eq_true_eq,List.all_eq_true] at k3
  refine ⟨h1,by show u.dG.length<1048577;omega,h2,h3,by show u.rd.length<1048577;omega,by show u.gx.length<1048577;omega,fun y hy=> ?_⟩
  have X1:=k3.2 y hy
  unfold kK at X1
  simp only[Bool.and_eq_true,beq_iff_eq] at X1
  show y.length<1048577
  omega
theorem cV.eq {k:Nat} (hk:cO<=k) {t u:Tb} (ok:Bool) (ht:t.sm) (hu:u.Q6):u.ap (t.ap (cV.f k)) ok=some ((done t u ok).1.u4 (done t u ok).2):=by
 unfold done
 cases ok with
 |false=>exact (ai rfl).trans ((aa (bM.eq hk ht)).trans rfl)
 |true=>
  refine (ab rfl).trans ((aa (iL.eq hk (Tb.vP ht))).trans ?_)
  cases bW t with
  |false=>exact (ai rfl).trans ((aa (bM.eq hk ht)).trans rfl)
  |true=>
   refine (ab rfl).trans ((aa (iL.eq hk hu)).trans ?_)
   cases bW u with
   |false=>exact (ai rfl).trans ((aa (bM.eq hk ht)).trans rfl)
   |true=>rfl
theorem aN.eq {k:Nat} (hk:cO<=k) {t u:Tb} (ok:Bool) (ht:t.sm) (hu:u.Q6):u.ap (t.ap (aN.f k)) ok=some ((done t u ok).1.u4 (done t u ok).2):=by
 unfold done
 cases ok with
 |false=>exact (ai rfl).trans ((aa (ah.eq hk ht)).trans rfl)
 |true=>
  refine (ab rfl).trans ((aa (gm.eq hk (Tb.vP ht))).trans ?_)
  cases bW t with
  |false=>exact (ai rfl).trans ((aa (ah.eq hk ht)).trans rfl)
  |true=>
   refine (ab rfl).trans ((aa (gm.eq hk hu)).trans ?_)
   cases bW u with
   |false=>exact (ai rfl).trans ((aa (ah.eq hk ht)).trans rfl)
   |true=>rfl
def jt (t:Tb) (s:Int):Tb×Bool:=done t {t with dG:=t.dG++[s]} (!t.on)
theorem tf {t:Tb} (h:t.sm) (s:Int):(jt t s).1.sm:=AM _ h h.1 h.2.2.1 h.2.2.2.1
theorem rE {t:Tb} (h:t.sm) (s:Int):({t with dG:=t.dG++[s]}:Tb).Q6:=by
 obtain ⟨h1,h2,h3,h4,h5,h6⟩:=Tb.vP h
 exact ⟨h1,h2,h3,h4,h5,h6⟩
theorem fB.eq {k:Nat} (hk:cO<=k) {t:Tb} (h:t.sm) (s:Int):t.ap (fB.f k) s=some ((jt t s).1.u4 (jt t s).2):=by
 have h2:t.dG.length<1048577:=h.2.1
 exact (aa (bM.eq hk h)).trans ((af (mN (show t.dG.length+1<=_ by omega))).trans ((aa (cV.eq hk (!t.on) h (rE h s))).trans rfl))
theorem JA {t u:Tb} (hr:u.r=t.r) (hs:u.dG.length=t.dG.length+1):done t u (decide ((t.dG.length:Int)<t.r.n))=done t u true:=by
 by_cases hd:(t.dG.length:Int)<t.r.n
 ·rw[ae hd]
 ·rw[aH hd]
  unfold done
  cases hu:bW u with
  |false=>simp
  |true=>
   have:=(o8 hu).2.1
   rw[hr,hs] at this
   omega
theorem jO.eq {k:Nat} (hk:cO<=k) {t:Tb} (h:t.sm) (s:Int):t.ap (jO.f k) s=some ((jt t s).1.u4 (jt t s).2):=by
 have h2:t.dG.length<1048577:=h.2.1
 refine (aa (ah.eq hk h)).trans ((af (mN (show t.dG.length+1<=_ by omega))).trans ?_)
 rcases Bool.eq_false_or_eq_true t.on with ho|ho
 ·have hb:=aN.eq hk false h (rE h s)
  have e:jt t s=done t {t with dG:=t.dG++[s]} false:=congrArg (done t _) (by rw[ho];rfl)
  rw[e]
  exact (ab (by rw[ho];rfl)).trans ((aa hb).trans rfl)
 ·have hb:=aN.eq hk (decide ((t.dG.length:Int)<t.r.n)) h (rE h s)
  have e:jt t s=done t {t with dG:=t.dG++[s]} true:=congrArg (done t _) (by rw[ho];rfl)
  rw[JA (t:=t) (u:={t with dG:=t.dG++[s]}) rfl (by simp),<- e] at hb
  exact (ai (by rw[ho];rfl)).trans ((aa hb).trans rfl)
def Ho (a:Int):Int:=(a.tmod 2147483647+2147483647).tmod 2147483647
theorem E5 (a:Int): -2147483647<a.tmod 2147483647/\a.tmod 2147483647<2147483647:=by
 constructor
 ·rcases Int.le_total 0 a with h|h
  ·rw[Int.tmod_eq_emod_of_nonneg h];omega
  ·have e:a.tmod 2147483647= -((-a).tmod 2147483647):=by rw[Int.neg_tmod,Int.neg_neg]
   rw[e,Int.tmod_eq_emod_of_nonneg (by omega)];omega
 ·rcases Int.le_total 0 a with h|h
  ·rw[Int.tmod_eq_emod_of_nonneg h];omega
  ·have e:a.tmod 2147483647= -((-a).tmod 2147483647):=by rw[Int.neg_tmod,Int.neg_neg]
   rw[e,Int.tmod_eq_emod_of_nonneg (by omega)];omega
theorem E6 (a:Int):0<=Ho a/\Ho a<2147483647:=by
 have:=E5 a
 unfold Ho
 rw[Int.tmod_eq_emod_of_nonneg (by omega)]
 omega
theorem iT.eq (k:Nat) (a:Int):iT.f k a 2147483647=some (Ho a):=by
 have:=E5 a
 refine (aa (aO.eq ..)).trans ((ab rfl).trans ((af rfl).trans ((af rfl).trans ?_)))
 rw[wrap_i64 (by omega) (by omega)]
 rfl
theorem iV.eq (k:Nat) (a:Int):iV.f k a 2147483647=some (Ho a):=by
 have:=E5 a
 refine (aa (an.eq ..)).trans ((ab rfl).trans ((af rfl).trans ((af rfl).trans ?_)))
 rw[wrap_i64 (by omega) (by omega)]
 rfl
def DT (h a:Int):Int:=(h*1000003+Ho a+13).tmod 2147483647
theorem Hp {h:Int} (a:Int) (h0:0<=h/\h<2147483647):0<=DT h a/\DT h a<2147483647:=by
 have:=E6 a
 unfold DT
 rw[Int.tmod_eq_emod_of_nonneg (by omega)]
 omega
def th (l:List Int):Int:=l.foldl DT 11
theorem e_.eq {k:Nat} (hk:cO<=k) {l:List Int} (hl:l.length<1048577):e_.f k l=some (th l):=by
 have h:=scan (B:=Int) l (fun m b i=>e_.l3 k l (fun x=>some x) m b i) (fun _ _=>true) DT (fun x=>some x) (fun _ _=>none) (fun i b=>0<=b/\b<2147483647)
  (fun m b i h hI=>by
    have hm:=E6 l[i]
    refine (e_.aA ..).trans ((ai (ae (by omega))).trans ((af (bP h)).trans ?_))
    rw[Int.toNat_natCast,aD _ h]
    refine (aa (iT.eq ..)).trans ?_
    rw[aL (by omega),wrap_i64 (n:=b*1000003) (by omega) (by omega),wrap_i64 (n:=b*1000003+Ho l[i]) (by omega) (by omega),wrap_i64 (by omega) (by omega)]
    rfl)
  (fun b i h hI _=>Hp _ hI)
  (fun m b hI=>(e_.aA ..).trans (ab (aH (by omega))))
  l.length 0 k 11 (by omega) (bV hk hl) (by omega)
 refine h.trans ?_
 rw[List.drop_zero,bX];rfl
theorem fb.eq {k:Nat} (hk:cO<=k) {l:List Int} (hl:l.length<1048577):fb.f k l=some (th l):=by
 have h:=scan (B:=Int) l (fun m b i=>fb.l3 k l (l.length:Int) (fun x=>some x) m b i) (fun _ _=>true) DT (fun x=>some x) (fun _ _=>none) (fun i b=>0<=b/\b<2147483647)
  (fun m b i h hI=>by
    have hm:=E6 l[i]
    refine (fb.aA ..).trans ((ai (ae (by omega))).trans ((af (bP h)).trans ?_))
    rw[Int.toNat_natCast,aD _ h]
    refine (aa (iV.eq ..)).trans ?_
    rw[aL (by omega),wrap_i64 (n:=b*1000003) (by omega) (by omega),wrap_i64 (n:=b*1000003+Ho l[i]) (by omega) (by omega),wrap_i64 (by omega) (by omega)]
    rfl)
  (fun b i h hI _=>Hp _ hI)
  (fun m b hI=>(fb.aA ..).trans (ab (aH (by omega))))
  l.length 0 k 11 (by omega) (bV hk hl) (by omega)
 refine h.trans ?_
 rw[List.drop_zero,bX];rfl
theorem d_.eq {k:Nat} (hk:cO<=k) (a b c:Int):d_.f k a b c=some (th [a,b,c]):=aa (e_.eq hk (by simp))
theorem gH.eq {k:Nat} (hk:cO<=k) (a b c:Int):gH.f k a b c=some (th [a,b,c]):=aa (fb.eq hk (by simp))
def Bp (a m:Int):Int:=(a.tmod m+m).tmod m
theorem Bq (a:Int) {m:Int} (h:1<=m): -m<a.tmod m/\a.tmod m<m:=by
 rcases Int.le_total 0 a with h0|h0
 ·rw[Int.tmod_eq_emod_of_nonneg h0]
  have:=Int.emod_nonneg a (b:=m) (by omega)
  have:=Int.emod_lt_of_pos a (b:=m) (by omega)
  omega
 ·have e:a.tmod m= -((-a).tmod m):=by rw[Int.neg_tmod,Int.neg_neg]
  rw[e,Int.tmod_eq_emod_of_nonneg (by omega)]
  have:=Int.emod_nonneg (-a) (b:=m) (by omega)
  have:=Int.emod_lt_of_pos (-a) (b:=m) (by omega)
  omega
theorem AN (a:Int) {m:Int} (h:1<=m):0<=Bp a m/\Bp a m<m:=by
 have:=Bq a h
 unfold Bp
 rw[Int.tmod_eq_emod_of_nonneg (by omega)]
 exact ⟨Int.emod_nonneg _ (by omega),Int.emod_lt_of_pos _ (by omega)⟩
theorem iT.N8 (k:Nat) (a:Int) {m:Int} (h1:1<=m) (h2:m<=1000000000000):iT.f k a m=some (Bp a m):=by
 have:=Bq a h1
 refine (aa (aO.eq ..)).trans ?_
 rw[eA.2 ⟨h1,h2⟩]
 refine (ab rfl).trans ((af (by rw[aH (p:=m=0) (by omega)];rfl)).trans ((af (by rw[aH (p:=m=0) (by omega)];rfl)).trans ?_))
 rw[wrap_i64 (by omega) (by omega)]
 rfl
theorem iV.N8 (k:Nat) (a:Int) {m:Int} (h1:1<=m) (h2:m<=1000000000000):iV.f k a m=some (Bp a m):=by
 have:=Bq a h1
 refine (aa (an.eq ..)).trans ?_
 rw[eA.2 ⟨h1,h2⟩]
 refine (ab rfl).trans ((af (by rw[aH (p:=m=0) (by omega)];rfl)).trans ((af (by rw[aH (p:=m=0) (by omega)];rfl)).trans ?_))
 rw[wrap_i64 (by omega) (by omega)]
 rfl
def Wo (j7:Int) (i:Nat):Nat:=(Bp (th [j7,(i:Int)]) ((i:Int)+1)).toNat
def DU (j7:Int) (v:List Int) (i:Nat):List Int:=(v.set i (v.getD (Wo j7 i) 0)).set (Wo j7 i) (v.getD i 0)
def Hq (j7:Int):Nat->List Int->List Int
 |0,v=>v
 |i+1,v=>Hq j7 i (DU j7 v (i+1))
def qL (l:List Int) (j7:Int):List Int:=Hq j7 (l.length-1) l
theorem JB (j7:Int) (i:Nat):Wo j7 i<=i/\((Wo j7 i:Nat):Int)=Bp (th [j7,(i:Int)]) ((i:Int)+1):=by
 have:=AN (th [j7,(i:Int)]) (m:=(i:Int)+1) (by omega)
 unfold Wo
 omega
theorem qM (j7:Int) (v:List Int) (i:Nat):(DU j7 v i).length=v.length:=by simp[DU]
theorem Br (j7:Int): ∀(i:Nat) (v:List Int),i<v.length\/i=0->(Hq j7 i v).Perm v
 |0,v,_=>List.Perm.refl _
 |i+1,v,h=>by
  have hj:=(JB j7 (i+1)).1
  refine (Br j7 i _ (by rw[qM];omega)).trans ?_
  unfold DU
  rw[aD _ (by omega),aD _ (by omega)]
  exact List.set_set_perm (by omega) (by omega)
theorem C3 (l:List Int) (j7:Int):(qL l j7).Perm l:=Br j7 _ l (by omega)
theorem cu.loop {R:Type} {k:Nat} (hk:cO<=k) (j7:Int) (e0:List Int->Option R): ∀(i n:Nat) (v:List Int),i<v.length->v.length<1048577->i<n->cu.l3 k j7 e0 n (i:Int) v=e0 (Hq j7 i v):=by
 intro i
 induction i with
 |zero=>
  intro n v h hv hn
  obtain ⟨n,rfl⟩: ∃n',n=n' +1:=⟨n-1,by omega⟩
  exact (cu.aA ..).trans (ab (aH (by omega)))
 |succ i ih=>
  intro n v h hv hn
  obtain ⟨n,rfl⟩: ∃n',n=n' +1:=⟨n-1,by omega⟩
  have hj:=JB j7 (i+1)
  refine (cu.aA ..).trans ((ai (ae (by omega))).trans ((aa (e_.eq hk (by simp))).trans ?_))
  rw[wrap_i64 (n:=((i+1:Nat):Int)+1) (by omega) (by omega),show IntKind.wrap .i64 (((i+1:Nat):Int)-1)=(i:Int) by rw[wrap_i64 (by omega) (by omega)];omega]
  refine (aa (iT.N8 k _ (by omega) (by omega))).trans ?_
  rw[<- hj.2]
  refine (af (bP h)).trans ((af (bP (by omega))).trans ((af (bP h)).trans ((af (bP (by rw[List.length_set];omega))).trans ?_)))
  rw[Int.toNat_natCast,Int.toNat_natCast]
  exact ih n (DU j7 v (i+1)) (by rw[qM];omega) (by rw[qM];omega) (by omega)
theorem cv.loop {R:Type} {k:Nat} (hk:cO<=k) (j7:Int) (e0:List Int->Option R): ∀(i n:Nat) (v:List Int),i<v.length->v.length<1048577->i<n->cv.l3 k j7 e0 n (i:Int) v=e0 (Hq j7 i v):=by
 intro i
 induction i with
 |zero=>
  intro n v h hv hn
  obtain ⟨n,rfl⟩: ∃n',n=n' +1:=⟨n-1,by omega⟩
  exact (cv.aA ..).trans (ab (aH (by omega)))
 |succ i ih=>
  intro n v h hv hn
  obtain ⟨n,rfl⟩: ∃n',n=n' +1:=⟨n-1,by omega⟩
  have hj:=JB j7 (i+1)
  refine (cv.aA ..).trans ((ai (ae (by omega))).trans ((aa (fb.eq hk (by simp))).trans ?_))
  rw[wrap_i64 (n:=((i+1:Nat):Int)+1) (by omega) (by omega),show IntKind.wrap .i64 (((i+1:Nat):Int)-1)=(i:Int) by rw[wrap_i64 (by omega) (by omega)];omega]
  refine (aa (iV.N8 k _ (by omega) (by omega))).trans ?_
  rw[<- hj.2]
  refine (af (bP (by omega))).trans ((af (bP h)).trans ((af (bP h)).trans ((af (bP (by rw[List.length_set];omega))).trans ?_)))
  rw[Int.toNat_natCast,Int.toNat_natCast]
  exact ih n (DU j7 v (i+1)) (by rw[qM];omega) (by rw[qM];omega) (by omega)
theorem cu.eq {k:Nat} (hk:cO<=k) {l:List Int} (j7:Int) (hl:l.length<1048577):cu.f k l j7=some (qL l j7):=by
 refine (af (mN (by omega))).trans ?_
 unfold qL
 rw[List.nil_append]
 by_cases h0:l.length=0
 ·obtain ⟨n,rfl⟩: ∃n',k=n' +1:=⟨k-1,by simp[cO] at hk;omega⟩
  rw[h0]
  exact (cu.aA ..).trans (ab (by decide))
 ·rw[nw (by omega) (by omega)]
  exact cu.loop hk j7 _ (l.length-1) k l (by omega) hl (bV hk (by omega))
theorem cv.eq {k:Nat} (hk:cO<=k) {l:List Int} (j7:Int) (hl:l.length<1048577):cv.f k l j7=some (qL l j7):=by
 refine (aa (aJ.eq k hl)).trans ?_
 unfold qL
 by_cases h0:l.length=0
 ·obtain ⟨n,rfl⟩: ∃n',k=n' +1:=⟨k-1,by simp[cO] at hk;omega⟩
  rw[h0]
  exact (cv.aA ..).trans (ab (by decide))
 ·rw[nw (by omega) (by omega)]
  exact cv.loop hk j7 _ (l.length-1) k l (by omega) hl (bV hk (by omega))
def missing (l:List Int):List Int:=Jg (fun i b=>bif !aU l (i:Int) then b++[(i:Int)] else b) 52 0 []
def w_:List Int:=missing []
theorem rF:w_.length=52:=by decide+kernel
theorem dO.eq {k:Nat} (hk:cO<=k) {l:List Int} (hl:l.length<1048577):dO.f k l=some (missing l):=by
 have h:=upto (B:=List Int) 52 (fun m b i=>dO.l3 k l (fun x2=>some x2) m i b) (fun i b=>bif !aU l (i:Int) then b++[(i:Int)] else b) (fun x=>some x) (fun i b=>b.length<=i)
  (fun m b i h hI=>by
    refine (dO.aA ..).trans ((ai (ae (by omega))).trans ((aa (bU.eq hk _ (by omega))).trans ?_))
    rw[aL (by omega)]
    cases (!aU l (i:Int)) with
    |false=>rfl
    |true=>exact (ai rfl).trans (af (mN (by omega))))
  (fun b i h hI=>by cases (!aU l (i:Int))<;>simp<;>omega)
  (fun m b hI=>(dO.aA ..).trans (ab (aH (by omega))))
  52 0 k [] (by omega) (by simp[cO] at hk;omega) (by simp)
 exact h
theorem dP.eq {k:Nat} (hk:cO<=k) {l:List Int} (hl:l.length<1048577):dP.f k l=some (missing l):=by
 have h:=upto (B:=List Int) 52 (fun m b i=>dP.l3 k l (fun x2=>some x2) m i b) (fun i b=>bif !aU l (i:Int) then b++[(i:Int)] else b) (fun x=>some x) (fun i b=>b.length<=i)
  (fun m b i h hI=>by
    refine (dP.aA ..).trans ((ai (ae (by omega))).trans ((aa (fK.eq hk _ hl)).trans ?_))
    rw[aL (by omega)]
    cases (!aU l (i:Int)) with
    |false=>rfl
    |true=>exact (ai rfl).trans (af (mN (by omega))))
  (fun b i h hI=>by cases (!aU l (i:Int))<;>simp<;>omega)
  (fun m b hI=>(dP.aA ..).trans (ab (aH (by omega))))
  52 0 k [] (by omega) (by simp[cO] at hk;omega) (by simp)
 exact h
theorem jI.eq {k:Nat} (hk:cO<=k):jI.f k=some w_:=aa (dO.eq hk (by simp))
theorem jQ.eq {k:Nat} (hk:cO<=k):jQ.f k=some w_:=aa (dP.eq hk (by simp))
def o9 (p s b q:Int):Bool:=kH s 0 1000000&&kH b 0 1000000&&(th [p,s,b]==q)
theorem jH.eq {k:Nat} (hk:cO<=k) (p s b q:Int):jH.f k p s b q=some (o9 p s b q):=by
 unfold o9
 refine (aa (aO.eq ..)).trans ?_
 cases kH s 0 1000000 with
 |false=>rfl
 |true=>
  refine (ai rfl).trans ((aa (aO.eq ..)).trans ?_)
  cases kH b 0 1000000 with
  |false=>rfl
  |true=>exact (ai rfl).trans (aa (d_.eq hk p s b))
theorem jP.eq {k:Nat} (hk:cO<=k) (p s b q:Int):jP.f k p s b q=some (o9 p s b q):=by
 unfold o9
 refine (aa (an.eq ..)).trans ?_
 cases kH s 0 1000000 with
 |false=>rfl
 |true=>
  refine (ai rfl).trans ((aa (an.eq ..)).trans ?_)
  cases kH b 0 1000000 with
  |false=>rfl
  |true=>exact (ai rfl).trans (aa (gH.eq hk p s b))
def opens (ss bs:List Int):Nat->List Int->Bool
 |_,[]=>true
 |i,q::l=>o9 (i:Int) (ss.getD i 0) (bs.getD i 0) q&&opens ss bs (i+1) l
theorem cy.loop {R:Type} {k:Nat} (hk:cO<=k) (qs ss bs:List Int) (h1:qs.length<1048577) (h2:ss.length=qs.length) (h3:bs.length=qs.length) (e0 e1:Option R): ∀(m i n:Nat),i+m=qs.length->m<n->cy.l4 k qs ss bs e0 e1 n (i:Int)=bif opens ss bs i (qs.drop i) then e1 else e0
 |m,i,0,_,h=>absurd h (by omega)
 |0,i,n+1,hi,_=>by
  rw[List.drop_eq_nil_of_le (by omega)]
  exact (ab (aH (by omega))).trans rfl
 |m+1,i,n+1,hi,hn=>by
  have hq:i<qs.length:=by omega
  rw[drop_cons hq]
  have ih:=cy.loop hk qs ss bs h1 h2 h3 e0 e1 m (i+1) n (by omega) (by omega)
  refine (ai (ae (by omega))).trans ((af (bP (by omega))).trans ((af (bP (by omega))).trans ((af (bP hq)).trans ((aa (jH.eq hk ..)).trans ?_))))
  have et:((i:Int)).toNat=i:=Int.toNat_natCast i
  rw[et,aD (l:=qs) 0 hq]
  unfold opens
  cases o9 (i:Int) (ss.getD i 0) (bs.getD i 0) qs[i] with
  |false=>rfl
  |true=>
   refine (ab rfl).trans ?_
   rw[aL (by omega)]
   exact ih
theorem cF.loop {R:Type} {k:Nat} (hk:cO<=k) (qs ss bs:List Int) (h1:qs.length<1048577) (h2:ss.length=qs.length) (h3:bs.length=qs.length) (e0 e1:Option R): ∀(m i n:Nat),i+m=qs.length->m<n->cF.l5 k qs ss bs (qs.length:Int) e0 e1 n (i:Int)=bif opens ss bs i (qs.drop i) then e1 else e0
 |m,i,0,_,h=>absurd h (by omega)
 |0,i,n+1,hi,_=>by
  rw[List.drop_eq_nil_of_le (by omega)]
  exact (ab (aH (by omega))).trans rfl
 |m+1,i,n+1,hi,hn=>by
  have hq:i<qs.length:=by omega
  rw[drop_cons hq]
  have ih:=cF.loop hk qs ss bs h1 h2 h3 e0 e1 m (i+1) n (by omega) (by omega)
  refine (ai (ae (by omega))).trans ((af (bP (by omega))).trans ((af (bP (by omega))).trans ((af (bP hq)).trans ((aa (jP.eq hk ..)).trans ?_))))
  have et:((i:Int)).toNat=i:=Int.toNat_natCast i
  rw[et,aD (l:=qs) 0 hq]
  unfold opens
  cases o9 (i:Int) (ss.getD i 0) (bs.getD i 0) qs[i] with
  |false=>rfl
  |true=>
   refine (ab rfl).trans ?_
   rw[aL (by omega)]
   exact ih
def kI (qs ss bs:List Int):Bool:=kH (qs.length:Int) 1 6&&((ss.length:Int)==(qs.length:Int))&&((bs.length:Int)==(qs.length:Int))&&opens ss bs 0 qs
theorem cy.eq {k:Nat} (hk:cO<=k) {qs:List Int} (ss bs:List Int) (h:qs.length<1048577):cy.f k qs ss bs=some (kI qs ss bs):=by
 unfold kI
 refine (aa (aO.eq ..)).trans ?_
 cases kH (qs.length:Int) 1 6 with
 |false=>rfl
 |true=>
  refine (ab rfl).trans ?_
  cases h1:((ss.length:Int)==(qs.length:Int)) with
  |false=>exact (ai (by rw[bne,h1];rfl)).trans rfl
  |true=>
   refine (ab (by rw[bne,h1];rfl)).trans ?_
   cases h2:((bs.length:Int)==(qs.length:Int)) with
   |false=>exact (ai (by rw[bne,h2];rfl)).trans rfl
   |true=>
    refine (ab (by rw[bne,h2];rfl)).trans ((cy.loop hk qs ss bs h (by have:=eq_of_beq h1;omega) (by have:=eq_of_beq h2;omega) (some false) (some true) qs.length 0 k (by omega) (bV hk h)).trans ?_)
    rw[List.drop_zero]
    cases opens ss bs 0 qs<;>rfl
theorem cF.eq {k:Nat} (hk:cO<=k) {qs:List Int} (ss bs:List Int) (h:qs.length<1048577):cF.f k qs ss bs=some (kI qs ss bs):=by
 unfold kI
 refine (aa (an.eq ..)).trans ?_
 cases kH (qs.length:Int) 1 6 with
 |false=>rfl
 |true=>
  refine (ab rfl).trans ?_
  cases h1:((ss.length:Int)==(qs.length:Int)) with
  |false=>exact (ai (by rw[bne,h1];rfl)).trans rfl
  |true=>
   refine (ab (by rw[bne,h1];rfl)).trans ?_
   cases h2:((bs.length:Int)==(qs.length:Int)) with
   |false=>exact (ai (by rw[bne,h2];rfl)).trans rfl
   |true=>
    refine (ab (by rw[bne,h2];rfl)).trans ((cF.loop hk qs ss bs h (by have:=eq_of_beq h1;omega) (by have:=eq_of_beq h2;omega) (some false) (some true) qs.length 0 k (by omega) (bV hk h)).trans ?_)
    rw[List.drop_zero]
    cases opens ss bs 0 qs<;>rfl
theorem vd {qs ss bs:List Int} (h:kI qs ss bs=true):ss.length<1048577:=by
 unfold kI at h
 simp only[Bool.and_eq_true,beq_iff_eq] at h
 have:=eA.1 h.1.1.1
 omega
def xa:List Int->Int->Int
 | [],b=>b
 |s::l,b=>xa l ((b+Bp s 1000001).tmod 1000001)
def yC (l:List Int):Int:=xa l 0
theorem Hr {b s:Int} (h:0<=b/\b<1000001):0<=(b+Bp s 1000001).tmod 1000001/\(b+Bp s 1000001).tmod 1000001<1000001:=by
 have:=AN s (m:=1000001) (by omega)
 have:=vK (a:=b+Bp s 1000001) (n:=1000001) (by omega) (by omega)
 omega
theorem cz.loop {R:Type} {k:Nat} (l:List Int) (h1:l.length<1048577) (e0:Int->Option R): ∀(m i n:Nat) (b:Int),0<=b/\b<1000001->i+m=l.length->m<n->cz.l3 k l e0 n b (i:Int)=e0 (xa (l.drop i) b)
 |m,i,0,b,_,_,h=>absurd h (by omega)
 |0,i,n+1,b,hb,hi,_=>by
  rw[List.drop_eq_nil_of_le (by omega)]
  exact (ab (aH (by omega))).trans rfl
 |m+1,i,n+1,b,hb,hi,hn=>by
  have hq:i<l.length:=by omega
  rw[drop_cons hq]
  have hs:=AN l[i] (m:=1000001) (by omega)
  have ih:=cz.loop (k:=k) l h1 e0 m (i+1) n _ (Hr (s:=l[i]) hb) (by omega) (by omega)
  have et:((i:Int)).toNat=i:=Int.toNat_natCast i
  refine (ai (ae (by omega))).trans ((af (bP hq)).trans ((aa (iT.N8 k _ (by omega) (by omega))).trans ?_))
  rw[et,aD (l:=l) 0 hq,wrap_i64 (by omega) (by omega),aL (by omega)]
  exact ih
theorem cG.loop {R:Type} {k:Nat} (l:List Int) (h1:l.length<1048577) (e0:Int->Option R): ∀(m i n:Nat) (b:Int),0<=b/\b<1000001->i+m=l.length->m<n->cG.l3 k l (l.length:Int) e0 n b (i:Int)=e0 (xa (l.drop i) b)
 |m,i,0,b,_,_,h=>absurd h (by omega)
 |0,i,n+1,b,hb,hi,_=>by
  rw[List.drop_eq_nil_of_le (by omega)]
  exact (ab (aH (by omega))).trans rfl
 |m+1,i,n+1,b,hb,hi,hn=>by
  have hq:i<l.length:=by omega
  rw[drop_cons hq]
  have hs:=AN l[i] (m:=1000001) (by omega)
  have ih:=cG.loop (k:=k) l h1 e0 m (i+1) n _ (Hr (s:=l[i]) hb) (by omega) (by omega)
  have et:((i:Int)).toNat=i:=Int.toNat_natCast i
  refine (ai (ae (by omega))).trans ((af (bP hq)).trans ((aa (iV.N8 k _ (by omega) (by omega))).trans ?_))
  rw[et,aD (l:=l) 0 hq,wrap_i64 (by omega) (by omega),aL (by omega)]
  exact ih
theorem cz.eq {k:Nat} (hk:cO<=k) {l:List Int} (h:l.length<1048577):cz.f k l=some (yC l):=cz.loop l h _ l.length 0 k 0 (by omega) (by omega) (bV hk h)
theorem cG.eq {k:Nat} (hk:cO<=k) {l:List Int} (h:l.length<1048577):cG.f k l=some (yC l):=cG.loop l h _ l.length 0 k 0 (by omega) (by omega) (bV hk h)
def g_ (qs ss bs:List Int):List Int×Bool:=bif kI qs ss bs then (qL w_ (yC ss),true) else ([],false)
theorem iU.eq {k:Nat} (hk:cO<=k) {qs:List Int} (ss bs:List Int) (h:qs.length<1048577):iU.f k qs ss bs=some (g_ qs ss bs):=by
 unfold g_
 refine (aa (cy.eq hk ss bs h)).trans ?_
 cases ha:kI qs ss bs with
 |false=>rfl
 |true=>exact (ab rfl).trans ((aa (jI.eq hk)).trans ((aa (cz.eq hk (vd ha))).trans ((aa (cu.eq hk _ (by rw[rF];decide))).trans rfl)))
theorem iW.eq {k:Nat} (hk:cO<=k) {qs:List Int} (ss bs:List Int) (h:qs.length<1048577):iW.f k qs ss bs=some (g_ qs ss bs):=by
 unfold g_
 refine (aa (cF.eq hk ss bs h)).trans ?_
 cases ha:kI qs ss bs with
 |false=>rfl
 |true=>exact (ab rfl).trans ((aa (jQ.eq hk)).trans ((aa (cG.eq hk (vd ha))).trans ((aa (cv.eq hk _ (by rw[rF];decide))).trans rfl)))
theorem C4 (qs ss bs:List Int):(g_ qs ss bs).1.length<=52:=by
 unfold g_
 cases kI qs ss bs with
 |false=>simp
 |true=>simp only[cond_true];rw[(C3 _ _).length_eq,rF];omega
def kW (t:Tb):Bool:=((t.dG.length:Int)==t.r.n)&& !t.on
theorem jJ.eq (k:Nat) (t:Tb):t.ap (jJ.f k)=some (kW t):=by
 unfold kW
 show (bif ((t.dG.length:Int)==t.r.n) then _ else _)=_
 cases ((t.dG.length:Int)==t.r.n)<;>rfl
theorem jR.eq (k:Nat) (t:Tb):t.ap (jR.f k)=some (kW t):=by
 unfold kW
 show (bif ((t.dG.length:Int)==t.r.n) then _ else _)=_
 cases ((t.dG.length:Int)==t.r.n)<;>rfl
def qk (t:Tb) (ss bs rd:List Int):Tb:=⟨t.r,t.dG,true,(g_ t.dG ss bs).1,(fj t.r (g_ t.dG ss bs).1).1,rd,t.gx⟩
def ju (t:Tb) (ss bs:List Int):Tb×Bool:=done t (qk t ss bs []) (kW t&&(g_ t.dG ss bs).2&&(fj t.r (g_ t.dG ss bs).1).2)
theorem pN (t:Tb) (ss bs:List Int):Sz (g_ t.dG ss bs).1:=by have:=C4 t.dG ss bs;show _<_;omega
theorem zA {t:Tb} (h:t.sm) (ss bs:List Int):(ju t ss bs).1.sm:=AM _ h h.1 (pN t ss bs) (rD h.1 _)
theorem nz {t:Tb} (h:t.sm) (ss bs:List Int) {rd:List Int} (hr:rd.length<1073741824):(qk t ss bs rd).Q6:=⟨h.1,pN t ss bs,rD h.1 _,hr,(Tb.vP h).2.2.2.2.1,(Tb.vP h).2.2.2.2.2⟩
theorem OT {t:Tb} (ss bs:List Int) (ok:Bool) (hs:ok=true->kW t=true):done t (qk t ss bs t.rd) ok=done t (qk t ss bs []) ok:=by
 unfold done
 cases ok with
 |false=>rfl
 |true=>
  cases hv:bW t with
  |false=>rfl
  |true=>
   have ho:t.on=false:=by
    have:=hs rfl
    unfold kW at this
    simp only[Bool.and_eq_true,Bool.not_eq_true'] at this
    exact this.2
   have:t.rd=[]:=by
    unfold bW at hv
    rw[ho] at hv
    simp only[cond_false,Bool.and_eq_true,beq_iff_eq] at hv
    exact List.length_eq_zero_iff.1 (by have:=hv.2.1.2;omega)
   rw[this]
theorem jK.eq {k:Nat} (hk:cO<=k) {t:Tb} (h:t.sm) (ss bs:List Int):t.ap (jK.f k) ss bs=some ((ju t ss bs).1.u4 (ju t ss bs).2):=by
 have hr:t.rd.length<1073741824:=(Tb.vP h).2.2.2.1
 refine (aa (bM.eq hk h)).trans ((aa (iU.eq hk ss bs h.2.1)).trans ((aa (hR.eq hk h.1 (pN t ss bs))).trans ?_))
 rcases Bool.eq_false_or_eq_true (g_ t.dG ss bs).2 with h1|h1
 ·refine (ai h1).trans ?_
  rcases Bool.eq_false_or_eq_true (fj t.r (g_ t.dG ss bs).1).2 with h2|h2
  ·have e:ju t ss bs=done t (qk t ss bs t.rd) (kW t):=(congrArg (done t _) (by rw[h1,h2,Bool.and_true,Bool.and_true])).trans (OT ss bs (kW t) id).symm
   rw[e]
   exact (ai h2).trans ((aa (jJ.eq k t)).trans ((aa (cV.eq hk (kW t) h (nz h ss bs hr))).trans rfl))
  ·have e:ju t ss bs=done t (qk t ss bs t.rd) false:=(congrArg (done t _) (by rw[h2,Bool.and_false])).trans rfl
   rw[e]
   exact (ab h2).trans ((aa (cV.eq hk false h (nz h ss bs hr))).trans rfl)
 ·have e:ju t ss bs=done t (qk t ss bs t.rd) false:=(congrArg (done t _) (by rw[h1,Bool.and_false,Bool.false_and])).trans rfl
  rw[e]
  exact (ab h1).trans ((aa (cV.eq hk false h (nz h ss bs hr))).trans rfl)
theorem jS.eq {k:Nat} (hk:cO<=k) {t:Tb} (h:t.sm) (ss bs:List Int):t.ap (jS.f k) ss bs=some ((ju t ss bs).1.u4 (ju t ss bs).2):=by
 have hr:([]:List Int).length<1073741824:=by decide
 refine (aa (ah.eq hk h)).trans ((aa (iW.eq hk ss bs h.2.1)).trans ((aa (ia.eq hk h.1 (pN t ss bs))).trans ((aa (jR.eq k t)).trans ?_)))
 rcases Bool.eq_false_or_eq_true (kW t) with h0|h0
 ·refine (ai h0).trans ?_
  rcases Bool.eq_false_or_eq_true (g_ t.dG ss bs).2 with h1|h1
  ·have e:ju t ss bs=done t (qk t ss bs []) (fj t.r (g_ t.dG ss bs).1).2:=congrArg (done t _) (by rw[h0,h1];rfl)
   rw[e]
   exact (ai h1).trans ((aa (aN.eq hk _ h (nz h ss bs hr))).trans rfl)
  ·have e:ju t ss bs=done t (qk t ss bs []) false:=congrArg (done t _) (by rw[h1,Bool.and_false,Bool.false_and])
   rw[e]
   exact (ab h1).trans ((aa (aN.eq hk false h (nz h ss bs hr))).trans rfl)
 ·have e:ju t ss bs=done t (qk t ss bs []) false:=congrArg (done t _) (by rw[h0,Bool.false_and,Bool.false_and])
  rw[e]
  exact (ab h0).trans ((aa (aN.eq hk false h (nz h ss bs hr))).trans rfl)
def fo (t:Tb) (m:Int):Tb×Bool:=done t {t with g:=(ba t.g m).1,rd:=t.rd++[m]} (t.on&&(ba t.g m).2)
theorem pO {t:Tb} (h:t.sm) (m:Int):(fo t m).1.sm:=AM _ h h.1 h.2.2.1 (lJ h.2.2.2.1)
theorem oC {t:Tb} (h:t.sm) (m:Int):({t with g:=(ba t.g m).1,rd:=t.rd++[m]}:Tb).Q6:=by
 obtain ⟨h1,h2,h3,h4,h5,h6⟩:=h
 have h5:t.rd.length<1048577:=h5
 have h6a:=h6.1
 exact ⟨h1,h3,lJ h4,by show (t.rd++[m]).length<_;rw[List.length_append,List.length_singleton];omega,by show t.gx.length<_;omega,h6.2⟩
theorem hU.eq {k:Nat} (hk:cO<=k) {t:Tb} (h:t.sm) (m:Int):t.ap (hU.f k) m=some ((fo t m).1.u4 (fo t m).2):=by
 have h2:t.rd.length<1048577:=h.2.2.2.2.1
 refine (aa (bM.eq hk h)).trans ((aa (fA.eq hk h.2.2.2.1 m)).trans ((af (mN (show t.rd.length+1<=_ by omega))).trans ?_))
 rcases Bool.eq_false_or_eq_true (ba t.g m).2 with ho|ho
 ·have e:fo t m=done t {t with g:=(ba t.g m).1,rd:=t.rd++[m]} t.on:=congrArg (done t _) (by rw[ho,Bool.and_true])
  rw[e]
  exact (ai ho).trans ((aa (cV.eq hk t.on h (oC h m))).trans rfl)
 ·have e:fo t m=done t {t with g:=(ba t.g m).1,rd:=t.rd++[m]} false:=congrArg (done t _) (by rw[ho,Bool.and_false])
  rw[e]
  exact (ab ho).trans ((aa (cV.eq hk false h (oC h m))).trans rfl)
theorem gG.eq {k:Nat} (hk:cO<=k) {t:Tb} (h:t.sm) (m:Int):t.ap (gG.f k) m=some ((fo t m).1.u4 (fo t m).2):=by
 have h2:t.rd.length<1048577:=h.2.2.2.2.1
 refine (aa (ah.eq hk h)).trans ((aa (fC.eq hk h.2.2.2.1 m)).trans ((af (mN (show t.rd.length+1<=_ by omega))).trans ?_))
 rcases Bool.eq_false_or_eq_true t.on with ho|ho
 ·have e:fo t m=done t {t with g:=(ba t.g m).1,rd:=t.rd++[m]} (ba t.g m).2:=congrArg (done t _) (by rw[ho,Bool.true_and])
  rw[e]
  exact (ai ho).trans ((aa (aN.eq hk _ h (oC h m))).trans rfl)
 ·have e:fo t m=done t {t with g:=(ba t.g m).1,rd:=t.rd++[m]} false:=congrArg (done t _) (by rw[ho,Bool.false_and])
  rw[e]
  exact (ab ho).trans ((aa (aN.eq hk false h (oC h m))).trans rfl)
def fO (t:Tb) (c:Int):Tb×Bool:=bif be c then fo t c else (t,false)
theorem tj {t:Tb} (h:t.sm) (c:Int):(fO t c).1.sm:=by
 unfold fO
 cases be c with
 |false=>exact h
 |true=>exact pO h c
theorem jL.eq {k:Nat} (hk:cO<=k) {t:Tb} (h:t.sm) (c:Int):t.ap (jL.f k) c=some ((fO t c).1.u4 (fO t c).2):=by
 refine (aa (cP.eq ..)).trans ?_
 unfold fO
 cases be c with
 |false=>exact (ai rfl).trans ((aa (bM.eq hk h)).trans rfl)
 |true=>exact (ab rfl).trans ((aa (hU.eq hk h c)).trans rfl)
theorem fD.eq {k:Nat} (hk:cO<=k) {t:Tb} (h:t.sm) (c:Int):t.ap (fD.f k) c=some ((fO t c).1.u4 (fO t c).2):=by
 refine (aa (aT.eq ..)).trans ?_
 unfold fO
 cases be c with
 |false=>exact (ai rfl).trans ((aa (ah.eq hk h)).trans rfl)
 |true=>exact (ab rfl).trans ((aa (gG.eq hk h c)).trans rfl)
theorem iN.eq {k:Nat} (hk:cO<=k) {t:Tb} (h:t.sm):t.ap (iN.f k)=some ((fo t (-1)).1.u4 (fo t (-1)).2):=aa (hU.eq hk h (-1))
theorem fE.eq {k:Nat} (hk:cO<=k) {t:Tb} (h:t.sm):t.ap (fE.f k)=some ((fo t (-1)).1.u4 (fo t (-1)).2):=aa (gG.eq hk h (-1))
def valueOf (c:Int):Int:=bif decide (bu c<0) then 0 else bif decide (bu c<=8) then bu c+2 else bif bu c==12 then 1 else 10
theorem o_ (c:Int):0<=valueOf c/\valueOf c<=10:=by
 have:=yr c
 unfold valueOf
 cases h:decide (bu c<0) with
 |true=>simp
 |false=>
  have:=of_decide_eq_false h
  cases h2:decide (bu c<=8) with
  |true=>have:=of_decide_eq_true h2;simp only[cond_true,cond_false];omega
  |false=>cases (bu c==12)<;>simp
theorem kp.eq (k:Nat) (c:Int):kp.f k c=some (valueOf c):=by
 have:=yr c
 refine (aa (eQ.eq ..)).trans ?_
 rw[wrap_i64 (by omega) (by omega)]
 unfold valueOf
 cases decide (bu c<0)<;>cases decide (bu c<=8)<;>cases (bu c==12)<;>rfl
theorem kr.eq (k:Nat) (c:Int):kr.f k c=some (valueOf c):=by
 have:=yr c
 refine (aa (bN.eq ..)).trans ?_
 rw[wrap_i64 (by omega) (by omega)]
 unfold valueOf
 cases decide (bu c<0)<;>cases decide (bu c<=8)<;>cases (bu c==12)<;>rfl
def jv (h:List Int):Int:=(h.map valueOf).sum
theorem yD: ∀(l:List Int) (b:Int),l.foldl (fun b a=>b+valueOf a) b=b+jv l
 | [],b=>by simp[jv]
 |a::l,b=>by
  rw[List.foldl_cons,yD l]
  unfold jv
  rw[List.map_cons,List.sum_cons];omega
theorem rG: ∀(l:List Int),0<=jv l/\jv l<=10*(l.length:Int)
 | []=>by simp[jv]
 |a::l=>by
  have:=rG l
  have:=o_ a
  unfold jv at*
  rw[List.map_cons,List.sum_cons,List.length_cons]
  omega
theorem eh.eq {k:Nat} (hk:cO<=k) {l:List Int} (hl:l.length<1048577):eh.f k l=some (jv l):=by
 have h:=scan (B:=Int) l (fun m b i=>eh.l3 k l (fun x=>some x) m b i) (fun _ _=>true) (fun b a=>b+valueOf a) (fun x=>some x) (fun _ _=>none) (fun i b=>0<=b/\b<=10*(i:Int))
  (fun m b i h hI=>by
    have:=o_ l[i]
    refine (eh.aA ..).trans ((ai (ae (by omega))).trans ((af (bP h)).trans ?_))
    rw[Int.toNat_natCast,aD _ h,aL (by omega)]
    refine (aa (kp.eq ..)).trans ?_
    rw[wrap_i64 (by omega) (by omega)]
    rfl)
  (fun b i h hI _=>by have:=o_ l[i];omega)
  (fun m b hI=>(eh.aA ..).trans (ab (aH (by omega))))
  l.length 0 k 0 (by omega) (bV hk hl) (by simp)
 refine h.trans ?_
 rw[List.drop_zero,bX,yD,Int.zero_add]
theorem dr.eq {k:Nat} (hk:cO<=k) {l:List Int} (hl:l.length<1048577):dr.f k l=some (jv l):=by
 have h:=scan (B:=Int) l (fun m b i=>dr.l3 k l (l.length:Int) (fun x=>some x) m b i) (fun _ _=>true) (fun b a=>b+valueOf a) (fun x=>some x) (fun _ _=>none) (fun i b=>0<=b/\b<=10*(i:Int))
  (fun m b i h hI=>by
    have:=o_ l[i]
    refine (dr.aA ..).trans ((ai (ae (by omega))).trans ((af (bP h)).trans ?_))
    rw[Int.toNat_natCast,aD _ h,aL (by omega)]
    refine (aa (kr.eq ..)).trans ?_
    rw[wrap_i64 (by omega) (by omega)]
    rfl)
  (fun b i h hI _=>by have:=o_ l[i];omega)
  (fun m b hI=>(dr.aA ..).trans (ab (aH (by omega))))
  l.length 0 k 0 (by omega) (bV hk hl) (by simp)
 refine h.trans ?_
 rw[List.drop_zero,bX,yD,Int.zero_add]
def dp (g:Gm):List Int:=g.hs.map jv
theorem ve {g:Gm} (h: ∀y∈g.hs,y.length<1048577): ∀x∈dp g,0<=x/\x<=10485760:=by
 intro x hx
 obtain ⟨y,hy,rfl⟩:=List.mem_map.1 hx
 have:=rG y
 have:=h y hy
 omega
theorem cj.eq {k:Nat} (hk:cO<=k) {g:Gm} (h:g.sm):g.ap (cj.f k)=some (dp g):=by
 have hl:=h.2.1
 have h:=scan (B:=List Int) g.hs (fun m b i=>cj.l3 k g.hs (fun x=>some x) m i b) (fun _ _=>true) (fun b a=>b++[jv a]) (fun x=>some x) (fun _ _=>none) (fun i b=>b.length=i)
  (fun m b i h hI=>by
    have:=hl.1
    refine (cj.aA ..).trans ((ai (ae (by omega))).trans ((af (bP h)).trans ?_))
    rw[Int.toNat_natCast,aD _ h,aL (by omega)]
    exact (aa (eh.eq hk (hl.2 _ (List.getElem_mem h)))).trans (af (mN (by omega))))
  (fun b i h hI _=>by simp;omega)
  (fun m b hI=>(cj.aA ..).trans (ab (aH (by omega))))
  g.hs.length 0 k [] (by omega) (bV hk hl.1) rfl
 refine h.trans ?_
 rw[List.drop_zero,bX,nu jv]
 rfl
theorem ck.eq {k:Nat} (hk:cO<=k) {g:Gm} (h:g.sm):g.ap (ck.f k)=some (dp g):=by
 have hl:=h.2.1
 have h:=scan (B:=List Int) g.hs (fun m b i=>ck.l3 k g.hs (g.hs.length:Int) (fun x=>some x) m i b) (fun _ _=>true) (fun b a=>b++[jv a]) (fun x=>some x) (fun _ _=>none) (fun i b=>b.length=i)
  (fun m b i h hI=>by
    have:=hl.1
    refine (ck.aA ..).trans ((ai (ae (by omega))).trans ((af (bP h)).trans ?_))
    rw[Int.toNat_natCast,aD _ h,aL (by omega)]
    exact (aa (dr.eq hk (hl.2 _ (List.getElem_mem h)))).trans (af (mN (by omega))))
  (fun b i h hI _=>by simp;omega)
  (fun m b hI=>(ck.aA ..).trans (ab (aH (by omega))))
  g.hs.length 0 k [] (by omega) (bV hk hl.1) rfl
 refine h.trans ?_
 rw[List.drop_zero,bX,nu jv]
 rfl
theorem kP.eq {k:Nat} (hk:cO<=k) {g:Gm} (h:g.sm):g.ap (kP.f k)=some (jl g):=by
 refine (aa (bh.eq hk h)).trans ?_
 unfold jl
 cases dy g with
 |false=>rfl
 |true=>exact (ab rfl).trans (aa (cq.eq hk g h.2.1.1))
theorem eK.N8 {k:Nat} (hk:cO<=k) {r:List Int} (hr:r.length<1048577) (hp: ∀x∈r,0<=x/\x<=10485760):eK.f k r=some r.sum:=by
 have h:=scan (B:=Int) r (fun m b i=>eK.l3 k r (r.length:Int) (fun x=>some x) m b i) (fun _ _=>true) (fun b a=>b+a) (fun x=>some x) (fun _ _=>none) (fun i b=>0<=b/\b<=10485760*(i:Int))
  (fun m b i h hI=>by
    have:=hp _ (List.getElem_mem h)
    refine (eK.aA ..).trans ((ai (ae (by omega))).trans ((af (bP h)).trans ?_))
    rw[Int.toNat_natCast,aD _ h,wrap_i64 (by omega) (by omega),aL (by omega)]
    rfl)
  (fun b i h hI _=>by have:=hp _ (List.getElem_mem h);omega)
  (fun m b hI=>(eK.aA ..).trans (ab (aH (by omega))))
  r.length 0 k 0 (by omega) (bV hk hr) (by simp)
 refine h.trans ?_
 rw[List.drop_zero,bX,foldl_add,Int.zero_add]
theorem aW.sum {R:Type} {k:Nat} (hk:cO<=k) {r:List Int} (hr:r.length<1048577) (hp: ∀x∈r,0<=x/\x<=10485760) (e0:Int->Option R):aW.Vf k r e0 k (0:Int) (0:Int)=e0 r.sum:=by
 have h:=scan (B:=Int) r (fun m b i=>aW.Vf k r e0 m b i) (fun _ _=>true) (fun b a=>b+a) e0 (fun _ _=>none) (fun i b=>0<=b/\b<=10485760*(i:Int))
  (fun m b i h hI=>by
    have:=hp _ (List.getElem_mem h)
    refine (aW.G8 ..).trans ((ai (ae (by omega))).trans ((af (bP h)).trans ?_))
    rw[Int.toNat_natCast,aD _ h,wrap_i64 (by omega) (by omega),aL (by omega)]
    rfl)
  (fun b i h hI _=>by have:=hp _ (List.getElem_mem h);omega)
  (fun m b hI=>(aW.G8 ..).trans (ab (aH (by omega))))
  r.length 0 k 0 (by omega) (bV hk hr) (by simp)
 refine h.trans ?_
 rw[List.drop_zero,bX,foldl_add,Int.zero_add]
def settled (g:Gm):List Int:=bif dy g then bif decide (jl g<0) then List.replicate g.hs.length 0 else ((dp g).map fun x=>0-x).set (jl g).toNat (dp g).sum else []
theorem Hs (w:Nat) (S:Int): ∀(l b:List Int),l.foldl (fun b a=>b++[bif ((b.length:Int)==(w:Int)) then S else 0-a]) b=b++(if b.length<=w then (l.map fun x=>0-x).set (w-b.length) S else l.map fun x=>0-x)
 | [],b=>by simp
 |a::l,b=>by
  rw[List.foldl_cons,Hs w S l,List.length_append,List.length_singleton,List.append_assoc]
  congr 1
  by_cases h:b.length=w
  ·rw[if_neg (by omega),if_pos (by omega),show w-b.length=0 by omega]
   rw[show ((b.length:Int)==(w:Int))=true by simp[h]]
   rfl
  ·rw[show ((b.length:Int)==(w:Int))=false by simp;omega]
   by_cases h2:b.length<=w
   ·rw[if_pos (by omega),if_pos h2,show w-b.length=(w-(b.length+1))+1 by omega]
    rfl
   ·rw[if_neg (by omega),if_neg h2]
    rfl
theorem DW: ∀(l b:List Int),l.foldl (fun b _=>b++[(0:Int)]) b=b++List.replicate l.length 0
 | [],b=>by simp
 |a::l,b=>by
  rw[List.foldl_cons,DW l,List.length_cons,List.replicate_succ,List.append_assoc];rfl
theorem aW.eq {k:Nat} (hk:cO<=k) {g:Gm} (h:g.sm):g.ap (aW.f k)=some (settled g):=by
 have hb:=ve (g:=g) h.2.1.2
 have Wp:(dp g).length=g.hs.length:=by simp[dp]
 have TY:(dp g).length<1048577:=by rw[Wp];exact h.2.1.1
 refine (aa (cj.eq hk h)).trans ((aa (kP.eq hk h)).trans ?_)
 unfold settled
 cases hg:dy g with
 |false=>
  obtain ⟨n,rfl⟩: ∃n',k=n' +1:=⟨k-1,by simp[cO] at hk;omega⟩
  refine (aW.bp ..).trans ?_
  by_cases hz:(0:Int)<((dp g).length:Int)
  ·refine (ai (ae hz)).trans ((aa (bh.eq hk h)).trans ?_)
   rw[hg];rfl
  ·exact ab (aH hz)
 |true=>
  have YC:=bh.eq hk h
  rw[hg] at YC
  cases hw:decide (jl g<0) with
  |true=>
   have h:=scan (B:=List Int) (dp g) (fun m b i=>aW.l5 k (jl g) g.r.n g.r.e g.r.b1 g.r.b2 g.r.w g.r.f g.r.t g.r.l g.hs g.st g.hp g.tn g.mv g.ps (dp g) (fun x=>some x) m i b) (fun _ _=>true) (fun b _=>b++[0]) (fun x=>some x) (fun _ _=>none) (fun i b=>b.length=i)
    (fun m b i h hI=>by
      refine (aW.bp ..).trans ((ai (ae (by omega))).trans ((aa YC).trans ((ai rfl).trans ((ai hw).trans ((af (mN (by omega))).trans ?_)))))
      rw[aL (by omega)]
      rfl)
    (fun b i h hI _=>by simp;omega)
    (fun m b hI=>(aW.bp ..).trans (ab (aH (by omega))))
    (dp g).length 0 k [] (by omega) (bV hk TY) rfl
   refine h.trans ?_
   rw[List.drop_zero,bX,DW,Wp]
   rfl
  |false=>
   have Q7:=of_decide_eq_false hw
   have h:=scan (B:=List Int) (dp g) (fun m b i=>aW.l5 k (jl g) g.r.n g.r.e g.r.b1 g.r.b2 g.r.w g.r.f g.r.t g.r.l g.hs g.st g.hp g.tn g.mv g.ps (dp g) (fun x=>some x) m i b) (fun _ _=>true) (fun b a=>b++[bif ((b.length:Int)==(((jl g).toNat:Nat):Int)) then (dp g).sum else 0-a]) (fun x=>some x) (fun _ _=>none) (fun i b=>b.length=i)
    (fun m b i h hI=>by
      have hx:=hb _ (List.getElem_mem h)
      refine (aW.bp ..).trans ((ai (ae (by omega))).trans ((aa YC).trans ((ai rfl).trans ((ab hw).trans ?_))))
      rw[aL (by omega),hI,show (((jl g).toNat:Nat):Int)=jl g by omega]
      cases ((i:Int)==jl g) with
      |true=>exact (ai rfl).trans ((aW.sum hk TY hb _).trans (af (mN (by omega))))
      |false=>
       refine (ab rfl).trans ((af (bP h)).trans ((af (mN (by omega))).trans ?_))
       rw[Int.toNat_natCast,aD _ h,wrap_i64 (by omega) (by omega)]
       rfl)
    (fun b i h hI _=>by simp;omega)
    (fun m b hI=>(aW.bp ..).trans (ab (aH (by omega))))
    (dp g).length 0 k [] (by omega) (bV hk TY) rfl
   refine h.trans ?_
   rw[List.drop_zero,bX,Hs]
   simp
theorem ML {g:Gm} (h:0<=jl g):jl g<(g.hs.length:Int):=by
 unfold jl at*
 cases hg:dy g<;>rw[hg] at h
 ·simp at h
 ·simp only[cond_true] at*
  rcases DM g.hs 0 with h1|h1<;>omega
theorem df.fill {R:Type} (k:Nat) (l:List Int) (hl:l.length<1048577) (hb: ∀x∈l,0<=x/\x<=10485760) (e0:List Int->Option R): ∀(m i n:Nat),i+m=l.length->m<n->df.l8 k (l.length:Int) l e0 n (i:Int) ((l.map fun x=>0-x).take i++List.replicate m 0)=e0 (l.map fun x=>0-x):=by
 intro m
 induction m with
 |zero=>
  intro i n hi hn
  obtain ⟨n,rfl⟩: ∃n',n=n' +1:=⟨n-1,by omega⟩
  refine (df.AJ ..).trans ((ab (aH (by omega))).trans ?_)
  rw[show (l.map fun x=>0-x).take i=l.map fun x=>0-x from List.take_of_length_le (by rw[List.length_map];omega),List.replicate_zero,List.append_nil]
 |succ m ih=>
  intro i n hi hn
  obtain ⟨n,rfl⟩: ∃n',n=n' +1:=⟨n-1,by omega⟩
  have h:i<l.length:=by omega
  have hx:=hb _ (List.getElem_mem h)
  have Yu:(l.map fun x=>0-x).length=l.length:=List.length_map _
  refine (df.AJ ..).trans ((ai (ae (by omega))).trans ((af (bP h)).trans ((af (bP (by rw[Ow (by omega)];omega))).trans ?_)))
  rw[aL (by omega),Int.toNat_natCast,aD _ h,wrap_i64 (by omega) (by omega)]
  have hc:=MA (l:=l.map fun x=>0-x) (i:=i) (m:=m) (d:=0) (by omega)
  rw[List.getElem_map] at hc
  rw[hc]
  exact ih (i+1) n (by omega) (by omega)
theorem df.eq {k:Nat} (hk:cO<=k) {g:Gm} (h:g.sm):g.ap (df.f k)=some (settled g):=by
 have hb:=ve (g:=g) h.2.1.2
 have Wp:(dp g).length=g.hs.length:=by simp[dp]
 have TY:(dp g).length<1048577:=by rw[Wp];exact h.2.1.1
 refine (aa (cQ.eq hk h)).trans ?_
 unfold settled
 cases hg:dy g with
 |false=>rfl
 |true=>
  refine (ab rfl).trans ((aa (cZ.eq hk h)).trans ((aa (ck.eq hk h)).trans ((af (bi (ae (by omega)) (mN (by omega)))).trans ?_)))
  rw[Int.toNat_natCast]
  cases hw:decide (jl g<0) with
  |true=>rw[Wp];rfl
  |false=>
   have Q7:=of_decide_eq_false hw
   have hwl:=ML (g:=g) (by omega)
   refine (ab rfl).trans ?_
   have Yu:((dp g).map fun x=>0-x).length=(dp g).length:=List.length_map _
   have hf:=df.fill k (dp g) TY hb (fun x4=>(eK.f k (dp g)).bind fun r5=>ay ((decide ((0:Int)<=jl g))&&(decide (jl g<(x4.length:Int))))<|some (x4.set (jl g).toNat r5)) (dp g).length 0 k (by omega) (bV hk TY)
   rw[List.take_zero,List.nil_append] at hf
   refine Eq.trans hf ?_
   refine (aa (eK.N8 hk TY hb)).trans ((af (bi (ae (by omega)) (ae (by rw[Yu];omega)))).trans ?_)
   rfl
theorem Ht {g:Gm} (h:dy g=true):(settled g).length=g.hs.length:=by
 unfold settled
 rw[h]
 cases decide (jl g<0) with
 |true=>simp
 |false=>simp[dp]
theorem ko.eq {k:Nat} (hk:cO<=k) {g:Gm} (h:g.sm):g.ap (ko.f k)=some (lX g):=by
 refine (aa (bh.eq hk h)).trans ?_
 unfold lX
 cases dy g with
 |false=>rfl
 |true=>exact (ai rfl).trans (aa (fI.eq hk g h.2.1.1))
theorem JC (g:Gm):(settled g).length<=6:=by
 cases h:dy g with
 |true=>rw[Ht h];exact (vJ h).1
 |false=>unfold settled;rw[h];simp
def pa (t:Tb):Tb:=⟨t.r,[],false,[],w8,[],t.gx++[settled t.g]⟩
def fh (t:Tb):Tb×Bool:=done t (pa t) (t.on&&lX t.g)
theorem ql {t:Tb} (h:t.sm):(fh t).1.sm:=AM _ h h.1 (by show ([]:List Int).length<_;decide) qK
theorem rH {t:Tb} (h:t.sm):(pa t).Q6:=by
 have h6:=h.2.2.2.2.2
 have h6a:=h6.1
 refine ⟨h.1,by show ([]:List Int).length<_;decide,qK,by show ([]:List Int).length<_;decide,by show (t.gx++[settled t.g]).length<_;rw[List.length_append,List.length_singleton];omega,fun y hy=> ?_⟩
 rcases List.mem_append.1 (show y∈t.gx++[settled t.g] from hy) with hy|hy
 ·exact h6.2 y hy
 ·rw[List.mem_singleton.1 hy];have:=JC t.g;omega
theorem gg.eq {k:Nat} (hk:cO<=k) {t:Tb} (h:t.sm):t.ap (gg.f k)=some ((fh t).1.u4 (fh t).2):=by
 have h2:t.gx.length<1048577:=h.2.2.2.2.2.1
 refine (aa (bM.eq hk h)).trans ?_
 rcases Bool.eq_false_or_eq_true t.on with ho|ho
 ·refine (ab (by rw[ho];rfl)).trans ((aa (ko.eq hk h.2.2.2.1)).trans ?_)
  rcases Bool.eq_false_or_eq_true (lX t.g) with he|he
  ·have e:fh t=done t (pa t) true:=congrArg (done t _) (by rw[ho,he];rfl)
   rw[e]
   exact (ab (by rw[he];rfl)).trans ((aa (aW.eq hk h.2.2.2.1)).trans ((af (EQ (show t.gx.length+1<=_ by omega))).trans ((aa (cV.eq hk true h (rH h))).trans rfl)))
  ·have e:fh t=(t,false):=(congrArg (done t (pa t)) (by rw[ho,he];rfl:(t.on&&lX t.g)=false)).trans rfl
   rw[e]
   exact (ai (by rw[he];rfl)).trans rfl
 ·have e:fh t=(t,false):=(congrArg (done t (pa t)) (by rw[ho];rfl:(t.on&&lX t.g)=false)).trans rfl
  rw[e]
  exact (ai (by rw[ho];rfl)).trans rfl
theorem fF.eq {k:Nat} (hk:cO<=k) {t:Tb} (h:t.sm):t.ap (fF.f k)=some ((fh t).1.u4 (fh t).2):=by
 have h2:t.gx.length<1048577:=h.2.2.2.2.2.1
 refine (aa (ah.eq hk h)).trans ((aa (df.eq hk h.2.2.2.1)).trans ((af (EQ (show t.gx.length+1<=_ by omega))).trans ?_))
 rcases Bool.eq_false_or_eq_true t.on with ho|ho
 ·have e:fh t=done t (pa t) (lX t.g):=congrArg (done t _) (by rw[ho,Bool.true_and])
  rw[e]
  exact (ai ho).trans ((aa (fJ.eq hk h.2.2.2.1)).trans ((aa (aN.eq hk (lX t.g) h (rH h))).trans rfl))
 ·have e:fh t=done t (pa t) false:=congrArg (done t _) (by rw[ho,Bool.false_and])
  rw[e]
  exact (ab ho).trans ((aa (aN.eq hk false h (rH h))).trans rfl)
def iG (t:Tb) (a b:Int) (ss bs:List Int):Tb×Bool:=
 bif a==1 then jt t b else bif a==2 then ju t ss bs else bif a==3 then fO t b else bif a==4 then fo t (-1) else bif a==5 then fh t else (t,false)
theorem vf {t:Tb} (h:t.sm) (a b:Int) (ss bs:List Int):(iG t a b ss bs).1.sm:=by
 unfold iG
 cases (a==1) with
 |true=>exact tf h b
 |false=>
  cases (a==2) with
  |true=>exact zA h ss bs
  |false=>
   cases (a==3) with
   |true=>exact tj h b
   |false=>
    cases (a==4) with
    |true=>exact pO h (-1)
    |false=>
     cases (a==5) with
     |true=>exact ql h
     |false=>exact h
theorem iD.eq {k:Nat} (hk:cO<=k) {t:Tb} (h:t.sm) (a b:Int) (ss bs:List Int):t.ap (iD.f k) a b ss bs=some ((iG t a b ss bs).1.u4 (iG t a b ss bs).2):=by
 unfold iG
 show (bif a==1 then _ else _)=_
 rcases Bool.eq_false_or_eq_true (a==1) with ha|ha
 ·exact (ai ha).trans ((aa (jO.eq hk h b)).trans (by rw[ha];rfl))
 rw[ha]
 refine (ab rfl).trans ?_
 rcases Bool.eq_false_or_eq_true (a==2) with ha|ha
 ·exact (ai ha).trans ((aa (jS.eq hk h ss bs)).trans (by rw[ha];rfl))
 rw[ha]
 refine (ab rfl).trans ?_
 rcases Bool.eq_false_or_eq_true (a==3) with ha|ha
 ·exact (ai ha).trans ((aa (fD.eq hk h b)).trans (by rw[ha];rfl))
 rw[ha]
 refine (ab rfl).trans ?_
 rcases Bool.eq_false_or_eq_true (a==4) with ha|ha
 ·exact (ai ha).trans ((aa (fE.eq hk h)).trans (by rw[ha];rfl))
 rw[ha]
 refine (ab rfl).trans ?_
 rcases Bool.eq_false_or_eq_true (a==5) with ha|ha
 ·exact (ai ha).trans ((aa (fF.eq hk h)).trans (by rw[ha];rfl))
 rw[ha]
 exact (ab rfl).trans ((aa (ah.eq hk h)).trans rfl)
abbrev Tb.pm {β:Type} (F:Int->Int->Bool->Bool->Int->Int->Bool->Int->Int->Bool->Bool->Int->Int->Int->Int->Int->List Int->List Int->List Int->List Int->List Int->List Int->List (List Int)->List Int->List Int->List Int->List (List Int)->β) (t:Tb):β:=F t.r.n t.r.e t.r.b1 t.r.b2 t.r.t t.r.l t.on t.g.r.n t.g.r.e t.g.r.b1 t.g.r.b2 t.g.r.t t.g.r.l t.g.tn t.g.mv t.g.ps t.r.w t.r.f t.dG t.lK t.g.r.w t.g.r.f t.g.hs t.g.st t.g.hp t.rd t.gx
def zB (sR:Int) (b:List (List gR)×List Int) (a:Int):List (List gR)×List Int:=(b.1++[[.int 1,.int (th [(b.1.length:Int),a,sR]),.ints [],.ints []]],b.2++[sR])
def yE (ok:Bool) (n:Int) (xb:List Int) (sR:Int):List (List gR):=bif ok then bif ((xb.length:Int) != n) then [] else (xb.foldl (zB sR) ([],[])).1++[[.int 2,.int 0,.ints xb,.ints (xb.foldl (zB sR) ([],[])).2]] else []
theorem DX (sR:Int): ∀(l:List Int) (b:List (List gR)×List Int),(l.foldl (zB sR) b).1.length=b.1.length+l.length/\(l.foldl (zB sR) b).2.length=b.2.length+l.length
 | [],b=>⟨rfl,rfl⟩
 |a::l,b=>by
  obtain ⟨h1,h2⟩:=DX sR l (zB sR b a)
  rw[List.foldl_cons,h1,h2]
  simp[zB]
  omega
theorem JD (ok:Bool) (n:Int) (xb:List Int) (sR:Int):(yE ok n xb sR).length<=xb.length+1:=by
 unfold yE
 cases ok with
 |false=>simp
 |true=>
  cases ((xb.length:Int) != n) with
  |true=>simp
  |false=>
   simp only[cond_true,cond_false,List.length_append,List.length_singleton,(DX sR xb ([],[])).1,List.length_nil]
   omega
theorem Hu (c:Int):decide (br c>=0)=be c:=by
 cases h:be c with
 |false=>unfold br;rw[h];rfl
 |true=>
  have h0:=dF.1 h
  unfold br
  rw[h,cond_true,Int.tdiv_eq_ediv_of_nonneg h0.1]
  exact ae (by omega)
theorem yF {c:Int} (h:be c=true):0<=br c/\br c<4:=by
 have h1:=Hu c
 rw[h,decide_eq_true_eq] at h1
 have:=DH c
 omega
def Bs (b:List Int) (a:Int):List Int:=bif decide (br a>=0) then b.set (br a).toNat (b.getD (br a).toNat 0+1) else b
def DY (i:Nat) (b:List Int):Prop:=b.length=4/\ ∀x∈b,0<=x/\x<=(i:Int)
theorem Bt {i:Nat} {b:List Int} (h:DY i b) (a:Int):DY (i+1) (Bs b a):=by
 unfold Bs
 cases hs:decide (br a>=0) with
 |false=>exact ⟨h.1,fun x hx=>by have:=h.2 x hx;omega⟩
 |true=>
  have X2:=of_decide_eq_true hs
  have:=DH a
  have hm:=h.2 _ (o3 (l:=b) (i:=(br a).toNat) 0 (by have:=h.1;omega))
  refine ⟨by simpa using h.1,fun x hx=> ?_⟩
  rcases List.mem_or_eq_of_mem_set hx with hx|rfl
  ·have:=h.2 x hx;omega
  ·omega
theorem Bu: ∀(l:List Int) (i:Nat) (b:List Int),DY i b->DY (i+l.length) (l.foldl Bs b)
 | [],i,b,h=>h
 |a::l,i,b,h=>by
  have:=Bu l (i+1) _ (Bt h a)
  rw[List.length_cons,show i+(l.length+1)=i+1+l.length by omega]
  exact this
theorem K5:DY 0 [0,0,0,0]:=⟨rfl,fun x hx=>by
 simp only[List.mem_cons,List.not_mem_nil,or_false,or_self] at hx
 subst hx;simp⟩
theorem Bv (l:List Int):(o7 l).length=4:=(Bu l 0 _ K5).1
theorem cn.eq {k:Nat} (hk:cO<=k) {l:List Int} (hl:l.length<1048577):cn.f k l=some (o7 l):=by
 have h:=scan (B:=List Int) l (fun m b i=>cn.l3 k l (l.length:Int) (fun x2=>some x2) m i b) (fun _ _=>true) Bs (fun x2=>some x2) (fun _ _=>none) DY
  (fun m b i h hI=>by
    refine (cn.aA ..).trans ((ai (ae (by omega))).trans ((af (bP h)).trans ?_))
    rw[Int.toNat_natCast,aD _ h,aL (by omega)]
    refine (aa (aT.eq ..)).trans ?_
    unfold Bs
    rw[Hu]
    cases hs:be l[i] with
    |false=>rfl
    |true=>
     have X2:=yF hs
     have:=hI.1
     have hm:=hI.2 _ (o3 (l:=b) (i:=(br l[i]).toNat) 0 (by omega))
     refine (ai rfl).trans ((aa (aZ.eq ..)).trans ((af (bi (ae X2.1) (ae (by omega)))).trans ((af (bi (ae X2.1) (ae (by omega)))).trans ?_)))
     rw[wrap_i64 (by omega) (by omega)]
     rfl)
  (fun b i h hI _=>Bt hI _)
  (fun m b hI=>(cn.aA ..).trans (ab (aH (by omega))))
  l.length 0 k [0,0,0,0] (by omega) (bV hk hl) K5
 refine h.trans ?_
 rw[List.drop_zero,bX]
 rfl
abbrev tk (g:Gm) (c:Int):Int:=(o7 g.hand).getD (br c).toNat 0
theorem dk.eq {k:Nat} (hk:cO<=k) {g:Gm} (h:g.sm) (kd:Int):g.ap (dk.f k) kd=some (choice g kd):=by
 have QN:=oA g
 refine (aa (bL.eq hk h)).trans ?_
 unfold choice
 cases h0:(((cJ g).length:Int)==0) with
 |true=>rfl
 |false=>
  have lG: ¬((cJ g).length:Int)=0:=by simpa using h0
  have X3:=o3 (l:=cJ g) (i:=0) 0 (by omega)
  have hm:=(mU (mz.2 X3)).1
  have ht:=ny hm
  refine (ab rfl).trans ?_
  cases kd==0 with
  |true=>exact (ai rfl).trans (af (ae (by omega)))
  |false=>
   refine (ab rfl).trans ?_
   rw[nw (by omega) (by omega)]
   cases kd==1 with
   |true=>exact (ai rfl).trans (af (bi (ae (by omega)) (ae (by omega))))
   |false=>
    refine (ab rfl).trans ?_
    cases kd==2 with
    |false=>rfl
    |true=>
     refine (ai rfl).trans ((af (bi (ae ht.1) (ae ht.2))).trans ((aa (cn.eq hk (wY h))).trans ((af (ae (by omega))).trans ?_)))
     have h4:=Bv g.hand
     have h:=scan (B:=Int) (cJ g) (fun m b i=>dk.G0 k ((cJ g).length:Int) (o7 g.hand) (cJ g) (fun x5=>some x5) m b i) (fun _ _=>true) (fun b a=>bif decide (tk g a>tk g b) then a else b) (fun x5=>some x5) (fun _ _=>none) (fun i b=>be b=true)
      (fun m b i h hI=>by
        have hs:=yF (qi (List.getElem_mem h))
        have K4:=yF hI
        refine (dk.n5 ..).trans ((ai (ae (by omega))).trans ((af (bP h)).trans ?_))
        rw[Int.toNat_natCast,aD _ h,aL (by omega)]
        refine (aa (aZ.eq ..)).trans ((af (bi (ae hs.1) (ae (by omega)))).trans ((aa (aZ.eq ..)).trans ((af (bi (ae K4.1) (ae (by omega)))).trans ?_)))
        show (bif decide (tk g (cJ g)[i]>tk g b) then _ else _)=_
        cases decide (tk g (cJ g)[i]>tk g b)<;>rfl)
      (fun b i h hI _=>by
        cases decide (tk g (cJ g)[i]>tk g b) with
        |true=>exact qi (List.getElem_mem h)
        |false=>exact hI)
      (fun m b hI=>(dk.n5 ..).trans (ab (aH (by omega))))
      (cJ g).length 0 k ((cJ g).getD 0 0) (by omega) (bV hk (by omega)) (qi X3)
     refine h.trans ?_
     rw[List.drop_zero,bX]
     have key: ∀(l:List Int) (b:Int),l.foldl (fun b a=>bif decide (tk g a>tk g b) then a else b) b=Jx (tk g) l b:=by
      intro l
      induction l with
      |nil=>intro b;rfl
      |cons a l ih=>intro b;rw[List.foldl_cons,ih];rfl
     rw[key]
     rfl
theorem uq {a b:ByteArray} (h:a.data.toList=b.data.toList):a=b:=by
 cases a;cases b
 congr 1
 exact Array.ext' h
theorem ku {a b:ByteArray}:(a.toList==b.toList)=decide (a.data.toList=b.data.toList):=by
 rw[Go.Lib.toList_data,Go.Lib.toList_data]
 by_cases h:a.data.toList=b.data.toList
 ·rw[h];simp
 ·rw[aH h];simpa using h
theorem yG (a b:ByteArray):(a++b).data.toList=a.data.toList++b.data.toList:=by rw[ByteArray.data_append,Array.toList_append]
theorem iA (a:ByteArray):a.data.toList.length=a.size:=by rw[Array.length_toList];rfl
theorem JE {s:ByteArray} {i:Nat} {b:UInt8} {l:List UInt8} (h:s.data.toList.drop i=b::l):sb s i=(b.toNat:Int):=by
 have h1:s.data.toList[i]? =some b:=by
  have:=congrArg (fun l=>l[0]?) h
  simpa using this
 have h2:s.data[i]? =some b:=by rw[<- Array.getElem?_toList];exact h1
 unfold sb
 rw[h2];rfl
theorem OU {p:UInt8->Bool} (h:(List.range 256).all (fun n=>p (UInt8.ofNat n))=true) (b:UInt8):p b=true:=by
 have h1:=List.all_eq_true.1 h b.toNat (List.mem_range.2 b.toNat_lt)
 rwa [UInt8.ofNat_toNat] at h1
def vQ (s:ByteArray) (c:Int):Nat->Nat->Nat->List ByteArray
 |0,a,i=>[s.extract a i]
 |m+1,a,i=>bif sb s i==c then s.extract a i::vQ s c m (i+1) (i+1) else vQ s c m a (i+1)
def words (s:ByteArray) (c:Int):List ByteArray:=vQ s c s.size 0 0
theorem xc (s:ByteArray) (c:Int): ∀m a i,(vQ s c m a i).length<=m+1/\1<=(vQ s c m a i).length
 |0,a,i=>by simp[vQ]
 |m+1,a,i=>by
  unfold vQ
  cases sb s i==c with
  |true=>have:=xc s c m (i+1) (i+1);simp only[cond_true,List.length_cons];omega
  |false=>have:=xc s c m a (i+1);simp only[cond_false];omega
theorem AO (s:ByteArray) (c:Int): ∀m a i,∀w∈vQ s c m a i,w.size<=s.size
 |0,a,i,w,h=>by
  rw[List.mem_singleton.1 h,ByteArray.size_extract];omega
 |m+1,a,i,w,h=>by
  unfold vQ at h
  cases hb:sb s i==c with
  |true=>
   rw[hb,cond_true] at h
   rcases List.mem_cons.1 h with rfl|h
   ·rw[ByteArray.size_extract];omega
   ·exact AO s c m _ _ w h
  |false=>rw[hb,cond_false] at h;exact AO s c m _ _ w h
theorem Q8 {n:Nat} (h:n<=2097153):decide (n*16<=room)=true:=ae (by unfold room;omega)
theorem a_.loop {R:Type} (k:Nat) {s:ByteArray} (c:Int) (hs:s.size<1048577) (e0:Int->List ByteArray->Option R) (X:List ByteArray->Option R) (he: ∀(a:Nat) acc,a<=s.size->acc.length<=s.size->e0 (a:Int) acc=X (acc++[s.extract a s.size])):
 ∀(m n a i:Nat) (acc:List ByteArray),i+m=s.size->m<n->a<=i->acc.length<=i->a_.l3 k s c (s.size:Int) e0 n (a:Int) (i:Int) acc=X (acc++vQ s c m a i):=by
 intro m
 induction m with
 |zero=>
  intro n a i acc hi hn ha TZ
  obtain ⟨n,rfl⟩: ∃j,n=j+1:=⟨n-1,by omega⟩
  obtain rfl:i=s.size:=by omega
  rw[a_.aA]
  unfold a_.s3
  rw[ab (aH (by omega))]
  exact he a acc ha TZ
 |succ m ih=>
  intro n a i acc hi hn ha TZ
  obtain ⟨n,rfl⟩: ∃j,n=j+1:=⟨n-1,by omega⟩
  rw[a_.aA]
  unfold a_.s3
  rw[ai (ae (by omega)),af (bi (ae (by omega)) (ae (by omega))),show ((i:Int)).toNat=i from Int.toNat_natCast i,aL (by omega)]
  unfold vQ
  cases sb s i==c with
  |true=>
   refine (ai rfl).trans ?_
   rw[af (bi (ae (by omega)) (ae (by omega))),af (bi (ae (by omega)) (ae (by omega))),af (Q8 (by omega)),show ((a:Int)).toNat=a from Int.toNat_natCast a,ih n (i+1) (i+1) _ (by omega) (by omega) (by omega) (by simp;omega),List.append_assoc]
   rfl
  |false=>
   refine (ab rfl).trans ?_
   rw[ih n a (i+1) acc (by omega) (by omega) (by omega) (by omega)]
   rfl
theorem a_.eq {k:Nat} (hk:cO<=k) {s:ByteArray} (c:Int) (hs:s.size<1048577):a_.f k s c=some (words s c):=by
 have hB:cO=1073741824:=rfl
 unfold a_.f
 rw[show (0:Int)=((0:Nat):Int) from rfl,a_.loop k c hs _ (fun x=>some x) (fun a acc ha TZ=> ?_) s.size k 0 0 [] (by omega) (by omega) (by omega) (by simp)]
 ·rfl
 ·rw[af (bi (ae (by omega)) (ae (by omega))),af (bi (ae (by omega)) (ae (by omega))),af (Q8 (by omega))]
  rw[show ((a:Int)).toNat=a from Int.toNat_natCast a,show ((s.size:Int)).toNat=s.size from Int.toNat_natCast _]
theorem OV {a b:ByteArray} (h:a.data.toList=b.data.toList):a=b:=by
 cases a;cases b
 congr 1
 exact Array.ext' h
theorem DZ (a b:ByteArray):(a++b).data.toList=a.data.toList++b.data.toList:=by rw[ByteArray.data_append,Array.toList_append]
theorem MM (x0:List UInt8) (l:List (List UInt8)) (x sep:List UInt8):Go.Lib.join ((x0::l)++[x]) sep=Go.Lib.join (x0::l) sep++sep++x:=by
 rw[List.cons_append,Go.Lib.join_cons,Go.Lib.join_cons]
 simp[Go.Lib.joinTail,List.append_assoc]
theorem D0 (x sep:ByteArray):oY [x] sep=x:=OV (by show (Go.Lib.join [x.data.toList] _).toArray.toList=_;rw[Go.Lib.join_one])
theorem Bw {l:List ByteArray} (hl:l≠[]) (x sep:ByteArray):oY (l++[x]) sep=oY l sep++sep++x:=by
 cases l with
 |nil=>exact absurd rfl hl
 |cons x0 l=>
  refine OV ?_
  rw[DZ,DZ]
  show (Go.Lib.join (((x0::l)++[x]).map (·.data.toList)) sep.data.toList).toArray.toList=(Go.Lib.join ((x0::l).map (·.data.toList)) sep.data.toList).toArray.toList++_++_
  rw[List.map_append,List.map_cons,List.map_cons,List.map_nil,MM]
theorem MN {α:Type} {l:List α} {i:Nat} (h:i<l.length):l.take (i+1)=l.take i++[l[i]]:=List.take_succ_eq_append_getElem h
theorem Bx (l:List ByteArray) (sep:ByteArray) {i:Nat} (h:i<l.length):oY (l.take (i+1)) sep=bif decide (0<i) then oY (l.take i) sep++sep++l[i] else l[i]:=by
 rw[MN h]
 rcases Nat.eq_zero_or_pos i with e|e
 ·subst e;simp[D0]
 ·rw[ae e]
  refine Bw ?_ _ _
  intro hn
  have:=congrArg List.length hn
  rw[List.length_take,List.length_nil] at this
  omega
theorem OW {l:List ByteArray} {sep:ByteArray} (hs: ∀y∈l,y.size<=33554432) (hp:sep.size<=1048576): ∀i,i<=l.length->(oY (l.take i) sep).size<=34603008*i:=by
 intro i
 induction i with
 |zero=>intro _;exact Nat.le_refl _
 |succ i ih=>
  intro h
  have h1:=ih (by omega)
  have h2:=hs _ (List.getElem_mem (show i<l.length by omega))
  rw[Bx l sep (by omega)]
  cases decide (0<i) with
  |true=>simp only[cond_true,ByteArray.size_append];omega
  |false=>simp only[cond_false];omega
theorem strings_Join.eq (k:Nat) {l:List ByteArray} {sep:ByteArray} (hl:l.length<1048577) (hs: ∀y∈l,y.size<=33554432) (hp:sep.size<=1048576):strings_Join.f k l sep=some (oY l sep):=by
 have h:=OW hs hp l.length (Nat.le_refl _)
 rw[List.take_length] at h
 exact af (bi (Nat.ble_eq_true_of_le (by omega)) (Nat.ble_eq_true_of_le (by omega)))
def tm (l:List ByteArray) (sep:ByteArray):ByteArray:=bif ((l.length:Int)==0) then ⟨#[45]⟩ else oY l sep
def OX (u:Nat):List UInt8:=if u=0 then [] else Go.Lib.decDigits u
theorem By {u:Nat} (h:0<u):OX u=Go.Lib.decDigits u:=by unfold OX;rw[if_neg (by omega)]
theorem MO {u:Nat} (h:0<u):OX u=OX (u/10)++[UInt8.ofNat (48+u%10)]:=by
 rw[By h]
 by_cases N1:u<10
 ·rw[Go.Lib.decDigits_one N1,show u/10=0 by omega,Nat.mod_eq_of_lt N1];rfl
 ·rw[By (u:=u/10) (by omega)]
  conv=>lhs;rw[Go.Lib.decDigits,dif_neg N1]
theorem Hv: ∀(m u:Nat),u<10^m->(OX u).length<=m
 |0,u,h=>by
  have:u=0:=by simpa using h
  subst this;exact Nat.zero_le _
 |m+1,u,h=>by
  rcases Nat.eq_zero_or_pos u with e|e
  ·subst e;exact Nat.zero_le _
  ·rw[Nat.pow_succ] at h
   have:=Hv m (u/10) (by omega)
   rw[MO e,List.length_append,List.length_singleton]
   omega
theorem Wq {n:Int} (h:ry .i64 n): -9223372036854775808<=n/\n<=9223372036854775807:=by
 simpa[ry,Lit.wf,IntKind.min,IntKind.max,IntKind.signed,IntKind.bits] using h
theorem aF.eq (k:Nat) {n:Int} (hn:ry .i64 n):aF.f k n=some (gP n):=by
 have hw:=Wq hn
 exact aa (af (bi (ae hw.1) (ae hw.2)))
theorem iI {n:Int} (hn:ry .i64 n):(gP n).size<=21:=by
 have hw:=Wq hn
 show (Go.Lib.itoa n).toArray.size<=21
 rw[List.size_toArray]
 unfold Go.Lib.itoa
 have key: ∀u:Nat,u<=9223372036854775808->(Go.Lib.decDigits u).length<=20:=fun u hu=>by
  rcases Nat.eq_zero_or_pos u with e|e
  ·subst e;rw[Go.Lib.decDigits_one (by omega)];simp
  ·rw[<- By e]
   have:=Hv 19 u (by omega)
   omega
 split
 ·have:=key n.natAbs (by omega)
  rw[List.length_cons];omega
 ·have:=key n.toNat (by omega)
  omega
def zC (l:List Int) (sep:ByteArray):ByteArray:=oY (l.map gP) sep
theorem K6 {l:List Int} (hw: ∀n∈l,ry .i64 n): ∀y∈l.map gP,y.size<=21:=fun y hy=>by
 obtain ⟨n,h1,rfl⟩:=List.mem_map.1 hy
 exact iI (hw n h1)
theorem JF {l:List ByteArray} {sep:ByteArray} (hs: ∀y∈l,y.size<=21) (hp:sep.size<=1):(oY l sep).size<=22*l.length:=by
 have key: ∀i,i<=l.length->(oY (l.take i) sep).size<=22*i:=by
  intro i
  induction i with
  |zero=>intro _;exact Nat.le_refl _
  |succ i ih=>
   intro h
   have h1:=ih (by omega)
   have h2:=hs _ (List.getElem_mem (show i<l.length by omega))
   rw[Bx l sep (by omega)]
   cases decide (0<i) with
   |true=>simp only[cond_true,ByteArray.size_append];omega
   |false=>simp only[cond_false];omega
 have:=key l.length (Nat.le_refl _)
 rwa [List.take_length] at this
theorem Bz {l:List Int} {sep:ByteArray} (hw: ∀n∈l,ry .i64 n) (hp:sep.size<=1):(zC l sep).size<=22*l.length:=by
 have:=JF (K6 hw) hp
 rwa [List.length_map] at this
theorem OY (l:List Int): ∀(b:List ByteArray),l.foldl (fun b a=>b++[gP a]) b=b++l.map gP:=by
 induction l with
 |nil=>intro b;simp
 |cons a l ih=>intro b;rw[List.foldl_cons,ih];simp
theorem aV.eq {k:Nat} (hk:cO<=k) {l:List Int} {sep:ByteArray} (hl:l.length<1048577) (hw: ∀n∈l,ry .i64 n) (hp:sep.size<=1):aV.f k l sep=some (zC l sep):=by
 have h:=scan (B:=List ByteArray) l (fun m b i=>aV.l3 k l (l.length:Int) (fun x2=>(strings_Join.f k x2 sep).bind fun r3=>some r3) m i b) (fun _ _=>true) (fun b a=>b++[gP a]) (fun x2=>(strings_Join.f k x2 sep).bind fun r3=>some r3) (fun _ _=>none) (fun i b=>b.length=i)
  (fun m b i h hI=>by
    refine (aV.aA ..).trans ((ai (ae (by omega))).trans ((af (bP h)).trans ?_))
    rw[Int.toNat_natCast,aD _ h,aL (by omega)]
    exact (aa (aF.eq k (hw _ (List.getElem_mem h)))).trans (af (ae (by simp[room];omega))))
  (fun b i h hI _=>by simp;omega)
  (fun m b hI=>(aV.aA ..).trans (ab (aH (by omega))))
  l.length 0 k [] (by omega) (bV hk hl) rfl
 refine h.trans ?_
 rw[List.drop_zero,bX,OY,List.nil_append]
 exact aa (strings_Join.eq k (by simpa using hl) (fun y hy=>by have:=K6 hw y hy;omega) (by omega))
theorem SA {n:Int} (h1: -9223372036854775808<=n) (h2:n<=9223372036854775807):ry .i64 n:=by
 simp[ry,Lit.wf,IntKind.min,IntKind.max,IntKind.signed,IntKind.bits];omega
theorem E7 (l:List UInt8) (b:UInt8): ∀acc:Nat,Go.Lib.decFrom acc (l++[b])=(Go.Lib.decFrom acc l).bind fun n=>(Go.Lib.digitVal b).map fun d=>n*10+d:=by
 induction l with
 |nil=>intro acc;simp only[List.nil_append,Go.Lib.decFrom,Option.bind_some];cases Go.Lib.digitVal b<;>rfl
 |cons a t ih=>
  intro acc
  simp only[List.cons_append,Go.Lib.decFrom]
  cases Go.Lib.digitVal a with
  |none=>rfl
  |some d=>exact ih _
theorem Hw {d:Nat} (h:d<10):Go.Lib.digitVal (UInt8.ofNat (48+d))=some d:=by
 have:d=0\/d=1\/d=2\/d=3\/d=4\/d=5\/d=6\/d=7\/d=8\/d=9:=by omega
 rcases this with rfl|rfl|rfl|rfl|rfl|rfl|rfl|rfl|rfl|rfl<;>decide+kernel
theorem JG: ∀(m u:Nat),u<m->Go.Lib.decFrom 0 (Go.Lib.decDigits u)=some u/\(Go.Lib.decDigits u≠[]):=by
 intro m
 induction m with
 |zero=>intro u h;omega
 |succ m ih=>
  intro u hu
  rw[Go.Lib.decDigits]
  by_cases h:u<10
  ·rw[dif_pos h]
   refine ⟨?_,by simp⟩
   simp only[Go.Lib.decFrom,Hw h]
   rw[show 0*10+u=u by omega]
  ·rw[dif_neg h]
   refine ⟨?_,by simp⟩
   rw[E7,(ih (u/10) (by omega)).1,Option.bind_some,Hw (by omega),Option.map_some]
   rw[show u/10*10+u%10=u by omega]
theorem JH {b:UInt8} {l:List UInt8} {acc n:Nat} (h:Go.Lib.decFrom acc (b::l)=some n):(b==45)=false/\(b==43)=false:=by
 have hd:Go.Lib.digitVal b≠none:=fun e=>by simp only[Go.Lib.decFrom,e] at h;cases h
 constructor
 ·cases e:b==45 with
  |false=>rfl
  |true=>rw[beq_iff_eq.1 e] at hd;exact absurd (by decide+kernel) hd
 ·cases e:b==43 with
  |false=>rfl
  |true=>rw[beq_iff_eq.1 e] at hd;exact absurd (by decide+kernel) hd
theorem OZ {l:List UInt8} {n:Nat} (hl:l≠[]) (h:Go.Lib.decFrom 0 l=some n):Go.Lib.atoi l=some (n:Int):=by
 cases l with
 |nil=>exact absurd rfl hl
 |cons b r=>
  obtain ⟨h1,h2⟩:=JH h
  unfold Go.Lib.atoi
  show (if (b==45)=true then _ else if (b==43)=true then _ else (Go.Lib.decNat (b::r)).map _)=_
  rw[if_neg (by rw[h1];decide),if_neg (by rw[h2];decide)]
  unfold Go.Lib.decNat
  rw[show (b::r).isEmpty=false from rfl]
  show (Go.Lib.decFrom 0 (b::r)).map _=_
  rw[h];rfl
theorem MP (n:Nat):(gP (n:Int)).data.toList=Go.Lib.decDigits n:=by
 show (Go.Lib.itoa (n:Int)).toArray.toList=_
 unfold Go.Lib.itoa
 rw[if_neg (by omega)]
 simp
theorem yH (n:Nat):Go.Lib.atoi (gP (n:Int)).data.toList=some (n:Int)/\Go.Lib.decFrom 0 (gP (n:Int)).data.toList=some n/\(gP (n:Int)).data.toList≠[]:=by
 obtain ⟨h1,h2⟩:=JG (n+1) n (Nat.lt_succ_self n)
 rw[MP]
 exact ⟨OZ h2 h1,h1,h2⟩
def bJ (s:ByteArray):Int×Bool:=match Go.Lib.decFrom 0 s.data.toList with
 |some n=>bif decide (1<=s.size)&&decide (s.size<=13)&&decide (n<=1000000000000)&&((gP (n:Int)).toList==s.toList) then ((n:Int),true) else (0,false)
 |none=>(0,false)
theorem C5 {n:Nat} (h:n<=1000000000000) (hs:(gP (n:Int)).size<=13):bJ (gP (n:Int))=((n:Int),true):=by
 obtain ⟨_,h1,h2⟩:=yH n
 have h3:1<=(gP (n:Int)).size:=by rw[<- iA];exact List.length_pos_iff.2 h2
 unfold bJ
 rw[h1]
 show (bif _ then _ else _)=_
 rw[ae h3,ae hs,ae h,beq_self_eq_true];rfl
theorem iO.eq {k:Nat} {s:ByteArray} (hs:s.size<1048577):iO.f k s=some (bJ s):=by
 unfold iO.f
 by_cases TD:(s.size:Int)>13
 ·rw[ai (ae TD)]
  unfold bJ
  split
  ·rename_i n _
   rw[aH (p:=s.size<=13) (by omega),Bool.and_false,Bool.false_and,Bool.false_and];rfl
  ·rfl
 rw[ab (aH TD)]
 refine (aa (show strconv_Atoi.f k s=some (qH s,qf s) from af (Nat.ble_eq_true_of_le (by omega)))).trans ?_
 by_cases hn: ∃n:Nat,n<=1000000000000/\gP (n:Int)=s
 ·obtain ⟨n,hn,rfl⟩:=hn
  obtain ⟨h1,_,_⟩:=yH n
  have e1:qH (gP (n:Int))=n:=by unfold qH;rw[h1]
  have e2:qf (gP (n:Int))=true:=by unfold qf;rw[h1];rfl
  rw[C5 hn (by omega)]
  refine (ab (by rw[e2];rfl)).trans ((aa (an.eq k _ _ _)).trans ?_)
  rw[e1]
  refine (ab (by unfold kH;rw[ae (by omega),ae (by omega)];rfl)).trans ((aa (aF.eq k (show ry .i64 (n:Int) from SA (by omega) (by omega)))).trans ?_)
  exact ab (by rw[beq_self_eq_true];rfl)
 ·have hp:bJ s=(0,false):=by
   unfold bJ
   split
   ·rename_i n _
    by_cases hle:n<=1000000000000
    ·have:((gP (n:Int)).toList==s.toList)=false:=by
      rw[ku]
      exact aH fun e=>hn ⟨n,hle,uq e⟩
     rw[this,Bool.and_false];rfl
    ·rw[aH hle,Bool.and_false,Bool.false_and];rfl
   ·rfl
  rw[hp]
  cases Hx:qf s with
  |false=>exact ai rfl
  |true=>
   refine (ab rfl).trans ((aa (an.eq k _ _ _)).trans ?_)
   cases hr:kH (qH s) 0 1000000000000 with
   |false=>exact ai rfl
   |true=>
    unfold kH at hr
    simp only[Bool.and_eq_true,decide_eq_true_eq] at hr
    obtain ⟨n,hna⟩: ∃n:Nat,qH s=(n:Int):=⟨(qH s).toNat,by omega⟩
    refine (ab rfl).trans ((aa (aF.eq k (show ry .i64 (qH s) from SA (by omega) (by omega)))).trans ?_)
    refine ai ?_
    rw[ku,hna]
    rw[aH fun e=>hn ⟨n,by omega,uq e⟩];rfl
def E8 (w:ByteArray):Bool:= !(w.toList==ByteArray.empty.toList)
theorem BA (w:ByteArray):E8 w= !(w.size==0):=by
 unfold E8
 congr 1
 rw[ku,<- iA]
 by_cases h:w.data.toList=[]
 ·rw[h];rfl
 ·have h': ¬w.data.toList=ByteArray.empty.data.toList:=h
  rw[aH h']
  exact (beq_eq_false_iff_ne.2 fun hh=>h (List.length_eq_zero_iff.1 hh)).symm
def kX (s:ByteArray):List ByteArray:=(words s 32).filter E8
theorem yI (s:ByteArray) (c:Int):(words s c).length<=s.size+1:=(xc s c s.size 0 0).1
theorem E9 (s:ByteArray):(kX s).length<=s.size+1:=Nat.le_trans (List.length_filter_le _ _) (yI s 32)
theorem Hy (s:ByteArray): ∀w∈kX s,w.size<=s.size:=fun w hw=>AO s 32 _ _ _ w (List.mem_filter.1 hw).1
theorem cD.eq {k:Nat} (hk:cO<=k) {s:ByteArray} (hs:s.size<1048577):cD.f k s=some (kX s):=by
 have hl:=yI s 32
 refine (aa (a_.eq hk 32 hs)).trans ?_
 have h:=scan (B:=List ByteArray) (words s 32) (fun n b i=>cD.l3 k ((words s 32).length:Int) (words s 32) (fun x=>some x) n i b) (fun _ _=>true) (fun b a=>bif E8 a then b++[a] else b) (fun x=>some x) (fun _ _=>none) (fun i b=>b.length<=i)
  (fun n b i h hI=>by
    refine (cD.aA ..).trans ((ai (ae (by omega))).trans ((af (bP h)).trans ?_))
    rw[Int.toNat_natCast,aD _ h,aL (by omega)]
    show (bif E8 (words s 32)[i] then _ else _)=_
    cases E8 (words s 32)[i] with
    |false=>rfl
    |true=>exact (ai rfl).trans (af (Q8 (by omega))))
  (fun b i h hI _=>by cases E8 (words s 32)[i]<;>simp<;>omega)
  (fun n b hI=>(cD.aA ..).trans (ab (aH (by omega))))
  (words s 32).length 0 k [] (by omega) (by simp[cO] at hk;omega) (by simp)
 refine h.trans ?_
 rw[List.drop_zero,bX,foldl_filter,List.nil_append];rfl
def JI (ws:List ByteArray):Bool:=ws.all fun w=>(bJ w).2
def O0 (ws:List ByteArray):List Int:=ws.map fun w=>(bJ w).1
def rI:ByteArray:=⟨#[50,51,52,53,54,55,56,57,84,74,81,75,65]⟩
def rJ:ByteArray:=⟨#[99,100,104,115]⟩
def lL (c:Int):ByteArray:=bif be c then rI.extract (bu c).toNat ((bu c+1).toNat)++rJ.extract (br c).toNat ((br c+1).toNat) else ByteArray.empty
theorem rK (x:ByteArray) (a b:Nat):(x.extract a b).size<=x.size:=by rw[ByteArray.size_extract];omega
theorem mB (c:Int):(lL c).size<=17:=by
 unfold lL
 cases be c with
 |false=>simp
 |true=>
  simp only[cond_true,ByteArray.size_append]
  have h1:=rK rI (bu c).toNat ((bu c+1).toNat)
  have h2:=rK rJ (br c).toNat ((br c+1).toNat)
  have e1:rI.size=13:=rfl
  have e2:rJ.size=4:=rfl
  omega
theorem n8 {c:Int} (h:be c=true):0<=bu c/\bu c<=12/\0<=br c/\br c<=3/\bu c=c.tmod 13/\br c=c.tdiv 13:=by
 have e1:bu c=c.tmod 13:=by unfold bu;rw[h];rfl
 have e2:br c=c.tdiv 13:=by unfold br;rw[h];rfl
 have:=dF.1 h
 have h1:=Int.tmod_eq_emod_of_nonneg (b:=13) this.1
 have h2:=Int.tdiv_eq_ediv_of_nonneg (b:=13) this.1
 refine ⟨?_,?_,?_,?_,e1,e2⟩<;>omega
theorem JJ {c r s:Int} (hr:0<=r/\r<=12) (hs:0<=s/\s<=3):(ay ((decide ((0:Int)<=(IntKind.wrap .i64 (r+(1:Int)))))&&(decide ((IntKind.wrap .i64 (r+(1:Int)))<=(13:Int))))<|
 ay ((decide ((0:Int)<=r))&&(decide (r<=(IntKind.wrap .i64 (r+(1:Int))))))<|
 ay ((decide ((0:Int)<=(IntKind.wrap .i64 (s+(1:Int)))))&&(decide ((IntKind.wrap .i64 (s+(1:Int)))<=(4:Int))))<|
 ay ((decide ((0:Int)<=s))&&(decide (s<=(IntKind.wrap .i64 (s+(1:Int))))))<|
 ay (decide ((rI.extract r.toNat ((IntKind.wrap .i64 (r+(1:Int))).toNat)).size+(rJ.extract s.toNat ((IntKind.wrap .i64 (s+(1:Int))).toNat)).size<=fa))<|
 some ((rI.extract r.toNat ((IntKind.wrap .i64 (r+(1:Int))).toNat))++(rJ.extract s.toNat ((IntKind.wrap .i64 (s+(1:Int))).toNat))))=some (rI.extract r.toNat ((r+1).toNat)++rJ.extract s.toNat ((s+1).toNat)):=by
 rw[wrap_i64 (n:=r+1) (by omega) (by omega),wrap_i64 (n:=s+1) (by omega) (by omega)]
 have h1:=rK rI r.toNat ((r+1).toNat)
 have h2:=rK rJ s.toNat ((s+1).toNat)
 have e1:rI.size=13:=rfl
 have e2:rJ.size=4:=rfl
 refine (af (bi (ae (by omega)) (ae (by omega)))).trans ((af (bi (ae (by omega)) (ae (by omega)))).trans ((af (bi (ae (by omega)) (ae (by omega)))).trans ((af (bi (ae (by omega)) (ae (by omega)))).trans (af (ae ?_)))))
 simp only[fa];omega
theorem eO.eq (k:Nat) (c:Int):eO.f k c=some (lL c):=by
 refine (aa (aT.eq ..)).trans ?_
 unfold lL
 cases h:be c with
 |false=>rfl
 |true=>
  obtain ⟨a1,a2,a3,a4,e1,e2⟩:=n8 h
  refine (ab rfl).trans ?_
  rw[yt h,<- e1,<- e2]
  exact JJ (c:=c) ⟨a1,a2⟩ ⟨a3,a4⟩
def qB:ByteArray:=⟨#[63]⟩
def O1:ByteArray:=⟨#[45]⟩
def nM (c:Int):ByteArray:=bif be c then lL c else qB
theorem BB (c:Int):(nM c).size<=17:=by
 unfold nM
 cases be c with
 |false=>have:qB.size=1:=rfl
         simp only[cond_false];omega
 |true=>exact mB c
def cat (b:ByteArray) (c:Int):ByteArray:=b++nM c
def im (l:List Int):ByteArray:=bif ((l.length:Int)==0) then O1 else l.foldl cat ByteArray.empty
theorem O2 (b:ByteArray) (c:Int):(cat b c).size<=b.size+17:=by
 have:=BB c
 unfold cat;rw[ByteArray.size_append];omega
theorem BC: ∀(l:List Int) (b:ByteArray),(l.foldl cat b).size<=b.size+17*l.length
 | [],b=>by simp
 |c::l,b=>by
  have h1:=BC l (cat b c)
  have h2:=O2 b c
  rw[List.foldl_cons,List.length_cons];omega
theorem zD (l:List Int):(im l).size<=17*l.length+1:=by
 unfold im
 cases ((l.length:Int)==0) with
 |true=>have:O1.size=1:=rfl
        simp only[cond_true];omega
 |false=>
  have:=BC l ByteArray.empty
  have e:ByteArray.empty.size=0:=rfl
  simp only[cond_false];omega
theorem bE.eq {k:Nat} (hk:cO<=k) {l:List Int} (hl:l.length<1048577):bE.f k l (-1) (⟨#[63]⟩:ByteArray)=some (im l):=by
 unfold bE.f im
 cases ((l.length:Int)==0) with
 |true=>rfl
 |false=>
 refine (ab rfl).trans ?_
 have h:=scan (B:=ByteArray) l (fun m b i=>bE.l5 k (-1) (⟨#[63]⟩:ByteArray) l (l.length:Int) (fun x3=>some x3) m b i) (fun _ _=>true) cat (fun x3=>some x3) (fun _ _=>none) (fun i b=>b.size<=17*i)
  (fun m b i h hI=>by
    refine (bE.bp ..).trans ((ai (ae (by omega))).trans ((af (bP h)).trans ?_))
    rw[Int.toNat_natCast,aD _ h,aL (by omega)]
    refine (aa (aT.eq ..)).trans ?_
    unfold cat nM
    have e63:(⟨#[63]⟩:ByteArray).size=1:=rfl
    cases hc:be l[i] with
    |false=>
     refine (ab rfl).trans ?_
     cases (l[i]==(-1:Int)) with
     |true=>exact (ai rfl).trans ((af (ae (by simp only[fa];omega))).trans rfl)
     |false=>exact (ab rfl).trans ((af (ae (by simp only[fa];omega))).trans rfl)
    |true=>
     have:=mB l[i]
     refine (ai rfl).trans ((aa (eO.eq ..)).trans ((af (ae ?_)).trans rfl))
     simp only[fa];omega)
  (fun b i h hI _=>by have:=O2 b l[i];show (cat b l[i]).size<=17*(i+1);omega)
  (fun m b hI=>(bE.bp ..).trans (ab (aH (by omega))))
  l.length 0 k ByteArray.empty (by omega) (bV hk hl) (by simp)
 refine h.trans ?_
 rw[List.drop_zero,bX];rfl
theorem eb.eq {k:Nat} (hk:cO<=k) {l:List Int} (hl:l.length<1048577):eb.f k l=some (im l):=aa (bE.eq hk hl)
def vg (b:UInt8):Int:=Go.Lib.indexByte [50,51,52,53,54,55,56,57,84,74,81,75,65] b
def tq (b:UInt8):Int:=Go.Lib.indexByte [99,100,104,115] b
def vR (a b:UInt8):Int:=bif decide (vg a<0) then-1 else bif decide (tq b<0) then-1 else tq b*13+vg a
theorem O3 (b:UInt8): -1<=vg b/\vg b<=12:=by
 have:=OU (p:=fun b=>decide (-1<=vg b)&&decide (vg b<=12)) (by decide+kernel) b
 simpa using this
theorem O4 (b:UInt8): -1<=tq b/\tq b<=3:=by
 have:=OU (p:=fun b=>decide (-1<=tq b)&&decide (tq b<=3)) (by decide+kernel) b
 simpa using this
def JK (n:Nat):List UInt8:=(rI.extract n (n+1)).data.toList
def JL (n:Nat):List UInt8:=(rJ.extract n (n+1)).data.toList
theorem O5 {n:Nat} (h:n<13): ∃b,JK n=[b]/\vg b=(n:Int)/\b≠42/\b≠45:=by
 have:n=0\/n=1\/n=2\/n=3\/n=4\/n=5\/n=6\/n=7\/n=8\/n=9\/n=10\/n=11\/n=12:=by omega
 rcases this with rfl|rfl|rfl|rfl|rfl|rfl|rfl|rfl|rfl|rfl|rfl|rfl|rfl
 ·exact ⟨50,by decide+kernel⟩
 ·exact ⟨51,by decide+kernel⟩
 ·exact ⟨52,by decide+kernel⟩
 ·exact ⟨53,by decide+kernel⟩
 ·exact ⟨54,by decide+kernel⟩
 ·exact ⟨55,by decide+kernel⟩
 ·exact ⟨56,by decide+kernel⟩
 ·exact ⟨57,by decide+kernel⟩
 ·exact ⟨84,by decide+kernel⟩
 ·exact ⟨74,by decide+kernel⟩
 ·exact ⟨81,by decide+kernel⟩
 ·exact ⟨75,by decide+kernel⟩
 ·exact ⟨65,by decide+kernel⟩
theorem O6 {n:Nat} (h:n<4): ∃b,JL n=[b]/\tq b=(n:Int):=by
 have:n=0\/n=1\/n=2\/n=3:=by omega
 rcases this with rfl|rfl|rfl|rfl
 ·exact ⟨99,by decide+kernel⟩
 ·exact ⟨100,by decide+kernel⟩
 ·exact ⟨104,by decide+kernel⟩
 ·exact ⟨115,by decide+kernel⟩
theorem C6 {c:Int} (h:be c=true):(lL c).data.toList=JK (bu c).toNat++JL (br c).toNat:=by
 obtain ⟨r0,r1,s0,s1,_,_⟩:=n8 h
 unfold lL JK JL
 rw[h,cond_true,yG]
 rw[show (bu c+1).toNat=(bu c).toNat+1 by omega,show (br c+1).toNat=(br c).toNat+1 by omega]
theorem zE {c:Int} (h:be c=true): ∃a b,(lL c).data.toList=[a,b]/\vR a b=c/\a≠42/\a≠45:=by
 obtain ⟨r0,r1,s0,s1,e1,e2⟩:=n8 h
 obtain ⟨a,a1,a2,a3,a4⟩:=O5 (n:=(bu c).toNat) (by omega)
 obtain ⟨b,b1,b2⟩:=O6 (n:=(br c).toNat) (by omega)
 refine ⟨a,b,?_,?_,a3,a4⟩
 ·rw[C6 h,a1,b1];rfl
 ·unfold vR
  rw[a2,b2,aH (by omega),aH (by omega)]
  have:=dF.1 h
  have h1:=Int.tmod_eq_emod_of_nonneg (b:=13) this.1
  have h2:=Int.tdiv_eq_ediv_of_nonneg (b:=13) this.1
  simp only[cond_false]
  omega
theorem dZ.two (k:Nat) {s:ByteArray} {a b:UInt8} (h:s.data.toList=[a,b]):dZ.f k s=some (vR a b):=by
 have hs:s.size=2:=by rw[<- iA,h];rfl
 have e0:sb s 0=(a.toNat:Int):=JE (l:=[b]) (by rw[h];rfl)
 have e1:sb s 1=(b.toNat:Int):=JE (l:=[]) (by rw[h];rfl)
 have n0:((a.toNat:Int).toNat.toUInt8)=a:=by simp
 have n1:((b.toNat:Int).toNat.toUInt8)=b:=by simp
 have f0:oX (⟨#[50,51,52,53,54,55,56,57,84,74,81,75,65]⟩:ByteArray) (sb s 0)=vg a:=by unfold oX vg;rw[e0,n0]
 have f1:oX (⟨#[99,100,104,115]⟩:ByteArray) (sb s 1)=tq b:=by unfold oX tq;rw[e1,n1]
 have ha:=O3 a
 have hb:=O4 b
 unfold dZ.f
 refine (ab (by rw[hs];rfl)).trans ((af (ae (by omega))).trans ((aa rfl).trans ((af (ae (by omega))).trans ((aa rfl).trans ?_))))
 rw[f0,f1]
 unfold vR
 by_cases h1:vg a<0
 ·rw[ae h1];rfl
 ·rw[aH h1]
  by_cases h2:tq b<0
  ·rw[ae h2];rfl
  ·rw[aH h2]
   simp only[cond_false]
   rw[wrap_i64 (n:=tq b*13) (by omega) (by omega),wrap_i64 (by omega) (by omega)]
def SB:ByteArray:=⟨#[42]⟩
def vS (c:Int):ByteArray:=bif be c then lL c else bif c== -1 then SB else qB
theorem MQ (c:Int):(vS c).size<=17:=by
 unfold vS
 cases be c with
 |true=>exact mB c
 |false=>
  have:qB.size=1:=rfl
  have:SB.size=1:=rfl
  cases (c== -1)<;>simp only[cond_true,cond_false]<;>omega
def vU (b:ByteArray) (c:Int):ByteArray:=b++vS c
def xd (l:List Int):ByteArray:=bif ((l.length:Int)==0) then O1 else l.foldl vU ByteArray.empty
theorem MR (b:ByteArray) (c:Int):(vU b c).size<=b.size+17:=by
 have:=MQ c
 unfold vU;rw[ByteArray.size_append];omega
theorem iE.eq {k:Nat} (hk:cO<=k) {l:List Int} (hl:l.length<1048577):iE.f k l=some (xd l):=by
 refine aa ?_
 unfold bE.f xd
 cases ((l.length:Int)==0) with
 |true=>rfl
 |false=>
 refine (ab rfl).trans ?_
 have h:=scan (B:=ByteArray) l (fun m b i=>bE.l5 k (-1) (⟨#[42]⟩:ByteArray) l (l.length:Int) (fun x3=>some x3) m b i) (fun _ _=>true) vU (fun x3=>some x3) (fun _ _=>none) (fun i b=>b.size<=17*i)
  (fun m b i h hI=>by
    refine (bE.bp ..).trans ((ai (ae (by omega))).trans ((af (bP h)).trans ?_))
    rw[Int.toNat_natCast,aD _ h,aL (by omega)]
    refine (aa (aT.eq ..)).trans ?_
    unfold vU vS
    have e63:(⟨#[63]⟩:ByteArray).size=1:=rfl
    have e42:(⟨#[42]⟩:ByteArray).size=1:=rfl
    cases hc:be l[i] with
    |false=>
     refine (ab rfl).trans ?_
     cases (l[i]==(-1:Int)) with
     |true=>exact (ai rfl).trans ((af (ae (by simp only[fa];omega))).trans rfl)
     |false=>exact (ab rfl).trans ((af (ae (by simp only[fa];omega))).trans rfl)
    |true=>
     have:=mB l[i]
     refine (ai rfl).trans ((aa (eO.eq ..)).trans ((af (ae ?_)).trans rfl))
     simp only[fa];omega)
  (fun b i h hI _=>by have:=MR b l[i];show (vU b l[i]).size<=17*(i+1);omega)
  (fun m b hI=>(bE.bp ..).trans (ab (aH (by omega))))
  l.length 0 k ByteArray.empty (by omega) (bV hk hl) (by simp)
 refine h.trans ?_
 rw[List.drop_zero,bX];rfl
def O7:List UInt8->Int
 | [a,b]=>vR a b
 |_=> -1
def hD (s:ByteArray):Int:=O7 s.data.toList
theorem dZ.eq (k:Nat) (s:ByteArray):dZ.f k s=some (hD s):=by
 by_cases h:s.size=2
 ·obtain ⟨a,b,e⟩: ∃a b,s.data.toList=[a,b]:=by
   have hl:s.data.toList.length=2:=by rw[iA];exact h
   match s.data.toList,hl with
   | [a,b],_=>exact ⟨a,b,rfl⟩
  rw[dZ.two k e]
  unfold hD;rw[e];rfl
 ·have e:hD s= -1:=by
   unfold hD O7
   split
   ·rename_i a b hq;exact absurd (by rw[<- iA,hq];rfl) h
   ·rfl
  rw[e]
  exact ai (by simp;omega)
def nA:List UInt8->List Int
 |a::b::t=>vR a b::nA t
 |_=>[]
theorem vV: ∀t:List UInt8,(nA t).length=t.length/2
 | []=>rfl
 | [_]=>by simp[nA]
 |a::b::t=>by
  rw[nA,List.length_cons,vV t,List.length_cons,List.length_cons];omega
def cb (s:ByteArray):List Int×Bool:=bif decide (s.data.toList=[45]) then ([],true) else bif !(s.size==0)&&(s.size%2==0)&&dx (nA s.data.toList) then (nA s.data.toList,true) else ([],false)
theorem lM (s:ByteArray):(cb s).1.length<=52:=by
 unfold cb
 cases decide (s.data.toList=[45]) with
 |true=>simp
 |false=>
  cases h:(!(s.size==0)&&(s.size%2==0)&&dx (nA s.data.toList)) with
  |false=>simp
  |true=>
   simp only[Bool.and_eq_true] at h
   exact ul h.2
theorem MS {s:ByteArray} {i:Nat} (h:i+2<=s.size): ∃a b t,s.data.toList.drop i=a::b::t/\s.data.toList.drop (i+2)=t/\(s.extract i (i+2)).data.toList=[a,b]:=by
 have hl:=iA s
 obtain ⟨a,ha⟩: ∃a,s.data.toList.drop i=a::s.data.toList.drop (i+1):=⟨_,drop_cons (by omega)⟩
 obtain ⟨b,hb⟩: ∃b,s.data.toList.drop (i+1)=b::s.data.toList.drop (i+2):=⟨_,drop_cons (by omega)⟩
 refine ⟨a,b,_,by rw[ha,hb],rfl,?_⟩
 have e:(s.extract i (i+2)).data.toList=(s.data.toList.drop i).take 2:=by
  rw[ByteArray.data_extract,Array.toList_extract]
  show (s.data.toList.drop i).take (i+2-i)=_
  rw[show i+2-i=2 by omega]
 rw[e,ha,hb];rfl
theorem bI.loop {R:Type} {k:Nat} {s:ByteArray} (hs:s.size<=104) (hev:s.size%2=0) (e0:List Int->Option R): ∀(m i n:Nat) (u:List Int),i+2*m=s.size->m<n->u.length<=i->bI.l7 k s e0 n (i:Int) u=e0 (u++nA (s.data.toList.drop i))
 |m,i,0,_,_,h,_=>absurd h (by omega)
 |0,i,n+1,u,hi,_,_=>by
  rw[List.drop_of_length_le (by rw[iA];omega)]
  refine (bI.EN ..).trans ((ab (aH (by omega))).trans ?_)
  rw[show nA [] =[] from rfl,List.append_nil]
 |m+1,i,n+1,u,hi,hn,hu=>by
  obtain ⟨a,b,t,e1,e2,e3⟩:=MS (s:=s) (i:=i) (by omega)
  have e4:(s.extract (i:Int).toNat (IntKind.wrap .i64 ((i:Int)+2)).toNat)=s.extract i (i+2):=by
   rw[wrap_i64 (by omega) (by omega),Int.toNat_natCast];rfl
  have ih:=bI.loop (k:=k) hs hev e0 m (i+2) n (u++[vR a b]) (by omega) (by omega) (by simp;omega)
  refine (bI.EN ..).trans ((ai (ae (by omega))).trans ((af (bi (ae (by rw[wrap_i64 (by omega) (by omega)];omega)) (ae (by rw[wrap_i64 (by omega) (by omega)];omega)))).trans ((af (bi (ae (by omega)) (ae (by rw[wrap_i64 (by omega) (by omega)];omega)))).trans ?_)))
  rw[e4]
  refine (aa (dZ.two k e3)).trans ((af (mN (by omega))).trans ?_)
  rw[wrap_i64 (by omega) (by omega)]
  refine ih.trans ?_
  rw[e1,e2,nA];simp
theorem bI.eq {k:Nat} (hk:cO<=k) {s:ByteArray} (hs:s.size<1048577):bI.f k s=some (cb s):=by
 have eD:(s.toList==(⟨#[45]⟩:ByteArray).toList)=decide (s.data.toList=[45]):=ku
 have eE:(s.toList==ByteArray.empty.toList)=(s.size==0):=by
  rw[ku,<- iA]
  by_cases h:s.data.toList=[]
  ·rw[h];rfl
  ·have h': ¬s.data.toList=ByteArray.empty.data.toList:=h
   rw[aH h']
   exact (beq_eq_false_iff_ne.2 fun hh=>h (List.length_eq_zero_iff.1 hh)).symm
 unfold bI.f cb
 rw[eD,eE]
 cases hd:decide (s.data.toList=[45]) with
 |true=>rfl
 |false=>
  refine (ab rfl).trans ?_
  cases h0:s.size==0 with
  |true=>rfl
  |false=>
   refine (ab rfl).trans ?_
   have em:((s.size:Int)).tmod 2=((s.size%2:Nat):Int):=rfl
   rw[em]
   by_cases h2:s.size%2=0
   ·refine (ab (by rw[h2];rfl)).trans ?_
    rw[h2]
    by_cases YD:s.size<=104
    ·refine (ab (aH (by omega))).trans ((bI.loop (k:=k) YD h2 _ (s.size/2) 0 k [] (by omega) (by simp[cO] at hk;omega) (by simp)).trans ?_)
     rw[List.drop_zero,List.nil_append]
     have hl:=vV s.data.toList
     rw[iA] at hl
     refine (aa (aB.eq hk (by omega))).trans ?_
     cases dx (nA s.data.toList)<;>rfl
    ·refine (ai (ae (by omega))).trans ?_
     have hl:=vV s.data.toList
     rw[iA] at hl
     have:dx (nA s.data.toList)=false:=by
      cases hh:dx (nA s.data.toList) with
      |false=>rfl
      |true=>have:=ul hh;omega
     rw[this];rfl
   ·refine (ai (by simp;omega)).trans ?_
    rw[show (s.size%2==0)=false by simpa using h2];rfl
end Go.Proofs.YtbmmhdmljajcfaaGreatDoor
