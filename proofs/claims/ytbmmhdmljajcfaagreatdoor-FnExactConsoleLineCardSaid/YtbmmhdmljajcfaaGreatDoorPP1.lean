/- Plain laws of the program's functions, joined. Conditions: as each theorem says. -/
import Derived.Test.YtbmmhdmljajcfaaGreatDoorPP0
import Derived.Test.YtbmmhdmljajcfaaGreatDoorNote
set_option linter.unusedVariables false
set_option linter.unusedSimpArgs false
set_option linter.unusedSectionVars false
namespace Go.Proofs.YtbmmhdmljajcfaaGreatDoor
open Go V
variable {R:Type} {k:Nat}
def vy:BA:=oU
def vz:BA:=wZ
def iV (c:Int):BA:=bif bI c then vy.extract (cu c).toNat ((cu c+1).toNat)++vz.extract (bJ c).toNat ((bJ c+1).toNat) else bE
theorem vA (x:BA) (a b:Nat):(x.extract a b).size<=x.size:=by rw[ByteArray.size_extract];omega
theorem lR (c:Int):(iV c).size<=17:=by
 unfold iV
 cases bI c with
 |false=>simp
 |true=>
  simp only[ak,aq]
  have h1:=vA vy (cu c).toNat ((cu c+1).toNat)
  have h2:=vA vz (bJ c).toNat ((bJ c+1).toNat)
  have e1:vy.size=13:=rfl
  have e2:vz.size=4:=rfl
  omega
theorem mY {c:Int} (h:bI c=true):0<=cu c/\cu c<=12/\0<=bJ c/\bJ c<=3/\cu c=c.tmod 13/\bJ c=c.tdiv 13:=by
 have e1:cu c=c.tmod 13:=by unfold cu;rw[h];rfl
 have e2:bJ c=c.tdiv 13:=by unfold bJ;rw[h];rfl
 have:=cU.1 h
 have h1:=aX (b:=13) this.1
 have h2:=Int.tdiv_eq_ediv_of_nonneg (b:=13) this.1
 refine ⟨?_,?_,?_,?_,e1,e2⟩<;>omega
theorem E1 {c r s:Int} (hr:0<=r/\r<=12) (hs:0<=s/\s<=3):(bY ((decide ((0:Int)<=(aF (r+(1:Int)))))&&(decide ((aF (r+(1:Int)))<=(13:Int))))<|
 bY ((decide ((0:Int)<=r))&&(decide (r<=(aF (r+(1:Int))))))<|
 bY ((decide ((0:Int)<=(aF (s+(1:Int)))))&&(decide ((aF (s+(1:Int)))<=(4:Int))))<|
 bY ((decide ((0:Int)<=s))&&(decide (s<=(aF (s+(1:Int))))))<|
 bY (decide ((vy.extract r.toNat ((aF (r+(1:Int))).toNat)).size+(vz.extract s.toNat ((aF (s+(1:Int))).toNat)).size<=ia))<|
 some ((vy.extract r.toNat ((aF (r+(1:Int))).toNat))++(vz.extract s.toNat ((aF (s+(1:Int))).toNat))))=some (vy.extract r.toNat ((r+1).toNat)++vz.extract s.toNat ((s+1).toNat)):=by
 rw[wrap_i64 (n:=r+1),wrap_i64 (n:=s+1)]
 have h1:=vA vy r.toNat ((r+1).toNat)
 have h2:=vA vz s.toNat ((s+1).toNat)
 have e1:vy.size=13:=rfl
 have e2:vz.size=4:=rfl
 refine cT (bA ae ae) (cT (bA ae ae) (cT (bA ae ae) (cT (bA ae ae) (bW (ae ?_)))))
 simp only[ia];omega
theorem dZ.eq (k:Nat) (c:Int):dZ.f k c=some (iV c):=by
 refine bS (cc.eq ..) ?_
 unfold iV
 cases h:bI c with
 |false=>rfl
 |true=>
  obtain ⟨a1,a2,a3,a4,_,_⟩:=mY h
  exact bF rfl (bS (eh.eq ..) (bS (bP.eq ..) (E1 (c:=c) ⟨a1,a2⟩ ⟨a3,a4⟩)))
theorem gF.eq (k:Nat) (c:Int):gF.f k c=some (iV c):=by
 refine bS (bH.eq ..) ?_
 unfold iV
 cases h:bI c with
 |false=>rfl
 |true=>
  obtain ⟨a1,a2,a3,a4,e1,e2⟩:=mY h
  refine bF rfl ?_
  rw[Ci h,<- e1,<- e2]
  exact E1 (c:=c) ⟨a1,a2⟩ ⟨a3,a4⟩
def qB:BA:=D3
def E2:BA:=K3
def pX (c:Int):BA:=bif bI c then iV c else qB
theorem vB (c:Int):(pX c).size<=17:=by
 unfold pX
 cases bI c with
 |false=>have:qB.size=1:=rfl
         simp only[an];omega
 |true=>exact lR c
def cat (b:BA) (c:Int):BA:=b++pX c
def ig (l:LI):BA:=bif ((l.length:Int)==0) then E2 else l.foldl cat bE
theorem NA (b:BA) (c:Int):(cat b c).size<=b.size+17:=by
 have:=vB c
 unfold cat;rw[aq];omega
theorem E3: ∀(l:LI) (b:BA),(l.foldl cat b).size<=b.size+17*l.length
 | [],b=>by simp
 |c::l,b=>by
  have h1:=E3 l (cat b c)
  have h2:=NA b c
  rw[aY,ab];omega
theorem tE (l:LI):(ig l).size<=17*l.length+1:=by
 unfold ig
 cases ((l.length:Int)==0) with
 |true=>have:E2.size=1:=rfl
        simp only[ak];omega
 |false=>
  have:=E3 l bE
  have e:bE.size=0:=rfl
  simp only[an];omega
theorem c_.eq (hk:cy<=k) {l:LI} (hl:l.length<1048577):c_.f k l=some (ig l):=by
 have h:=scan (B:=BA) l (fun m b i=>c_.l3 k l (fun x3=>bif ((l.length:Int)==(0:Int)) then some (K3:BA) else some x3) m b i) (fun _ _=>true) cat (fun x3=>bif ((l.length:Int)==(0:Int)) then some E2 else some x3) (fun _ _=>none) (fun i b=>b.size<=17*i)
  (fun m b i h hI=>by
    refine bV rfl (bT ae (cT (cg h) ?_))
    rw[aa,aN _ h,aK]
    refine bS (cc.eq ..) ?_
    have hle:=vB l[i]
    unfold cat pX
    cases hc:bI l[i] with
    |false=>
     refine bT rfl (cT (ae ?_) rfl)
     have:(D3:BA).size=1:=rfl
     simp only[ia];omega
    |true=>
     have:=lR l[i]
     refine bF rfl (cT (cg h) (bS (dZ.eq ..) (cT (ae ?_) rfl)))
     simp only[ia];omega)
  (fun b i h hI _=>by have:=NA b l[i];show (cat b l[i]).size<=17*(i+1);omega)
  (fun m b hI=>bV rfl (br aC))
  l.length 0 k bE (by omega) (cd hk hl) (by simp)
 refine h.trans ?_
 rw[ah,bX]
 unfold ig
 cases ((l.length:Int)==0)<;>rfl
theorem eS.eq (hk:cy<=k) {l:LI} (hl:l.length<1048577):eS.f k l (-1) (D3:BA)=some (ig l):=by
 unfold eS.f ig
 cases ((l.length:Int)==0) with
 |true=>rfl
 |false=>
 refine bF rfl ?_
 have h:=scan (B:=BA) l (fun m b i=>eS.l5 k (-1) (D3:BA) l (l.length:Int) (fun x3=>some x3) m b i) (fun _ _=>true) cat (fun x3=>some x3) (fun _ _=>none) (fun i b=>b.size<=17*i)
  (fun m b i h hI=>by
    refine bV rfl (bT ae (cT (cg h) ?_))
    rw[aa,aN _ h,aK]
    refine bS (bH.eq ..) ?_
    unfold cat pX
    have e63:(D3:BA).size=1:=rfl
    cases hc:bI l[i] with
    |false=>
     refine bF rfl ?_
     cases (l[i]==(-1:Int)) with
     |true=>exact bT rfl (cT (ae (by simp only[ia];omega)) rfl)
     |false=>exact bF rfl (cT (ae (by simp only[ia];omega)) rfl)
    |true=>
     have:=lR l[i]
     refine bT rfl (bS (gF.eq ..) (cT (ae ?_) rfl))
     simp only[ia];omega)
  (fun b i h hI _=>by have:=NA b l[i];show (cat b l[i]).size<=17*(i+1);omega)
  (fun m b hI=>bV rfl (br aC))
  l.length 0 k bE (by omega) (cd hk hl) (by simp)
 refine h.trans ?_
 rw[ah,bX];rfl
theorem fK.eq (hk:cy<=k) {l:LI} (hl:l.length<1048577):fK.f k l=some (ig l):=bN (eS.eq hk hl)
def qu (b:UInt8):Int:=Go.Lib.indexByte [50,51,52,53,54,55,56,57,84,74,81,75,65] b
def pY (b:UInt8):Int:=Go.Lib.indexByte [99,100,104,115] b
def lu (a b:UInt8):Int:=bif decide (qu a<0) then-1 else bif decide (pY b<0) then-1 else pY b*13+qu a
theorem E4 (b:UInt8): -1<=qu b/\qu b<=12:=by
 have:=EY (p:=fun b=>decide (-1<=qu b)&&decide (qu b<=12)) (by decide+kernel) b
 simpa using this
theorem E5 (b:UInt8): -1<=pY b/\pY b<=3:=by
 have:=EY (p:=fun b=>decide (-1<=pY b)&&decide (pY b<=3)) (by decide+kernel) b
 simpa using this
def E6 (n:Nat):List UInt8:=(vy.extract n (n+1)).data.toList
def E7 (n:Nat):List UInt8:=(vz.extract n (n+1)).data.toList
theorem Sx {b:UInt8} (h:0<=qu b):E6 (qu b).toNat=[b]:=by
 have:=EY (p:=fun b=>decide (qu b<0)||decide (E6 (qu b).toNat=[b])) (by decide+kernel) b
 rw[aC (by omega)] at this
 simpa using this
theorem Sy {b:UInt8} (h:0<=pY b):E7 (pY b).toNat=[b]:=by
 have:=EY (p:=fun b=>decide (pY b<0)||decide (E7 (pY b).toNat=[b])) (by decide+kernel) b
 rw[aC (by omega)] at this
 simpa using this
theorem Lx {n:Nat} (h:n<13): ∃b,E6 n=[b]/\qu b=(n:Int)/\b≠42/\b≠45:=by
 have:n=0\/n=1\/n=2\/n=3\/n=4\/n=5\/n=6\/n=7\/n=8\/n=9\/n=10\/n=11\/n=12:=by omega
 rcases this with rfl|rfl|rfl|rfl|rfl|rfl|rfl|rfl|rfl|rfl|rfl|rfl|rfl
 ·exact ⟨50,by decide+kernel⟩
 ·exact ⟨51,by decide+kernel⟩
 ·exact ⟨52,by decide+kernel⟩
 ·exact ⟨53,by decide+kernel⟩
 ·exact ⟨54,by decide+kernel⟩
 ·exact ⟨55,by decide+kernel⟩
 ·exact ⟨56,by decide+kernel⟩
 ·exact ⟨57,by decide+kernel⟩
 ·exact ⟨84,by decide+kernel⟩
 ·exact ⟨74,by decide+kernel⟩
 ·exact ⟨81,by decide+kernel⟩
 ·exact ⟨75,by decide+kernel⟩
 ·exact ⟨65,by decide+kernel⟩
theorem Sz {n:Nat} (h:n<4): ∃b,E7 n=[b]/\pY b=(n:Int):=by
 have:n=0\/n=1\/n=2\/n=3:=by omega
 rcases this with rfl|rfl|rfl|rfl
 ·exact ⟨99,by decide+kernel⟩
 ·exact ⟨100,by decide+kernel⟩
 ·exact ⟨104,by decide+kernel⟩
 ·exact ⟨115,by decide+kernel⟩
theorem tY {c:Int} (h:bI c=true):(iV c).data.toList=E6 (cu c).toNat++E7 (bJ c).toNat:=by
 obtain ⟨r0,r1,s0,s1,_,_⟩:=mY h
 unfold iV E6 E7
 rw[h,ak,uK]
 rw[show (cu c+1).toNat=(cu c).toNat+1 by omega,show (bJ c+1).toNat=(bJ c).toNat+1 by omega]
theorem Dd {c:Int} (h:bI c=true): ∃a b,(iV c).data.toList=[a,b]/\lu a b=c/\a≠42/\a≠45:=by
 obtain ⟨r0,r1,s0,s1,e1,e2⟩:=mY h
 obtain ⟨a,a1,a2,a3,a4⟩:=Lx (n:=(cu c).toNat) (by omega)
 obtain ⟨b,b1,b2⟩:=Sz (n:=(bJ c).toNat) (by omega)
 refine ⟨a,b,?_,?_,a3,a4⟩
 ·rw[tY h,a1,b1];rfl
 ·unfold lu
  rw[a2,b2,aC (by omega),aC (by omega)]
  have:=cU.1 h
  have h1:=aX (b:=13) this.1
  have h2:=Int.tdiv_eq_ediv_of_nonneg (b:=13) this.1
  simp only[an]
  omega
theorem De {a b:UInt8} (h:0<=lu a b):bI (lu a b)=true/\(iV (lu a b)).data.toList=[a,b]:=by
 have ha:=E4 a
 have hb:=E5 b
 by_cases h1:qu a<0
 ·unfold lu at h;rw[ae h1] at h;simp at h
 ·by_cases h2:pY b<0
  ·unfold lu at h;rw[aC h1,ae h2] at h;simp at h
  ·have e:lu a b=pY b*13+qu a:=by unfold lu;rw[aC h1,aC h2];rfl
   have hc:bI (lu a b)=true:=cU.2 (by omega)
   refine ⟨hc,?_⟩
   obtain ⟨r0,r1,s0,s1,e1,e2⟩:=mY hc
   have hn:=(cU.1 hc).1
   have h3:=aX (b:=13) hn
   have h4:=Int.tdiv_eq_ediv_of_nonneg (b:=13) hn
   rw[tY hc,show cu (lu a b)=qu a by omega,show bJ (lu a b)=pY b by omega,Sx (by omega),Sy (by omega)]
   rfl
theorem fF.two (k:Nat) {s:BA} {a b:UInt8} (h:s.data.toList=[a,b]):fF.f k s=some (lu a b):=by
 have hs:s.size=2:=by rw[<- fC,h];rfl
 have e0:sb s 0=(a.toNat:Int):=JE (l:=[b]) (by rw[h];rfl)
 have e1:sb s 1=(b.toNat:Int):=JE (l:=[]) (by rw[h];rfl)
 have n0:((a.toNat:Int).toNat.toUInt8)=a:=by simp
 have n1:((b.toNat:Int).toNat.toUInt8)=b:=by simp
 have f0:se (oU:BA) (sb s 0)=qu a:=by unfold se qu;rw[e0,n0]
 have f1:se (wZ:BA) (sb s 1)=pY b:=by unfold se pY;rw[e1,n1]
 have ha:=E4 a
 have hb:=E5 b
 unfold fF.f
 refine bF (by rw[hs];rfl) (cT ae (bS rfl (cT ae (bS rfl ?_))))
 rw[f0,f1]
 unfold lu
 by_cases h1:qu a<0
 ·rw[ae h1];rfl
 ·rw[aC h1]
  by_cases h2:pY b<0
  ·rw[ae h2];rfl
  ·rw[aC h2]
   simp only[an]
   rw[wrap_i64 (n:=pY b*13),wrap_i64]
def Wm:BA:=⟨#[42]⟩
def E8 (c:Int):BA:=bif bI c then iV c else bif c== -1 then Wm else qB
theorem Qj (c:Int):(E8 c).size<=17:=by
 unfold E8
 cases bI c with
 |true=>exact lR c
 |false=>
  have:qB.size=1:=rfl
  have:Wm.size=1:=rfl
  cases (c== -1)<;>simp only[ak,an]<;>omega
def vC (b:BA) (c:Int):BA:=b++E8 c
def AW (l:LI):BA:=bif ((l.length:Int)==0) then E2 else l.foldl vC bE
theorem Is (b:BA) (c:Int):(vC b c).size<=b.size+17:=by
 have:=Qj c
 unfold vC;rw[aq];omega
theorem kP.eq (hk:cy<=k) {l:LI} (hl:l.length<1048577):kP.f k l=some (AW l):=by
 refine bN ?_
 unfold eS.f AW
 cases ((l.length:Int)==0) with
 |true=>rfl
 |false=>
 refine bF rfl ?_
 have h:=scan (B:=BA) l (fun m b i=>eS.l5 k (-1) (⟨#[42]⟩:BA) l (l.length:Int) (fun x3=>some x3) m b i) (fun _ _=>true) vC (fun x3=>some x3) (fun _ _=>none) (fun i b=>b.size<=17*i)
  (fun m b i h hI=>by
    refine bV rfl (bT ae (cT (cg h) ?_))
    rw[aa,aN _ h,aK]
    refine bS (bH.eq ..) ?_
    unfold vC E8
    have e63:(D3:BA).size=1:=rfl
    have e42:(⟨#[42]⟩:BA).size=1:=rfl
    cases hc:bI l[i] with
    |false=>
     refine bF rfl ?_
     cases (l[i]==(-1:Int)) with
     |true=>exact bT rfl (cT (ae (by simp only[ia];omega)) rfl)
     |false=>exact bF rfl (cT (ae (by simp only[ia];omega)) rfl)
    |true=>
     have:=lR l[i]
     refine bT rfl (bS (gF.eq ..) (cT (ae ?_) rfl))
     simp only[ia];omega)
  (fun b i h hI _=>by have:=Is b l[i];show (vC b l[i]).size<=17*(i+1);omega)
  (fun m b hI=>bV rfl (br aC))
  l.length 0 k bE (by omega) (cd hk hl) (by simp)
 refine h.trans ?_
 rw[ah,bX];rfl
theorem gw.eq (hk:cy<=k) {l:LI} (hl:l.length<1048577):gw.f k l=some (AW l):=by
 have h:=scan (B:=BA) l (fun m b i=>gw.l3 k l (fun x3=>bif ((l.length:Int)==0) then some E2 else some x3) m b i) (fun _ _=>true) vC (fun x3=>bif ((l.length:Int)==0) then some E2 else some x3) (fun _ _=>none) (fun i b=>b.size<=17*i)
  (fun m b i h hI=>by
    refine bV rfl (bT ae (cT (cg h) ?_))
    rw[aa,aN _ h,aK]
    unfold vC E8
    have e63:(D3:BA).size=1:=rfl
    have e42:(⟨#[42]⟩:BA).size=1:=rfl
    cases hm:(l[i]==(-1:Int)) with
    |true=>
     have hc:bI l[i] =false:=by
      have:l[i] = -1:=by simpa using hm
      rw[this];rfl
     rw[hc]
     exact bT rfl (cT (ae (by simp only[ia];omega)) rfl)
    |false=>
     refine bF rfl (cT (cg h) (bS (cc.eq ..) ?_))
     cases hc:bI l[i] with
     |false=>exact bF rfl (cT (ae (by simp only[ia];omega)) rfl)
     |true=>
      have:=lR l[i]
      exact bT rfl (cT (cg h) (bS (dZ.eq ..) (cT (ae (by simp only[ia];omega)) rfl))))
  (fun b i h hI _=>by have:=Is b l[i];show (vC b l[i]).size<=17*(i+1);omega)
  (fun m b hI=>bV rfl (br aC))
  l.length 0 k bE (by omega) (cd hk hl) (by simp)
 refine h.trans ?_
 rw[ah,bX]
 unfold AW
 cases ((l.length:Int)==0)<;>rfl
def JL:List UInt8->Int
 | [a,b]=>lu a b
 |_=> -1
def cZ (s:BA):Int:=JL s.data.toList
theorem NB (a b:UInt8): -1<=lu a b/\lu a b<=51:=by
 have h1:=E4 a;have h2:=E5 b
 unfold lu
 by_cases e1:qu a<0
 ·rw[ae e1];simp
 ·rw[aC e1]
  by_cases e2:pY b<0
  ·rw[ae e2];simp
  ·rw[aC e2];simp only[an];omega
theorem zm (s:BA): -1<=cZ s/\cZ s<=51:=by
 unfold cZ JL
 split
 ·exact NB _ _
 ·decide
theorem fF.eq (k:Nat) (s:BA):fF.f k s=some (cZ s):=by
 by_cases h:s.size=2
 ·obtain ⟨a,b,e⟩: ∃a b,s.data.toList=[a,b]:=by
   have hl:s.data.toList.length=2:=by rw[fC];exact h
   match s.data.toList,hl with
   | [a,b],_=>exact ⟨a,b,rfl⟩
  rw[fF.two k e]
  unfold cZ;rw[e];rfl
 ·have e:cZ s= -1:=by
   unfold cZ JL
   split
   ·rename_i a b hq;exact absurd (by rw[<- fC,hq];rfl) h
   ·rfl
  rw[e]
  exact jV (by simp;omega)
theorem Ly {c:Int} {s:BA} (hc:bI c=true):((iV c).toList==s.toList)=decide (cZ s=c):=by
 rw[ju]
 obtain ⟨a,b,e1,e2,_,_⟩:=Dd hc
 by_cases h:(iV c).data.toList=s.data.toList
 ·rw[ae h]
  unfold cZ
  rw[<- h,e1]
  exact (ae e2).symm
 ·rw[aC h]
  refine (aC fun hp=>h ?_).symm
  unfold cZ JL at hp
  split at hp
  ·rename_i x y hq
   have:=(De (a:=x) (b:=y) (by rw[hp];exact (cU.1 hc).1)).2
   rw[hp] at this
   rw[this,hq]
  ·have:=(cU.1 hc).1;omega
theorem dQ.loop (s:BA) (e0:Int->Option R) (e1:Option R): ∀(m i n:Nat),i+m=52->m<n->(cZ s= -1\/(i:Int)<=cZ s)->dQ.l2 k s e0 e1 n (i:Int)=bif decide (cZ s= -1) then e1 else e0 (cZ s)
 |m,i,0,_,h,_=>absurd h (by omega)
 |0,i,n+1,hi,_,hp=>by
  have hr:=(zm s).2
  rw[ae (by omega)]
  exact kz rfl (br aC)
 |m+1,i,n+1,hi,hn,hp=>by
  refine kz rfl (bT ae (bS (dZ.eq ..) ?_))
  rw[Ly (cU.2 ⟨by omega,by omega⟩)]
  by_cases e:cZ s=(i:Int)
  ·rw[ae e,aC (by omega),e];rfl
  ·rw[aC e,aK]
   exact dQ.loop s e0 e1 m (i+1) n (by omega) (by omega) (by omega)
theorem dQ.eq (hk:cy<=k) (s:BA):dQ.f k s=some (cZ s):=by
 have hr:=zm s
 refine (dQ.loop s _ _ 52 0 k (by omega) (by simp[cy] at hk;omega) (by omega)).trans ?_
 by_cases e:cZ s= -1
 ·rw[ae e,e];rfl
 ·rw[aC e];rfl
def jQ:List UInt8->LI
 |a::b::t=>lu a b::jQ t
 |_=>[]
theorem sA: ∀t:List UInt8,(jQ t).length=t.length/2
 | []=>rfl
 | [_]=>by simp[jQ]
 |a::b::t=>by
  rw[jQ,ab,sA t,ab,ab];omega
def aU (s:BA):LI×Bool:=bif decide (s.data.toList=[45]) then ([],true) else bif !(s.size==0)&&(s.size%2==0)&&dz (jQ s.data.toList) then (jQ s.data.toList,true) else ([],false)
theorem k9 (s:BA):(aU s).1.length<=52:=by
 unfold aU
 cases decide (s.data.toList=[45]) with
 |true=>simp
 |false=>
  cases h:(!(s.size==0)&&(s.size%2==0)&&dz (jQ s.data.toList)) with
  |false=>simp
  |true=>
   simp only[ay] at h
   exact uD h.2
theorem It {s:BA} {i:Nat} (h:i+2<=s.size): ∃a b t,s.data.toList.drop i=a::b::t/\s.data.toList.drop (i+2)=t/\(s.extract i (i+2)).data.toList=[a,b]:=by
 have hl:=fC s
 obtain ⟨a,ha⟩: ∃a,s.data.toList.drop i=a::s.data.toList.drop (i+1):=⟨_,drop_cons (by omega)⟩
 obtain ⟨b,hb⟩: ∃b,s.data.toList.drop (i+1)=b::s.data.toList.drop (i+2):=⟨_,drop_cons (by omega)⟩
 refine ⟨a,b,_,by rw[ha,hb],rfl,?_⟩
 have e:(s.extract i (i+2)).data.toList=(s.data.toList.drop i).take 2:=by
  rw[ByteArray.data_extract,Array.toList_extract]
  show (s.data.toList.drop i).take (i+2-i)=_
  rw[show i+2-i=2 by omega]
 rw[e,ha,hb];rfl
theorem eN.loop {s:BA} (hs:s.size<=104) (hev:s.size%2=0) (e0:LI->Option R): ∀(m i n:Nat) (u:LI),i+2*m=s.size->m<n->u.length<=i->eN.l7 k s e0 n (i:Int) u=e0 (u++jQ (s.data.toList.drop i))
 |m,i,0,_,_,h,_=>absurd h (by omega)
 |0,i,n+1,u,hi,_,_=>by
  rw[List.drop_of_length_le (by rw[fC];omega)]
  refine bV rfl (bF aC ?_)
  rw[show jQ [] =[] from rfl,cm]
 |m+1,i,n+1,u,hi,hn,hu=>by
  obtain ⟨a,b,t,e1,e2,e3⟩:=It (s:=s) (i:=i) (by omega)
  have e4:(s.extract (i:Int).toNat (aF ((i:Int)+2)).toNat)=s.extract i (i+2):=by
   rw[wrap_i64,aa];rfl
  have ih:=eN.loop hs hev e0 m (i+2) n (u++[lu a b]) (by omega) (by omega) (by simp;omega)
  refine bV rfl (bT ae (cT (bA (ae (by rw[wrap_i64];omega)) (ae (by rw[wrap_i64];omega))) (cT (bA ae (ae (by rw[wrap_i64];omega))) ?_)))
  rw[e4]
  refine bS (fF.two k e3) (cT (nY) ?_)
  rw[wrap_i64]
  refine ih.trans ?_
  rw[e1,e2,jQ];simp
theorem eN.eq (hk:cy<=k) {s:BA} (hs:s.size<1048577):eN.f k s=some (aU s):=by
 have eD:(s.toList==(K3:BA).toList)=decide (s.data.toList=[45]):=ju
 have eE:(s.toList==bE.toList)=(s.size==0):=by
  rw[ju,<- fC]
  by_cases h:s.data.toList=[]
  ·rw[h];rfl
  ·have h': ¬s.data.toList=bE.data.toList:=h
   rw[aC h']
   exact (beq_eq_false_iff_ne.2 fun hh=>h (List.length_eq_zero_iff.1 hh)).symm
 unfold eN.f aU
 rw[eD,eE]
 cases hd:decide (s.data.toList=[45]) with
 |true=>rfl
 |false=>
  refine bF rfl ?_
  cases h0:s.size==0 with
  |true=>rfl
  |false=>
   refine bF rfl ?_
   have em:((s.size:Int)).tmod 2=((s.size%2:Nat):Int):=rfl
   rw[em]
   by_cases h2:s.size%2=0
   ·refine bF (by rw[h2];rfl) ?_
    rw[h2]
    by_cases ab6:s.size<=104
    ·refine bF aC ((eN.loop (k:=k) ab6 h2 _ (s.size/2) 0 k [] (by omega) (by simp[cy] at hk;omega) (by simp)).trans ?_)
     rw[ah,aM]
     have hl:=sA s.data.toList
     rw[fC] at hl
     refine bS (bo.eq hk (by omega)) ?_
     cases dz (jQ s.data.toList)<;>rfl
    ·refine bT ae ?_
     have hl:=sA s.data.toList
     rw[fC] at hl
     have:dz (jQ s.data.toList)=false:=by
      cases hh:dz (jQ s.data.toList) with
      |false=>rfl
      |true=>have:=uD hh;omega
     rw[this];rfl
   ·refine bT (by simp;omega) ?_
    rw[show (s.size%2==0)=false by simpa using h2];rfl
theorem xt: ∀ {l:LI} (b:BA),(∀c∈l,bI c=true)->(l.foldl cat b).data.toList=b.data.toList++l.flatMap fun c=>(iV c).data.toList
 | [],b,_=>by simp
 |c::l,b,h=>by
  have hc:=h c (by simp)
  have e:(cat b c).data.toList=b.data.toList++(iV c).data.toList:=by
   unfold cat pX;rw[hc,ak,uK]
  rw[aY,xt (cat b c) (fun x hx=>h x (List.mem_cons_of_mem _ hx)),e,List.flatMap_cons,bp]
theorem Df: ∀(t:List UInt8),t.length%2=0->(∀c∈jQ t,bI c=true)->((jQ t).flatMap fun c=>(iV c).data.toList)=t
 | [],_,_=>rfl
 | [_],h,_=>by simp at h
 |a::b::t,h,hc=>by
  have h0:=hc (lu a b) (by simp[jQ])
  rw[jQ,List.flatMap_cons,(De (cU.1 h0).1).2,Df t (by simp only[ab] at h;omega) (fun c XE=>hc c (by simp[jQ,XE]))];rfl
theorem HA {l:LI} (h: ∀c∈l,bI c=true):(l.flatMap fun c=>(iV c).data.toList).length=2*l.length:=by
 induction l with
 |nil=>rfl
 |cons c l ih=>
  obtain ⟨a,b,e,_⟩:=Dd (h c (by simp))
  rw[List.flatMap_cons,au,e,ih (fun x hx=>h x (List.mem_cons_of_mem _ hx)),ab,ab,ab,List.length_nil];omega
theorem HB {s:BA} (hh:dz (jQ s.data.toList)=true):((ig (jQ s.data.toList)).toList==s.toList)=(decide (s.data.toList=[45])||(!(s.size==0)&&(s.size%2==0))):=by
 have hc:=(jy.1 hh).1
 have hl:=sA s.data.toList
 have hb:=fC s
 rw[ju]
 generalize hL:s.data.toList=L at*
 unfold ig
 cases h0:(((jQ L).length:Int)==0) with
 |true=>
  have e0:(jQ L).length=0:=by have:=aE h0;omega
  have U1:L.length<=1:=by omega
  have h1:(!(s.size==0)&&(s.size%2==0))=false:=by
   rw[<- hb]
   match L,U1 with
   | [],_=>rfl
   | [_],_=>rfl
  rw[h1,Bool.or_false]
  simp only[ak]
  congr 1
  exact propext ⟨fun e=>e.symm,fun e=>e.symm⟩
 |false=>
  have e0:(jQ L).length≠0:=by have:=beq_eq_false_iff_ne.1 h0;omega
  have U1:2<=L.length:=by omega
  have h45:decide (L=[45])=false:=aC fun e=>by rw[e] at U1;simp at U1
  have h1:(s.size==0)=false:=beq_eq_false_iff_ne.2 (by omega)
  have eX:((bif false then E2 else (jQ L).foldl cat bE):BA).data.toList=(jQ L).flatMap fun c=>(iV c).data.toList:=by
   rw[an,xt bE hc];rfl
  rw[h45,h1]
  by_cases h2:L.length%2=0
  ·rw[ae (eX.trans (Df L h2 hc)),show (s.size%2==0)=true by simp;omega];rfl
  ·rw[aC (fun e=>h2 (by
    have h3:=congrArg List.length (eX.symm.trans e)
    rw[HA hc] at h3
    omega)),show (s.size%2==0)=false by simp;omega];rfl
theorem eO.loop (hk:cy<=k) {s:BA} (hs:s.size<1048577) (e0:LI->Option R): ∀(m i n:Nat) (u:LI),i<=s.size->s.size<i+2*m+2->m<n->u.length<=i->eO.l3 k s e0 n (i:Int) u=e0 (u++jQ (s.data.toList.drop i))
 |m,i,0,_,_,_,h,_=>absurd h (by omega)
 |m,i,n+1,u,hi,hi2,hn,hu=>by
  by_cases h:i+2<=s.size
  ·obtain ⟨m,rfl⟩: ∃m',m=m' +1:=⟨m-1,by omega⟩
   obtain ⟨a,b,t,e1,e2,e3⟩:=It (s:=s) (i:=i) h
   have e4:(s.extract (i:Int).toNat (aF ((i:Int)+2)).toNat)=s.extract i (i+2):=by
    rw[wrap_i64,aa];rfl
   have ih:=eO.loop hk hs e0 m (i+2) n (u++[lu a b]) (by omega) (by omega) (by omega) (by simp;omega)
   refine bV rfl (bT (ae (by rw[wrap_i64];omega)) (cT (bA (ae (by rw[wrap_i64];omega)) (ae (by rw[wrap_i64];omega))) (cT (bA ae (ae (by rw[wrap_i64];omega))) ?_)))
   rw[e4]
   have ep:cZ (s.extract i (i+2))=lu a b:=by unfold cZ;rw[e3];rfl
   refine bS (dQ.eq hk _) (cT (nY) ?_)
   rw[wrap_i64,ep]
   refine ih.trans ?_
   rw[e1,e2,jQ];simp
  ·refine bV rfl (bF (aC (by rw[wrap_i64];omega)) ?_)
   have:jQ (s.data.toList.drop i)=[]:=by
    have hl:(s.data.toList.drop i).length<=1:=by rw[cO,fC];omega
    match s.data.toList.drop i,hl with
    | [],_=>rfl
    | [_],_=>rfl
   rw[this,cm]
theorem eO.eq (hk:cy<=k) {s:BA} (hs:s.size<1048577):eO.f k s=some (aU s):=by
 have hl:=sA s.data.toList
 rw[fC] at hl
 refine (eO.loop hk hs _ (s.size/2) 0 k [] (by omega) (by omega) (by simp[cy] at hk;omega) (by simp)).trans ?_
 rw[ah,aM]
 refine bS (bQ.eq hk (by omega)) ?_
 unfold aU
 cases hh:dz (jQ s.data.toList) with
 |false=>
  refine bT rfl ?_
  have:decide (s.data.toList=[45])=false:=aC fun e=>by rw[e] at hh;cases hh
  rw[this,Bool.and_false];rfl
 |true=>
  refine bF rfl (bS (c_.eq hk (by omega)) ?_)
  rw[HB hh]
  cases hd:decide (s.data.toList=[45]) with
  |true=>
   have e:=ao hd
   rw[e];rfl
  |false=>
   rw[Bool.false_or,Bool.and_true]
   cases (!(s.size==0)&&(s.size%2==0))<;>rfl
def xu:BA:=oU
def HC:BA:=wZ
def zn (a:Int):BA:=
 bif a==400 then ⟨#[114]⟩ else bif decide (a>=300) then xu.extract (a-300).toNat ((a-300)+1).toNat++(⟨#[43]⟩:BA)
 else bif decide (a>=200) then xu.extract (a-200).toNat ((a-200)+1).toNat else HC.extract (a-100).toNat ((a-100)+1).toNat
theorem zZ {a:Int} (h:mX a=true):(100<=a/\a<=103)\/(200<=a/\a<=212)\/(300<=a/\a<=312)\/a=400:=by
 unfold mX mJ at h
 simp only[Bool.or_eq_true,ay,dH,cG] at h
 omega
theorem E9 {x:Int} (h0:0<=x) (h1:x<=12) (X:Option R):(bY ((decide (0<=(aF (x+1))))&&(decide ((aF (x+1))<=13)))<|bY ((decide (0<=x))&&(decide (x<=(aF (x+1)))))<|X)=X:=by
 rw[wrap_i64 (n:=x+1)]
 exact cT (bA ae ae) (bW (bA ae ae))
theorem Lz {x:Int} (h0:0<=x) (h1:x<=3) (X:Option R):(bY ((decide (0<=(aF (x+1))))&&(decide ((aF (x+1))<=4)))<|bY ((decide (0<=x))&&(decide (x<=(aF (x+1)))))<|X)=X:=by
 rw[wrap_i64 (n:=x+1)]
 exact cT (bA ae ae) (bW (bA ae ae))
theorem E_ (x:BA) (n:Int) (h0:0<=n) (h:n+1<=x.size):(x.extract n.toNat (n+1).toNat).size=1:=by rw[ByteArray.size_extract];omega
theorem kX.eq (k:Nat) {x:Int} (h0:0<=x) (h1:x<=12):kX.f k x=some (xu.extract x.toNat (x+1).toNat):=by
 unfold kX.f
 rw[E9 h0 h1,wrap_i64 (n:=x+1)];rfl
theorem mW.eq (k:Nat) {a:Int} (h:mX a=true):mW.f k a=some (zn a):=by
 have e1:xu.size=13:=rfl
 have hc:=zZ h
 unfold mW.f zn
 by_cases h4:a=400
 ·subst h4;rfl
 have ZU:(a==(400:Int))=false:=by simp[h4]
 rw[ZU,an,an]
 by_cases h3:a>=300
 ·rw[jV (ae h3),jV (ae h3),wrap_i64]
  refine bS (kX.eq k (by omega) (by omega)) (bW (ae ?_))
  rw[E_ xu _ (by omega) (by omega)];decide
 rw[br (aC h3),br (aC h3)]
 by_cases h2:a>=200
 ·rw[jV (ae h2),jV (ae h2),wrap_i64]
  exact bN (kX.eq k (by omega) (by omega))
 rw[br (aC h2),br (aC h2),wrap_i64 (n:=a-100),Lz (by omega) (by omega),wrap_i64]
 rfl
theorem kW.eq (k:Nat) {a:Int} (h:mX a=true):kW.f k a=some (zn a):=by
 have e1:xu.size=13:=rfl
 have hc:=zZ h
 unfold kW.f zn
 by_cases h4:a=400
 ·subst h4;rfl
 have ZU:(a==(400:Int))=false:=by simp[h4]
 rw[ZU,an,an]
 by_cases h3:a>=300
 ·rw[jV (ae h3),jV (ae h3),wrap_i64 (n:=a-300),E9 (by omega) (by omega),wrap_i64]
  refine bW (ae ?_)
  have:=E_ xu (a-300) (by omega) (by omega)
  show (xu.extract _ _).size+_<=_
  rw[this];decide
 rw[br (aC h3),br (aC h3)]
 by_cases h2:a>=200
 ·rw[jV (ae h2),jV (ae h2),wrap_i64 (n:=a-200),E9 (by omega) (by omega),wrap_i64]
  rfl
 rw[br (aC h2),br (aC h2),wrap_i64 (n:=a-100),Lz (by omega) (by omega),wrap_i64]
 rfl
def B7 (a:Int):Nat:=if a= -1 then 1 else if a= -2\/a= -3 then 3 else if a>=300/\a≠400 then 2 else 1
def wS (b:BA):Prop:= ∀x∈b.data.toList,x≠32
theorem vD {a b:BA} (h:wS a) (h':wS b):wS (a++b):=fun x hx=>by
 rw[uK] at hx
 rcases List.mem_append.1 hx with h1|h1
 ·exact h x h1
 ·exact h' x h1
theorem NC {s:BA} (h:wS s) (a b:Nat):wS (s.extract a b):=fun x hx=>by
 rw[ByteArray.data_extract,Array.toList_extract] at hx
 exact h x (List.mem_of_mem_drop (List.mem_of_mem_take (by simpa[List.extract_eq_take_drop] using hx)))
theorem vE {c:UInt8} (h:c≠32):wS ⟨#[c]⟩:=fun x hx=>by
 have:x=c:=by simpa using hx
 rw[this];exact h
theorem Iu:wS bE:=fun x hx=>by cases hx
theorem O7:wS xu:=by unfold wS;decide+kernel
theorem U5:wS HC:=by unfold wS;decide+kernel
theorem LA {a:Int} (h:mX a=true):(zn a).size=B7 a/\wS (zn a):=by
 have e1:xu.size=13:=rfl
 have e2:HC.size=4:=rfl
 have hc:=zZ h
 unfold zn B7
 rw[aD (by omega),aD (by omega)]
 by_cases h4:a=400
 ·subst h4;exact ⟨rfl,vE (by decide)⟩
 have ZU:(a==(400:Int))=false:=by simp[h4]
 rw[ZU,an]
 by_cases h3:a>=300
 ·rw[jV (ae h3),aS ⟨h3,h4⟩]
  refine ⟨?_,vD (NC O7 _ _) (vE (by decide))⟩
  rw[aq,E_ xu _ (by omega) (by omega)];rfl
 rw[br (aC h3),aD (by omega)]
 by_cases h2:a>=200
 ·rw[jV (ae h2)]
  exact ⟨E_ xu _ (by omega) (by omega),NC O7 _ _⟩
 rw[br (aC h2)]
 exact ⟨E_ HC _ (by omega) (by omega),NC U5 _ _⟩
def Iv (c:UInt8) (x y:BA):BA:=((((Ax:BA)++x)++(⟨#[c]⟩:BA))++y)++(UM:BA)
def jY (p:List BA) (a:Int):List BA:=
 bif a== -1 then p.set (p.length-1) ((W8:BA)++p.getD (p.length-1) bE)
 else bif a== -2 then p.take (p.length-2)++[Iv 38 (p.getD (p.length-2) bE) (p.getD (p.length-1) bE)]
 else bif a== -3 then p.take (p.length-2)++[Iv 124 (p.getD (p.length-2) bE) (p.getD (p.length-1) bE)]
 else p++[zn a]
def total:List BA->Nat
 | []=>0
 |b::l=>b.size+total l
theorem qA: ∀(l l':List BA),total (l++l')=total l+total l'
 | [],l'=>by simp[total]
 |b::l,l'=>by simp only[List.cons_append,total,qA l l'];omega
theorem yi: ∀(l:List BA) (j:Nat),(l.getD j bE).size<=total l
 | [],j=>by simp
 |b::l,0=>by simp[total]
 |b::l,j+1=>by have:=yi l j;simp only[List.getD_cons_succ,total];omega
theorem Fa {p:List BA} (h:1<=p.length): ∃q x,p=q++[x]:=
 ⟨p.dropLast,p.getLast (List.ne_nil_of_length_pos h),(List.dropLast_concat_getLast _).symm⟩
theorem SA {p:List BA} (h:2<=p.length): ∃q x y,p=q++[x]++[y]:=by
 obtain ⟨q,y,rfl⟩:=Fa (p:=p) (by omega)
 obtain ⟨q,x,rfl⟩:=Fa (p:=q) (by simp at h;omega)
 exact ⟨q,x,y,rfl⟩
theorem Dg {d a:Int} (h:mK d a=true):mX a=true\/(a= -1/\1<=d)\/((a= -2\/a= -3)/\2<=d):=by
 unfold mK at h
 simp only[Bool.or_eq_true,ay,dH,cG] at h
 rcases h with (h|h)|h
 ·exact .inl h
 ·exact .inr (.inl h)
 ·exact .inr (.inr h)
theorem sB {p:List BA} {a:Int} (h:mK (p.length:Int) a=true):total (jY p a)=total p+B7 a/\((jY p a).length:Int)=oa p.length a/\((∀w∈p,wS w)-> ∀w∈jY p a,wS w):=by
 rcases Dg h with hl| ⟨rfl,hd⟩| ⟨ha,hd⟩
 ·obtain ⟨h1,h2,h3⟩:=AI hl
  obtain ⟨s1,s2⟩:=LA hl
  have e:jY p a=p++[zn a]:=by
   unfold jY
   rw[show (a==(-1:Int))=false by simp[h1],show (a==(-2:Int))=false by simp[h2],show (a==(-3:Int))=false by simp[h3]];rfl
  rw[e]
  refine ⟨by rw[qA];simp only[total];omega,?_,fun hp w hw=> ?_⟩
  ·unfold oa;rw[hl,ak,au,cz];omega
  ·rcases List.mem_append.1 hw with hw|hw
   ·exact hp w hw
   ·rw[List.mem_singleton.1 hw];exact s2
 ·obtain ⟨q,x,rfl⟩:=Fa (p:=p) (by omega)
  have e:jY (q++[x]) (-1)=q++[(W8:BA)++x]:=by
   show (q++[x]).set _ _=_
   rw[au,cz,Nat.add_sub_cancel,show (q++[x]).getD q.length bE=x by simp[List.getD],List.set_append_right _ _ (ai _),Nat.sub_self];rfl
  rw[e]
  refine ⟨?_,?_,fun hp w hw=> ?_⟩
  ·rw[qA,qA];simp only[total,aq]
   rw[show (W8:BA).size=1 from rfl,show B7 (-1)=1 from rfl];omega
  ·unfold oa;rw[show mX (-1)=false by decide];simp
  ·rcases List.mem_append.1 hw with hw|hw
   ·exact hp w (List.mem_append_left _ hw)
   ·rw[List.mem_singleton.1 hw];exact vD (vE (by decide)) (hp x (by simp))
 ·obtain ⟨q,x,y,rfl⟩:=SA (p:=p) (by omega)
  have hlen:(q++[x]++[y]).length=q.length+2:=by simp
  have g1:(q++[x]++[y]).getD (q.length+2-2) bE=x:=by simp[List.getD]
  have g2:(q++[x]++[y]).getD (q.length+2-1) bE=y:=by simp[List.getD]
  have g3:(q++[x]++[y]).take (q.length+2-2)=q:=by simp
  obtain ⟨c,hc,e⟩: ∃c,c≠32/\jY (q++[x]++[y]) a=q++[Iv c x y]:=by
   rcases ha with rfl|rfl
   ·refine ⟨38,by decide,?_⟩
    show (q++[x]++[y]).take _++[Iv 38 _ _] =_
    rw[hlen,g1,g2,g3]
   ·refine ⟨124,by decide,?_⟩
    show (q++[x]++[y]).take _++[Iv 124 _ _] =_
    rw[hlen,g1,g2,g3]
  rw[e]
  refine ⟨?_,?_,fun hp w hw=> ?_⟩
  ·have hw3:B7 a=3:=by rcases ha with rfl|rfl<;>rfl
   rw[qA,qA,qA,hw3];simp only[total,Iv,aq]
   rw[show (Ax:BA).size=1 from rfl,show (UM:BA).size=1 from rfl,show (⟨#[c]⟩:BA).size=1 from rfl];omega
  ·rw[hlen]
   have:oa ((q.length+2:Nat):Int) a=((q.length+2:Nat):Int)-1:=by
    unfold oa
    rcases ha with rfl|rfl
    ·rw[show mX (-2)=false by decide];rfl
    ·rw[show mX (-3)=false by decide];rfl
   rw[this,au,cz];omega
  ·rcases List.mem_append.1 hw with hw|hw
   ·exact hp w (by simp[hw])
   ·rw[List.mem_singleton.1 hw]
    exact vD (vD (vD (vD (vE (by decide)) (hp x (by simp))) (vE hc)) (hp y (by simp))) (vE (by decide))
theorem ND (a:Int):B7 a<=3/\1<=B7 a:=by unfold B7;split<;>(try split)<;>(try split)<;>omega
theorem O8 {n:Nat} (h:n<=1000):decide (n*16<=room)=true:=ae (by unfold room;omega)
theorem Fc {d:Nat} (h:1<=d) (h':d<=1000):aF ((d:Int)-1)=((d-1:Nat):Int):=by rw[wrap_i64];omega
theorem LB {d:Nat} (h:2<=d) (h':d<=1000):aF ((d:Int)-2)=((d-2:Nat):Int):=by rw[wrap_i64];omega
theorem Fe {p:List BA} {a:Int} (h:mK (p.length:Int) a=true) (hp:p.length<=100) (hB:total p<=100) (K:List BA->Option R) (E:Option R) (hE:mX a=true->E=K (p++[zn a])):
 (bif (a==(-1)) then
   bY ((decide (0<=(aF ((p.length:Int)-1))))&&(decide ((aF ((p.length:Int)-1))<(p.length:Int))))<|
   bY (decide ((W8:BA).size+(p.getD ((aF ((p.length:Int)-1)).toNat) bE).size<=ia))<|
   bY ((decide (0<=(aF ((p.length:Int)-1))))&&(decide ((aF ((p.length:Int)-1))<(p.length:Int))))<|
   K (p.set ((aF ((p.length:Int)-1)).toNat) ((W8:BA)++(p.getD ((aF ((p.length:Int)-1)).toNat) bE)))
 else
  bif (a==(-2)) then
   bY ((decide (0<=(aF ((p.length:Int)-2))))&&(decide ((aF ((p.length:Int)-2))<=(p.length:Int))))<|
   bY (decide (0<=(aF ((p.length:Int)-2))))<|
   bY ((decide (0<=(aF ((p.length:Int)-2))))&&(decide ((aF ((p.length:Int)-2))<(p.length:Int))))<|
   bY (decide ((Ax:BA).size+(p.getD ((aF ((p.length:Int)-2)).toNat) bE).size<=ia))<|
   bY (decide (((Ax:BA)++(p.getD ((aF ((p.length:Int)-2)).toNat) bE)).size+(UO:BA).size<=ia))<|
   bY ((decide (0<=(aF ((p.length:Int)-1))))&&(decide ((aF ((p.length:Int)-1))<(p.length:Int))))<|
   bY (decide ((((Ax:BA)++(p.getD ((aF ((p.length:Int)-2)).toNat) bE))++(UO:BA)).size+(p.getD ((aF ((p.length:Int)-1)).toNat) bE).size<=ia))<|
   bY (decide (((((Ax:BA)++(p.getD ((aF ((p.length:Int)-2)).toNat) bE))++(UO:BA))++(p.getD ((aF ((p.length:Int)-1)).toNat) bE)).size+(UM:BA).size<=ia))<|
   bY (decide ((((p.take ((aF ((p.length:Int)-2)).toNat)).length)+1)*16<=room))<|
   K ((p.take ((aF ((p.length:Int)-2)).toNat))++([((((Ax:BA)++(p.getD ((aF ((p.length:Int)-2)).toNat) bE))++(UO:BA))++(p.getD ((aF ((p.length:Int)-1)).toNat) bE))++(UM:BA)]))
  else
   bif (a==(-3)) then
    bY ((decide (0<=(aF ((p.length:Int)-2))))&&(decide ((aF ((p.length:Int)-2))<=(p.length:Int))))<|
    bY (decide (0<=(aF ((p.length:Int)-2))))<|
    bY ((decide (0<=(aF ((p.length:Int)-2))))&&(decide ((aF ((p.length:Int)-2))<(p.length:Int))))<|
    bY (decide ((Ax:BA).size+(p.getD ((aF ((p.length:Int)-2)).toNat) bE).size<=ia))<|
    bY (decide (((Ax:BA)++(p.getD ((aF ((p.length:Int)-2)).toNat) bE)).size+(UN:BA).size<=ia))<|
    bY ((decide (0<=(aF ((p.length:Int)-1))))&&(decide ((aF ((p.length:Int)-1))<(p.length:Int))))<|
    bY (decide ((((Ax:BA)++(p.getD ((aF ((p.length:Int)-2)).toNat) bE))++(UN:BA)).size+(p.getD ((aF ((p.length:Int)-1)).toNat) bE).size<=ia))<|
    bY (decide (((((Ax:BA)++(p.getD ((aF ((p.length:Int)-2)).toNat) bE))++(UN:BA))++(p.getD ((aF ((p.length:Int)-1)).toNat) bE)).size+(UM:BA).size<=ia))<|
    bY (decide ((((p.take ((aF ((p.length:Int)-2)).toNat)).length)+1)*16<=room))<|
    K ((p.take ((aF ((p.length:Int)-2)).toNat))++([((((Ax:BA)++(p.getD ((aF ((p.length:Int)-2)).toNat) bE))++(UN:BA))++(p.getD ((aF ((p.length:Int)-1)).toNat) bE))++(UM:BA)]))
   else E)=K (jY p a):=by
 have z (c:UInt8):(⟨#[c]⟩:BA).size=1:=rfl
 rcases Dg h with hl| ⟨rfl,hd⟩| ⟨ha,hd⟩
 ·obtain ⟨h1,h2,h3⟩:=AI hl
  unfold jY
  rw[show (a==(-1:Int))=false by simp[h1],show (a==(-2:Int))=false by simp[h2],show (a==(-3:Int))=false by simp[h3],an,an,an,an,an,an]
  exact hE hl
 ·have hd:1<=p.length:=by omega
  have g1:=yi p (p.length-1)
  refine bT rfl ?_
  rw[Fc hd (by omega),show (((p.length-1:Nat):Int)).toNat=p.length-1 from aa _]
  rw[bW (bA ae ae),bW (ae (by rw[z];unfold ia;omega)),bW (bA ae ae)]
  rfl
 ·have hd:2<=p.length:=by omega
  have g1:=yi p (p.length-1)
  have g2:=yi p (p.length-2)
  have hB':1000<=ia:=by unfold ia;omega
  rcases ha with rfl|rfl
  ·refine bF rfl (bT rfl ?_)
   rw[Fc (by omega) (by omega),LB hd (by omega),show (((p.length-1:Nat):Int)).toNat=p.length-1 from aa _,show (((p.length-2:Nat):Int)).toNat=p.length-2 from aa _]
   rw[bW (bA ae ae),bW ae,bW (bA ae ae),bW (ae (by rw[z];omega)),bW (ae (by simp only[aq,z];omega)),bW (bA ae ae),bW (ae (by simp only[aq,z];omega)),bW (ae (by simp only[aq,z];omega)),bW (O8 (by rw[aP];omega))]
   rfl
  ·refine bF rfl (bF rfl (bT rfl ?_))
   rw[Fc (by omega) (by omega),LB hd (by omega),show (((p.length-1:Nat):Int)).toNat=p.length-1 from aa _,show (((p.length-2:Nat):Int)).toNat=p.length-2 from aa _]
   rw[bW (bA ae ae),bW ae,bW (bA ae ae),bW (ae (by rw[z];omega)),bW (ae (by simp only[aq,z];omega)),bW (bA ae ae),bW (ae (by simp only[aq,z];omega)),bW (ae (by simp only[aq,z];omega)),bW (O8 (by rw[aP];omega))]
   rfl
theorem bL.loop (k:Nat) {l:LI} (hl:l.length<=20) (e0:List BA->Option R): ∀(m n i:Nat) (p:List BA),i+m=l.length->m<n->qW (l.drop i) p.length=true->p.length<=i->total p<=3*i->
 bL.l5 k l e0 n (i:Int) p=e0 ((l.drop i).foldl jY p):=by
 intro m
 induction m with
 |zero=>
  intro n i p hi hn zk hp ht
  obtain ⟨n,rfl⟩: ∃j,n=j+1:=⟨n-1,by omega⟩
  rw[bL.pQ]
  unfold bL.s5
  rw[br aC,List.drop_of_length_le (by omega)];rfl
 |succ m ih=>
  intro n i p hi hn zk hp ht
  obtain ⟨n,rfl⟩: ∃j,n=j+1:=⟨n-1,by omega⟩
  have iS:i<l.length:=by omega
  have hd:=drop_cons iS
  have hg:l.getD ((i:Int)).toNat 0=l[i]:=by rw[aa];exact aN 0 iS
  rw[hd] at zk ⊢
  generalize l[i] =a at zk hg
  have zk:(mK p.length a&&qW (l.drop (i+1)) (oa p.length a))=true:=zk
  obtain ⟨h1,h2⟩:=Bool.and_eq_true_iff.1 zk
  obtain ⟨f1,f2,_⟩:=sB h1
  have hw:=ND a
  have xe:(jY p a).length<=i+1:=by have:=(yf h1 (by omega)).2;omega
  rw[bL.pQ]
  unfold bL.s5
  rw[jV ae,bW (bA ae ae),hg,aK]
  rw[<- f2] at h2
  refine (Fe h1 (by omega) (by omega) (fun q=>bL.l5 k l e0 n ((i+1:Nat):Int) q) _ fun hl'=> ?_).trans ?_
  ·rw[bW (bA ae ae),bN (mW.eq k hl'),bW (O8 (by omega))]
  ·exact ih n (i+1) _ (by omega) (by omega) h2 xe (by omega)
theorem cF.loop (k:Nat) {l:LI} (hl:l.length<=20) (e0:List BA->Option R): ∀(m n i:Nat) (p:List BA),i+m=l.length->m<n->qW (l.drop i) p.length=true->p.length<=i->total p<=3*i->
 cF.l5 k l (l.length:Int) e0 n (i:Int) p=e0 ((l.drop i).foldl jY p):=by
 intro m
 induction m with
 |zero=>
  intro n i p hi hn zk hp ht
  obtain ⟨n,rfl⟩: ∃j,n=j+1:=⟨n-1,by omega⟩
  rw[cF.pQ]
  unfold cF.s5
  rw[br aC,List.drop_of_length_le (by omega)];rfl
 |succ m ih=>
  intro n i p hi hn zk hp ht
  obtain ⟨n,rfl⟩: ∃j,n=j+1:=⟨n-1,by omega⟩
  have iS:i<l.length:=by omega
  have hd:=drop_cons iS
  have hg:l.getD ((i:Int)).toNat 0=l[i]:=by rw[aa];exact aN 0 iS
  rw[hd] at zk ⊢
  generalize l[i] =a at zk hg
  have zk:(mK p.length a&&qW (l.drop (i+1)) (oa p.length a))=true:=zk
  obtain ⟨h1,h2⟩:=Bool.and_eq_true_iff.1 zk
  obtain ⟨f1,f2,_⟩:=sB h1
  have hw:=ND a
  have xe:(jY p a).length<=i+1:=by have:=(yf h1 (by omega)).2;omega
  rw[cF.pQ]
  unfold cF.s5
  rw[jV ae,bW (bA ae ae),hg,aK]
  rw[<- f2] at h2
  refine (Fe h1 (by omega) (by omega) (fun q=>cF.l5 k l (l.length:Int) e0 n ((i+1:Nat):Int) q) _ fun hl'=> ?_).trans ?_
  ·rw[bN (kW.eq k hl'),bW (O8 (by omega))]
  ·exact ih n (i+1) _ (by omega) (by omega) h2 xe (by omega)
theorem uL: ∀(l:LI) (p:List BA),qW l p.length=true->(l.foldl jY p).length=1/\total (l.foldl jY p)=total p+(l.map B7).sum/\((∀w∈p,wS w)-> ∀w∈l.foldl jY p,wS w)
 | [],p,h=>by
   have h:((p.length:Int)==1)=true:=h
   have h':=aE h
   refine ⟨by show p.length=1;omega,by simp,fun hp=>hp⟩
 |a::l,p,h=>by
  have h:(mK p.length a&&qW l (oa p.length a))=true:=h
  obtain ⟨h1,h2⟩:=Bool.and_eq_true_iff.1 h
  obtain ⟨f1,f2,f3⟩:=sB h1
  rw[<- f2] at h2
  obtain ⟨g1,g2,g3⟩:=uL l (jY p a) h2
  refine ⟨g1,?_,fun hp=>g3 (f3 hp)⟩
  rw[aY,g2,f1];simp;omega
def kH (l:LI):BA:=bif jf l then (l.foldl jY []).getD 0 bE else bE
theorem o3 {l:LI} (h:jf l=true):qW l 0=true/\l.length<=20:=by
 unfold jf at h
 obtain ⟨h1,h2⟩:=Bool.and_eq_true_iff.1 h
 have:=ao h2
 exact ⟨h1,by omega⟩
theorem AX {l:LI} (h:jf l=true):(kH l).size=(l.map B7).sum:=by
 obtain ⟨g1,g2,_⟩:=uL l [] (o3 h).1
 unfold kH
 rw[h,ak]
 obtain ⟨x,hx⟩:=List.length_eq_one_iff.1 g1
 rw[hx] at g2 ⊢
 simp[total] at g2
 simpa using g2
theorem SB: ∀l:LI,(l.map B7).sum<=3*l.length/\l.length<=(l.map B7).sum
 | []=>by simp
 |a::l=>by have:=SB l;have:=ND a;simp only[bM,List.sum_cons,ab];omega
theorem Ff (l:LI):(kH l).size<=60:=by
 cases h:jf l with
 |true=>rw[AX h];have:=SB l;have:=(o3 h).2;omega
 |false=>unfold kH;rw[h];show bE.size<=60;decide
theorem LC (l:LI):wS (kH l):=by
 cases h:jf l with
 |true=>
  obtain ⟨g1,_,g3⟩:=uL l [] (o3 h).1
  unfold kH
  rw[h,ak]
  obtain ⟨x,hx⟩:=List.length_eq_one_iff.1 g1
  have:=g3 (fun w hw=>by cases hw) x (by rw[hx];simp)
  rw[hx];exact this
 |false=>unfold kH;rw[h];exact Iu
theorem bL.eq (hk:cy<=k) {l:LI} (hl:l.length<1048577):bL.f k l=some (kH l):=by
 have hB:cy=1073741824:=rfl
 refine bS (dP.eq hk hl) ?_
 unfold kH
 cases h:jf l with
 |false=>rfl
 |true=>
  obtain ⟨h1,h2⟩:=o3 h
  refine bF rfl ((bL.loop k h2 _ l.length k 0 [] (by omega) (by omega) h1 (by simp) (by simp[total])).trans ?_)
  rw[ah]
  obtain ⟨g1,_,_⟩:=uL l [] h1
  exact bW (ae (by rw[g1];decide))
theorem cF.eq (hk:cy<=k) {l:LI} (hl:l.length<1048577):cF.f k l=some (kH l):=by
 have hB:cy=1073741824:=rfl
 refine bS (dO.eq hk hl) ?_
 unfold kH
 cases h:jf l with
 |false=>rfl
 |true=>
  obtain ⟨h1,h2⟩:=o3 h
  refine bF rfl ((cF.loop k h2 _ l.length k 0 [] (by omega) (by omega) h1 (by simp) (by simp[total])).trans ?_)
  rw[ah]
  obtain ⟨g1,_,_⟩:=uL l [] h1
  exact bW (ae (by rw[g1];decide))
end Go.Proofs.YtbmmhdmljajcfaaGreatDoor
namespace Go.Proofs.YtbmmhdmljajcfaaGreatDoor
open Go V Go.Proofs.YtbmmhdmljajcfaaGreatDoor.Ca
variable {R:Type} {k:Nat}
def oz (s:BA):Bool×Nat×LI:=kY (s.size+1) s 0 []
def gI (s:BA):LI×Bool:=bif Nat.ble s.size 100&&(oz s).1&&((kH (oz s).2.2).toList==s.toList) then ((oz s).2.2,true) else ([],false)
theorem Iw {s:BA} {n i:Nat} {l:LI} (hi:i<=s.size) (h:(kY n s i l).1=true):(kY n s i l).2.2.length<=l.length+s.size:=by
 have:=sk s n i l (kY n s i l).2.1 (kY n s i l).2.2 hi (by rw[<- h])
 omega
theorem AY (s:BA):(gI s).1.length<1048577:=by
 unfold gI
 cases h:(Nat.ble s.size 100&&(oz s).1&&((kH (oz s).2.2).toList==s.toList)) with
 |false=>show ([]:LI).length<_;decide
 |true=>
  simp only[ay] at h
  have:=Iw (Nat.zero_le _) h.1.2
  have ab9:=bD h.1.1
  show (oz s).2.2.length<_
  simp only[List.length_nil] at this
  unfold oz
  omega
theorem jN.eq (hk:cy<=k) {s:BA} (hs:s.size<1048577):jN.f k s=some (gI s):=by
 show EF (cF.f k) s=_
 unfold EF gI
 cases h1:Nat.ble s.size 100 with
 |false=>rfl
 |true=>
  rw[ak,Bool.true_and]
  have ab9:=bD h1
  have hl:=Iw (s:=s) (n:=s.size+1) (l:=[]) (Nat.zero_le s.size)
  unfold oz
  revert hl
  rcases kY (s.size+1) s 0 [] with ⟨ok,i1,l1⟩
  intro hl
  cases ok with
  |false=>rfl
  |true=>
   have:=hl rfl
   refine bS (cF.eq hk (by simp at this;omega)) ?_
   show (bif _ then _ else _)=some (bif true&&_ then _ else _)
   cases (kH l1).toList==s.toList<;>rfl
theorem yj {s:BA} {i:Nat} (h:i<s.size):fB s i=sb s i:=by
 unfold fB sb
 rw[dif_pos h]
 have:s.data[i]? =some s[i]:=by
  have h':i<s.data.size:=h
  rw[Array.getElem?_eq_getElem h'];rfl
 rw[this];rfl
theorem O9 (s:BA) (i:Nat): ∃b:UInt8,sb s i=(b.toNat:Int):=⟨_,rfl⟩
theorem eg.loop (k:Nat) {s:BA} (b:UInt8) (hs:s.size<1048577) (e0:Int->Option R) (e1:Option R): ∀(m n i:Nat),i+m=s.size->m<n->
 eg.l2 k s (b.toNat:Int) e0 e1 n (i:Int)=if Go.Lib.indexByte (s.data.toList.drop i) b= -1 then e1 else e0 ((i:Int)+Go.Lib.indexByte (s.data.toList.drop i) b):=by
 intro m
 induction m with
 |zero=>
  intro n i hi hn
  obtain ⟨n,rfl⟩: ∃j,n=j+1:=⟨n-1,by omega⟩
  rw[eg.OU]
  unfold eg.s2
  rw[br aC,List.drop_of_length_le (by rw[fC];omega)]
  rfl
 |succ m ih=>
  intro n i hi hn
  obtain ⟨n,rfl⟩: ∃j,n=j+1:=⟨n-1,by omega⟩
  have hlen:i<s.data.toList.length:=by rw[fC];omega
  have hd:s.data.toList.drop i=s.data.toList[i]::s.data.toList.drop (i+1):=List.drop_eq_getElem_cons hlen
  generalize s.data.toList[i] =c at hd
  have hsb:sb s i=(c.toNat:Int):=JE hd
  rw[eg.OU]
  unfold eg.s2
  rw[jV ae,bW (bA ae ae),show ((i:Int)).toNat=i from aa i,hsb,aK,hd]
  by_cases hc:c=b
  ·subst hc
   refine bT (beq_self_eq_true _) ?_
   unfold Go.Lib.indexByte
   rw[aS (beq_self_eq_true _),aD (by decide),Int.add_zero]
  ·refine bF (beq_false_of_ne (fun e=>hc (UInt8.toNat_inj.1 (by omega)))) ?_
   rw[ih n (i+1) (by omega) (by omega)]
   have hge:=Go.Lib.indexByte_ge (s.data.toList.drop (i+1)) b
   conv=>rhs;unfold Go.Lib.indexByte
   rw[show (c==b)=false from beq_false_of_ne hc]
   by_cases he:Go.Lib.indexByte (s.data.toList.drop (i+1)) b= -1
   ·rw[aS he,he];rfl
   ·have e2:(Go.Lib.indexByte (s.data.toList.drop (i+1)) b== -1)=false:=beq_false_of_ne he
    rw[aD he,e2]
    show _=if (Go.Lib.indexByte (s.data.toList.drop (i+1)) b+1= -1) then e1 else e0 (_+(Go.Lib.indexByte (s.data.toList.drop (i+1)) b+1))
    rw[aD (by omega)]
    congr 1;omega
theorem eg.eq (hk:cy<=k) {s:BA} (b:UInt8) (hs:s.size<1000):eg.f k s (b.toNat:Int)=some (Go.Lib.indexByte s.data.toList b):=by
 have hB:cy=1073741824:=rfl
 refine (eg.loop k b (by omega) _ _ s.size k 0 (by omega) (by omega)).trans ?_
 rw[ah]
 by_cases h:Go.Lib.indexByte s.data.toList b= -1
 ·rw[aS h,h]
 ·rw[aD h];congr 1;omega
theorem O_ (b:UInt8):C8 (b.toNat:Int)=Go.Lib.indexByte HC.data.toList b:=by
 show Go.Lib.indexByte _ ((b.toNat:Int)).toNat.toUInt8=_
 rw[aa]
 congr 1
 exact UInt8.ofNat_toNat
theorem JM (b:UInt8):xa (b.toNat:Int)=Go.Lib.indexByte xu.data.toList b:=by
 show Go.Lib.indexByte _ ((b.toNat:Int)).toNat.toUInt8=_
 rw[aa]
 congr 1
 exact UInt8.ofNat_toNat
theorem int_ne {a b:Int} (h: ¬a=b):(a==b)=false:=beq_false_of_ne h
theorem jg {x:Option R}:bY true x=x:=rfl
theorem Pa {a b:Int} (h: ¬a=b):(a != b)=true:=by simp[h]
theorem U6 (hk:cy<=k) {s:BA} (hs:s.size<=200): ∀(n n' i:Nat) (l:LI),i<=s.size->s.size<i+n->s.size<i+n'->
 ∃p e,jA.g k n' s (i:Int)=some (p,e)/\p.length+i<=s.size/\((kY n s i l).1=true->(kY n s i l).2.2=l++p/\e=((kY n s i l).2.1:Int))/\((kY n s i l).1=false->e= -1):=by
 intro n
 induction n with
 |zero=>intro n' i l h1 h2 h3;omega
 |succ n ih=>
  intro n' i l hi hn hn'
  obtain ⟨n',rfl⟩: ∃j,n' =j+1:=⟨n' -1,by omega⟩
  show ∃p e,jA.b k (jA.g k n') s (i:Int)=some (p,e)/\_
  by_cases iS:i<s.size
  ·have hc:=yj iS
   obtain ⟨b,hb⟩:=O9 s i
   have hr:(decide ((0:Int)<=(i:Int))&&decide ((i:Int)<(s.size:Int)))=true:=bA ae ae
   have ht:((i:Int)).toNat=i:=aa i
   unfold jA.b
   rw[br aC,bW hr,ht,aK]
   by_cases h33:sb s i=33
   ·
    obtain ⟨p,e,h1,h2,h3,h4⟩:=ih n' (i+1) l (by omega) (by omega) (by omega)
    refine ⟨p++[-1],e,?_,by simp;omega,?_⟩
    ·rw[h33]
     refine bT rfl (bS h1 ?_)
     exact bW (nY (by show p.length+1<=_;omega))
    ·unfold kY
     rw[hc,h33,aD (by decide),aS rfl]
     revert h3 h4
     rcases kY n s (i+1) l with ⟨ok,i1,l1⟩
     intro h3 h4
     cases ok with
     |false=>exact ⟨fun h=>(by cases h),fun _=>h4 rfl⟩
     |true=>
      obtain ⟨a1,a2⟩:=h3 rfl
      refine ⟨fun _=>⟨?_,a2⟩,fun h=>(by cases h)⟩
      show l1++[-1] =l++(p++[-1])
      rw[<- bp]
      exact congrArg (· ++[-1]) a1
   rw[br (int_ne h33),bW hr]
   unfold kY
   rw[hc]
   by_cases h0:sb s i=0
   ·
    rw[h0,aS rfl,show ((0:Int)==40)=false from rfl,an,hr,jg,show ((0:Int)==114)=false from rfl,an,jg]
    have e1:=eg.eq hk (s:=HC) 0 (by decide)
    have e2:=eg.eq hk (s:=xu) 0 (by decide)
    have e1:eg.f k (wZ:BA) 0=some (-1):=e1.trans (by decide+kernel)
    have e2:eg.f k (oU:BA) 0=some (-1):=e2.trans (by decide+kernel)
    rw[e1,aO,show decide ((-1:Int)>=0)=false from rfl,an,jg,e2,aO,show decide ((-1:Int)<0)=true from rfl,ak]
    exact ⟨[],-1,rfl,by simp;omega,fun h=>(by cases h),fun _=>rfl⟩
   rw[aD h0,aD h33]
   by_cases h40:sb s i=40
   ·
    rw[aS h40,show (sb s i==40)=true by rw[h40];rfl,ak]
    obtain ⟨p,e,h1,h2,h3,h4⟩:=ih n' (i+1) l (by omega) (by omega) (by omega)
    have g1:=sk s n (i+1) l
    unfold AE
    rw[h1,aO]
    dsimp only
    revert h3 h4 g1
    rcases kY n s (i+1) l with ⟨ok,i1,l1⟩
    intro h3 h4 g1
    cases ok with
    |false=>
     obtain rfl:=h4 rfl
     exact ⟨[],-1,rfl,by simp;omega,fun h=>(by cases h),fun _=>rfl⟩
    |true=>
     obtain ⟨a1,rfl⟩:=h3 rfl
     have a1:l1=l++p:=a1
     obtain ⟨c1,c2,c3⟩:=g1 i1 l1 (by omega) rfl
     have q1:p.length+(i+1)<=i1:=by rw[a1,au] at c3;omega
     dsimp only
     rw[aC (p:=(i1:Int)<0) (by omega),an]
     by_cases ZV:i1<s.size
     ·have hr1:(decide ((0:Int)<=(i1:Int))&&decide ((i1:Int)<(s.size:Int)))=true:=bA ae ae
      have Wk:((i1:Int)).toNat=i1:=aa i1
      have Xy:=yj ZV
      rw[aC (p:=(i1:Int)>=(s.size:Int)) (by omega),an,hr1,jg,Xy,aK (i:=i1) (by omega)]
      obtain ⟨p',e',k1,k2,k3,k4⟩:=ih n' (i1+1) l1 (by omega) (by omega) (by omega)
      have g2:=sk s n (i1+1) l1
      revert k3 k4 g2
      rcases kY n s (i1+1) l1 with ⟨Se,i2,l2⟩
      intro k3 k4 g2
      by_cases U7:sb s i1=38
      ·rw[aS (Or.inl U7)]
       rw[Wk,U7,show ((38:Int) != 38)=false from rfl,an,k1,aO]
       dsimp only
       cases Se with
       |false=>
        obtain rfl:=k4 rfl
        exact ⟨[],-1,rfl,by simp;omega,fun h=>(by cases h),fun _=>rfl⟩
       |true=>
        obtain ⟨b1,rfl⟩:=k3 rfl
        have b1:l2=l1++p':=b1
        obtain ⟨d1,d2,d3⟩:=g2 i2 l2 (by omega) rfl
        have q2:p'.length+(i1+1)<=i2:=by rw[b1,au] at d3;omega
        dsimp only
        rw[aC (p:=(i2:Int)<0) (by omega),an]
        by_cases D8:i2<s.size
        ·have ZW:(decide ((0:Int)<=(i2:Int))&&decide ((i2:Int)<(s.size:Int)))=true:=bA ae ae
         rw[aC (p:=(i2:Int)>=(s.size:Int)) (by omega),an,ZW,jg,show ((i2:Int)).toNat=i2 from aa i2,yj D8]
         by_cases XF:sb s i2=41
         ·rw[XF,aS rfl,show ((41:Int) != 41)=false from rfl,an,jg,show ((38:Int)==124)=false from rfl,an,nY,jg,nY (by rw[au];omega),jg,aK]
          exact ⟨_,_,rfl,by simp;omega,fun _=>⟨by rw[b1,a1];simp,rfl⟩,fun h=>(by cases h)⟩
         ·rw[aD XF,show (sb s i2 != 41)=true by simp[XF],ak]
          exact ⟨[],-1,rfl,by simp;omega,fun h=>(by cases h),fun _=>rfl⟩
        ·rw[ae (p:=(i2:Int)>=(s.size:Int)) (by omega),ak,show fB s i2=0 by unfold fB;rw[dif_neg D8],aD (by decide)]
         exact ⟨[],-1,rfl,by simp;omega,fun h=>(by cases h),fun _=>rfl⟩
      replace U7:=(⟨U7,trivial⟩: ¬sb s i1=38/\True)
      obtain ⟨hno,_⟩:=U7
      by_cases U7:sb s i1=124
      ·rw[aS (Or.inr U7)]
       rw[Wk,U7,show ((124:Int) != 38)=true from rfl,ak,jg,show ((124:Int) != 124)=false from rfl,an,k1,aO]
       dsimp only
       cases Se with
       |false=>
        obtain rfl:=k4 rfl
        exact ⟨[],-1,rfl,by simp;omega,fun h=>(by cases h),fun _=>rfl⟩
       |true=>
        obtain ⟨b1,rfl⟩:=k3 rfl
        have b1:l2=l1++p':=b1
        obtain ⟨d1,d2,d3⟩:=g2 i2 l2 (by omega) rfl
        have q2:p'.length+(i1+1)<=i2:=by rw[b1,au] at d3;omega
        dsimp only
        rw[aC (p:=(i2:Int)<0) (by omega),an]
        by_cases D8:i2<s.size
        ·have ZW:(decide ((0:Int)<=(i2:Int))&&decide ((i2:Int)<(s.size:Int)))=true:=bA ae ae
         rw[aC (p:=(i2:Int)>=(s.size:Int)) (by omega),an,ZW,jg,show ((i2:Int)).toNat=i2 from aa i2,yj D8]
         by_cases XF:sb s i2=41
         ·rw[XF,aS rfl,show ((41:Int) != 41)=false from rfl,an,jg,show ((124:Int)==124)=true from rfl,ak,nY,jg,nY (by rw[au];omega),jg,aK]
          exact ⟨_,_,rfl,by simp;omega,fun _=>⟨by rw[b1,a1];simp,rfl⟩,fun h=>(by cases h)⟩
         ·rw[aD XF,show (sb s i2 != 41)=true by simp[XF],ak]
          exact ⟨[],-1,rfl,by simp;omega,fun h=>(by cases h),fun _=>rfl⟩
        ·rw[ae (p:=(i2:Int)>=(s.size:Int)) (by omega),ak,show fB s i2=0 by unfold fB;rw[dif_neg D8],aD (by decide)]
         exact ⟨[],-1,rfl,by simp;omega,fun h=>(by cases h),fun _=>rfl⟩
      ·rw[aD (by rintro (h|h)<;>contradiction),Wk,Pa hno,ak,jg,Pa U7,ak]
       exact ⟨[],-1,rfl,by simp;omega,fun h=>(by cases h),fun _=>rfl⟩
     ·rw[ae (p:=(i1:Int)>=(s.size:Int)) (by omega),ak,show fB s i1=0 by unfold fB;rw[dif_neg ZV],aD (by decide)]
      exact ⟨[],-1,rfl,by simp;omega,fun h=>(by cases h),fun _=>rfl⟩
   rw[aD h40,int_ne h40,an,hr,jg]
   by_cases U8:sb s i=114
   ·rw[aS U8,show (sb s i==114)=true by rw[U8];rfl,ak]
    exact ⟨[400],_,rfl,by simp;omega,fun _=>⟨rfl,rfl⟩,fun h=>(by cases h)⟩
   rw[aD U8,int_ne U8,an,jg,hb,O_,JM]
   have e1:eg.f k (wZ:BA) (b.toNat:Int)=_:=eg.eq hk (s:=HC) b (by decide)
   have e2:eg.f k (oU:BA) (b.toNat:Int)=_:=eg.eq hk (s:=xu) b (by decide)
   obtain ⟨r1,r2⟩:=EJ (b.toNat:Int)
   obtain ⟨r3,r4⟩:=EK (b.toNat:Int)
   rw[O_] at r1 r2
   rw[JM] at r3 r4
   rw[e1,aO]
   by_cases YX:0<=Go.Lib.indexByte HC.data.toList b
   ·rw[aS YX,ae (p:=Go.Lib.indexByte HC.data.toList b>=0) YX,ak,wrap_i64]
    exact ⟨_,_,rfl,by simp;omega,fun _=>⟨rfl,rfl⟩,fun h=>(by cases h)⟩
   rw[aD YX,aC (p:=Go.Lib.indexByte HC.data.toList b>=0) YX,an,jg,e2,aO]
   by_cases YY:Go.Lib.indexByte xu.data.toList b<0
   ·rw[aS YY,ae YY,ak]
    exact ⟨[],-1,rfl,by simp;omega,fun h=>(by cases h),fun _=>rfl⟩
   rw[aD YY,aC YY,an,wrap_i64 (n:=300+_),wrap_i64 (n:=200+_)]
   by_cases D8:i+1<s.size
   ·rw[ae (p:=((i+1:Nat):Int)<(s.size:Int)) (by omega),ak,ae (p:=(0:Int)<=((i+1:Nat):Int)) (by omega),Bool.true_and,jg,show (((i+1:Nat):Int)).toNat=i+1 from aa _,yj D8]
    by_cases YW:sb s (i+1)=43
    ·rw[aS YW,show (sb s (i+1)==43)=true by rw[YW];rfl,ak,wrap_i64 (n:=(i:Int)+2)]
     exact ⟨_,_,rfl,by simp;omega,fun _=>⟨rfl,by show (i:Int)+2=((i+1+1:Nat):Int);omega⟩,fun h=>(by cases h)⟩
    ·rw[aD YW,int_ne YW,an]
     exact ⟨_,_,rfl,by simp;omega,fun _=>⟨rfl,rfl⟩,fun h=>(by cases h)⟩
   ·rw[aC (p:=((i+1:Nat):Int)<(s.size:Int)) (by omega),an,show fB s (i+1)=0 by unfold fB;rw[dif_neg D8],aD (by decide)]
    exact ⟨_,_,rfl,by simp;omega,fun _=>⟨rfl,rfl⟩,fun h=>(by cases h)⟩
  ·have h0:fB s i=0:=by unfold fB;rw[dif_neg iS]
   unfold kY
   rw[aS h0]
   exact ⟨[],-1,jV ae,by simp;omega,fun h=>(by cases h),fun _=>rfl⟩
def Rw (s:BA) (rd:Nat->LI->Bool×Nat×LI):Prop:= ∀i l i' l',i<=s.size->rd i l=(true,i',l')->(l'.map B7).sum+i=(l.map B7).sum+i'
theorem yk (l:LI) (a:Int):((l++[a]).map B7).sum=(l.map B7).sum+B7 a:=by simp
theorem SC {rd:Nat->LI->Bool×Nat×LI} {s:BA} (h:Rw s rd) (h':Rd s rd): ∀i l i' l',i<=s.size->AE rd s i l=(true,i',l')->(l'.map B7).sum+i=(l.map B7).sum+i' +1:=by
 intro i l i' l' hi hr
 unfold AE at hr
 split at hr
 ·cases hr
 ·rename_i i1 l1 e1
  have g:=h i l i1 l1 hi e1
  obtain ⟨g1,g2,g3⟩:=h' i l i1 l1 hi e1
  split at hr
  ·rename_i hc
   have iS:i1<s.size:=pW (by rcases hc with e|e<;>rw[e]<;>decide)
   split at hr
   ·cases hr
   ·rename_i i2 l2 e2
    have k:=h _ l1 i2 l2 (by omega) e2
    split at hr
    ·cases hr
     rw[yk]
     have:B7 (if fB s i1=38 then-2 else-3)=3:=by split<;>rfl
     omega
    ·cases hr
  ·cases hr
theorem SD (s:BA): ∀k,Rw s (kY k s):=by
 intro k
 induction k with
 |zero=>intro i l i' l' _ h;cases h
 |succ k ih=>
  intro i l i' l' hi hr
  unfold kY at hr
  split at hr
  ·cases hr
  rename_i h0
  have iS:=pW h0
  obtain ⟨r1,r2⟩:=EJ (fB s i)
  obtain ⟨r3,r4⟩:=EK (fB s i)
  have r5:xa (fB s i)<=12:=by
   obtain ⟨b,hb⟩:=O9 s i
   rw[yj iS,hb,JM]
   have:=EY (p:=fun b=>decide (Go.Lib.indexByte xu.data.toList b<=12)) (by decide+kernel) b
   exact ao this
  split at hr
  ·split at hr
   ·cases hr
   ·rename_i i1 l1 e1
    have g:=ih _ l i1 l1 (by omega) e1
    cases hr
    rw[yk,show B7 (-1)=1 from rfl];omega
  split at hr
  ·have g:=SC ih (sk s k) _ l i' l' (by omega) hr
   omega
  split at hr
  ·cases hr;rw[yk,show B7 400=1 from rfl];omega
  split at hr
  ·cases hr
   rename_i YX
   rw[yk]
   have:B7 (100+C8 (fB s i))=1:=by unfold B7;rw[aD (by omega),aD (by omega),aD (by omega)]
   omega
  split at hr
  ·cases hr
  rename_i YY
  split at hr
  ·cases hr
   rw[yk]
   have:B7 (300+xa (fB s i))=2:=by unfold B7;rw[aD (by omega),aD (by omega),aS (by omega)]
   omega
  ·cases hr
   rw[yk]
   have:B7 (200+xa (fB s i))=1:=by unfold B7;rw[aD (by omega),aD (by omega),aD (by omega)]
   omega
theorem iZ.eq (hk:cy<=k) {s:BA} (hs:s.size<1048577):iZ.f k s=some (gI s):=by
 have hB:cy=1073741824:=rfl
 unfold iZ.f
 by_cases ZX:(s.size:Int)>200
 ·rw[jV (ae ZX)]
  unfold gI
  rw[show Nat.ble s.size 100=false from Bool.eq_false_iff.2 (fun e=>by have:=bD e;omega)];rfl
 rw[br (aC ZX)]
 obtain ⟨p,e,h1,h2,h3,h4⟩:=U6 hk (s:=s) (by omega) (s.size+1) k 0 [] (Nat.zero_le _) (by omega) (by omega)
 refine bS h1 ?_
 have hw:=SD s (s.size+1) 0 []
 have hd:=sk s (s.size+1) 0 []
 have hr:oz s=kY (s.size+1) s 0 []:=rfl
 revert h3 h4 hw hd hr
 rcases kY (s.size+1) s 0 [] with ⟨ok,i1,l1⟩
 intro h3 h4 hw hd hr
 have SE: ∀ {X:Option (LI×Bool)},((kH (oz s).2.2).toList==s.toList)=false\/(oz s).1=false->(some ([],false):Option (LI×Bool))=some (gI s):=fun {X} h=>by
  unfold gI
  rcases h with h|h
  ·rw[h,Bool.and_false];rfl
  ·rw[h,Bool.and_false,Bool.false_and];rfl
 cases ok with
 |false=>
  obtain rfl:=h4 rfl
  have hf:=SE (X:=none) (.inr (by rw[hr]))
  cases s.toList==bE.toList with
  |true=>exact bT rfl hf
  |false=>exact bF rfl (bT (Pa (by show ¬(-1:Int)=(s.size:Int);omega)) hf)
 |true=>
  obtain ⟨a1,rfl⟩:=h3 rfl
  have a1:l1=p:=a1
  subst a1
  obtain ⟨d1,d2,d3⟩:=hd i1 l1 (Nat.zero_le _) rfl
  have w1:=hw i1 l1 (Nat.zero_le _) rfl
  have D9:0<s.size:=by
   rcases bf s.size with hz|hz
   ·exfalso
    have:oz s=(false,1,[]):=by
     unfold oz kY
     rw[show fB s 0=0 by unfold fB;rw[dif_neg (by omega)],aS rfl]
    rw[hr] at this
    cases this
   ·exact hz
  have nL:(s.toList==bE.toList)=false:=by
   rw[ju]
   exact aC fun e=>by
    have:s.size=0:=by rw[<- fC,e];rfl
    omega
  refine bF nL ?_
  simp only[List.map_nil,List.sum_nil] at w1
  simp only[List.length_nil] at d3
  by_cases hi:i1=s.size
  ·subst hi
   refine bF (by simp) (bS (bL.eq hk (l:=l1) (by omega)) ?_)
   cases ht:(kH l1).toList==s.toList with
   |false=>exact bT rfl (SE (X:=none) (.inl (by rw[hr];exact ht)))
   |true=>
    refine bF rfl ?_
    have oX:s.size<=60:=by
     rw[ju] at ht
     have:=congrArg List.length (ao ht)
     rw[fC,fC] at this
     have:=Ff l1
     omega
    unfold gI
    rw[hr,show Nat.ble s.size 100=true from Nat.ble_eq_true_of_le (by omega)]
    show _=some (bif true&&true&&((kH l1).toList==s.toList) then (l1,true) else ([],false))
    rw[ht];rfl
  ·refine bT (Pa (by show ¬(i1:Int)=(s.size:Int);omega)) (SE (X:=none) (.inl ?_))
   rw[hr,ju]
   refine aC fun e=> ?_
   have e:=congrArg List.length e
   rw[fC,fC] at e
   have e:(kH l1).size=s.size:=e
   cases hp:jf l1 with
   |true=>rw[AX hp] at e;omega
   |false=>
    unfold kH at e
    rw[hp] at e
    have e:bE.size=s.size:=e
    have:bE.size=0:=rfl
    omega
def JN (c:Int) (w:BA) (ns l:LI):Bool×LI×LI:=bif c==78 then ((bw w).2,ns++[(bw w).1],l) else bif c==99 then (decide (cZ w>=0),ns++[cZ w],l) else bif c==104 then ((aU w).2,ns,(aU w).1) else ((gI w).2,ns,(gI w).1)
def Pb (s:BA):List BA->Nat->LI->LI->LI×LI×Bool
 | [],_,ns,l=>(ns,l,true)
 |w::ws,i,ns,l=>bif (JN (sb s i) w ns l).1 then Pb s ws (i+1) (JN (sb s i) w ns l).2.1 (JN (sb s i) w ns l).2.2 else ([],[],false)
def operands (s:BA) (ws:List BA):LI×LI×Bool:=bif (ws.length:Int) != (s.size:Int) then ([],[],false) else Pb s ws 0 [] []
theorem gB.eq (hk:cy<=k) {s:BA} {ws:List BA} (hl:ws.length<1048577) (hs: ∀w∈ws,w.size<1048577):gB.f k s ws=some (operands s ws):=by
 unfold operands
 cases hc:((ws.length:Int) != (s.size:Int)) with
 |true=>exact jV hc
 |false=>
  have he:(ws.length:Int)=(s.size:Int):=by simpa using hc
  refine bF hc ?_
  have key: ∀(m i n:Nat) (ns l:LI),i+m=ws.length->m<n->ns.length<=i->gB.l5 k s ws (ws.length:Int) (fun x5 x6=>some (([]:LI),([]:LI),false)) (fun x7 x8=>some (x7,x8,true)) n (i:Int) ns l=some (Pb s (ws.drop i) i ns l):=by
   intro m
   induction m with
   |zero=>
    intro i n ns l hi hn U9
    obtain ⟨n,rfl⟩: ∃n',n=n' +1:=⟨n-1,by omega⟩
    rw[List.drop_of_length_le (by omega)]
    exact xr rfl (br aC)
   |succ m ih=>
    intro i n ns l hi hn U9
    obtain ⟨n,rfl⟩: ∃n',n=n' +1:=⟨n-1,by omega⟩
    have tu:i<ws.length:=by omega
    have hw:=hs ws[i] (aj tu)
    refine xr rfl (bT ae (cT (cg tu) (cT (cg (show i<s.size by omega)) ?_)))
    rw[aa,aN _ tu,aK,drop_cons tu]
    unfold Pb
    unfold JN
    cases sb s i==78 with
    |true=>
     refine bT rfl (bS (kV.eq hw) (cT (nY) ?_))
     simp only[ak]
     cases (bw ws[i]).2 with
     |false=>rfl
     |true=>exact bF rfl (ih (i+1) n _ _ (by omega) (by omega) (by simp;omega))
    |false=>
     refine bF rfl ?_
     cases sb s i==99 with
     |true=>
      refine bT rfl (bS (fF.eq ..) (cT (nY) ?_))
      simp only[ak,an]
      cases decide (cZ ws[i]>=0) with
      |false=>rfl
      |true=>exact bF rfl (ih (i+1) n _ _ (by omega) (by omega) (by simp;omega))
     |false=>
      refine bF rfl ?_
      cases sb s i==104 with
      |true=>
       refine bT rfl (bS (eN.eq hk hw) ?_)
       simp only[ak,an]
       cases (aU ws[i]).2 with
       |false=>rfl
       |true=>exact bF rfl (ih (i+1) n _ _ (by omega) (by omega) (by omega))
      |false=>
       refine bF rfl (bS (jN.eq hk hw) ?_)
       simp only[ak,an]
       cases (gI ws[i]).2 with
       |false=>rfl
       |true=>exact bF rfl (ih (i+1) n _ _ (by omega) (by omega) (by omega))
  exact key ws.length 0 k [] [] (by omega) (cd hk hl) (by simp)
def qM (s o:BA):BA:=bif s.toList==bE.toList then o else s
theorem iY.eq (k:Nat) (s o:BA):iY.f k s o=some (qM s o):=by
 unfold iY.f qM
 cases s.toList==bE.toList<;>rfl
theorem jt.eq (k:Nat) (s:BA):jt.f k s=some (qM s K3):=by
 unfold jt.f qM
 cases s.toList==bE.toList<;>rfl
def vF:List BA:=[D1,H3,rj,Az,H4,w7,zL,D2,B6,ri,Nc,qw,zb,B_,D5,Cb,Hk,yK,zM]
theorem bB {w x:BA} (h:w≠x):(w.toList==x.toList)=false:=by
 rw[ju]
 exact aC fun e=>h (uJ e)
theorem HD (k:Nat) {w:BA} (h:w∉vF):dy.f k w=some (bE,false):=by
 unfold vF at h
 simp only[cL,cA,or_false,not_or] at h
 obtain ⟨h1,h2,h3,h4,h5,h6,h7,h8,h9,UH,h11,M6,Ux,h14,h15,Xv,h17,h18,h19⟩:=h
 unfold dy.f
 rw[bB h1,bB h2,bB h3,bB h4,bB h5,bB h6,bB h7,bB h8,bB h9,bB UH,bB h11,bB M6,bB Ux,bB h14,bB h15,bB Xv,bB h17,bB h18,bB h19]
 rfl
theorem dp.eq (hk:cy<=k) {r:Rl} (hr:r.sm) {l:LI} (hl:l.length<1048577) (sy:Int):r.ap (dp.f k) l sy=some (xl r.ok r.n l sy):=by
 refine bS (vp hk hr) ?_
 unfold xl
 cases r.ok with
 |false=>rfl
 |true=>
  cases hn:((l.length:Int) != r.n) with
  |true=>exact bF rfl (jV rfl)
  |false=>
   refine bF rfl (bF rfl ?_)
   have h:=scan (B:=List (List iQ)×LI) l (fun m b i=>dp.l5 k sy l (l.length:Int) (fun x3 x4=>(bh.f k l).bind fun r5=>bY (decide ((x3.length+1)*64<=room))<|some (x3++([[.int (2:Int),.int (0:Int),.ints r5,.ints x4]]))) m i b.1 b.2) (fun _ _=>true) (zj sy) (fun b=>some (b.1++[[.int 2,.int 0,.ints l,.ints b.2]])) (fun _ _=>none) (fun i b=>b.1.length=i/\b.2.length=i)
    (fun m b i h hI=>by
      obtain ⟨Y3,hI2⟩:=hI
      refine (dp.pQ ..).trans (bT ae (cT (cg h) ?_))
      rw[aa,aN _ h]
      refine bS (jL.eq hk ..) (cT (ae (by simp[room];omega)) (cT (ae (by simp[room];omega)) ?_))
      rw[aK]
      subst Y3
      rfl)
    (fun b i h hI _=>by simp[zj];omega)
    (fun m b hI=>(dp.pQ ..).trans (bF aC (bS (bh.eq k hl) (cT (ae (by simp[room];omega)) rfl))))
    l.length 0 k ([],[]) (by omega) (cd hk hl) (by simp)
   refine h.trans ?_
   rw[ah,bX]
   rfl
def qZ:Rl:=⟨3,5,true,true,[206],[212],1,200⟩
theorem Fg:qZ.ok=true:=by decide+kernel
theorem sC:qZ.sm:=⟨by decide,by decide⟩
def sD:Tb:=⟨qZ,[],false,[],Da,[],[]⟩
theorem Qk:sD.sm:=⟨sC,by show ([]:LI).length<_;simp,by show ([]:LI).length<_;simp,xi,by show ([]:LI).length<_;simp,by show ([]:LL).length<_;simp,fun y hy=>by cases hy⟩
theorem SF (hk:cy<=k):qZ.ap (oT.f k)=some (sD.wF true):=by
 refine bS (vp hk sC) ?_
 rw[Fg]
 exact bF rfl (bN (df.eq k sC))
theorem SG (hk:cy<=k):qZ.ap (nC.f k)=some (sD.wF true):=by
 refine bS (vo hk sC) ?_
 rw[Fg]
 exact bF rfl (bN (gf.eq k sC))
def pZ:List (List iQ)->Tb->Option Tb
 | [],t=>some t
 |e::l,t=>bif (iW t (gi e 0) (gi e 1) (gl e 2) (gl e 3)).2 then pZ l (iW t (gi e 0) (gi e 1) (gl e 2) (gl e 3)).1 else none
theorem Ix: ∀(l:List (List iQ)) {t u:Tb},t.sm->pZ l t=some u->u.sm
 | [],t,u,h,e=>by cases e;exact h
 |e::l,t,u,h,e1=>by
  unfold pZ at e1
  cases hb:(iW t (gi e 0) (gi e 1) (gl e 2) (gl e 3)).2 with
  |true=>rw[hb] at e1;exact Ix l (tX h ..) e1
  |false=>rw[hb] at e1;cases e1
def orZ {R:Type} (o:Option Tb) (f:Tb->Option R) (z:Option R):Option R:=match o with
 |some u=>f u
 |none=>z
theorem bO.loop (hk:cy<=k) (es:List (List iQ)) (hs:es.length<1048577) (e0 e1:Int->Int->Bool->Bool->Int->Int->Bool->Int->Int->Bool->Bool->Int->Int->Int->Int->Int->LI->LI->LI->LI->LI->LI->LL->LI->LI->LI->LL->Option R) (Z:Option R) (he: ∀u:Tb,u.pm e0=Z): ∀(m i n:Nat) (t:Tb),t.sm->i+m=es.length->m<n->t.pm (bO.l7 k (es.length:Int) es e0 e1 n (i:Int))=orZ (pZ (es.drop i) t) (fun u=>u.pm e1) Z
 |m,i,0,t,_,_,h=>absurd h (by omega)
 |0,i,n+1,t,ht,hi,_=>by
  rw[aZ (by omega)]
  exact bF aC rfl
 |m+1,i,n+1,t,ht,hi,hn=>by
  have hq:i<es.length:=by omega
  rw[drop_cons hq]
  have et:es.getD ((i:Int)).toNat [] =es[i]:=by rw[aa,aN [] hq]
  have ha:=kN.eq hk ht (gi es[i] 0) (gi es[i] 1) (gl es[i] 2) (gl es[i] 3)
  have NE:=tX ht (gi es[i] 0) (gi es[i] 1) (gl es[i] 2) (gl es[i] 3)
  unfold pZ
  generalize iW t (gi es[i] 0) (gi es[i] 1) (gl es[i] 2) (gl es[i] 3)=q at ha NE ⊢
  have ih:=bO.loop hk es hs e0 e1 Z he m (i+1) n q.1 NE (by omega) (by omega)
  rw[<- aK] at ih
  rw[<- et] at ha
  refine bT ae (cT (cg hq) (bS ha ?_))
  cases hb:q.2 with
  |false=>exact bT rfl (he t)
  |true=>exact bF rfl ih
theorem fO.loop (hk:cy<=k) {s:Tb} (hss:s.sm) (es:List (List iQ)) (hs:es.length<1048577) (e0:Int->Int->Bool->Bool->Int->Int->Bool->Int->Int->Bool->Bool->Int->Int->Int->Int->Int->LI->LI->LI->LI->LI->LI->LL->LI->LI->LI->LL->Int->Int->Bool->Bool->Int->Int->Bool->Int->Int->Bool->Bool->Int->Int->Int->Int->Int->LI->LI->LI->LI->LI->LI->LL->LI->LI->LI->LL->Option R) (e1:Int->Int->Bool->Bool->Int->Int->Bool->Int->Int->Bool->Bool->Int->Int->Int->Int->Int->LI->LI->LI->LI->LI->LI->LL->LI->LI->LI->LL->Option R) (Z:Option R) (he: ∀u:Tb,u.pm (s.pm e0)=Z): ∀(m i n:Nat) (t:Tb),t.sm->i+m=es.length->m<n->t.pm (s.ap (fO.l4 k) es e0 e1 n (i:Int))=orZ (pZ (es.drop i) t) (fun u=>u.pm e1) Z
 |m,i,0,t,_,_,h=>absurd h (by omega)
 |0,i,n+1,t,ht,hi,_=>by
  rw[aZ (by omega)]
  exact bF aC rfl
 |m+1,i,n+1,t,ht,hi,hn=>by
  have hq:i<es.length:=by omega
  rw[drop_cons hq]
  have et:es.getD ((i:Int)).toNat [] =es[i]:=by rw[aa,aN [] hq]
  have ha:=kQ.eq hk ht (gi es[i] 0) (gi es[i] 1) (gl es[i] 2) (gl es[i] 3)
  have NE:=tX ht (gi es[i] 0) (gi es[i] 1) (gl es[i] 2) (gl es[i] 3)
  unfold pZ
  generalize iW t (gi es[i] 0) (gi es[i] 1) (gl es[i] 2) (gl es[i] 3)=q at ha NE ⊢
  have ih:=fO.loop hk hss es hs e0 e1 Z he m (i+1) n q.1 NE (by omega) (by omega)
  rw[<- aK] at ih
  rw[<- et] at ha
  refine bT ae (cT (cg hq) (bS ha ?_))
  cases hb:q.2 with
  |false=>exact bT rfl (bS (bm.eq hk hss) (he t))
  |true=>exact bF rfl ih
def zo (ns:LI):List (List iQ):=xl qZ.ok qZ.n ns 5
def tZ (t:Tb) (ns:LI):Option Tb:=pZ (zo ns) t
theorem Iy {ns:LI} (h:ns.length<1000000):(zo ns).length<1048577:=by
 have:=Nv qZ.ok qZ.n ns 5
 show (xl qZ.ok qZ.n ns 5).length<_
 omega
abbrev T28:Type:=Int×Int×Bool×Bool×LI×LI×Int×Int×LI×Bool×LI×Int×Int×Bool×Bool×LI×LI×Int×Int×LL×LI×LI×Int×Int×Int×LI×LL×Bool
def NF (t:Tb) (r:Bool×T28) (o:Option Tb):Prop:=(∃(u:Tb) (b:Bool),r=(true,u.wF b)/\o=bif b then some u else none)\/(r=(false,t.wF false)/\o=none)
def vG (p:Tb×Bool):Option Tb:=bif p.2 then some p.1 else none
theorem fO.eq (hk:cy<=k) {t:Tb} (h:t.sm) {ns:LI} (hn:ns.length<1000000):t.ap (fO.f k) ns=some (match tZ t ns with|some u=>u.wF true|none=>t.wF false):=by
 have hd:=dt.eq hk sC (l:=ns) (by omega) 5
 have hl:=Iy hn
 have lp:=fun e0 e1 Z he=>fO.loop (R:=T28) hk h (zo ns) hl e0 e1 Z he (zo ns).length 0 k t h (by omega) (cd hk hl)
 rw[ah] at lp
 unfold tZ
 refine bS (bm.eq hk h) (bS (a:=qZ.tp) rfl (bS hd ?_))
 refine (lp _ _ (some (t.wF false)) (fun u=>rfl)).trans ?_
 cases pZ (zo ns) t<;>rfl
theorem NG (hk:cy<=k) {t:Tb} (h:t.sm) {ns:LI} (hn:ns.length<1000000): ∃r,t.ap (bO.f k) Nc ns=some r/\NF t r (tZ t ns):=by
 have hd:=dp.eq hk sC (l:=ns) (by omega) 5
 have hl:=Iy hn
 have lp:=fun e0 e1 Z he=>bO.loop (R:=Bool×T28) hk (zo ns) hl e0 e1 Z he (zo ns).length 0 k t h (by omega) (cd hk hl)
 rw[ah] at lp
 have pre:t.ap (bO.f k) Nc ns=orZ (pZ (zo ns) t) (fun u=>some (true,u.wF true)) (some (false,t.wF false)):=by
  refine bF (by decide+kernel) (bT (by decide+kernel) (bS (ar.eq hk h) (bS (a:=qZ.tp) rfl (bS hd ?_))))
  refine (lp _ _ (some (false,t.wF false)) (fun u=>rfl)).trans ?_
  cases pZ (zo ns) t<;>rfl
 unfold tZ
 rw[pre]
 cases pZ (zo ns) t with
 |none=>exact ⟨_,rfl,.inr ⟨rfl,rfl⟩⟩
 |some u=>exact ⟨_,rfl,.inl ⟨u,true,rfl,rfl⟩⟩
theorem bO.new (hk:cy<=k) {t:Tb} (ns:LI): ∃r,t.ap (bO.f k) D1 ns=some r/\NF t r (some sD):=
 ⟨_,bT (by decide+kernel) (bS (a:=qZ.tp) rfl (bS (SF hk) rfl)),.inl ⟨sD,true,rfl,rfl⟩⟩
theorem AZ {t:Tb} (p:Tb×Bool):NF t (true,p.1.wF p.2) (vG p):= .inl ⟨p.1,p.2,rfl,rfl⟩
theorem bO.acd (hk:cy<=k) {t:Tb} (h:t.sm) (c:Int): ∃r,t.ap (bO.f k) qw [c] =some r/\NF t r (vG (iU t c)):=by
 have he:=iv.eq hk h c
 generalize iU t c=p at he
 exact ⟨_,bF (by decide+kernel) (bF (by decide+kernel) (bT (by decide+kernel) (cT (ae (by simp)) (bS he rfl)))),AZ p⟩
theorem bO.take (hk:cy<=k) {t:Tb} (h:t.sm) (ns:LI): ∃r,t.ap (bO.f k) H3 ns=some r/\NF t r (vG (gU t (-1))):=by
 have he:=iw.eq hk h
 generalize gU t (-1)=p at he
 exact ⟨_,bF (by decide+kernel) (bF (by decide+kernel) (bF (by decide+kernel) (bT (by decide+kernel) (bS he rfl)))),AZ p⟩
theorem bO.settle (hk:cy<=k) {t:Tb} (h:t.sm) (ns:LI): ∃r,t.ap (bO.f k) rj ns=some r/\NF t r (vG (hU t)):=by
 have he:=iy.eq hk h
 generalize hU t=p at he
 exact ⟨_,bF (by decide+kernel) (bF (by decide+kernel) (bF (by decide+kernel) (bF (by decide+kernel) (bT (by decide+kernel) (bS he rfl))))),AZ p⟩
def o4 (t:Tb) (n:Int):Tb×Bool:=bif choice t.g n != -1 then iU t (choice t.g n) else gU t (-1)
theorem bO.ace (hk:cy<=k) {t:Tb} (h:t.sm) (n:Int): ∃r,t.ap (bO.f k) zb [n] =some r/\NF t r (vG (o4 t n)):=by
 have hc:=iz.eq hk h.2.2.2.1 n
 have h1:=iv.eq hk h (choice t.g n)
 have h2:=iw.eq hk h
 have pre: ∀X,_=X->t.ap (bO.f k) zb [n] =X:=fun X hX=>bF (by decide+kernel) (bF (by decide+kernel) (bF (by decide+kernel) (bF (by decide+kernel) (bF (by decide+kernel) (cT (ae (by simp)) (bS hc hX))))))
 unfold o4
 cases hb:(choice t.g n != -1) with
 |true=>
  generalize iU t (choice t.g n)=p at h1
  exact ⟨_,pre _ (bT hb (bS h1 rfl)),AZ p⟩
 |false=>
  generalize gU t (-1)=p at h2
  exact ⟨_,pre _ (bF hb (bS h2 rfl)),AZ p⟩
theorem Ql {g:Gm} {n:Int}:choice g n= -1\/0<=choice g n:=by
 rcases P_ g n with h|h
 ·exact .inl h
 ·exact .inr (cU.1 (oZ h)).1
theorem nj.eq (hk:cy<=k) {t:Tb} (h:t.sm) (n:Int):t.ap (nj.f k) n=some ((o4 t n).1.wF (o4 t n).2):=by
 have hc:=iJ.eq hk h.2.2.2.1 n
 have h1:=gY.eq hk h (choice t.g n)
 have h2:=gZ.eq hk h
 refine bS hc ?_
 unfold o4
 rcases Ql (g:=t.g) (n:=n) with e|e
 ·rw[e]
  have e2:((-1:Int) != -1)=false:=by decide
  rw[e2]
  generalize gU t (-1)=p at h2
  exact bT (by decide) (bS h2 rfl)
 ·have e2:(choice t.g n != -1)=true:=by simp;omega
  rw[e2]
  generalize iU t (choice t.g n)=p at h1
  exact bF aC (bS h1 rfl)
abbrev RB (l:LI):Prop:=l.Pairwise fun a b=>a<b
abbrev NH (l:LI):Prop:=l.Pairwise fun a b=>a<=b
theorem Iz (c:Int) {v:LI} (hs:NH v): ∀k,k<=v.length->(∀j (h:j<v.length),j<rm c v k->v[j]<=c)/\ ∀j (h:j<v.length),rm c v k<=j->j<k->c<v[j]
 |0,_=>⟨fun j h h1=>by simp[rm] at h1,fun j h h1 h2=>by omega⟩
 |k+1,hk=>by
  obtain ⟨h1,h2⟩:=Iz c hs k (by omega)
  have ZE:k<v.length:=by omega
  have e:v.getD k 0=v[k]:=aN _ ZE
  unfold rm
  rw[e]
  by_cases hc:v[k]>c
  ·rw[ae hc]
   refine ⟨h1,fun j h h3 h4=> ?_⟩
   by_cases hj:j=k
   ·subst hj;exact hc
   ·exact h2 j h h3 (by omega)
  ·rw[aC hc]
   simp only[an]
   refine ⟨fun j h h3=> ?_,fun j h h3 h4=>by omega⟩
   by_cases hj:j=k
   ·subst hj;omega
   ·have:=List.pairwise_iff_getElem.1 hs j k h ZE (by omega)
    omega
theorem SH (c:Int) {v:LI} (hs:NH v):NH (uF v c):=by
 obtain ⟨h1,h2⟩:=Iz c hs v.length (ai _)
 have hp:=AH c v v.length
 unfold uF
 generalize rm c v v.length=p at h1 h2 hp
 refine List.pairwise_append.2 ⟨hs.sublist (List.take_sublist _ _),List.pairwise_cons.2 ⟨fun x hx=> ?_,hs.sublist (List.drop_sublist _ _)⟩,fun a ha b hb=> ?_⟩
 ·obtain ⟨i,hi,rfl⟩:=List.getElem_of_mem hx
  rw[cO] at hi
  rw[List.getElem_drop]
  have:=h2 (p+i) (by omega) (by omega) (by omega)
  omega
 ·obtain ⟨i,hi,rfl⟩:=List.getElem_of_mem ha
  rw[aP] at hi
  rw[List.getElem_take]
  have:=h1 i (by omega) (by omega)
  rcases List.mem_cons.1 hb with rfl|hb
  ·exact this
  ·obtain ⟨j,hj,rfl⟩:=List.getElem_of_mem hb
   rw[cO] at hj
   rw[List.getElem_drop]
   have:=h2 (p+j) (by omega) (by omega) (by omega)
   omega
theorem NI (c:Int) (v:LI):(uF v c).Perm (c::v):=by
 unfold uF
 refine List.perm_middle.trans ?_
 rw[b_]
theorem Cw: ∀(l v:LI),NH v->NH (l.foldl uF v)/\(l.foldl uF v).Perm (v++l)
 | [],v,h=>⟨h,by simp⟩
 |a::l,v,h=>by
  obtain ⟨h1,h2⟩:=Cw l (uF v a) (SH a h)
  refine ⟨h1,h2.trans ?_⟩
  exact ((NI a v).append_right l).trans (by simpa using List.perm_middle.symm)
theorem t_ (l:LI):(dN l).Perm l:=by
 have:=(Cw l [] List.Pairwise.nil).2
 rw[aM] at this
 exact this
theorem JO (l:LI):NH (dN l):=(Cw l [] List.Pairwise.nil).1
theorem XG {l:LI} (h:NH l) (hn:l.Nodup):RB l:=by
 refine List.pairwise_iff_getElem.2 fun i j hi hj ZY=> ?_
 have h1:=List.pairwise_iff_getElem.1 h i j hi hj ZY
 have h2:=List.pairwise_iff_getElem.1 hn i j hi hj ZY
 omega
theorem Qm {v:LI} {c:Int} (h: ∀x∈v,x<c):uF v c=v++[c]:=by
 have e:rm c v v.length=v.length:=by
  cases hv:v.length with
  |zero=>rfl
  |succ k=>
   unfold rm
   have hk:k<v.length:=by omega
   rw[aN _ hk,aC (by have:=h _ (aj hk);omega)]
   rfl
 unfold uF
 rw[e,List.take_length,List.drop_length]
theorem IA: ∀(l v:LI),RB (v++l)->l.foldl uF v=v++l
 | [],v,h=>by simp
 |a::l,v,h=>by
  rw[aY,Qm (fun x hx=>(List.pairwise_append.1 h).2.2 x hx a (by simp)),IA l (v++[a]) (by simpa using h)]
  simp
theorem JP {l:LI} (h:RB l):dN l=l:=by
 have:=IA l [] (by simpa using h)
 simpa[dN] using this
def A_ (f:LI->Nat):LI->Nat
 | []=>f []
 |a::l=>A_ f l+A_ (fun x=>f (a::x)) l
def pick:Nat->LI->LI
 |_,[]=>[]
 |n,a::l=>bif n%2==1 then a::pick (n/2) l else pick (n/2) l
def sE (f:Nat->Nat):Nat->Nat
 |0=>0
 |n+1=>sE f n+f n
theorem z7 {f g:Nat->Nat}: ∀n,(∀i,i<n->f i=g i)->sE f n=sE g n
 |0,_=>rfl
 |n+1,h=>by rw[sE,sE,z7 n (fun i hi=>h i (by omega)),h n (by omega)]
theorem Dh (f:Nat->Nat): ∀n,sE f (2*n)=sE (fun i=>f (2*i)) n+sE (fun i=>f (2*i+1)) n
 |0=>rfl
 |n+1=>by
  have ih:=Dh f n
  rw[show 2*(n+1)=2*n+1+1 by omega,sE,sE,sE,sE,ih]
  omega
theorem Cy: ∀(l:LI) (f:LI->Nat),sE (fun i=>f (pick i l)) (2^l.length)=A_ f l
 | [],f=>by simp[sE,pick,A_]
 |a::l,f=>by
  rw[ab,Nat.pow_succ,Nat.mul_comm,Dh]
  have e1:sE (fun i=>f (pick (2*i) (a::l))) (2^l.length)=sE (fun i=>f (pick i l)) (2^l.length):=z7 _ fun i _=>by
   show f (bif 2*i%2==1 then a::pick (2*i/2) l else pick (2*i/2) l)=_
   rw[show 2*i%2=0 by omega,show 2*i/2=i by omega];rfl
  have e2:sE (fun i=>f (pick (2*i+1) (a::l))) (2^l.length)=sE (fun i=>f (a::pick i l)) (2^l.length):=z7 _ fun i _=>by
   show f (bif (2*i+1)%2==1 then a::pick ((2*i+1)/2) l else pick ((2*i+1)/2) l)=_
   rw[show (2*i+1)%2=1 by omega,show (2*i+1)/2=i by omega];rfl
  rw[e1,e2,Cy l f,Cy l fun x=>f (a::x)]
  rfl
theorem Fh: ∀(n:Nat) (l:LI),(pick n l).Sublist l
 |_,[]=>List.Sublist.slnil
 |n,a::l=>by
  unfold pick
  cases n%2==1 with
  |true=>exact (Fh (n/2) l).cons_cons a
  |false=>exact (Fh (n/2) l).cons a
theorem vH: ∀(l:LI) {f g:LI->Nat},(∀x,x.Sublist l->f x=g x)->A_ f l=A_ g l
 | [],f,g,h=>h [] List.Sublist.slnil
 |a::l,f,g,h=>by
  unfold A_
  rw[vH l (fun x hx=>h x (hx.cons a)),vH l (f:=fun x=>f (a::x)) (g:=fun x=>g (a::x)) (fun x hx=>h _ (hx.cons_cons a))]
theorem yl: ∀(l:LI),A_ (fun _=>0) l=0
 | []=>rfl
 |a::l=>by unfold A_;rw[yl l]
def RD (x m:LI):Nat:=(x==m).toNat
theorem Es: ∀(l m:LI),RB l->RB m->A_ (fun x=>RD x m) l=(m.all fun c=>bq l c).toNat
 | [],[],_,_=>rfl
 | [],b::m,_,_=>rfl
 |a::l,[],h,_=>by
  unfold A_
  rw[Es l [] (List.pairwise_cons.1 h).2 List.Pairwise.nil]
  have:(fun x=>RD (a::x) [])=fun _=>0:=by funext x;rfl
  rw[this,yl];rfl
 |a::l,b::m,h,hm=>by
  obtain ⟨h1,h2⟩:=List.pairwise_cons.1 h
  obtain ⟨m1,m2⟩:=List.pairwise_cons.1 hm
  unfold A_
  rw[Es l (b::m) h2 hm]
  have al:bq l a=false:=vm.2 fun hh=>by have:=h1 a hh;omega
  have hc: ∀c,bq (a::l) c=((a==c)||bq l c):=fun c=>by simp[bq]
  have gt: ∀(t:LI),(∀c∈t,a<c)->(t.all fun c=>bq (a::l) c)=t.all fun c=>bq l c:=fun t ht=>by
   rw[Bool.eq_iff_iff,List.all_eq_true,List.all_eq_true]
   refine forall_congr' fun c=>forall_congr' fun XE=> ?_
   have:(a==c)=false:=by have:=ht c XE;simp;omega
   rw[hc,this,Bool.false_or]
  by_cases e:a=b
  ·subst e
   have e1:(fun x=>RD (a::x) (a::m))=fun x=>RD x m:=by
    funext x
    unfold RD
    rw[List.cons_beq_cons,beq_self_eq_true,Bool.true_and]
   rw[e1,Es l m h2 m2,List.all_cons,al,Bool.false_and,List.all_cons,hc,beq_self_eq_true,gt m m1]
   simp
  ·have e1:(fun x=>RD (a::x) (b::m))=fun _=>0:=by
    funext x
    unfold RD
    rw[List.cons_beq_cons,beq_eq_false_iff_ne.2 e];rfl
   rw[e1,yl,Nat.add_zero]
   congr 1
   by_cases hab:a<b
   ·exact (gt (b::m) fun c XE=>by
     rcases List.mem_cons.1 XE with rfl|XE
     ·exact hab
     ·have:=m1 c XE;omega).symm
   ·have nb:bq l b=false:=vm.2 fun hh=>by have:=h1 b hh;omega
    have nb2:bq (a::l) b=false:=by rw[hc,nb,beq_eq_false_iff_ne.2 e];rfl
    rw[List.all_cons,List.all_cons,nb,nb2,Bool.false_and,Bool.false_and]
def Cz (r:Int):LL:=[[r,r+13,r+26,r+39],[r,r+13,r+26],[r,r+13,r+39],[r,r+26,r+39],[r+13,r+26,r+39]]
def uM (c:Int) (m:Nat):LI:=(List.range m).map fun (i:Nat)=>c+(i:Int)
def NJ (c:Nat):LL:=(List.range (11-c%13)).map fun (j:Nat)=>uM (c:Int) (j+3)
def lx:LL:=((List.range 13).flatMap fun (r:Nat)=>Cz (r:Int))++(List.range 52).flatMap NJ
def ndB:LL->Bool
 | []=>true
 |x::l=> !(l.any fun y=>x==y)&&ndB l
theorem Pc {x:LI}: ∀ {l:LL},ndB l=true->(l.map (RD x)).sum=(l.any fun y=>x==y).toNat
 | [],_=>rfl
 |y::l,h=>by
  obtain ⟨h1,h2⟩:=ba h
  rw[bM,List.sum_cons,Pc h2,List.any_cons]
  unfold RD
  by_cases e:x=y
  ·subst e
   have:(l.any fun y=>x==y)=false:=by simpa using h1
   rw[this];simp
  ·rw[beq_eq_false_iff_ne.2 e];simp
theorem LD:ndB lx=true:=by kernel_rfl
def XH:LI->Bool
 | []=>true
 |a::l=>(l.all fun b=>decide (a<b))&&XH l
theorem LF: ∀ {l:LI},XH l=true->RB l
 | [],_=>List.Pairwise.nil
 |a::l,h=>by
  obtain ⟨h1,h2⟩:=ba h
  exact List.pairwise_cons.2 ⟨fun b hb=>ao (List.all_eq_true.1 h1 b hb),LF h2⟩
theorem JQ:(lx.all XH)=true:=by kernel_rfl
def Fi (x:LI):Bool:=x.all fun c=>cu c==cu (x.getD 0 0)
def rS (x:LI):Bool:=dz x&&mJ (x.length:Int) 3 4&&Fi x
def ZZ (x:LI):Bool:=x.zipIdx.all fun y=>(bJ y.1==bJ (x.getD 0 0))&&(y.1==x.getD 0 0+(y.2:Int))
def rT (x:LI):Bool:=dz x&& !decide ((x.length:Int)<3)&&ZZ (dN x)
def ly (x:LI):Bool:=rS x||rT x
theorem LG:(lx.all ly)=true:=by kernel_rfl
theorem uN {c:Int} (h:bI c=true):bJ c=c/13/\0<=c/\c<=51:=by
 have:=cU.1 h
 unfold bJ
 rw[h,ak,Int.tdiv_eq_ediv_of_nonneg this.1]
 exact ⟨rfl,this⟩
theorem sF {c:Int} (h:bI c=true):cu c=c%13/\0<=c/\c<=51:=by
 have:=cU.1 h
 unfold cu
 rw[h,ak,aX this.1]
 exact ⟨rfl,this⟩
theorem LH {r:Nat} (hr:r<13) {x:LI} (h:x∈Cz (r:Int)):x∈lx:=List.mem_append_left _ (List.mem_flatMap.2 ⟨r,List.mem_range.2 hr,h⟩)
theorem U_ {x:LI} (h:rS x=true) (ha:RB x):x∈lx:=by
 unfold rS at h
 simp only[ay] at h
 obtain ⟨⟨h1,h2⟩,h3⟩:=h
 have h2:=ja.1 h2
 have hc:=(jy.1 h1).1
 unfold Fi at h3
 rw[List.all_eq_true] at h3
 match x,h2,hc,h3,ha with
 | [a,b,c],_,hc,h3,ha=>
   have ra:=sF (hc a (by simp))
   have rb:=sF (hc b (by simp))
   have rc:=sF (hc c (by simp))
   have q1:=h3 b (by simp)
   have q2:=h3 c (by simp)
   simp only[List.getD_cons_zero,cG] at q1 q2
   simp only[List.pairwise_cons,cL,cA,or_false,forall_eq_or_imp,forall_eq] at ha
   obtain ⟨⟨p1,p2⟩,p3,_⟩:=ha
   obtain ⟨r,hr⟩: ∃r:Nat,(r:Int)=a%13:=⟨(a%13).toNat,by omega⟩
   refine LH (r:=r) (by omega) ?_
   have:(a=r/\b=r+13/\c=r+26)\/(a=r/\b=r+13/\c=r+39)\/(a=r/\b=r+26/\c=r+39)\/(a=r+13/\b=r+26/\c=r+39):=by omega
   unfold Cz
   rcases this with ⟨rfl,rfl,rfl⟩| ⟨rfl,rfl,rfl⟩| ⟨rfl,rfl,rfl⟩| ⟨rfl,rfl,rfl⟩<;>simp
 | [a,b,c,d],_,hc,h3,ha=>
   have ra:=sF (hc a (by simp))
   have rb:=sF (hc b (by simp))
   have rc:=sF (hc c (by simp))
   have rd:=sF (hc d (by simp))
   have q1:=h3 b (by simp)
   have q2:=h3 c (by simp)
   have q3:=h3 d (by simp)
   simp only[List.getD_cons_zero,cG] at q1 q2 q3
   simp only[List.pairwise_cons,cL,cA,or_false,forall_eq_or_imp,forall_eq] at ha
   obtain ⟨⟨p1,p2,p3⟩,⟨p4,p5⟩,p6,_⟩:=ha
   obtain ⟨r,hr⟩: ∃r:Nat,(r:Int)=a%13:=⟨(a%13).toNat,by omega⟩
   refine LH (r:=r) (by omega) ?_
   have:a=r/\b=r+13/\c=r+26/\d=r+39:=by omega
   unfold Cz
   obtain ⟨rfl,rfl,rfl,rfl⟩:=this
   simp
 | [],h2,_,_,_=>simp at h2
 | [_],h2,_,_,_=>simp at h2
 | [_,_],h2,_,_,_=>simp at h2
 |_::_::_::_::_::_,h2,_,_,_=>simp at h2;omega
theorem Va {x:LI} (h:rT x=true) (ha:RB x):x∈lx:=by
 unfold rT at h
 rw[JP ha] at h
 simp only[ay,Bool.not_eq_true',decide_eq_false_iff_not] at h
 obtain ⟨⟨h1,h2⟩,h3⟩:=h
 have hc:=(jy.1 h1).1
 have hl:3<=x.length:=by omega
 have h0:x.getD 0 0=x[0]:=aN _ (by omega)
 unfold ZZ at h3
 rw[List.all_eq_true,h0] at h3
 have each: ∀i (hi:i<x.length),bJ x[i] =bJ x[0]/\x[i] =x[0]+(i:Int):=fun i hi=>by
  have:=h3 (x[i],i) (by rw[List.mem_zipIdx_iff_getElem?];simp[hi])
  simpa using this
 have e0:=uN (hc x[0] (aj _))
 have el:=uN (hc x[x.length-1] (aj _))
 obtain ⟨es,ee⟩:=each (x.length-1) (by omega)
 obtain ⟨c,hcn⟩: ∃c:Nat,(c:Int)=x[0]:=⟨x[0].toNat,by omega⟩
 have hx:x=uM (c:Int) x.length:=by
  apply List.ext_getElem
  ·simp[uM]
  ·intro i h1 h2
   have e:(uM (c:Int) x.length)[i] =(c:Int)+(i:Int):=by simp[uM]
   rw[(each i h1).2,e,hcn]
 have hm:x.length-3<11-c%13:=by omega
 rw[hx]
 refine List.mem_append_right _ (List.mem_flatMap.2 ⟨c,List.mem_range.2 (by omega),?_⟩)
 unfold NJ
 refine List.mem_map.2 ⟨x.length-3,List.mem_range.2 hm,?_⟩
 rw[show x.length-3+3=x.length by omega]
theorem JR {l l':LI} (h:l.Perm l') (c:Int):bq l c=bq l' c:=by
 rw[Bool.eq_iff_iff,n_,n_,h.mem_iff]
def mF (b:BA) (n:Int):BA:=(b++(uz:BA))++iM n
theorem uO {b:BA} {n:Int} (hn:tf .i64 n):(mF b n).size<=b.size+22:=by
 have:=gV hn
 unfold mF
 rw[aq,aq]
 have e:(uz:BA).size=1:=rfl
 omega
theorem Ba (b:BA) (n:Int):b++((uz:BA)++iM n)=mF b n:=(ByteArray.append_assoc).symm
theorem sG {n:Nat} (h:n<1048577):tf .i64 (n:Int):=qx ⟨by omega,by omega⟩
theorem jc {n:Nat} (h:n<=4294967296):decide (n<=ia)=true:=ae (by unfold ia;omega)
theorem HE (x:UInt8):(⟨#[x]⟩:BA).size=1:=rfl
theorem fJ.loop (hk:cy<=k) {v:LL} (hv:Cl v) (e0:BA->Option R) {b:BA} (hb:b.size<=1000):fJ.l5 k v (v.length:Int) e0 k b 0=e0 (v.foldl (fun b h=>mF b (h.length:Int)) b):=by
 have h:=scan (B:=BA) v (fun n b i=>fJ.l5 k v (v.length:Int) e0 n b i) (fun _ _=>true) (fun b h=>mF b (h.length:Int)) e0 (fun _ _=>none) (fun i b=>b.size<=1000+22*i)
  (fun n b i h hI=>by
    have hl:=hv.1
    have hw:=sG (hv.2 v[i] (aj h))
    have hi:=gV hw
    refine bV rfl (bT ae (cT (cg h) ?_))
    rw[aa,aN _ h,aK]
    refine bS (a_.eq k hw) (cT (jc (by rw[HE];omega)) (cT (jc (by rw[aq,HE];omega)) ?_))
    rw[Ba];rfl)
  (fun b i h hI _=>by have:=uO (b:=b) (sG (hv.2 v[i] (aj h)));show (mF b (v[i].length:Int)).size<=_;omega)
  (fun n b hI=>bV rfl (br aC))
  v.length 0 k b (by omega) (cd hk hv.1) (by omega)
 refine h.trans ?_
 rw[ah,bX]
theorem fQ.loop (hk:cy<=k) {v:LL} (hv:Cl v) (e0:BA->Option R) {b:BA} (hb:b.size<=1000):fQ.l5 k v e0 k b 0=e0 (v.foldl (fun b h=>mF b (h.length:Int)) b):=by
 have h:=scan (B:=BA) v (fun n b i=>fQ.l5 k v e0 n b i) (fun _ _=>true) (fun b h=>mF b (h.length:Int)) e0 (fun _ _=>none) (fun i b=>b.size<=1000+22*i)
  (fun n b i h hI=>by
    have hl:=hv.1
    have hw:=sG (hv.2 v[i] (aj h))
    have hi:=gV hw
    refine bV rfl (bT ae (cT (jc (by rw[HE];omega)) (cT (cg h) ?_)))
    rw[aa,aN _ h,aK]
    exact bS (aT.eq hk hw) (bW (jc (by rw[aq,HE];omega))))
  (fun b i h hI _=>by have:=uO (b:=b) (sG (hv.2 v[i] (aj h)));show (mF b (v[i].length:Int)).size<=_;omega)
  (fun n b hI=>bV rfl (br aC))
  v.length 0 k b (by omega) (cd hk hv.1) (by omega)
 refine h.trans ?_
 rw[ah,bX]
theorem JS {α:Type} (f:α->Int): ∀(v:List α) (b:BA),(∀x∈v,tf .i64 (f x))->(v.foldl (fun b x=>mF b (f x)) b).size<=b.size+22*v.length
 | [],b,_=>by simp
 |x::v,b,h=>by
  have h1:=uO (b:=b) (h x (by simp))
  have h2:=JS f v (mF b (f x)) (fun y hy=>h y (List.mem_cons_of_mem _ hy))
  rw[aY,ab];omega
def sH (g:Gm):BA:=(iM g.tn++(uA:BA))++iV (g.hp.getD (g.hp.length-1) 0)
def xw (g:Gm):BA:=bif eG g then ((g.hs.foldl (fun b h=>mF b (h.length:Int)) (sH g))++(⟨#[47]⟩:BA))++iM (g.st.length:Int) else bE
theorem rU {g:Gm} (h:eG g=true):tf .i64 g.tn/\0<g.hp.length/\g.hs.length<=6:=by
 obtain ⟨h1,h2,h3,h4,h5,h6,h7⟩:=hR.1 h
 have:=(tz h1).1
 exact ⟨qx ⟨by omega,by omega⟩,h4,by omega⟩
theorem Di {g:Gm} (h:eG g=true):(sH g).size<=39:=by
 have h1:=gV (rU h).1
 have h2:=lR (g.hp.getD (g.hp.length-1) 0)
 unfold sH
 rw[aq,aq,HE];omega
theorem Et {l:LI} (h:0<l.length) (hl:l.length<1048577):(decide ((0:Int)<=aF ((l.length:Int)-1))&&decide (aF ((l.length:Int)-1)<(l.length:Int)))=true/\(aF ((l.length:Int)-1)).toNat=l.length-1:=by
 rw[wrap_i64]
 exact ⟨bA ae ae,by omega⟩
theorem fJ.eq (hk:cy<=k) {g:Gm} (hg:g.sm):g.ap (fJ.f k)=some (xw g):=by
 refine bS (dG.eq hk hg) ?_
 unfold xw
 cases h:eG g with
 |false=>rfl
 |true=>
  obtain ⟨n1,n2,n3⟩:=rU h
  obtain ⟨l1,l2⟩:=Et n2 hg.2.2.2
  have hi:=gV n1
  have hc:=lR (g.hp.getD (g.hp.length-1) 0)
  have hs:g.st.length<1048577:=hg.2.2.1
  have hf:=JS (fun h:List Int=>(h.length:Int)) g.hs (sH g) (fun x hx=>sG (hg.2.1.2 x hx))
  have hh:=Di h
  refine bF rfl (bS (a_.eq k n1) (cT (jc (by rw[HE];omega)) (cT l1 ?_)))
  rw[l2]
  refine bS (gF.eq ..) (cT (jc (by rw[aq,HE];omega)) ((fJ.loop hk hg.2.1 _ (b:=sH g) (by omega)).trans (cT (jc (by rw[HE];omega)) (bS (a_.eq k (sG hs)) (cT (jc ?_) rfl)))))
  have:=gV (sG hs)
  rw[aq,HE];omega
theorem fQ.eq (hk:cy<=k) {g:Gm} (hg:g.sm):g.ap (fQ.f k)=some (xw g):=by
 refine bS (cq.eq hk hg) ?_
 unfold xw
 cases h:eG g with
 |false=>rfl
 |true=>
  obtain ⟨n1,n2,n3⟩:=rU h
  obtain ⟨l1,l2⟩:=Et n2 hg.2.2.2
  have hi:=gV n1
  have hc:=lR (g.hp.getD (g.hp.length-1) 0)
  have hs:g.st.length<1048577:=hg.2.2.1
  have hf:=JS (fun h:List Int=>(h.length:Int)) g.hs (sH g) (fun x hx=>sG (hg.2.1.2 x hx))
  have hh:=Di h
  refine bF rfl (bS (aT.eq hk n1) (cT (jc (by rw[HE];omega)) (cT l1 ?_)))
  rw[l2]
  refine bS (dZ.eq ..) (cT (jc (by rw[aq,HE];omega)) ((fQ.loop hk hg.2.1 _ (b:=sH g) (by omega)).trans (cT (jc (by rw[HE];omega)) (bS (aT.eq hk (sG hs)) (cT (jc ?_) rfl)))))
  have:=gV (sG hs)
  rw[aq,HE];omega
def xx (v:LL):LI:=v.map fun h=>(h.length:Int)
theorem kO.eq (hk:cy<=k) {v:LL} (hv:v.length<1048577):kO.f k v=some (xx v):=by
 have h:=scan (B:=LI) v (fun n b i=>kO.l3 k v (v.length:Int) (fun x1=>some x1) n i b) (fun _ _=>true) (fun b h=>b++[(h.length:Int)]) (fun x1=>some x1) (fun _ _=>none) (fun i b=>b.length<=i)
  (fun n b i h hI=>by
    refine bV rfl (bT ae (cT (cg h) (cT (nY) ?_)))
    rw[aa,aN _ h,aK];rfl)
  (fun b i h hI _=>by simp;omega)
  (fun n b hI=>bV rfl (br aC))
  v.length 0 k [] (by omega) (cd hk hv) (by simp)
 refine h.trans ?_
 rw[ah,bX,nZ,aM];rfl
theorem gS.eqG (hk:cy<=k) {g:Gm} (hv:g.hs.length<1048577):g.ap (gS.f k)=some (xx g.hs):=by
 have h:=scan (B:=LI) g.hs (fun n b i=>gS.l3 k g.hs (fun x1=>some x1) n i b) (fun _ _=>true) (fun b h=>b++[(h.length:Int)]) (fun x1=>some x1) (fun _ _=>none) (fun i b=>b.length<=i)
  (fun n b i h hI=>by
    refine bV rfl (bT ae (cT (cg h) (cT (nY) ?_)))
    rw[aa,aN _ h,aK];rfl)
  (fun b i h hI _=>by simp;omega)
  (fun n b hI=>bV rfl (br aC))
  g.hs.length 0 k [] (by omega) (cd hk hv) (by simp)
 refine h.trans ?_
 rw[ah,bX,nZ,aM];rfl
abbrev Pk:Type:=Int×LI×Int×Int×Int×LI×Int×Int×Bool
def CA (g:Gm) (me:Int):Pk:=bif eG g&&mJ me 0 ((g.hs.length:Int)-1) then (me,dN (g.hs.getD me.toNat []),g.hp.getD (g.hp.length-1) 0,(g.hp.length:Int),(g.st.length:Int),xx g.hs,g.tn,g.mv,true) else (0,[],0,0,0,[],0,0,false)
theorem nP.eq (hk:cy<=k) {g:Gm} (hg:g.sm) (me:Int):g.ap (nP.f k) me=some (CA g me):=by
 refine bS (dG.eq hk hg) ?_
 unfold CA
 cases h:eG g with
 |false=>rfl
 |true=>
  obtain ⟨n1,n2,n3⟩:=rU h
  obtain ⟨l1,l2⟩:=Et n2 hg.2.2.2
  refine bF rfl (bS (aI.eq ..) ?_)
  rw[wrap_i64 (n:=(g.hs.length:Int)-1)]
  cases hm:mJ me 0 ((g.hs.length:Int)-1) with
  |false=>rfl
  |true=>
   have hr:=ja.1 hm
   have iS:me.toNat<g.hs.length:=by omega
   have hy:(g.hs.getD me.toNat []).length<1048577:=by rw[aN _ iS];exact hg.2.1.2 _ (aj iS)
   refine bF rfl (cT (bA ae ae) (bS (db.eq hk hy) (cT l1 (bS (kO.eq hk hg.2.1.1) ?_))))
   rw[l2];rfl
theorem nW.eq (hk:cy<=k) {g:Gm} (hg:g.sm) (me:Int):g.ap (nW.f k) me=some (CA g me):=by
 refine bS (cq.eq hk hg) ?_
 unfold CA
 cases h:eG g with
 |false=>rfl
 |true=>
  obtain ⟨n1,n2,n3⟩:=rU h
  obtain ⟨l1,l2⟩:=Et n2 hg.2.2.2
  refine bF rfl (bS (bb.eq ..) ?_)
  rw[wrap_i64 (n:=(g.hs.length:Int)-1)]
  cases hm:mJ me 0 ((g.hs.length:Int)-1) with
  |false=>rfl
  |true=>
   have hr:=ja.1 hm
   have iS:me.toNat<g.hs.length:=by omega
   have hy:(g.hs.getD me.toNat []).length<1048577:=by rw[aN _ iS];exact hg.2.1.2 _ (aj iS)
   refine bF rfl (cT (bA ae ae) (bS (eK.eq hk hy) (cT l1 (bS (gS.eqG hk hg.2.1.1) ?_))))
   rw[l2];rfl
def uP (me:Int) (hand:LI) (top:Int) (sizes:LI):BA:=sizes.foldl mF ((((iM me++(uA:BA))++ig hand)++(uz:BA))++pX top)
theorem fL.eq (hk:cy<=k) {me:Int} {hand:LI} (top x y:Int) {sizes:LI} (u w:Int) (h1:tf .i64 me) (h2:hand.length<1048577) (h3:sizes.length<1048577) (h4: ∀n∈sizes,tf .i64 n):fL.f k me hand top x y sizes u w=some (uP me hand top sizes):=by
 have hi:=gV h1
 have hh:=tE hand
 have ho:=vB top
 have loop: ∀b:BA,b.size<=20000000->fL.l6 k sizes (sizes.length:Int) (fun x6=>some x6) k b 0=some (sizes.foldl mF b):=fun b hb=>by
  have h:=scan (B:=BA) sizes (fun n b i=>fL.l6 k sizes (sizes.length:Int) (fun x6=>some x6) n b i) (fun _ _=>true) mF (fun x6=>some x6) (fun _ _=>none) (fun i b=>b.size<=20000000+22*i)
   (fun n b i h hI=>by
     have hw:=h4 sizes[i] (aj h)
     have hi:=gV hw
     refine bV rfl (bT ae (cT (cg h) ?_))
     rw[aa,aN _ h,aK]
     refine bS (a_.eq k hw) (cT (jc (by rw[HE];omega)) (cT (jc (by rw[aq,HE];omega)) ?_))
     rw[Ba];rfl)
   (fun b i h hI _=>by have:=uO (b:=b) (h4 sizes[i] (aj h));show (mF b sizes[i]).size<=_;omega)
   (fun n b hI=>bV rfl (br aC))
   sizes.length 0 k b (by omega) (cd hk h3) (by omega)
  refine h.trans ?_
  rw[ah,bX]
 have tail: ∀t:BA,t.size<=17->((a_.f k me).bind fun r3=>
  bY (decide (r3.size+(uA:BA).size<=ia))<|
  (fK.f k hand).bind fun r4=>
  bY (decide ((r3++(uA:BA)).size+r4.size<=ia))<|
  bY (decide (((r3++(uA:BA))++r4).size+(uz:BA).size<=ia))<|
  bY (decide ((((r3++(uA:BA))++r4)++(uz:BA)).size+t.size<=ia))<|
  fL.l6 k sizes (sizes.length:Int) (fun x6=>some x6) k ((((r3++(uA:BA))++r4)++(uz:BA))++t) 0)=some (sizes.foldl mF ((((iM me++(uA:BA))++ig hand)++(uz:BA))++t)):=fun t ht=>by
  refine bS (a_.eq k h1) (cT (jc (by rw[HE];omega)) (bS (fK.eq hk h2) (cT (jc ?_) (cT (jc ?_) (cT (jc ?_) (loop _ ?_))))))
  all_goals (simp only[aq,HE];omega)
 refine bS (bH.eq ..) ?_
 unfold uP pX
 unfold pX at ho
 cases hc:bI top with
 |true=>
  rw[hc] at ho
  exact bT rfl (bS (gF.eq ..) (tail _ ho))
 |false=>exact bF rfl (tail _ (by decide))
theorem Fj (c:Int):((iV c).toList==bE.toList)= !bI c:=by
 cases h:bI c with
 |false=>unfold iV;rw[h];simp only[an];decide+kernel
 |true=>
  rw[ju,tY h]
  obtain ⟨r0,r1,s0,s1,_,_⟩:=mY h
  obtain ⟨a,a1,_⟩:=Lx (n:=(cu c).toNat) (by omega)
  rw[a1];rfl
theorem fP.eq (hk:cy<=k) {me:Int} {hand:LI} (top x y:Int) {sizes:LI} (u w:Int) (h1:tf .i64 me) (h2:hand.length<1048577) (h3:sizes.length<1048577) (h4: ∀n∈sizes,tf .i64 n):fP.f k me hand top x y sizes u w=some (uP me hand top sizes):=by
 have hi:=gV h1
 have hh:=tE hand
 have ho:=vB top
 have loop: ∀b:BA,b.size<=20000000->fP.l6 k sizes (fun x6=>some x6) k b 0=some (sizes.foldl mF b):=fun b hb=>by
  have h:=scan (B:=BA) sizes (fun n b i=>fP.l6 k sizes (fun x6=>some x6) n b i) (fun _ _=>true) mF (fun x6=>some x6) (fun _ _=>none) (fun i b=>b.size<=20000000+22*i)
   (fun n b i h hI=>by
     have hw:=h4 sizes[i] (aj h)
     have hi:=gV hw
     refine bV rfl (bT ae (cT (jc (by rw[HE];omega)) (cT (cg h) ?_)))
     rw[aa,aN _ h,aK]
     exact bS (aT.eq hk hw) (bW (jc (by rw[aq,HE];omega))))
   (fun b i h hI _=>by have:=uO (b:=b) (h4 sizes[i] (aj h));show (mF b sizes[i]).size<=_;omega)
   (fun n b hI=>bV rfl (br aC))
   sizes.length 0 k b (by omega) (cd hk h3) (by omega)
  refine h.trans ?_
  rw[ah,bX]
 have tail: ∀t:BA,t.size<=17->((aT.f k me).bind fun r3=>
  bY (decide (r3.size+(uA:BA).size<=ia))<|
  (c_.f k hand).bind fun r4=>
  bY (decide ((r3++(uA:BA)).size+r4.size<=ia))<|
  bY (decide (((r3++(uA:BA))++r4).size+(uz:BA).size<=ia))<|
  bY (decide ((((r3++(uA:BA))++r4)++(uz:BA)).size+t.size<=ia))<|
  fP.l6 k sizes (fun x6=>some x6) k ((((r3++(uA:BA))++r4)++(uz:BA))++t) 0)=some (sizes.foldl mF ((((iM me++(uA:BA))++ig hand)++(uz:BA))++t)):=fun t ht=>by
  refine bS (aT.eq hk h1) (cT (jc (by rw[HE];omega)) (bS (c_.eq hk h2) (cT (jc ?_) (cT (jc ?_) (cT (jc ?_) (loop _ ?_))))))
  all_goals (simp only[aq,HE];omega)
 refine bS (dZ.eq ..) ?_
 rw[Fj]
 unfold uP pX
 unfold pX at ho
 cases hc:bI top with
 |true=>
  rw[hc] at ho
  exact bF rfl (tail _ ho)
 |false=>exact bT rfl (tail _ (by decide))
def noW:BA:=yJ
def ym (g:Gm) (me:Int):BA:=bif eG g&&mJ me 0 ((g.hs.length:Int)-1) then uP me (dN (g.hs.getD me.toNat [])) (g.hp.getD (g.hp.length-1) 0) (xx g.hs) else noW
theorem Pd {k:Nat} {g:Gm} (hg:g.sm) (me:Int) {P:Option Pk} {T:Int->LI->Int->Int->Int->LI->Int->Int->Option BA} (hP:P=some (CA g me)) (hT: ∀ {me:Int} {hand:LI} (top x y:Int) {sizes:LI} (u w:Int),tf .i64 me->hand.length<1048577->sizes.length<1048577->(∀n∈sizes,tf .i64 n)->T me hand top x y sizes u w=some (uP me hand top sizes)):
 (P.bind fun r1=>bif (!(t8 r1)) then some (yJ:BA) else (T r1.1 r1.2.1 (t2 r1).1 (t3 r1).1 (t4 r1).1 (t5 r1).1 (t6 r1).1 (t7 r1).1).bind fun r2=>some r2)=some (ym g me):=by
 subst hP
 unfold ym CA
 cases h:(eG g&&mJ me 0 ((g.hs.length:Int)-1)) with
 |false=>rfl
 |true=>
  obtain ⟨h1,h2⟩:=ba h
  have hr:=ja.1 h2
  have n3:=(rU h1).2.2
  have iS:me.toNat<g.hs.length:=by omega
  have hy:(g.hs.getD me.toNat []).length<1048577:=by rw[aN _ iS];exact hg.2.1.2 _ (aj iS)
  have Bb:=(t_ (g.hs.getD me.toNat [])).length_eq
  show ((T me (dN (g.hs.getD me.toNat [])) (g.hp.getD (g.hp.length-1) 0) (g.hp.length:Int) (g.st.length:Int) (xx g.hs) g.tn g.mv).bind fun r2=>some r2)=_
  refine bS (hT (me:=me) (hand:=dN (g.hs.getD me.toNat [])) (g.hp.getD (g.hp.length-1) 0) _ _ (sizes:=xx g.hs) _ _ (qx ⟨by omega,by omega⟩) (by omega) ?_ ?_) rfl
  ·unfold xx;rw[ca];omega
  ·intro n hn
   unfold xx at hn
   obtain ⟨x,hx,rfl⟩:=List.mem_map.1 hn
   exact sG (hg.2.1.2 x hx)
theorem JT {n:Nat} (h:n<1048577):tf .i64 (n:Int):=qx ⟨by omega,by omega⟩
theorem Fl {a b c:Nat} (ha:a<1048577) (hb:b<1048577) (hc:c<1048577): ∀n∈[(a:Int),(b:Int),(c:Int)],tf .i64 n:=fun n hn=>by
 simp only[cL,cA,or_false] at hn
 rcases hn with rfl|rfl|rfl
 ·exact JT ha
 ·exact JT hb
 ·exact JT hc
def onB (b:Bool):BA:=bif b then Nd else UP
def Bc (t:Tb):BA:=wH [(t.fI.length:Int),(t.rd.length:Int),(t.jJ.length:Int)] uz++onB t.on
theorem Fm {t:Tb} (h:t.sm):(wH [(t.fI.length:Int),(t.rd.length:Int),(t.jJ.length:Int)] uz).size<=66:=by
 have hw:=Fl (show t.fI.length<1048577 from h.2.1) (show t.rd.length<1048577 from h.2.2.2.2.1) (show t.jJ.length<1048577 from h.2.2.2.2.2.1)
 exact xp (sep:=uz) hw (ai 1)
theorem kf.eq (hk:cy<=k) {t:Tb} (h:t.sm):t.ap (kf.f k)=some (Bc t):=by
 have hw:=Fl (show t.fI.length<1048577 from h.2.1) (show t.rd.length<1048577 from h.2.2.2.2.1) (show t.jJ.length<1048577 from h.2.2.2.2.2.1)
 have hl:[(t.fI.length:Int),(t.rd.length:Int),(t.jJ.length:Int)].length<1048577:=by simp
 have oX:=Fm h
 obtain ⟨r,fI,on,qn,g,rd,jJ⟩:=t
 unfold Bc
 cases on with
 |true=>exact bT rfl (bS (gN.eq hk hl hw) (bW (ae (show (wH _ _).size+3<=9223372036854775807 by omega))))
 |false=>exact bF rfl (bS (gN.eq hk hl hw) (bW (ae (show (wH _ _).size+4<=9223372036854775807 by omega))))
theorem ka.eq (hk:cy<=k) {t:Tb} (h:t.sm):t.ap (ka.f k)=some (Bc t):=by
 have hw:=Fl (show t.fI.length<1048577 from h.2.1) (show t.rd.length<1048577 from h.2.2.2.2.1) (show t.jJ.length<1048577 from h.2.2.2.2.2.1)
 have hl:[(t.fI.length:Int),(t.rd.length:Int),(t.jJ.length:Int)].length<1048577:=by simp
 have oX:=Fm h
 obtain ⟨r,fI,on,qn,g,rd,jJ⟩:=t
 unfold Bc
 cases on with
 |true=>exact bT rfl (bS (cK.eq (sep:=uz) hk hl hw (ai 1)) (bW (ae (show (wH _ _).size+3<=9223372036854775807 by omega))))
 |false=>exact bF rfl (bS (cK.eq (sep:=uz) hk hl hw (ai 1)) (bW (ae (show (wH _ _).size+4<=9223372036854775807 by omega))))
def Bd (l:LI):BA:=wH l RX
theorem Pe (l:LL): ∀(b:List BA),l.foldl (fun b a=>b++[Bd a]) b=b++l.map Bd:=by
 induction l with
 |nil=>intro b;simp
 |cons a l ih=>intro b;rw[aY,ih];simp
theorem iN.eq (hk:cy<=k) {a0:LL} (h0:a0.length<1048577) (h1: ∀y∈a0,y.length<1048577) (h2: ∀y∈a0,∀n∈y,tf .i64 n):iN.f k a0=some (rp (a0.map Bd) uz):=by
 have hs: ∀y∈a0.map Bd,y.size<=33554432:=fun y hy=>by
  obtain ⟨x,hx,rfl⟩:=List.mem_map.1 hy
  have e1:=h1 x hx
  have e2:(Bd x).size<=22*x.length:=xp (h2 x hx) (ai 1)
  omega
 have hl:(a0.map Bd).length<1048577:=by simpa using h0
 have h:=scan (B:=List BA) a0 (fun m b i=>iN.l3 k a0 (fun x2=>(cx.f k x2 (uz:BA)).bind fun r3=>some r3) m i b) (fun _ _=>true) (fun b a=>b++[Bd a]) (fun x2=>(cx.f k x2 (uz:BA)).bind fun r3=>some r3) (fun _ _=>none) (fun i b=>b.length=i)
  (fun m b i h hI=>by
    have hm:=aj h
    have e1:=h1 _ hm
    have e2:=h2 _ hm
    refine bV rfl (bT ae (cT (cg h) ?_))
    rw[aa,aN _ h,aK]
    by_cases hp:(a0[i].length:Int)>0
    ·refine bT (ae hp) (cT (cg h) (bS (dr.eq hk e1 e2) (bS (cx.XD (sep:=RX) hk e1 e2 (ai 1)) (cT (ae (by simp[room];omega)) ?_))))
     have:xq a0[i] RX=Bd a0[i]:=by
      unfold xq
      have:((a0[i].length:Int)==0)=false:=by simp;intro hh;rw[hh] at hp;simp at hp
      rw[this];rfl
     show iN.l3 k a0 _ m _ (b++[xq a0[i] RX])=_
     rw[this];rfl
    ·refine bF (aC hp) (cT (ae (by simp[room];omega)) ?_)
     have hn:a0[i] =[]:=List.length_eq_zero_iff.1 (by omega)
     rw[hn];rfl)
  (fun b i h hI _=>by simp;omega)
  (fun m b hI=>bV rfl (br aC))
  a0.length 0 k [] (by omega) (cd hk h0) rfl
 refine h.trans ?_
 rw[ah,bX,Pe,aM]
 exact bN (cx.eq hk hl hs (by decide))
theorem eY.eq (hk:cy<=k) {a0:LL} (h0:a0.length<1048577) (h1: ∀y∈a0,y.length<1048577) (h2: ∀y∈a0,∀n∈y,tf .i64 n):eY.f k a0=some (rp (a0.map Bd) uz):=by
 have hs: ∀y∈a0.map Bd,y.size<=33554432:=fun y hy=>by
  obtain ⟨x,hx,rfl⟩:=List.mem_map.1 hy
  have e1:=h1 x hx
  have e2:(Bd x).size<=22*x.length:=xp (h2 x hx) (ai 1)
  omega
 have hl:(a0.map Bd).length<1048577:=by simpa using h0
 unfold eY.f rp
 rw[ca]
 cases ((a0.length:Int)==0) with
 |true=>rfl
 |false=>
  refine bF rfl ?_
  have h:=scan (B:=List BA) a0 (fun m b i=>eY.l5 k a0 (a0.length:Int) (fun x2=>(strings_Join.f k x2 (uz:BA)).bind fun r3=>some r3) m i b) (fun _ _=>true) (fun b a=>b++[Bd a]) (fun x2=>(strings_Join.f k x2 (uz:BA)).bind fun r3=>some r3) (fun _ _=>none) (fun i b=>b.length=i)
   (fun m b i h hI=>by
     have hm:=aj h
     refine bV rfl (bT ae (cT (cg h) ?_))
     rw[aa,aN _ h,aK]
     exact bS (cK.eq (sep:=RX) hk (h1 _ hm) (h2 _ hm) (ai 1)) (bW (ae (by simp[room];omega))))
   (fun b i h hI _=>by simp;omega)
   (fun m b hI=>bV rfl (br aC))
   a0.length 0 k [] (by omega) (cd hk h0) rfl
  refine h.trans ?_
  rw[ah,bX,Pe,aM]
  exact bN (strings_Join.eq k hl hs (by decide))
theorem LJ (l:LL): ∀(b:List BA),l.foldl (fun b a=>b++[ig a]) b=b++l.map ig:=by
 induction l with
 |nil=>intro b;simp
 |cons a l ih=>intro b;rw[aY,ih];simp
theorem eZ.eq (hk:cy<=k) {a0:LL} (h0:a0.length<1048577) (h1: ∀y∈a0,y.length<1048577):eZ.f k a0=some (rp (a0.map ig) uz):=by
 have hs: ∀y∈a0.map ig,y.size<=33554432:=fun y hy=>by
  obtain ⟨x,hx,rfl⟩:=List.mem_map.1 hy
  have:=tE x
  have:=h1 x hx
  omega
 have hl:(a0.map ig).length<1048577:=by simpa using h0
 unfold eZ.f rp
 rw[ca]
 cases ((a0.length:Int)==0) with
 |true=>rfl
 |false=>
 refine bF rfl ?_
 have h:=scan (B:=List BA) a0 (fun m b i=>eZ.l5 k a0 (a0.length:Int) (fun x2=>(strings_Join.f k x2 (uz:BA)).bind fun r3=>some r3) m i b) (fun _ _=>true) (fun b a=>b++[ig a]) (fun x2=>(strings_Join.f k x2 (uz:BA)).bind fun r3=>some r3) (fun _ _=>none) (fun i b=>b.length=i)
  (fun m b i h hI=>by
    refine bV rfl (bT ae (cT (cg h) ?_))
    rw[aa,aN _ h,aK]
    exact bS (fK.eq hk (h1 _ (aj h))) (bW (ae (by simp[room];omega))))
  (fun b i h hI _=>by simp;omega)
  (fun m b hI=>bV rfl (br aC))
  a0.length 0 k [] (by omega) (cd hk h0) rfl
 refine h.trans ?_
 rw[ah,bX,LJ,aM]
 exact bN (strings_Join.eq k hl hs (by decide))
theorem e7.eq (hk:cy<=k) {a0:LL} (h0:a0.length<1048577) (h1: ∀y∈a0,y.length<1048577):e7.f k a0=some (rp (a0.map ig) uz):=by
 have hs: ∀y∈a0.map ig,y.size<=33554432:=fun y hy=>by
  obtain ⟨x,hx,rfl⟩:=List.mem_map.1 hy
  have:=tE x
  have:=h1 x hx
  omega
 have hl:(a0.map ig).length<1048577:=by simpa using h0
 have h:=scan (B:=List BA) a0 (fun m b i=>e7.l3 k a0 (fun x2=>(cx.f k x2 (uz:BA)).bind fun r3=>some r3) m i b) (fun _ _=>true) (fun b a=>b++[ig a]) (fun x2=>(cx.f k x2 (uz:BA)).bind fun r3=>some r3) (fun _ _=>none) (fun i b=>b.length=i)
  (fun m b i h hI=>by
    refine bV rfl (bT ae (cT (cg h) ?_))
    rw[aa,aN _ h,aK]
    exact bS (c_.eq hk (h1 _ (aj h))) (bW (ae (by simp[room];omega))))
  (fun b i h hI _=>by simp;omega)
  (fun m b hI=>bV rfl (br aC))
  a0.length 0 k [] (by omega) (cd hk h0) rfl
 refine h.trans ?_
 rw[ah,bX,LJ,aM]
 exact bN (cx.eq hk hl hs (by decide))
def lexB:LI->LI->Bool
 | [],[]=>false
 | [],_::_=>true
 |_::_,[]=>false
 |a::x,b::y=>bif a==b then lexB x y else decide (a<b)
theorem uQ (x y:LI): ∀i,i<=x.length->i<=y.length->(∀j,j<i->x.getD j 0=y.getD j 0)->lexB x y=lexB (x.drop i) (y.drop i):=by
 intro i
 induction i with
 |zero=>intro _ _ _;rfl
 |succ i ih=>
  intro hx hy he
  rw[ih (by omega) (by omega) (fun j hj=>he j (by omega)),drop_cons (l:=x) (by omega),drop_cons (l:=y) (by omega)]
  have:=he i (by omega)
  rw[aN _ (by omega),aN _ (by omega)] at this
  rw[lexB,this]
  simp
theorem gR.eq (hk:cy<=k) {x:LI} (y:LI) (hx:x.length<1048577):gR.f k x y=some (lexB x y):=by
 have key: ∀(m i n:Nat),i+m=x.length->m<n->i<=y.length->(∀j,j<i->x.getD j 0=y.getD j 0)->gR.l2 k x y (fun x1=>some x1) (some (decide ((x.length:Int)<(y.length:Int)))) n (i:Int)=some (lexB x y):=by
  intro m
  induction m with
  |zero=>
   intro i n hi hn hy he
   obtain ⟨n,rfl⟩: ∃n',n=n' +1:=⟨n-1,by omega⟩
   refine kz rfl (bF aC ?_)
   rw[uQ x y i (by omega) hy he,List.drop_of_length_le (by omega)]
   by_cases h:i=y.length
   ·rw[List.drop_of_length_le (by omega),aC (by omega)];rfl
   ·rw[drop_cons (l:=y) (by omega),ae (by omega)];rfl
  |succ m ih=>
   intro i n hi hn hy he
   obtain ⟨n,rfl⟩: ∃n',n=n' +1:=⟨n-1,by omega⟩
   have LM:i<x.length:=by omega
   by_cases Uy:i<y.length
   ·by_cases e:x.getD i 0=y.getD i 0
    ·refine kz rfl (bT ae (bT ae (cT (cg LM) (cT (cg Uy) (bF (by rw[aa,e];simp) ?_)))))
     rw[aK]
     exact ih (i+1) n (by omega) (by omega) (by omega) (fun j hj=>by
      by_cases h:j=i
      ·subst h;exact e
      ·exact he j (by omega))
    ·refine kz rfl (bT ae (bT ae (cT (cg LM) (cT (cg Uy) (bT (by rw[aa];simpa using e) (cT (cg LM) (cT (cg Uy) ?_)))))))
     rw[aa,uQ x y i (by omega) hy he,drop_cons (l:=x) LM,drop_cons (l:=y) Uy,lexB]
     rw[aN _ LM,aN _ Uy] at e ⊢
     have:(x[i]==y[i])=false:=by simpa using e
     rw[this];rfl
   ·refine kz rfl (bT ae (bF aC ?_))
    rw[uQ x y i (by omega) hy he,drop_cons (l:=x) LM,List.drop_of_length_le (l:=y) (by omega),aC (by omega)];rfl
 exact key x.length 0 k (by omega) (cd hk hx) (Nat.zero_le _) (fun j hj=>by omega)
def qC (x:LI) (v:LL):Nat->Nat
 |0=>0
 |j+1=>bif lexB x (v.getD j []) then qC x v j else j+1
theorem Be (x:LI) (v:LL): ∀j,qC x v j<=j
 |0=>ai _
 |j+1=>by
  have:=Be x v j
  unfold qC
  cases lexB x (v.getD j [])<;>simp only[ak,an]<;>omega
def oM (v:LL) (x:LI):LL:=v.take (qC x v v.length)++x::v.drop (qC x v v.length)
theorem sI (v:LL) (x:LI):(oM v x).length=v.length+1:=by
 have:=Be x v v.length
 unfold oM
 simp only[au,aP,ab,cO]
 omega
theorem SI {v:LL} {x y:LI} (h:y∈oM v x):y=x\/y∈v:=by
 unfold oM at h
 rcases List.mem_append.1 h with h|h
 ·exact .inr (List.mem_of_mem_take h)
 ·rcases List.mem_cons.1 h with h|h
  ·exact .inl h
  ·exact .inr (List.mem_of_mem_drop h)
theorem yn (l:LL): ∀v,(l.foldl oM v).length=v.length+l.length:=by
 induction l with
 |nil=>intro v;simp
 |cons x l ih=>intro v;rw[aY,ih,sI,ab];omega
theorem IB {y:LI}: ∀ {l v:LL},y∈l.foldl oM v->y∈v\/y∈l
 | [],v,h=> .inl h
 |x::l,v,h=>by
  rw[aY] at h
  rcases IB h with h|h
  ·rcases SI h with h|h
   ·exact .inr (by simp[h])
   ·exact .inl h
  ·exact .inr (by simp[h])
theorem IC {i:Nat} (h:i<4611686018427387904):aF (((i+1:Nat):Int)-1)=(i:Int):=by
 rw[wrap_i64];omega
theorem hJ.eq (hk:cy<=k) {v:LL} {x:LI} (hv:v.length<1048576) (hx:x.length<1048577):hJ.f k v x=some (oM v x):=by
 have key: ∀(e0:Int->Option LL) (j n:Nat),j<=v.length->j<n->hJ.l2 k v x e0 n (j:Int)=e0 ((qC x v j:Nat):Int):=by
  intro e0 j
  induction j with
  |zero=>
   intro n hj hn
   obtain ⟨n,rfl⟩: ∃n',n=n' +1:=⟨n-1,by omega⟩
   exact kz rfl (br aC)
  |succ j ih=>
   intro n hj hn
   obtain ⟨n,rfl⟩: ∃n',n=n' +1:=⟨n-1,by omega⟩
   have hb:=gR.eq hk (v.getD j []) hx
   refine kz rfl (bT ae ?_)
   rw[IC (by omega)]
   refine cT (cg (by omega)) (bS (by rw[aa];exact hb) ?_)
   unfold qC
   cases lexB x (v.getD j []) with
   |true=>exact ih n (by omega) (by omega)
   |false=>rfl
 have hp:=Be x v v.length
 refine (key _ v.length k (ai _) (cd hk (by omega))).trans ?_
 unfold oM
 generalize qC x v v.length=i at hp
 refine cT (bA ae ae) (cT (D6 ?_) (cT (D6 ?_) (cT (bA ae ae) (cT (D6 ?_) ?_))))
 ·rw[aP];omega
 ·simp only[aM,aP];omega
 ·simp only[aM,au,aP,cO,cz];omega
 ·rw[aa];simp
def py (l:LI) (r:Int) (s:Nat) (acc:LI):LI:=bif bq l ((s:Int)*13+r) then acc++[(s:Int)*13+r] else acc
def uR (l:LI) (r:Int):LI:=M4 (py l r) 4 0 []
theorem uS (l:LI) (r:Int) (s:Nat) (acc:LI):(py l r s acc).length<=acc.length+1:=by
 unfold py
 cases bq l ((s:Int)*13+r)<;>simp
theorem ID (l:LI) (r:Int):(uR l r).length<=4:=by
 show (py l r 3 (py l r 2 (py l r 1 (py l r 0 [])))).length<=4
 have h0:=uS l r 0 []
 have h1:=uS l r 1 (py l r 0 [])
 have h2:=uS l r 2 (py l r 1 (py l r 0 []))
 have h3:=uS l r 3 (py l r 2 (py l r 1 (py l r 0 [])))
 simp only[List.length_nil] at h0
 omega
def CB (s:LI):LL:=bif s.length==4 then [eu s (s.getD 0 0),eu s (s.getD 1 0),eu s (s.getD 2 0),eu s (s.getD 3 0)] else []
def xy (l:LI) (r:Int):LL:=(bif Nat.ble 3 (uR l r).length then [uR l r] else [])++CB (uR l r)
theorem IE (l:LI) (r:Int):(xy l r).length<=5:=by
 unfold xy CB
 cases Nat.ble 3 (uR l r).length<;>cases ((uR l r).length==4)<;>simp
theorem Qn {l:LI} {r:Int} {y:LI} (h:y∈xy l r):y.length<=4:=by
 have h4:=ID l r
 unfold xy CB at h
 have w:=fun c=>qV (uR l r) c
 rcases List.mem_append.1 h with h|h
 ·cases hb:Nat.ble 3 (uR l r).length with
  |true=>rw[hb] at h;simp at h;rw[h];exact h4
  |false=>rw[hb] at h;simp at h
 ·cases hb:((uR l r).length==4) with
  |true=>
   rw[hb] at h
   simp only[ak,cL,cA,or_false] at h
   rcases h with rfl|rfl|rfl|rfl
   ·exact bx (w _) h4
   ·exact bx (w _) h4
   ·exact bx (w _) h4
   ·exact bx (w _) h4
  |false=>rw[hb] at h;simp at h
theorem aW.Vb (hk:cy<=k) {l:LI} (hl:l.length<1048577) {r:Nat} (hr:r<13) (e0:LI->Option R):aW.l9 k l (r:Int) e0 k 0 [] =e0 (uR l (r:Int)):=by
 have h:=upto (B:=LI) 4 (fun m b i=>aW.l9 k l (r:Int) e0 m i b) (py l (r:Int)) e0 (fun i b=>b.length<=i)
  (fun m b i h hI=>by
    have ew:aF (aF ((i:Int)*13)+(r:Int))=(i:Int)*13+(r:Int):=by
     rw[wrap_i64 (n:=(i:Int)*13),wrap_i64]
    refine bV rfl (bT ae ?_)
    rw[ew,aK]
    refine bS (cW.eq hk _ (by omega)) ?_
    unfold py
    cases bq l ((i:Int)*13+(r:Int)) with
    |false=>rfl
    |true=>exact bT rfl (bW (nY)))
  (fun b i h hI=>by have:=uS l (r:Int) i b;omega)
  (fun m b hI=>bV rfl (br aC))
  4 0 k [] (by omega) (by simp[cy] at hk;omega) (by simp)
 exact h
theorem aW.Pf (hk:cy<=k) {s:LI} (hs:s.length<=4) (e0:LL->Option R) {v:LL} (hv:v.length<1048000):aW.OT k s e0 k v 0=e0 ((CB s).foldl oM v):=by
 obtain ⟨q,rfl⟩: ∃q,k=q+5:=⟨k-5,by simp[cy] at hk;omega⟩
 unfold CB
 by_cases h4:s.length=4
 ·have one: ∀(m i:Nat) (v:LL),i<4->v.length<1048100->aW.OT (q+5) s e0 (m+1) v (i:Int)=aW.OT (q+5) s e0 m (oM v (eu s (s.getD i 0))) ((i+1:Nat):Int):=fun m i v hi hv=>by
   have hw:=qV s (s.getD i 0)
   refine bV rfl (bT ae (bT (by rw[h4];rfl) (cT (cg (by omega)) ?_)))
   rw[aa,aK]
   exact bS (fp.eq hk _ (by omega)) (bN (hJ.eq hk (by omega) (by omega)))
  have hb:(s.length==4)=true:=by simp[h4]
  rw[hb]
  have l1:=sI v (eu s (s.getD 0 0))
  have l2:=sI (oM v (eu s (s.getD 0 0))) (eu s (s.getD 1 0))
  have l3:=sI (oM (oM v (eu s (s.getD 0 0))) (eu s (s.getD 1 0))) (eu s (s.getD 2 0))
  refine (one (q+4) 0 v (by omega) (by omega)).trans ((one (q+3) 1 _ (by omega) (by omega)).trans ((one (q+2) 2 _ (by omega) (by omega)).trans ((one (q+1) 3 _ (by omega) (by omega)).trans ?_)))
  exact bV rfl (br aC)
 ·have hb:(s.length==4)=false:=by simp[h4]
  rw[hb]
  refine bV rfl ?_
  by_cases h0:s.length=0
  ·exact br aC
  ·exact bT ae (br (by simp;omega))
theorem aW.LN (hk:cy<=k) {l:LI} (hl:l.length<1048577) (e0:LL->Option R): ∀(m r n:Nat) (v:LL),r+m=13->m<n->v.length+5*m<1047000->aW.l5 k l e0 n v (r:Int)=e0 (((List.range' r m).flatMap fun (r:Nat)=>xy l (r:Int)).foldl oM v)
 |0,r,0,v,_,h,_=>absurd h (by omega)
 |0,r,n+1,v,hi,_,_=>bV rfl (br aC)
 |m+1,r,0,v,_,h,_=>absurd h (by omega)
 |m+1,r,n+1,v,hi,hn,hv=>by
  have h4:=ID l (r:Int)
  have hl5:=IE l (r:Int)
  rw[List.range'_succ,List.flatMap_cons,List.foldl_append]
  refine bV rfl (bT ae ((aW.Vb hk hl (by omega) _).trans ?_))
  have ew:=aK (i:=r) (by omega)
  have ih:=aW.LN hk hl e0 m (r+1) n ((xy l (r:Int)).foldl oM v) (by omega) (by omega) (by rw[yn];omega)
  refine Eq.trans ?_ ih
  unfold xy
  by_cases h3:3<=(uR l (r:Int)).length
  ·rw[Nat.ble_eq_true_of_le h3,ak,List.foldl_append]
   refine bT ae (bS (hJ.eq hk (by omega) (by omega)) ((aW.Pf hk h4 _ (by rw[sI];omega)).trans ?_))
   rw[ew];rfl
  ·have hb:Nat.ble 3 (uR l (r:Int)).length=false:=Bool.eq_false_iff.2 fun h=>h3 (bD h)
   rw[hb,an,aM]
   refine bF aC ((aW.Pf hk h4 _ (by omega)).trans ?_)
   rw[ew]
def tF (h:Int->Bool) (c:Nat):Nat->Nat->LI->LL
 |0,_,_=>[]
 |m+1,j,u=>bif h ((c:Int)+(j:Int)) then (bif Nat.ble 3 (j+1) then [u++[(c:Int)+(j:Int)]] else [])++tF h c m (j+1) (u++[(c:Int)+(j:Int)]) else []
theorem CC (h:Int->Bool) (c:Nat): ∀m j u,(tF h c m j u).length<=m
 |0,_,_=>ai _
 |m+1,j,u=>by
  have:=CC h c m (j+1) (u++[(c:Int)+(j:Int)])
  unfold tF
  cases h ((c:Int)+(j:Int)) with
  |false=>simp
  |true=>cases Nat.ble 3 (j+1)<;>simp<;>omega
theorem IF (h:Int->Bool) (c:Nat): ∀m j u,u.length=j-> ∀y∈tF h c m j u,y.length<=j+m
 |0,_,_,_=>fun y hy=>by cases hy
 |m+1,j,u,hu=>fun y hy=>by
  have ih:=IF h c m (j+1) (u++[(c:Int)+(j:Int)]) (by simp[hu])
  unfold tF at hy
  cases hh:h ((c:Int)+(j:Int)) with
  |false=>rw[hh] at hy;cases hy
  |true=>
   rw[hh,ak] at hy
   rcases List.mem_append.1 hy with hy|hy
   ·cases hb:Nat.ble 3 (j+1) with
    |true=>rw[hb] at hy;simp at hy;rw[hy];simp;omega
    |false=>rw[hb] at hy;cases hy
   ·have:=ih y hy;omega
theorem JU {c j:Nat} (hc:c<52) (hj:j<13-c%13):bJ ((c:Int)+(j:Int))=bJ (c:Int):=by
 have h1:=uN (c:=(c:Int)) (cU.2 (by omega))
 have h2:=uN (c:=(c:Int)+(j:Int)) (cU.2 (by omega))
 rw[h1.1,h2.1];omega
theorem LO {c:Nat} (hc:c<52):bJ ((c:Int)+((13-c%13:Nat):Int))≠bJ (c:Int):=by
 have h1:=uN (c:=(c:Int)) (cU.2 (by omega))
 rw[h1.1]
 cases hq:bI ((c:Int)+((13-c%13:Nat):Int)) with
 |true=>
  have h2:=uN hq
  rw[h2.1];omega
 |false=>
  unfold bJ
  rw[hq,an];omega
theorem aW.run_eq (hk:cy<=k) {l:LI} (hl:l.length<1048577) {c:Nat} (hc:c<52) (e0:LL->Option R): ∀(m j n:Nat) (v:LL) (u:LI),j+m=13-c%13->m<n->v.length+m<1047500->u.length=j->aW.l24 k l (c:Int) e0 n v ((c:Int)+(j:Int)) u=e0 ((tF (bq l) c m j u).foldl oM v)
 |m,j,0,v,u,_,h,_,_=>absurd h (by omega)
 |0,j,n+1,v,u,hj,_,_,_=>by
  refine xr rfl (bS (cW.eq hk _ (by omega)) ?_)
  cases bq l ((c:Int)+(j:Int)) with
  |false=>rfl
  |true=>
   refine bT rfl (bS (bP.eq ..) (bS (bP.eq ..) (br ?_)))
   have:=LO hc
   rw[show j=13-c%13 by omega]
   simpa using this
 |m+1,j,n+1,v,u,hj,hn,hv,hu=>by
  have hwr:aF ((c:Int)+(j:Int)+1)=(c:Int)+((j+1:Nat):Int):=by rw[wrap_i64];omega
  unfold tF
  cases hh:bq l ((c:Int)+(j:Int)) with
  |false=>exact xr rfl (bS (cW.eq hk _ (by omega)) (br hh))
  |true=>
   have Wn:(u++[(c:Int)+(j:Int)]).length=j+1:=by simp[hu]
   simp only[ak]
   rw[List.foldl_append]
   refine xr rfl (bS (cW.eq hk _ (by omega)) (bT hh (bS (bP.eq ..) (bS (bP.eq ..) (bT (by rw[JU hc (by omega)];simp) (cT (nY) ?_))))))
   rw[hwr]
   by_cases h3:3<=j+1
   ·rw[Nat.ble_eq_true_of_le h3,ak]
    refine bT (ae (by rw[Wn];omega)) (cT (nY (by rw[Wn];omega)) (bS (hJ.eq hk (by omega) (by rw[aM,Wn];omega)) ?_))
    exact aW.run_eq hk hl hc e0 m (j+1) n _ _ (by omega) (by omega) (by rw[sI];omega) Wn
   ·have hb:Nat.ble 3 (j+1)=false:=Bool.eq_false_iff.2 fun h=>h3 (bD h)
    rw[hb,an]
    refine bF (aC (by rw[Wn];omega)) ?_
    exact aW.run_eq hk hl hc e0 m (j+1) n v _ (by omega) (by omega) (by omega) Wn
theorem aW.IG (hk:cy<=k) {l:LI} (hl:l.length<1048577) (e0:LL->Option R): ∀(m c n:Nat) (v:LL),c+m=52->m<n->v.length+13*m<1047000->aW.l20 k l e0 n v (c:Int)=e0 (((List.range' c m).flatMap fun c=>tF (bq l) c (13-c%13) 0 []).foldl oM v)
 |0,r,0,v,_,h,_=>absurd h (by omega)
 |0,r,n+1,v,hi,_,_=>bV rfl (br aC)
 |m+1,r,0,v,_,h,_=>absurd h (by omega)
 |m+1,c,n+1,v,hi,hn,hv=>by
  have hle:=CC (bq l) c (13-c%13) 0 []
  have h1:=aW.run_eq hk hl (c:=c) (by omega) (fun x=>aW.l20 k l e0 n x ((c+1:Nat):Int)) (13-c%13) 0 k v [] (by omega) (by simp[cy] at hk;omega) (by omega) rfl
  have ih:=aW.IG hk hl e0 m (c+1) n ((tF (bq l) c (13-c%13) 0 []).foldl oM v) (by omega) (by omega) (by rw[yn];omega)
  rw[List.range'_succ,List.flatMap_cons,List.foldl_append]
  refine bV rfl (bT ae ?_)
  rw[aK]
  have e:(c:Int)+((0:Nat):Int)=(c:Int):=by omega
  rw[e] at h1
  exact h1.trans ih
def vI (l:LI):Bool:=dz l&&decide ((l.length:Int)<=12)
def NK (l:LI):LL:=((List.range' 0 13).flatMap fun (r:Nat)=>xy l (r:Int))++(List.range' 0 52).flatMap fun c=>tF (bq l) c (13-c%13) 0 []
def lG (l:LI):LL:=bif vI l then (NK l).foldl oM [] else []
theorem mw.eq (hk:cy<=k) {l:LI} (hl:l.length<1048577):mw.f k l=some (vI l):=by
 refine bS (bQ.eq hk (by omega)) ?_
 unfold vI
 cases dz l<;>rfl
theorem Fp (l:LI): ∀m r,((List.range' r m).flatMap fun (r:Nat)=>xy l (r:Int)).length<=5*m
 |0,r=>by simp
 |m+1,r=>by
  have h1:=Fp l m (r+1)
  have h2:=IE l (r:Int)
  rw[List.range'_succ,List.flatMap_cons,au];omega
theorem aW.eq (hk:cy<=k) {l:LI} (hl:l.length<1048577):aW.f k l=some (lG l):=by
 unfold lG
 refine bS (mw.eq hk hl) ?_
 cases vI l with
 |false=>rfl
 |true=>
  have hs:=Fp l 13 0
  refine bF rfl ((aW.LN hk hl _ 13 0 k [] (by omega) (by simp[cy] at hk;omega) (by simp)).trans ((aW.IG hk hl _ 52 0 k _ (by omega) (by simp[cy] at hk;omega) (by rw[yn,List.length_nil];omega)).trans ?_))
  unfold NK
  rw[ak,List.foldl_append]
theorem pz {l y:LI} (h:y∈lG l):y.length<=13:=by
 unfold lG at h
 cases hg:vI l with
 |false=>rw[hg] at h;cases h
 |true=>
  rw[hg,ak] at h
  rcases IB h with h|h
  ·cases h
  ·unfold NK at h
   rcases List.mem_append.1 h with h|h
   ·obtain ⟨r,_,h⟩:=List.mem_flatMap.1 h
    have:=Qn h;omega
   ·obtain ⟨c,_,h⟩:=List.mem_flatMap.1 h
    have:=IF (bq l) c (13-c%13) 0 [] rfl y h
    omega
theorem pC (l:LI):(lG l).length<=1000:=by
 have hf: ∀m c,((List.range' c m).flatMap fun c=>tF (bq l) c (13-c%13) 0 []).length<=13*m:=by
  intro m
  induction m with
  |zero=>intro c;simp
  |succ m ih=>
   intro c
   have h1:=ih (c+1)
   have h2:=CC (bq l) c (13-c%13) 0 []
   rw[List.range'_succ,List.flatMap_cons,au];omega
 have h1:=Fp l 13 0
 have h2:=hf 52 0
 unfold lG
 cases vI l with
 |false=>simp
 |true=>
  rw[ak,yn]
  unfold NK
  rw[au]
  simp only[List.length_nil]
  omega
theorem lex_asymm: ∀ {x y:LI},lexB x y=true->lexB y x=false
 | [],[],h=>by cases h
 | [],_::_,_=>rfl
 |_::_,[],h=>by cases h
 |a::x,b::y,h=>by
  rw[lexB] at h ⊢
  by_cases e:a=b
  ·subst e
   rw[beq_self_eq_true,ak] at h ⊢
   exact lex_asymm h
  ·rw[beq_eq_false_iff_ne.2 e,an] at h
   rw[beq_eq_false_iff_ne.2 (Ne.symm e),an]
   have:=ao h
   exact decide_eq_false (by omega)
theorem LP: ∀ {x y:LI},lexB x y=false->lexB y x=false->x=y
 | [],[],_,_=>rfl
 | [],_::_,h,_=>by cases h
 |_::_,[],_,h=>by cases h
 |a::x,b::y,h,h'=>by
  rw[lexB] at h h'
  by_cases e:a=b
  ·subst e
   rw[beq_self_eq_true,ak] at h h'
   rw[LP h h']
  ·rw[beq_eq_false_iff_ne.2 e,an] at h
   rw[beq_eq_false_iff_ne.2 (Ne.symm e),an] at h'
   have:=of_decide_eq_false h;have:=of_decide_eq_false h'
   omega
theorem lex_trans: ∀ {x y z:LI},lexB y x=false->lexB z y=false->lexB z x=false
 | [],_,[],_,_=>rfl
 | [],_,_::_,_,_=>rfl
 |_::_,[],[],h,_=>by cases h
 |_::_,_::_,[],_,h=>by cases h
 |_::_,[],_::_,h,_=>by cases h
 |a::x,b::y,c::z,h,h'=>by
  rw[lexB] at h h' ⊢
  by_cases e:b=a
  ·subst e
   rw[beq_self_eq_true,ak] at h
   by_cases e2:c=b
   ·subst e2
    rw[beq_self_eq_true,ak] at h' ⊢
    exact lex_trans h h'
   ·rw[beq_eq_false_iff_ne.2 e2,an] at h' ⊢
    exact h'
  ·rw[beq_eq_false_iff_ne.2 e,an] at h
   have:=of_decide_eq_false h
   by_cases e2:c=b
   ·subst e2
    rw[beq_eq_false_iff_ne.2 e,an]
    exact decide_eq_false (by omega)
   ·rw[beq_eq_false_iff_ne.2 e2,an] at h'
    have:=of_decide_eq_false h'
    rw[beq_eq_false_iff_ne.2 (by omega),an]
    exact decide_eq_false (by omega)
def XI (x y:LI):Prop:=lexB y x=false
theorem Fq {x:LI} {v:LL}: ∀k j,qC x v k<=j->j<k->lexB x (v.getD j [])=true
 |0,j,_,h=>absurd h (by omega)
 |k+1,j,h1,h2=>by
  unfold qC at h1
  cases hb:lexB x (v.getD k []) with
  |false=>rw[hb,an] at h1;omega
  |true=>
   rw[hb,ak] at h1
   by_cases e:j=k
   ·subst e;exact hb
   ·exact Fq k j h1 (by omega)
theorem Pg {x:LI} {v:LL}: ∀k j,j+1=qC x v k->lexB x (v.getD j [])=false
 |0,j,h=>by simp[qC] at h
 |k+1,j,h=>by
  unfold qC at h
  cases hb:lexB x (v.getD k []) with
  |true=>rw[hb,ak] at h;exact Pg k j h
  |false=>
   rw[hb,an] at h
   obtain rfl:j=k:=by omega
   exact hb
theorem LQ {v:LL} (hv:v.Pairwise XI) (x:LI):(oM v x).Pairwise XI:=by
 have hp:=Be x v v.length
 have at0: ∀j (h:j<v.length),v.getD j [] =v[j]:=fun j h=>aN _ h
 have before: ∀y∈v.take (qC x v v.length),XI y x:=fun y hy=>by
  obtain ⟨j,hj,rfl⟩:=List.getElem_of_mem hy
  rw[aP] at hj
  rw[List.getElem_take]
  have hq:lexB x (v.getD (qC x v v.length-1) [])=false:=Pg v.length _ (by omega)
  rw[at0 _ (by omega)] at hq
  by_cases e:j=qC x v v.length-1
  ·subst e;exact hq
  ·exact lex_trans ((List.pairwise_iff_getElem.1 hv) j (qC x v v.length-1) (by omega) (by omega) (by omega)) hq
 have after: ∀y∈v.drop (qC x v v.length),XI x y:=fun y hy=>by
  obtain ⟨j,hj,rfl⟩:=List.getElem_of_mem hy
  rw[cO] at hj
  rw[List.getElem_drop]
  have:=Fq (x:=x) (v:=v) v.length (qC x v v.length+j) (by omega) (by omega)
  rw[at0 _ (by omega)] at this
  exact lex_asymm this
 unfold oM
 refine List.pairwise_append.2 ⟨hv.sublist (List.take_sublist _ _),List.pairwise_cons.2 ⟨after,hv.sublist (List.drop_sublist _ _)⟩,fun a ha b hb=> ?_⟩
 rcases List.mem_cons.1 hb with rfl|hb
 ·exact before a ha
 ·exact lex_trans (before a ha) (after b hb)
theorem Qo (v:LL) (x:LI):(oM v x).Perm (x::v):=by
 unfold oM
 have:=List.perm_middle (a:=x) (l₁:=v.take (qC x v v.length)) (l₂:=v.drop (qC x v v.length))
 rwa [b_] at this
theorem vJ: ∀(l v:LL),v.Pairwise XI->(l.foldl oM v).Pairwise XI
 | [],_,h=>h
 |x::l,v,h=>vJ l _ (LQ h x)
theorem z_: ∀(l v:LL),(l.foldl oM v).Perm (l++v)
 | [],_=>List.Perm.refl _
 |x::l,v=>(z_ l (oM v x)).trans (((Qo v x).append_left l).trans List.perm_middle)
theorem JV {a b:LL} (h:a.Perm b):a.foldl oM [] =b.foldl oM []:=by
 have h1:=z_ a []
 have h2:=z_ b []
 rw[cm] at h1 h2
 exact List.Perm.eq_of_pairwise (le:=XI) (fun x y _ _ hx hy=>(LP hx hy).symm ▸ rfl) (vJ a [] List.Pairwise.nil) (vJ b [] List.Pairwise.nil) (h1.trans (h.trans h2.symm))
theorem iA.eq (hk:cy<=k) {x:LI} (y:LI) (hx:x.length<1048577):iA.f k x y=some (lexB x y):=by
 have key: ∀(m i n:Nat),i+m=x.length->m<n->i<=y.length->(∀j,j<i->x.getD j 0=y.getD j 0)->iA.l2 k x y (x.length:Int) (fun x1=>some x1) (some (decide ((x.length:Int)<(y.length:Int)))) n (i:Int)=some (lexB x y):=by
  intro m
  induction m with
  |zero=>
   intro i n hi hn hy he
   obtain ⟨n,rfl⟩: ∃n',n=n' +1:=⟨n-1,by omega⟩
   refine kz rfl (bF aC ?_)
   rw[uQ x y i (by omega) hy he,List.drop_of_length_le (by omega)]
   by_cases h:i=y.length
   ·rw[List.drop_of_length_le (by omega),aC (by omega)];rfl
   ·rw[drop_cons (l:=y) (by omega),ae (by omega)];rfl
  |succ m ih=>
   intro i n hi hn hy he
   obtain ⟨n,rfl⟩: ∃n',n=n' +1:=⟨n-1,by omega⟩
   have LM:i<x.length:=by omega
   by_cases Uy:i=y.length
   ·refine kz rfl (bT ae (bT (by simp[Uy]) ?_))
    rw[uQ x y i (by omega) (by omega) he,drop_cons (l:=x) LM,List.drop_of_length_le (l:=y) (by omega)];rfl
   ·have Z0:i<y.length:=by omega
    have nL:((i:Int)==(y.length:Int))=false:=by simp;omega
    by_cases e:x.getD i 0=y.getD i 0
    ·refine kz rfl (bT ae (bF nL (cT (cg LM) (cT (cg Z0) (bF (by rw[aa,e];simp) ?_)))))
     rw[aK]
     exact ih (i+1) n (by omega) (by omega) (by omega) (fun j hj=>by
      by_cases h:j=i
      ·subst h;exact e
      ·exact he j (by omega))
    ·refine kz rfl (bT ae (bF nL (cT (cg LM) (cT (cg Z0) (bT (by rw[aa];simpa using e) (cT (cg LM) (cT (cg Z0) ?_)))))))
     rw[aa,uQ x y i (by omega) hy he,drop_cons (l:=x) LM,drop_cons (l:=y) Z0,lexB]
     rw[aN _ LM,aN _ Z0] at e ⊢
     have:(x[i]==y[i])=false:=by simpa using e
     rw[this];rfl
 exact key x.length 0 k (by omega) (cd hk hx) (Nat.zero_le _) (fun j hj=>by omega)
theorem bz.put_eq (hk:cy<=k) {v:LL} {x:LI} (hv:v.length<1048576) (hx:x.length<1048577) (e0:Int->Option R): ∀(j n:Nat),j<=v.length->j<n->bz.OT k v x e0 n (j:Int)=e0 ((qC x v j:Nat):Int):=by
 intro j
 induction j with
 |zero=>
  intro n hj hn
  obtain ⟨n,rfl⟩: ∃n',n=n' +1:=⟨n-1,by omega⟩
  exact kz rfl (br aC)
 |succ j ih=>
  intro n hj hn
  obtain ⟨n,rfl⟩: ∃n',n=n' +1:=⟨n-1,by omega⟩
  have step:bz.OT k v x e0 (n+1) ((j+1:Nat):Int)=bif lexB x (v.getD j []) then bz.OT k v x e0 n (j:Int) else e0 ((j+1:Nat):Int):=by
   refine kz rfl (bT ae ?_)
   rw[IC (by omega)]
   exact cT (cg (by omega)) (bN (by rw[aa];exact iA.eq hk _ hx))
  rw[step]
  unfold qC
  cases lexB x (v.getD j []) with
  |true=>exact ih n (by omega) (by omega)
  |false=>rfl
theorem gQ.eq (hk:cy<=k) {x:LI} (hx:x.length<1048577):gQ.f k x=some (rS x):=by
 unfold rS
 refine bS (bo.eq hk (by omega)) ?_
 cases dz x with
 |false=>rfl
 |true=>
  refine bF rfl (bS (aI.eq ..) ?_)
  cases hr:mJ (x.length:Int) 3 4 with
  |false=>rfl
  |true=>
   have hr:=ja.1 hr
   refine bF rfl ?_
   have h:=scan (B:=Unit) x (fun m _ i=>gQ.l4 k x x (x.length:Int) (some false) (some true) m i) (fun _ a=>cu a==cu (x.getD 0 0)) (fun b _=>b) (fun _=>some true) (fun _ _=>some false) (fun _ _=>True)
    (fun m b i h hI=>by
      refine kz rfl (bT ae (cT (cg h) (bS (cV.eq ..) (cT ae (bS (cV.eq ..) ?_)))))
      rw[aa,aN _ h,aK]
      unfold bne
      cases (cu x[i]==cu (x.getD 0 0))<;>rfl)
    (fun b i h hI hp=>trivial)
    (fun m b hI=>kz rfl (br aC))
    x.length 0 k () (by omega) (cd hk hx) trivial
   refine h.trans ?_
   rw[ah,tv]
   unfold Fi
   cases (x.all fun c=>cu c==cu (x.getD 0 0))<;>rfl
theorem fc.loop (hk:cy<=k) (v:LI) (hv:v.length<1048577) (hc: ∀c∈v,bI c=true) (h0:0<v.length): ∀(m i n:Nat),i+m=v.length->m<n->fc.l5 k (v.length:Int) v (some false) (some true) n (i:Int)=some (((v.drop i).zipIdx i).all fun y=>(bJ y.1==bJ (v.getD 0 0))&&(y.1==v.getD 0 0+(y.2:Int)))
 |m,i,0,_,h=>absurd h (by omega)
 |0,i,n+1,hi,_=>by
  rw[aZ (by omega)]
  exact kz rfl (bF aC rfl)
 |m+1,i,n+1,hi,hn=>by
  have tu:i<v.length:=by omega
  have ih:=fc.loop hk v hv hc h0 m (i+1) n (by omega) (by omega)
  have c0:=cU.1 (hc (v.getD 0 0) (nX 0 h0))
  rw[drop_cons tu,List.zipIdx_cons,List.all_cons,<- Option.some_inj.2 rfl]
  refine kz rfl (bT ae (cT (cg tu) (bS (bU.eq ..) (cT ae (bS (bU.eq ..) ?_)))))
  rw[aa,aN _ tu,aK,wrap_i64 (n:=v.getD 0 0+(i:Int))]
  unfold bne
  cases (bJ v[i]==bJ (v.getD 0 0)) with
  |false=>rfl
  |true=>
   refine bF rfl (cT ae ?_)
   cases (v[i]==v.getD 0 0+(i:Int)) with
   |false=>rfl
   |true=>exact bF rfl (by rw[ih];rfl)
theorem fc.eq (hk:cy<=k) {x:LI} (hx:x.length<1048577):fc.f k x=some (rT x):=by
 unfold rT
 refine bS (bo.eq hk (by omega)) ?_
 cases hh:dz x with
 |false=>rfl
 |true=>
  refine bF rfl ?_
  by_cases h3:(x.length:Int)<3
  ·rw[ae h3];rfl
  ·rw[aC h3]
   have hp:=t_ x
   have hl:=hp.length_eq
   refine bF rfl (bS (db.eq hk hx) ?_)
   refine (fc.loop hk (dN x) (by omega) (fun c hc=>(jy.1 hh).1 c (hp.mem_iff.1 hc)) (by omega) (dN x).length 0 k (by omega) (cd hk (by omega))).trans ?_
   rw[ah]
   rfl
theorem ach (q:Nat) (h:q<4096):OS .and .i64 (q:Int) 1=((q%2:Nat):Int):=by
 have e:(BitVec.ofInt 64 (q:Int) &&& BitVec.ofInt 64 1).toNat=q%2:=by
  rw[BitVec.ofInt_natCast,show (BitVec.ofInt 64 1)=BitVec.ofNat 64 1 from rfl,BitVec.toNat_and,BitVec.toNat_ofNat,BitVec.toNat_ofNat,Nat.mod_eq_of_lt (show q<2^64 by omega),show 1%2^64=1 from rfl,Nat.and_one_is_mod]
 show aF (((BitVec.ofInt 64 (q:Int) &&& BitVec.ofInt 64 1).toNat:Nat):Int)=_
 rw[e,wrap_i64]
theorem bz.own (hk:cy<=k) {s:LI} (hs:s.length<=12) {q:Nat} (hq:q<4096) (e0:LI->Option R): ∀(m i n:Nat) (u:LI),i+m=s.length->m<n->u.length<=i->bz.l9 k (q:Int) (s.length:Int) s e0 n (i:Int) u=e0 (u++pick (q/2^i) (s.drop i))
 |m,i,0,u,_,h,_=>absurd h (by omega)
 |0,i,n+1,u,hi,_,_=>by
  rw[aZ (by omega)]
  have e:pick (q/2^i) [] =[]:=by unfold pick;rfl
  rw[e,cm]
  exact bV rfl (br aC)
 |m+1,i,n+1,u,hi,hn,hu=>by
  have tu:i<s.length:=by omega
  have hqi:q/2^i<4096:=Nat.lt_of_le_of_lt (Nat.div_le_self _ _) hq
  have ew:((q:Int)).fdiv (2^(min ((i:Int)).toNat (IntKind.bits .i64)))=((q/2^i:Nat):Int):=by
   rw[aa,show min i (IntKind.bits .i64)=i from Nat.min_eq_left (by show i<=64;omega)]
   rw[Int.fdiv_eq_ediv_of_nonneg _ (by exact Int.pow_nonneg (by decide))]
   rw[show ((2:Int)^i)=((2^i:Nat):Int) by simp]
   exact (Int.natCast_ediv q (2^i)).symm
  have ed:q/2^i/2=q/2^(i+1):=by rw[Nat.div_div_eq_div_mul,Nat.pow_succ]
  rw[drop_cons tu]
  have ep:pick (q/2^i) (s[i]::s.drop (i+1))=bif q/2^i%2==1 then s[i]::pick (q/2^(i+1)) (s.drop (i+1)) else pick (q/2^(i+1)) (s.drop (i+1)):=by
   rw[<- ed];rfl
  rw[ep]
  refine bV rfl (bT ae (cT (cg tu) (cT ae ?_)))
  rw[ew,ach _ hqi,aa,aN _ tu,aK]
  by_cases hb:q/2^i%2=1
  ·rw[hb]
   refine bT rfl (cT (nY) ((bz.own hk hs hq e0 m (i+1) n (u++[s[i]]) (by omega) (by omega) (by simp;omega)).trans ?_))
   simp
  ·have K4:q/2^i%2=0:=by omega
   rw[K4]
   exact bF rfl (bz.own hk hs hq e0 m (i+1) n u (by omega) (by omega) (by omega))
def Bf (s:LI):Nat->Nat->LL
 |_,0=>[]
 |q,m+1=>(bif ly (pick q s) then [pick q s] else [])++Bf s (q+1) m
theorem bz.LR (hk:cy<=k) {s:LI} (hs:s.length<=12) {T:Nat} (hT:T<=4096) (e0:LL->Option R): ∀(m q n:Nat) (v:LL),q+m=T->m<n->v.length<=q->bz.l5 k (T:Int) s e0 n (q:Int) v=e0 ((Bf s q m).foldl oM v)
 |m,q,0,v,_,h,_=>absurd h (by omega)
 |0,q,n+1,v,hi,_,_=>bV rfl (br aC)
 |m+1,q,n+1,v,hi,hn,hv=>by
  have Sm:(pick q s).length<=12:=bx (Fh q s).length_le hs
  have P4: ∀E:LI->Option R,bz.l9 k (q:Int) (s.length:Int) s E k 0 [] =E (pick q s):=fun E=>by
   have:=bz.own hk hs (q:=q) (by omega) E s.length 0 k [] (by omega) (by simp[cy] at hk;omega) (by simp)
   rw[Nat.pow_zero,Nat.div_one,ah,aM] at this
   exact this
  have ew:=aK (i:=q) (by omega)
  have put: ∀E:Int->Option R,bz.OT k v (pick q s) E k (v.length:Int)=E ((qC (pick q s) v v.length:Nat):Int):=fun E=>bz.put_eq hk (by omega) (by omega) E v.length k (ai _) (cd hk (by omega))
  have hX:(v++([[]]:LL)).length=v.length+1:=by simp
  have hj:=Be (pick q s) v v.length
  have Z1:oM v (pick q s)=v.take (qC (pick q s) v v.length)++pick q s::v.drop (qC (pick q s) v v.length):=rfl
  generalize qC (pick q s) v v.length=j at put hj Z1
  have body: ∀(rec:Int->LL->Option R),
   (bY (decide ((v.length+1)*24<=room))<|
   bY ((decide (0<=((v++([[]]:LL)).length:Int)))&&(decide (((v++([[]]:LL)).length:Int)<=((v++([[]]:LL)).length:Int))))<|
   bY ((decide (0<=(aF ((j:Int)+1))))&&(decide ((aF ((j:Int)+1))<=((v++([[]]:LL)).length:Int))))<|
   bY ((decide (0<=((v++([[]]:LL)).length:Int)))&&(decide (((v++([[]]:LL)).length:Int)<=((v++([[]]:LL)).length:Int))))<|
   bY ((decide (0<=(j:Int)))&&(decide ((j:Int)<=((v++([[]]:LL)).length:Int))))<|
   bY (((aF ((j:Int)+1)).toNat)==(j:Int).toNat+1&&(((v++([[]]:LL)).length:Int).toNat)==((v++([[]]:LL)).length)&&(((v++([[]]:LL)).length:Int).toNat)==((v++([[]]:LL)).length)&&decide ((j:Int).toNat<((v++([[]]:LL)).length)))<|
   bY ((decide (0<=(j:Int)))&&(decide ((j:Int)<((((v++([[]]:LL)).take (j:Int).toNat)++[]::((v++([[]]:LL)).drop (j:Int).toNat).dropLast).length:Int))))<|
   bY ((j:Int).toNat==(j:Int).toNat)<|
   rec (aF ((q:Int)+1)) ((((v++([[]]:LL)).take (j:Int).toNat)++[]::((v++([[]]:LL)).drop (j:Int).toNat).dropLast).set (j:Int).toNat (pick q s)))=rec ((q+1:Nat):Int) (oM v (pick q s)):=fun rec=>by
   have hlen:(((v++([[]]:LL)).take j)++[]::((v++([[]]:LL)).drop j).dropLast).length=v.length+1:=by
    simp only[au,aP,ab,List.length_dropLast,cO,List.length_nil];omega
   have hw:(((v++([[]]:LL)).take j)++[]::((v++([[]]:LL)).drop j).dropLast).set j (pick q s)=oM v (pick q s):=by
    rw[Z1,List.take_append_of_le_length hj,List.drop_append_of_le_length hj,List.dropLast_concat,List.set_append_right _ _ (by rw[aP];omega)]
    rw[aP,show j-min j v.length=0 by omega];rfl
   rw[aK (i:=j) (by omega),ew,aa,aa,aa,hX]
   refine cT (D6) (cT (bA ae ae) (cT (bA ae ae) (cT (bA ae ae) (cT (bA ae ae) (cT (bA (bA (bA (by simp) (by simp)) (by simp)) ae) (cT (bA ae (ae (by rw[hlen];omega))) (cT (by simp) ?_)))))))
   rw[hw]
  have next: ∀(w1:LL),w1.length<=q+1->bz.l5 k (T:Int) s e0 n ((q+1:Nat):Int) w1=e0 ((Bf s (q+1) m).foldl oM w1):=fun w1 Y4=>bz.LR hk hs hT e0 m (q+1) n w1 (by omega) (by omega) Y4
  have tu:=sI v (pick q s)
  have h0:bz.l5 k (T:Int) s e0 (n+1) (q:Int) v=_:=bV rfl (bT ae ((P4 _).trans (bN (gQ.eq hk (by omega)))))
  rw[h0,Bf]
  cases h1:rS (pick q s) with
  |true=>
   have hm:ly (pick q s)=true:=by unfold ly;rw[h1];rfl
   rw[hm]
   exact bF rfl ((put _).trans ((body _).trans (next _ (by omega))))
  |false=>
   simp only[fc.eq hk (show (pick q s).length<1048577 by omega)]
   cases h2:rT (pick q s) with
   |true=>
    have hm:ly (pick q s)=true:=by unfold ly;rw[h1,h2];rfl
    rw[hm]
    exact bT rfl (bS rfl (bF rfl ((put _).trans ((body _).trans (next _ (by omega))))))
   |false=>
    have hm:ly (pick q s)=false:=by unfold ly;rw[h1,h2];rfl
    rw[hm]
    exact bT rfl (bS rfl (bT rfl (by rw[ew];exact next v (by omega))))
theorem Dj (s:LI) (a:LI): ∀m q,(Bf s q m).count a+sE (fun i=>(ly (pick i s)&&pick i s==a).toNat) q=sE (fun i=>(ly (pick i s)&&pick i s==a).toNat) (q+m)
 |0,q=>by simp[Bf]
 |m+1,q=>by
  have ih:=Dj s a m (q+1)
  have e:sE (fun i=>(ly (pick i s)&&pick i s==a).toNat) (q+1)=sE (fun i=>(ly (pick i s)&&pick i s==a).toNat) q+(ly (pick q s)&&pick q s==a).toNat:=rfl
  have e2:(bif ly (pick q s) then [pick q s] else []).count a=(ly (pick q s)&&pick q s==a).toNat:=by
   cases ly (pick q s) with
   |false=>rfl
   |true=>rw[ak,List.count_singleton];cases pick q s==a<;>rfl
  rw[show q+(m+1)=q+1+m by omega,<- ih,e,Bf,List.count_append,e2]
  omega
def hasAll (l m:LI):Bool:=m.all fun c=>bq l c
theorem NL {s:LI} (hs:RB s) (a:LI):(Bf s 0 (2^s.length)).count a=(lx.filter (hasAll s)).count a:=by
 have h:=Dj s a (2^s.length) 0
 rw[Nat.zero_add,show sE (fun i=>(ly (pick i s)&&pick i s==a).toNat) 0=0 from rfl,Nat.add_zero,Cy s fun x=>(ly x&&x==a).toNat] at h
 rw[h]
 by_cases ha:a∈lx
 ·have hm:ly a=true:=List.all_eq_true.1 LG a ha
  have hA:RB a:=LF (List.all_eq_true.1 JQ a ha)
  have e:A_ (fun x=>(ly x&&x==a).toNat) s=A_ (fun x=>RD x a) s:=vH s fun x _=>by
   show _=(x==a).toNat
   by_cases e:x=a
   ·subst e;rw[hm];simp
   ·rw[beq_eq_false_iff_ne.2 e,Bool.and_false]
  rw[e,Es s a hs hA]
  have hc:lx.count a=1:=by
   have h1:=Pc (x:=a) LD
   have h2:(lx.any fun y=>a==y)=true:=List.any_eq_true.2 ⟨a,ha,by simp⟩
   rw[h2] at h1
   rw[<- show (lx.map (RD a)).sum=lx.count a from ?_,h1];rfl
   generalize lx=L
   induction L with
   |nil=>rfl
   |cons y L ih=>
    rw[bM,List.sum_cons,ih,List.count_cons]
    unfold RD
    by_cases e:a=y
    ·subst e;simp;omega
    ·rw[beq_eq_false_iff_ne.2 e,beq_eq_false_iff_ne.2 (Ne.symm e)];simp
  cases hb:hasAll s a with
  |true=>rw[List.count_filter hb,hc];unfold hasAll at hb;rw[hb];rfl
  |false=>
   rw[List.count_eq_zero_of_not_mem (fun hh=>by rw[(List.mem_filter.1 hh).2] at hb;cases hb)]
   unfold hasAll at hb;rw[hb];rfl
 ·rw[List.count_eq_zero_of_not_mem (fun hh=>ha (List.mem_filter.1 hh).1)]
  rw[<- yl s]
  refine vH s fun x hx=> ?_
  by_cases e:x=a
  ·subst e
   have hm:ly x=false:=by
    cases hm:ly x with
    |false=>rfl
    |true=>
     exfalso
     have hA:RB x:=hs.sublist hx
     unfold ly at hm
     rcases (Bool.or_eq_true ..).mp hm with h1|h1
     ·exact ha (U_ h1 hA)
     ·exact ha (Va h1 hA)
   rw[hm];rfl
  ·rw[beq_eq_false_iff_ne.2 e,Bool.and_false];rfl
theorem CD {α:Type} {f g:α->LL}: ∀ {L:List α},(∀x∈L,(f x).Perm (g x))->(L.flatMap f).Perm (L.flatMap g)
 | [],_=>List.Perm.refl _
 |x::L,h=>by
  rw[List.flatMap_cons,List.flatMap_cons]
  exact (h x (by simp)).append (CD fun y hy=>h y (List.mem_cons_of_mem _ hy))
theorem SJ (r:Int):eu [r,r+13,r+26,r+39] r=[r+13,r+26,r+39]/\eu [r,r+13,r+26,r+39] (r+13)=[r,r+26,r+39]/\eu [r,r+13,r+26,r+39] (r+26)=[r,r+13,r+39]/\eu [r,r+13,r+26,r+39] (r+39)=[r,r+13,r+26]:=by
 have t: ∀(a b:Int),a≠b->(a != b)=true:=fun a b h=>by simpa using h
 have f: ∀a:Int,(a != a)=false:=fun a=>by simp
 have q: ∀(a b:Int) (l:LI),(a != b)=true->(a::l).filter (fun x=>x != b)=a::l.filter fun x=>x != b:=fun a b l h=>List.filter_cons_of_pos h
 have z: ∀(a:Int) (l:LI),(a::l).filter (fun x=>x != a)=l.filter fun x=>x != a:=fun a l=>List.filter_cons_of_neg (by rw[f];exact Bool.false_ne_true)
 unfold eu
 refine ⟨?_,?_,?_,?_⟩
 ·rw[z,q _ _ _ (t _ _ (by omega)),q _ _ _ (t _ _ (by omega)),q _ _ _ (t _ _ (by omega))];rfl
 ·rw[q _ _ _ (t _ _ (by omega)),z,q _ _ _ (t _ _ (by omega)),q _ _ _ (t _ _ (by omega))];rfl
 ·rw[q _ _ _ (t _ _ (by omega)),q _ _ _ (t _ _ (by omega)),z,q _ _ _ (t _ _ (by omega))];rfl
 ·rw[q _ _ _ (t _ _ (by omega)),q _ _ _ (t _ _ (by omega)),q _ _ _ (t _ _ (by omega)),z];rfl
theorem Qp (l:LI) (r:Int):(xy l r).Perm ((Cz r).filter (hasAll l)):=by
 have e0:((0:Nat):Int)*13+r=r:=by omega
 have e1:((1:Nat):Int)*13+r=r+13:=by omega
 have e2:((2:Nat):Int)*13+r=r+26:=by omega
 have e3:((3:Nat):Int)*13+r=r+39:=by omega
 obtain ⟨w0,w1,w2,w3⟩:=SJ r
 have hA:uR l r=py l r 3 (py l r 2 (py l r 1 (py l r 0 []))):=rfl
 unfold xy CB Cz
 rw[hA]
 unfold py hasAll
 rw[e0,e1,e2,e3]
 cases h0:bq l r<;>cases h1:bq l (r+13)<;>cases h2:bq l (r+26)<;>cases h3:bq l (r+39)<;>simp[h0,h1,h2,h3,List.filter_cons,Nat.ble]
 rw[w0,w1,w2,w3]
 exact ((List.reverse_perm [[r,r+13,r+26],[r,r+13,r+39],[r,r+26,r+39],[r+13,r+26,r+39]]))
theorem NM (c:Int) (j:Nat):uM c j++[c+(j:Int)] =uM c (j+1):=by
 unfold uM
 rw[List.range_succ,List.map_append];rfl
theorem II {h:Int->Bool} {c:Int} {m:Nat}:(uM c m).all h=(List.range m).all fun (i:Nat)=>h (c+(i:Int)):=by
 unfold uM;rw[List.all_map];rfl
theorem Dk (h:Int->Bool) (c:Nat): ∀m j,((List.range j).all fun (i:Nat)=>h ((c:Int)+(i:Int)))=true->tF h c m j (uM (c:Int) j)=(((List.range' (j+1) m).filter fun t=>Nat.ble 3 t).map (uM (c:Int))).filter fun x=>x.all h
 |0,j,_=>rfl
 |m+1,j,hj=>by
  have step:((List.range (j+1)).all fun (i:Nat)=>h ((c:Int)+(i:Int)))=h ((c:Int)+(j:Int)):=by
   rw[List.range_succ,List.all_append,hj];simp
  unfold tF
  cases hb:h ((c:Int)+(j:Int)) with
  |false=>
   rw[an]
   symm
   refine List.filter_eq_nil_iff.2 fun x hx w9=> ?_
   obtain ⟨t,ht,rfl⟩:=List.mem_map.1 hx
   have ht:=(List.mem_range'_1.1 (List.mem_filter.1 ht).1)
   rw[II] at w9
   have:=List.all_eq_true.1 w9 j (List.mem_range.2 (by omega))
   rw[hb] at this;cases this
  |true=>
   rw[ak,NM,Dk h c m (j+1) (by rw[step,hb]),List.range'_succ]
   cases h3:Nat.ble 3 (j+1) with
   |false=>rw[List.filter_cons_of_neg (by rw[h3];exact Bool.false_ne_true)];rfl
   |true=>
    rw[List.filter_cons_of_pos h3,bM,List.filter_cons_of_pos (by rw[II,step,hb])]
    rfl
theorem Vc (l:LI) (c:Nat):tF (bq l) c (13-c%13) 0 [] =(NJ c).filter (hasAll l):=by
 have h:=Dk (bq l) c (13-c%13) 0 rfl
 have e: ∀m,m<14->(List.range' (0+1) m).filter (fun t=>Nat.ble 3 t)=(List.range (m-2)).map (· +3):=by decide
 have hm:c%13<13:=Nat.mod_lt _ (by omega)
 rw[show uM (c:Int) 0=[] from rfl,e _ (by omega),List.map_map,show 13-c%13-2=11-c%13 by omega] at h
 exact h
theorem SL (l:LI):(NK l).Perm (lx.filter (hasAll l)):=by
 unfold NK lx
 rw[List.filter_append,List.filter_flatMap,List.filter_flatMap,List.range_eq_range',List.range_eq_range']
 refine List.Perm.append (CD fun r _=>Qp l (r:Int)) (CD fun c _=> ?_)
 rw[Vc]
theorem LS {l l':LI} (h:l.Perm l'):hasAll l=hasAll l':=by
 funext m
 unfold hasAll
 congr 1
 funext c
 exact JR h c
theorem bz.eq (hk:cy<=k) {l:LI} (hl:l.length<1048577):bz.f k l=some (lG l):=by
 unfold lG vI
 cases hh:dz l with
 |false=>exact bS (bo.eq hk (by omega)) (jV (by rw[hh];rfl))
 |true=>
  by_cases M6:(l.length:Int)<=12
  ·have hp:=t_ l
   have Bb:=hp.length_eq
   have sq:=(jy.1 hh).2
   have aci:RB (dN l):=XG (JO l) (hp.nodup_iff.2 sq)
   have Z2:(2:Nat)^(dN l).length<=4096:=by
    have:=Nat.pow_le_pow_right (n:=2) (by omega) (show (dN l).length<=12 by omega)
    simpa using this
   have ew:aF (1*2^(min ((((dN l).length:Nat):Int).toNat) (IntKind.bits .i64)))=((2^(dN l).length:Nat):Int):=by
    rw[aa,show min (dN l).length (IntKind.bits .i64)=(dN l).length from Nat.min_eq_left (by show _<=64;omega),Int.one_mul]
    rw[show ((2:Int)^(dN l).length)=((2^(dN l).length:Nat):Int) by simp]
    generalize 2^(dN l).length=P at Z2
    rw[wrap_i64]
   have Z3:(Bf (dN l) 0 (2^(dN l).length)).Perm (NK l):=(List.perm_iff_count.2 fun a=>NL aci a).trans (by rw[LS hp];exact (SL l).symm)
   have g:=bz.LR hk (s:=dN l) (by omega) Z2 (fun x9=>Option.some x9) (2^(dN l).length) 0 k [] (by omega) (by simp[cy] at hk;omega) (by simp)
   rw[JV Z3] at g
   rw[ae M6]
   exact bS (bo.eq hk (by omega)) (bF (by rw[hh];rfl) (bF aC (bS (db.eq hk hl) (cT ae (by rw[ew];exact g)))))
  ·rw[aC M6]
   exact bS (bo.eq hk (by omega)) (bF (by rw[hh];rfl) (jV ae))
end Go.Proofs.YtbmmhdmljajcfaaGreatDoor
namespace Go.Proofs.YtbmmhdmljajcfaaGreatDoor
open Go V Go.Proofs.YtbmmhdmljajcfaaGreatDoor.Ca
variable {R:Type} {k:Nat}
abbrev NN (l:LI):Int:=lQ l
def nl (l m:LI):LI:=m.foldl eu l
theorem vK: ∀(m l:LI),(nl l m).length<=l.length
 | [],l=>ai _
 |c::m,l=>bx (vK m (eu l c)) (qV l c)
theorem iG.eq (hk:cy<=k) {l m:LI} (hl:l.length<1048577) (hm:m.length<1048577):iG.f k l m=some (nl l m):=by
 have h:=scan (B:=LI) m (fun n b i=>iG.l3 k m (fun x1=>some x1) n b i) (fun _ _=>true) eu (fun x1=>some x1) (fun _ _=>none) (fun i b=>b.length<1048577)
  (fun n b i h hI=>by
    refine bV rfl (bT ae (cT (cg h) ?_))
    rw[aa,aN _ h,aK]
    exact bN (fp.eq hk _ hI))
  (fun b i h hI _=>Nat.lt_of_le_of_lt (qV b m[i]) hI)
  (fun n b hI=>bV rfl (br aC))
  m.length 0 k l (by omega) (cd hk hm) hl
 refine h.trans ?_
 rw[ah,bX];rfl
def ud:LI->LI->Bool->Bool
 | [],_,b=>b
 |c::cs,l,b=>ud cs (eu l c) (b&&bq l c)
def qD:LL->LI->Int->Int
 | [],_,o=>o
 |m::ms,l,o=>bif ud m l true then qD ms l (if qD ms (nl l m) (NN (nl l m))<o then qD ms (nl l m) (NN (nl l m)) else o) else qD ms l o
theorem IJ {H:LI->Int->Option Bool} {X:LI->Int->Option LI} (hH: ∀l c,l.length<1048577->H l c=some (bq l c)) (hX: ∀l c,l.length<1048577->X l c=some (eu l c)): ∀(m l:LI) (b:Bool),l.length<1048577->w_ H X m l b=some (nl l m,ud m l b)
 | [],l,b,_=>rfl
 |c::m,l,b,hl=>by
  have e:(bif b then H l c else some false)=some (b&&bq l c):=by
   cases b with
   |true=>rw[ak,hH l c hl];rfl
   |false=>rfl
  exact bS e (bS (hX l c hl) (IJ hH hX m (eu l c) (b&&bq l c) (Nat.lt_of_le_of_lt (qV l c) hl)))
theorem yo {V:LI->Option Int} {H:LI->Int->Option Bool} {X:LI->Int->Option LI} (hV: ∀l,l.length<1048577->V l=some (NN l)) (hH: ∀l c,l.length<1048577->H l c=some (bq l c)) (hX: ∀l c,l.length<1048577->X l c=some (eu l c)): ∀(ms:LL) (l:LI) (o:Int),l.length<1048577->kR V H X ms l o=some (qD ms l o)
 | [],l,o,_=>rfl
 |m::ms,l,o,hl=>by
  have U1:(nl l m).length<1048577:=Nat.lt_of_le_of_lt (vK m l) hl
  refine bS (IJ hH hX m l true hl) ?_
  unfold qD
  cases ud m l true with
  |false=>exact bF rfl (yo hV hH hX ms l o hl)
  |true=>exact bT rfl (bS (hV _ U1) (bS (yo hV hH hX ms _ _ U1) (yo hV hH hX ms l _ hl)))
def aaq (l:LI):Int:=bif !dz l||decide (12<(l.length:Int)) then-1 else qD (lG l) l (NN l)
theorem mn.eq (hk:cy<=k) {l:LI} (hl:l.length<1048577):mn.f k l=some (aaq l):=by
 unfold aaq
 refine bS (bo.eq hk (by omega)) ?_
 cases h:(!dz l||decide (12<(l.length:Int))) with
 |true=>rfl
 |false=>
  have hc:(decide ((lG l).length<1000000)&&(lG l).all (fun m=>decide (m.length<1000000)))=true:=bA (ae (by have:=pC l;omega)) (List.all_eq_true.2 fun m hm=>ae (by have:=pz hm;omega))
  exact bF rfl (bS (bz.eq hk hl) (bT hc (bS (bh.eq k hl) (bS (hD.eq hk hl) (yo (fun l h=>hD.eq hk h) (fun l c h=>iP.eq hk c (by omega)) (fun l c h=>gL.eq hk c h) _ l _ hl)))))
theorem LU {l:LI} (h:l.Nodup) (c:Int):(eu l c).length+(bq l c).toNat=l.length/\(eu l c).Nodup:=by
 refine ⟨?_,h.sublist List.filter_sublist⟩
 unfold eu bq
 induction l with
 |nil=>rfl
 |cons a l ih=>
  obtain ⟨h1,h2⟩:=List.nodup_cons.1 h
  have ih:=ih h2
  by_cases e:a=c
  ·subst e
   have e1:(l.any fun x=>x==a)=false:=by
    cases hb:(l.any fun x=>x==a) with
    |false=>rfl
    |true=>obtain ⟨x,hx,hxa⟩:=List.any_eq_true.1 hb;exact absurd (aE hxa ▸ hx) h1
   rw[e1] at ih
   rw[List.filter_cons_of_neg (by simp),List.any_cons,beq_self_eq_true,Bool.true_or,ab]
   have:(false:Bool).toNat=0:=rfl
   have:(true:Bool).toNat=1:=rfl
   omega
  ·rw[List.filter_cons_of_pos (by simpa using e),List.any_cons,beq_eq_false_iff_ne.2 e,Bool.false_or,ab,ab]
   omega
theorem Ft: ∀(m l:LI) (b:Bool),l.Nodup->(nl l m).Nodup/\(nl l m).length+m.length>=l.length/\(b=true->ud m l b=decide ((nl l m).length+m.length=l.length))/\(b=false->ud m l b=false)
 | [],l,b,h=>⟨h,by simp[nl],fun hb=>by subst hb;simp[ud,nl],fun hb=>by subst hb;rfl⟩
 |c::m,l,b,h=>by
  obtain ⟨h1,h2⟩:=LU h c
  obtain ⟨k1,k2,k3,k4⟩:=Ft m (eu l c) (b&&bq l c) h2
  have em:nl l (c::m)=nl (eu l c) m:=rfl
  have ew:ud (c::m) l b=ud m (eu l c) (b&&bq l c):=rfl
  rw[em,ew,ab]
  cases hc:bq l c with
  |true=>
   rw[hc] at h1 k3 k4
   have:(true:Bool).toNat=1:=rfl
   refine ⟨k1,by omega,fun hb=> ?_,fun hb=>k4 (by rw[hb];rfl)⟩
   rw[k3 (by rw[hb];rfl)]
   congr 1
   exact propext ⟨fun e=>by omega,fun e=>by omega⟩
  |false=>
   rw[hc] at h1 k3 k4
   have:(false:Bool).toNat=0:=rfl
   refine ⟨k1,by omega,fun hb=> ?_,fun hb=>k4 (by rw[hb];rfl)⟩
   rw[k4 (by rw[hb];rfl)]
   exact (aC (by omega)).symm
theorem qT.eq (k:Nat) (a b:Int):qT.f k a b=some (if b<a then b else a):=by
 unfold qT.f
 by_cases h:b<a
 ·rw[ae h,aS h];rfl
 ·rw[aC h,aD h];rfl
theorem LW (hk:cy<=k) {ms:LL} (ZD:ms.length<=1000) (hm: ∀m∈ms,m.length<=13): ∀(d a n:Nat) (l:LI),a+d=ms.length->d<n->l.Nodup->l.length<=52->fv.g k n l ms (a:Int)=some (qD (ms.drop a) l (NN l)):=by
 intro d
 induction d using Nat.strongRecOn with
 |ind d ih=>
  intro a n l ha hn sq hl
  obtain ⟨n,rfl⟩: ∃n',n=n' +1:=⟨n-1,by omega⟩
  have loop: ∀(e i r:Nat) (o:Int),i+e=ms.length->e<r->a<=i->fv.l3 k (fv.g k n) l ms (fun x5=>some x5) r o (i:Int)=some (qD (ms.drop i) l o):=by
   intro e
   induction e with
   |zero=>
    intro i r o hi hr _
    obtain ⟨r,rfl⟩: ∃r',r=r' +1:=⟨r-1,by omega⟩
    rw[List.drop_of_length_le (by omega)]
    exact bV rfl (br aC)
   |succ e ihe=>
    intro i r o hi hr hai
    obtain ⟨r,rfl⟩: ∃r',r=r' +1:=⟨r-1,by omega⟩
    have tu:i<ms.length:=by omega
    have ZG:=hm ms[i] (aj tu)
    have hmn:=vK ms[i] l
    obtain ⟨w1,w2,w3,_⟩:=Ft ms[i] l true sq
    refine bV rfl (bT ae (cT (cg tu) ?_))
    rw[aa,aN _ tu]
    refine bS (iG.eq hk (by omega) (by omega)) (cT (cg tu) ?_)
    rw[drop_cons tu,qD,w3 rfl,aK]
    by_cases hw:(nl l ms[i]).length+ms[i].length=l.length
    ·rw[ae hw]
     refine bT (by rw[wrap_i64];simp;omega) (bS (ih (d-(i-a)-1) (by omega) (i+1) n _ (by omega) (by omega) w1 (by omega)) (bS (qT.eq ..) ?_))
     exact ihe (i+1) r _ (by omega) (by omega) (by omega)
    ·rw[aC hw]
     exact bF (by rw[wrap_i64];simp;omega) (ihe (i+1) r o (by omega) (by omega) (by omega))
  exact bS (im.eq hk (by omega)) (loop d a k _ ha (by simp[cy] at hk;omega) (ai _))
theorem my.eq (hk:cy<=k) {l:LI} (hl:l.length<1048577):my.f k l=some (aaq l):=by
 have hO:=mw.eq hk hl
 unfold aaq
 refine bS hO ?_
 have e:(!vI l)=(!dz l||decide (12<(l.length:Int))):=by
  unfold vI
  by_cases h:(l.length:Int)<=12
  ·rw[ae h,aC (by omega)];simp
  ·rw[aC h,ae (by omega)];simp
 rw[e]
 cases h:(!dz l||decide (12<(l.length:Int))) with
 |true=>rfl
 |false=>
  simp only[Bool.or_eq_false_iff,Bool.not_eq_false'] at h
  have sq:=(jy.1 h.1).2
  have h52:=uD h.1
  have ZD:=pC l
  exact bF rfl (bS (aW.eq hk hl) (bS (LW hk ZD (fun m hm=>pz hm) (lG l).length 0 k l (by omega) (by simp[cy] at hk;omega) sq h52) rfl))
theorem rI (l:LI): -1<=aaq l/\aaq l<=520:=by
 have key: ∀(ms:LL) (x:LI) (o:Int),x.length<=52->0<=o->o<=520->0<=qD ms x o/\qD ms x o<=520:=by
  intro ms
  induction ms with
  |nil=>intro x o _ h1 h2;exact ⟨h1,h2⟩
  |cons m ms ih=>
   intro x o hx h1 h2
   have hl:=vK m x
   have hs:=vw (nl x m)
   have hr:=ih (nl x m) (NN (nl x m)) (by omega) hs.1 (by show lQ _<=520;omega)
   unfold qD
   cases ud m x true with
   |false=>exact ih x o hx h1 h2
   |true=>
    refine ih x _ hx ?_ ?_
    ·split<;>omega
    ·split<;>omega
 unfold aaq
 cases h:(!dz l||decide (12<(l.length:Int))) with
 |true=>simp
 |false=>
  simp only[Bool.or_eq_false_iff,Bool.not_eq_false'] at h
  have h52:=uD h.1
  have hs:=vw l
  have:=key (lG l) l (NN l) h52 hs.1 (by show lQ _<=520;omega)
  simp only[an];omega
def zp (a b t:Int):Bool:=bI a&&bI b&&bif bJ a==bJ b then decide (a>b) else bJ a==t
theorem nU.eq (k:Nat) (a b t:Int):nU.f k a b t=some (zp a b t):=by
 unfold nU.f zp
 simp only[cc.eq,bP.eq,aO]
 cases bI a<;>cases bI b<;>cases (bJ a==bJ b)<;>rfl
theorem nQ.eq (k:Nat) (a b t:Int):nQ.f k a b t=some (zp a b t):=by
 unfold nQ.f zp
 simp only[bH.eq,bU.eq,cV.eq,aO]
 cases ha:bI a<;>cases hb:bI b<;>cases hs:(bJ a==bJ b)<;>try rfl
 have h1:=mY ha
 have h2:=mY hb
 have n1:=cU.1 ha
 have n2:=cU.1 hb
 have e1:=aX (b:=13) n1.1
 have e2:=aX (b:=13) n2.1
 have e3:=Int.tdiv_eq_ediv_of_nonneg (b:=13) n1.1
 have e4:=Int.tdiv_eq_ediv_of_nonneg (b:=13) n2.1
 have hs:=aE hs
 show some (decide (cu a>cu b))=some (decide (a>b))
 congr 2
 exact propext ⟨fun h=>by omega,fun h=>by omega⟩
def vM (l:LI) (t:Int) (i:Nat) (b:Int):Int:=bif zp (l.getD i 0) (l.getD b.toNat 0) t then (i:Int) else b
def nB (l:LI) (t:Int):Int:=bif ((l.length:Int)==0)|| !dz l then-1 else M4 (vM l t) (l.length-1) 1 0
theorem Bg {l:LI} (hl:l.length<1048577) (t:Int): -1<=nB l t/\nB l t<=1048577:=by
 have key: ∀(m i:Nat) (b:Int),0<=b->b<=1048577->i+m<=1048577->0<=M4 (vM l t) m i b/\M4 (vM l t) m i b<=1048577:=by
  intro m
  induction m with
  |zero=>intro i b h1 h2 _;exact ⟨h1,h2⟩
  |succ m ih=>
   intro i b h1 h2 h3
   show 0<=M4 (vM l t) m (i+1) (vM l t i b)/\_
   have:0<=vM l t i b/\vM l t i b<=1048577:=by
    unfold vM
    cases zp (l.getD i 0) (l.getD b.toNat 0) t
    ·exact ⟨h1,h2⟩
    ·exact ⟨by show (0:Int)<=(i:Int);omega,by show (i:Int)<=1048577;omega⟩
   exact ih (i+1) _ this.1 this.2 (by omega)
 unfold nB
 cases (((l.length:Int)==0)|| !dz l) with
 |true=>simp
 |false=>
  have:=key (l.length-1) 1 0 (by omega) (by omega) (by omega)
  simp only[an];omega
theorem Ph {l:LI} {t:Int} {i:Nat} {b:Int} (hi:i<l.length) (hb:0<=b/\b<(l.length:Int)):0<=vM l t i b/\vM l t i b<(l.length:Int):=by
 unfold vM
 cases zp (l.getD i 0) (l.getD b.toNat 0) t
 ·exact hb
 ·exact ⟨by show (0:Int)<=(i:Int);omega,by show (i:Int)<_;omega⟩
theorem iH.eq (hk:cy<=k) {l:LI} (hl:l.length<1048577) (t:Int):iH.f k l t=some (nB l t):=by
 unfold nB
 cases h0:((l.length:Int)==0) with
 |true=>exact jV h0
 |false=>
  have nL:=beq_eq_false_iff_ne.1 h0
  refine bF h0 (bS (bQ.eq hk (by omega)) ?_)
  cases dz l with
  |false=>rfl
  |true=>
   refine bF rfl ?_
   exact upto (B:=Int) l.length (fun n b i=>iH.l5 k l t (fun x1=>some x1) n b i) (vM l t) (fun x1=>some x1) (fun _ b=>0<=b/\b<(l.length:Int))
    (fun n b i hi hI=>by
      refine bV rfl (bT ae (cT (cg hi) (cT (bA (ae hI.1) (ae hI.2)) ?_)))
      rw[aa,aK]
      refine bS (nU.eq ..) ?_
      unfold vM
      cases zp (l.getD i 0) (l.getD b.toNat 0) t<;>rfl)
    (fun b i hi hI=>Ph hi hI)
    (fun n b _=>bV rfl (br aC))
    (l.length-1) 1 k 0 (by omega) (cd hk (by omega)) ⟨by omega,by omega⟩
theorem iC.eq (hk:cy<=k) {l:LI} (hl:l.length<1048577) (t:Int):iC.f k l t=some (nB l t):=by
 unfold nB
 cases h0:((l.length:Int)==0) with
 |true=>exact jV h0
 |false=>
  have nL:=beq_eq_false_iff_ne.1 h0
  refine bF h0 (bS (bo.eq hk (by omega)) ?_)
  cases dz l with
  |false=>rfl
  |true=>
   refine bF rfl ?_
   have h:=upto (B:=Int) l.length (fun n b i=>iC.l5 k l t l (l.length:Int) (fun x1=>some x1) n b i) (vM l t) (fun x1=>some x1) (fun _ b=>0<=b/\b<(l.length:Int))
    (fun n b i hi hI=>by
      refine bV rfl (bT ae (cT (cg hi) (cT (bA (ae hI.1) (ae hI.2)) ?_)))
      rw[aa,aK]
      refine bS (nQ.eq ..) ?_
      unfold vM
      cases zp (l.getD i 0) (l.getD b.toNat 0) t<;>rfl)
    (fun b i hi hI=>Ph hi hI)
    (fun n b _=>bV rfl (br aC))
    l.length 0 k 0 (by omega) (cd hk hl) ⟨by omega,by omega⟩
   refine h.trans ?_
   obtain ⟨n,hn⟩: ∃n,l.length=n+1:=⟨l.length-1,by omega⟩
   rw[hn,show n+1-1=n by omega]
   show some (M4 (vM l t) n 1 (vM l t 0 0))=_
   have e:vM l t 0 0=0:=by
    unfold vM zp
    rw[show (0:Int).toNat=0 from rfl,beq_self_eq_true,show decide (l.getD 0 0>l.getD 0 0)=false from aC (by omega)]
    simp
   rw[e];rfl
theorem IK {A B R:Type} (v:List A) (N:Nat) (hN:N<=v.length) (L:Nat->B->Int->Option R) (p:B->A->Bool) (g:B->A->B) (e:B->Option R) (z:B->A->Option R) (I:Nat->B->Prop)
 (step: ∀n b i (h:i<v.length),i<N->I i b->L (n+1) b (i:Int)=bif p b v[i] then L n (g b v[i]) ((i+1:Nat):Int) else z b v[i])
 (keep: ∀b i (h:i<v.length),i<N->I i b->p b v[i] =true->I (i+1) (g b v[i]))
 (dead: ∀b,¬I N b): ∀(m i n:Nat) (b:B),i+m=N->m<n->I i b->L n b (i:Int)=run p g e z (v.drop i) b:=by
 intro m
 induction m with
 |zero=>
  intro i n b hi hn hI
  obtain rfl:i=N:=by omega
  exact absurd hI (dead b)
 |succ m ih=>
  intro i n b hi hn hI
  obtain ⟨n,rfl⟩: ∃n',n=n' +1:=⟨n-1,by omega⟩
  have tu:i<v.length:=by omega
  rw[step n b i tu (by omega) hI,drop_cons tu]
  show _=bif p b v[i] then _ else _
  cases hp:p b v[i] with
  |false=>rfl
  |true=>exact ih (i+1) n _ (by omega) (by omega) (keep b i tu (by omega) hI hp)
theorem Dl: ∀(l seen:LI) (a:Int),sr seen (l++[a])=(sr seen l&&(bI a&& !bq (seen++l) a))
 | [],seen,a=>by simp[sr]
 |b::l,seen,a=>by
  rw[List.cons_append]
  unfold sr
  rw[Dl l (seen++[b]) a,bp,List.singleton_append]
  simp only[Bool.and_assoc]
theorem Dm {l:LI} {a:Int} (h:dz l=true) (h2:(bI a&& !bq l a)=true):dz (l++[a])=true:=by
 unfold dz at h ⊢
 rw[Dl,h,aM,h2];rfl
theorem IL {l:LI} (h:l.length=53): ¬dz l=true:=fun hh=>by have:=uD hh;omega
theorem bQ.any (hk:cy<=k) (l:LI):bQ.f k l=some (dz l):=by
 by_cases hl:l.length<1073741824
 ·exact bQ.eq hk hl
 have h:=IK (B:=LI) l 53 (by omega) (fun m b i=>bQ.l2 k l (some false) (some true) m i) (fun b a=>bI a&& !bq b a) (fun b a=>b++[a]) (fun _=>some true) (fun _ _=>some false) (fun i b=>b=l.take i/\dz b=true)
  (fun m b i h h53 hI=>by
    obtain ⟨hI,_⟩:=hI
    subst hI
    refine kz rfl (bT ae (cT (cg h) ?_))
    rw[aa,aN _ h,aK]
    refine bS (cc.eq ..) ?_
    cases bI l[i] with
    |false=>rfl
    |true=>
     refine bF rfl (cT (bA ae ae) (cT (cg h) (bS (cW.eq hk _ (by rw[aP];omega)) ?_)))
     cases bq (l.take i) l[i]<;>rfl)
  (fun b i h h53 hI hp=>by
    obtain ⟨hI,hh⟩:=hI
    subst hI
    exact ⟨(be h).symm,Dm hh hp⟩)
  (fun b hI=>by
    obtain ⟨hI,hh⟩:=hI
    subst hI
    exact IL (by rw[aP];omega) hh)
  53 0 k [] (by omega) (by simp[cy] at hk;omega) ⟨rfl,rfl⟩
 refine h.trans ?_
 rw[ah,xb (fun b=>b) _ (fun _ _=>rfl)]
 rfl
theorem bo.any (hk:cy<=k) {l:LI} (hlen:l.length<4611686018427387904):bo.f k l=some (dz l):=by
 by_cases hl:l.length<1073741824
 ·exact bo.eq hk hl
 have h:=IK (B:=List Bool×LI) l 53 (by omega) (fun m b i=>bo.l3 k l (l.length:Int) (some false) (some true) m i b.1) (fun b a=>bI a&& !bq b.2 a) (fun b a=>(b.1.set a.toNat true,b.2++[a])) (fun _=>some true) (fun _ _=>some false)
  (fun i b=>(b.2=l.take i/\dz b.2=true)/\b.1.length=52/\ ∀c,bI c=true->b.1.getD c.toNat false=bq b.2 c)
  (fun m b i h h53 hI=>by
    obtain ⟨_,hI⟩:=hI
    refine bV rfl (bT ae (cT (cg h) ?_))
    rw[aa,aN _ h,aK]
    refine bS (bH.eq ..) ?_
    cases hc:bI l[i] with
    |false=>rfl
    |true=>
     have hb:=cU.1 hc
     refine bF rfl (cT (bA ae ae) ?_)
     rw[hI.2 _ hc]
     cases bq b.2 l[i] with
     |true=>rfl
     |false=>exact bF rfl (bW (bA ae ae)))
  (fun b i h h53 hI hp=>by
    obtain ⟨⟨h1,h2⟩,hI⟩:=hI
    have hp':=hp
    obtain ⟨hc,_⟩:=Bool.and_eq_true_iff.1 hp
    have hb:=cU.1 hc
    refine ⟨⟨by show b.2++[l[i]] =_;rw[h1];exact (be h).symm,Dm h2 hp'⟩,by simpa using hI.1,fun c K8=> ?_⟩
    have tq:=cU.1 K8
    rw[AF,<- hI.2 c K8]
    by_cases e:l[i] =c
    ·subst e
     rw[EH _ _ (by omega)]
     simp
    ·have e1:(l[i]==c)=false:=by simp[e]
     have e2: ¬l[i].toNat=c.toNat:=by omega
     rw[e1,Bool.or_false,aL,List.getElem?_set,aD e2,<- aL])
  (fun b hI=>by
    obtain ⟨⟨h1,h2⟩,_⟩:=hI
    rw[h1] at h2
    exact IL (by rw[aP];omega) h2)
  53 0 k (List.replicate 52 false,[]) (by omega) (by simp[cy] at hk;omega) ⟨⟨rfl,rfl⟩,by simp,fun c hc=>by
   have hb:=cU.1 hc
   rw[aL,List.getElem?_replicate]
   have:c.toNat<52:=by omega
   simp[this,bq]⟩
 refine Eq.trans ?_ (h.trans ?_)
 ·rfl
 ·rw[ah]
  exact xb (fun b:List Bool×List Int=>b.2) _ (fun _ _=>rfl) l _
abbrev smW (l:LL):Prop:=l.length<2097152/\ ∀y∈l,y.length<1048577
theorem fu.any (hk:cy<=k) {l:LL} (hl:smW l):fu.f k l=some (dz l.flatten):=by
 have h:=scan (B:=LI) l (fun m b i=>fu.l3 k l (l.length:Int) (fun x1=>(bo.f k x1).bind fun r2=>some r2) m i b) (fun _ _=>true) (fun b a=>b++a) (fun x1=>(bo.f k x1).bind fun r2=>some r2) (fun _ _=>none) (fun i b=>b.length<=i*1048576)
  (fun m b i h hI=>by
    have:=hl.1
    have:=hl.2 _ (aj h)
    refine bV rfl (bT ae (cT (cg h) ?_))
    rw[aa,aN _ h,aK]
    exact bW (nY))
  (fun b i h hI _=>by
    have:=hl.2 _ (aj h)
    rw[au];omega)
  (fun m b hI=>bV rfl (br aC))
  l.length 0 k [] (by omega) (pV hk (by have:=hl.1;omega)) (by simp)
 refine h.trans ?_
 rw[ah,bX,uC,aM]
 exact bN (bo.any hk (by have:=xf l hl.2;have:=hl.1;omega))
theorem dU.any (hk:cy<=k) {l:LL} (hl:smW l):dU.f k l=some (l.flatten.length:Int):=by
 have h:=scan (B:=Int) l (fun m b i=>dU.l3 k l (l.length:Int) (fun x1=>some x1) m b i) (fun _ _=>true) (fun b a=>b+(a.length:Int)) (fun x1=>some x1) (fun _ _=>none) (fun i b=>0<=b/\b<=(i:Int)*1048576)
  (fun m b i h hI=>by
    have:=hl.1
    have:=hl.2 _ (aj h)
    refine bV rfl (bT ae (cT (cg h) ?_))
    rw[aa,aN _ h,aK,wrap_i64]
    rfl)
  (fun b i h hI _=>by
    have:=hl.2 _ (aj h)
    omega)
  (fun m b hI=>bV rfl (br aC))
  l.length 0 k 0 (by omega) (pV hk (by have:=hl.1;omega)) (by simp)
 refine h.trans ?_
 rw[ah,bX,Cn,Int.zero_add]
theorem jm.any (hk:cy<=k) {l:LL} (hl:smW l):jm.f k l=some (whole l):=by
 refine bS (fu.any hk hl) ?_
 unfold whole
 cases dz l.flatten with
 |false=>rfl
 |true=>exact bT rfl (bN (dU.any hk hl))
def og (t:Tb):Bool:= !t.on||whole (t.g.hs++[t.g.st,t.g.hp])
theorem dT.loop (hk:cy<=k) {hs:LL} (h2:Cl hs) (e0:LI->Option R) (b0:LI) (hb:b0.length<4194304):dT.l5 k hs e0 k (0:Int) b0=e0 (b0++hs.flatten):=by
 have h:=scan (B:=LI) hs (fun m b i=>dT.l5 k hs e0 m i b) (fun _ _=>true) (fun b a=>b++a) e0 (fun _ _=>none) (fun i b=>b.length<=(i+4)*1048576)
  (fun m b i h hI=>by
    have:=h2.2 _ (aj h)
    have:=h2.1
    refine bV rfl (bT ae (cT (cg h) ?_))
    rw[aa,aN _ h,aK]
    exact bW (nY))
  (fun b i h hI _=>by
    have:=h2.2 _ (aj h)
    rw[au];omega)
  (fun m b hI=>bV rfl (br aC))
  hs.length 0 k b0 (by omega) (cd hk h2.1) (by omega)
 refine h.trans ?_
 rw[ah,bX,uC]
theorem dT.eq (hk:cy<=k) {t:Tb} (h:t.sm):t.ap (dT.f k)=some (og t):=by
 have h2:=h.2.2.2.1.2.1
 have h3:t.g.st.length<1048577:=h.2.2.2.1.2.2.1
 have h4:t.g.hp.length<1048577:=h.2.2.2.1.2.2.2
 unfold og
 rcases aV t.on with ho|ho
 ·have e:(!t.on||whole (t.g.hs++[t.g.st,t.g.hp]))=whole (t.g.hs++[t.g.st,t.g.hp]):=by rw[ho];rfl
  rw[e]
  refine bF (by rw[ho];rfl) (cT (nY) (cT (nY (by simp only[aM];omega)) ((dT.loop hk h2 _ _ (by simp only[aM,au];omega)).trans ?_)))
  rw[aM]
  refine bS (bQ.any hk _) ?_
  have hp:(t.g.st++t.g.hp++t.g.hs.flatten).Perm (t.g.hs++[t.g.st,t.g.hp]).flatten:=by
   rw[kZ];exact List.perm_append_comm
  unfold whole
  rw[<- tw hp,<- hp.length_eq]
  cases dz (t.g.st++t.g.hp++t.g.hs.flatten)<;>rfl
 ·have e:(!t.on||whole (t.g.hs++[t.g.st,t.g.hp]))=true:=by rw[ho];rfl
  rw[e]
  exact bT (by rw[ho];rfl) rfl
theorem kc.eq (hk:cy<=k) {t:Tb} (h:t.sm):t.ap (kc.f k)=some (og t):=by
 have h2:=h.2.2.2.1.2.1
 have h2a:=h2.1
 have h3:t.g.st.length<1048577:=h.2.2.2.1.2.2.1
 have h4:t.g.hp.length<1048577:=h.2.2.2.1.2.2.2
 unfold og
 rcases aV t.on with ho|ho
 ·have e:(!t.on||whole (t.g.hs++[t.g.st,t.g.hp]))=whole (t.g.hs++[t.g.st,t.g.hp]):=by rw[ho];rfl
  rw[e]
  refine bF (by rw[ho];rfl) (bS (dx.eq hk h2) (cT (D6) (bS (jm.any hk ⟨by simp;omega,fun y hy=> ?_⟩) rfl)))
  rcases List.mem_append.1 hy with hy|hy
  ·exact h2.2 y hy
  ·simp only[cL,cA,or_false] at hy
   rcases hy with rfl|rfl
   ·exact h3
   ·exact h4
 ·have e:(!t.on||whole (t.g.hs++[t.g.st,t.g.hp]))=true:=by rw[ho];rfl
  rw[e]
  exact bT (by rw[ho];rfl) rfl
def vN (t:Tb):BA:=bif !og t then Nf else bif !((t.rd.length:Int)==t.g.mv) then D2 else bif !lF t.r.n t.jJ then B6 else bif !jb t then H4 else bE
theorem nk.eq (hk:cy<=k) {t:Tb} (h:t.sm):t.ap (nk.f k)=some (vN t):=by
 unfold vN
 refine bS (dT.eq hk h) ?_
 cases og t with
 |false=>rfl
 |true=>
  refine bF rfl ?_
  show (bif !((t.rd.length:Int)==t.g.mv) then _ else _)=_
  cases ((t.rd.length:Int)==t.g.mv) with
  |false=>rfl
  |true=>
   refine bF rfl (bS (bN (fo.eq hk t.r.n h.2.2.2.2.2.1 h.2.2.2.2.2.2)) ?_)
   cases lF t.r.n t.jJ with
   |false=>rfl
   |true=>
    refine bF rfl (bS (jr.eq hk (Tb.xj h)) ?_)
    cases jb t<;>rfl
theorem ng.eq (hk:cy<=k) {t:Tb} (h:t.sm):t.ap (ng.f k)=some (vN t):=by
 unfold vN
 refine bS (kc.eq hk h) ?_
 cases og t with
 |false=>rfl
 |true=>
  refine bF rfl ?_
  show (bif !((t.rd.length:Int)==t.g.mv) then _ else _)=_
  cases ((t.rd.length:Int)==t.g.mv) with
  |false=>rfl
  |true=>
   refine bF rfl (bS (bN (fj.eq hk t.r.n h.2.2.2.2.2.1 h.2.2.2.2.2.2)) ?_)
   cases lF t.r.n t.jJ with
   |false=>rfl
   |true=>
    refine bF rfl (bS (jn.eq hk (Tb.xj h)) ?_)
    cases jb t<;>rfl
def p_ (n:LI) (c:Int):LI:=n.set (cu c).toNat (n.getD (cu c).toNat 0+1)
def rV (l:LI):LI:=l.foldl p_ (List.replicate 13 0)
structure tG (n:LI) (l:LI):Prop where
 len:n.length=13
 at': ∀r:Nat,r<13->n.getD r 0=((l.filter fun c=>cu c==(r:Int)).length:Int)
theorem tG.zero:tG (List.replicate 13 0) []:=⟨by simp,fun r hr=>by rw[aL,List.getElem?_replicate];simp[hr]⟩
theorem tG.snoc {n l:LI} (h:tG n l) {c:Int} (hc:bI c=true):tG (p_ n c) (l++[c]):=by
 have hr:0<=cu c/\cu c<=12:=by
  have:=cU.1 hc
  have e:cu c=c.tmod 13:=by unfold cu;rw[hc];rfl
  have h1:=aX (b:=13) this.1
  omega
 refine ⟨by unfold p_;rw[fg];exact h.len,fun r iS=> ?_⟩
 rw[List.filter_append,au]
 unfold p_
 by_cases e:(cu c).toNat=r
 ·have e1:(cu c==(r:Int))=true:=by simp;omega
  rw[e,EH _ _ (by rw[h.len];exact iS),h.at' r iS]
  simp[List.filter_cons,e1]
 ·have e1:(cu c==(r:Int))=false:=by simp;omega
  rw[aL,List.getElem?_set,aD e,<- aL,h.at' r iS]
  simp[List.filter_cons,e1]
theorem tG.le {n l:LI} (h:tG n l) {r:Nat} (hr:r<13):0<=n.getD r 0/\n.getD r 0<=(l.length:Int):=by
 rw[h.at' r hr]
 have:=List.length_filter_le (fun c=>cu c==(r:Int)) l
 omega
theorem SM {l:LI} (hl: ∀c∈l,bI c=true): ∀i,i<=l.length->tG ((l.take i).foldl p_ (List.replicate 13 0)) (l.take i):=by
 intro i
 induction i with
 |zero=>intro _;exact tG.zero
 |succ i ih=>
  intro h
  have e:l.take (i+1)=l.take i++[l[i]'(by omega)]:=be (by omega)
  rw[e,List.foldl_append]
  exact (ih (by omega)).snoc (hl _ (aj _))
theorem XJ {l:LI} (hl: ∀c∈l,bI c=true):tG (rV l) l:=by
 have:=SM hl l.length (ai _)
 rwa [List.take_length] at this
theorem Fu {c:Int} (hc:bI c=true):0<=cu c/\cu c<=12:=by
 have:=cU.1 hc
 have e:cu c=c.tmod 13:=by unfold cu;rw[hc];rfl
 have h1:=aX (b:=13) this.1
 omega
theorem fN.eq (hk:cy<=k) {l:LI} (hl:l.length<1048577) (hc: ∀c∈l,bI c=true):fN.f k l=some (rV l):=by
 have h:=scan (B:=LI) l (fun m b i=>fN.l3 k l (fun x2=>some x2) m i b) (fun _ _=>true) p_ (fun x=>some x) (fun _ _=>none) (fun i b=>tG b (l.take i)/\i<=l.length)
  (fun m b i h hI=>by
    have hr:=Fu (hc _ (aj h))
    have hb:=hI.1.le (r:=(cu l[i]).toNat) (by omega)
    rw[aP] at hb
    have hlen:=hI.1.len
    refine bV rfl (bT ae (cT (cg h) ?_))
    rw[aa,aN _ h,aK]
    refine bS (eh.eq ..) (cT (bA ae ae) (cT (bA ae ae) ?_))
    rw[wrap_i64]
    rfl)
  (fun b i h hI _=>⟨by rw[be h];exact hI.1.snoc (hc _ (aj h)),by omega⟩)
  (fun m b hI=>bV rfl (br aC))
  l.length 0 k (List.replicate 13 0) (by omega) (cd hk hl) ⟨tG.zero,Nat.zero_le _⟩
 refine h.trans ?_
 rw[ah,bX];rfl
def down (n:LI) (c:Int):Nat->LI
 |0=>[]
 |j+1=>bif n.getD j 0==c then (j:Int)::down n c j else down n c j
def sJ (n:LI) (c:Int):Nat->LI
 |0=>[]
 |j+1=>bif n.getD j 0==c then c::sJ n c j else sJ n c j
def pD (n:LI):LI:=down n 4 13++(down n 3 13++(down n 2 13++down n 1 13))
def lM (n:LI):LI:=sJ n 4 13++(sJ n 3 13++(sJ n 2 13++sJ n 1 13))
theorem Fw (n:LI) (c:Int): ∀j,(down n c j).length<=j/\(sJ n c j).length<=j
 |0=>⟨ai _,ai _⟩
 |j+1=>by
  have:=Fw n c j
  unfold down sJ
  cases (n.getD j 0==c)<;>simp<;>omega
theorem cj.NO (c:Int) {n:LI} (e0:LI->LI->Option R): ∀(j m:Nat) (v3 v4:LI),j<=13->j<m->v3.length+j<=1000->v4.length+j<=1000->cj.RV k c n e0 m ((j:Int)-1) v3 v4=e0 (v3++down n c j) (v4++sJ n c j):=by
 intro j
 induction j with
 |zero=>
  intro m v3 v4 hj hm h3 h4
  obtain ⟨m,rfl⟩: ∃m',m=m' +1:=⟨m-1,by omega⟩
  refine xr rfl (bF aC ?_)
  unfold down sJ
  rw[cm,cm]
 |succ j ih=>
  intro m v3 v4 hj hm h3 h4
  obtain ⟨m,rfl⟩: ∃m',m=m' +1:=⟨m-1,by omega⟩
  have e:((j+1:Nat):Int)-1=(j:Int):=by omega
  rw[e]
  refine xr rfl (bT ae (cT (bA ae ae) ?_))
  rw[aa,wrap_i64]
  unfold down sJ
  cases hb:(n.getD j 0==c) with
  |true=>
   refine bT rfl (cT (nY) (cT (nY) ((ih m _ _ (by omega) (by omega) (by simp;omega) (by simp;omega)).trans ?_)))
   simp
  |false=>exact bF rfl (ih m _ _ (by omega) (by omega) (by omega) (by omega))
theorem cj.SN (hk:100<k) {n:LI} (e0:LI->LI->Option R):cj.l9 k n e0 k 4 [] [] =e0 (pD n) (lM n):=by
 have d:=fun c=>Fw n c 13
 obtain ⟨q,rfl⟩: ∃q,k=q+5:=⟨k-5,by omega⟩
 have one: ∀(m:Nat) (v0:Int) (v3 v4:LI),1<=v0->v0<=4->v3.length<=100->v4.length<=100->cj.l9 (q+5) n e0 (m+1) v0 v3 v4=cj.l9 (q+5) n e0 m (v0-1) (v3++down n v0 13) (v4++sJ n v0 13):=fun m v0 v3 v4 h0 h1 h3 h4=>by
  refine xr rfl (bT ae ((cj.NO v0 _ 13 _ _ _ (by omega) (by omega) (by omega) (by omega)).trans ?_))
  rw[wrap_i64]
 have d4:=d 4;have d3:=d 3;have d2:=d 2
 show cj.l9 (q+5) n e0 (q+4+1) 4 [] [] =_
 rw[one (q+4) 4 [] [] (by omega) (by omega) (by simp) (by simp)]
 show cj.l9 (q+5) n e0 (q+3+1) 3 _ _=_
 rw[one (q+3) 3 _ _ (by omega) (by omega) (by simp;omega) (by simp;omega)]
 show cj.l9 (q+5) n e0 (q+2+1) 2 _ _=_
 rw[one (q+2) 2 _ _ (by omega) (by omega) (by simp;omega) (by simp;omega)]
 show cj.l9 (q+5) n e0 (q+1+1) 1 _ _=_
 rw[one (q+1) 1 _ _ (by omega) (by omega) (by simp;omega) (by simp;omega)]
 refine xr rfl (bF rfl ?_)
 unfold pD lM
 simp only[aM,bp]
theorem cj.eq (hk:cy<=k) {l:LI} (hl:l.length<1048577) (hc: ∀c∈l,bI c=true):cj.f k l=some (pD (rV l),lM (rV l)):=by
 have h:=scan (B:=LI) l (fun m b i=>cj.l3 k l (l.length:Int) (fun x2=>cj.l9 k x2 (fun x5 x6=>some (x5,x6)) k 4 [] []) m i b) (fun _ _=>true) p_ (fun x2=>cj.l9 k x2 (fun x5 x6=>some (x5,x6)) k 4 [] []) (fun _ _=>none) (fun i b=>tG b (l.take i)/\i<=l.length)
  (fun m b i h hI=>by
    have hr:=Fu (hc _ (aj h))
    have hb:=hI.1.le (r:=(cu l[i]).toNat) (by omega)
    rw[aP] at hb
    refine bV rfl (bT ae (cT (cg h) ?_))
    rw[aa,aN _ h,aK]
    refine bS (cV.eq ..) (cT (bA ae ae) (cT (bA ae ae) ?_))
    rw[wrap_i64]
    rfl)
  (fun b i h hI _=>⟨by rw[be h];exact hI.1.snoc (hc _ (aj h)),by omega⟩)
  (fun m b hI=>bV rfl (br aC))
  l.length 0 k (List.replicate 13 0) (by omega) (cd hk hl) ⟨tG.zero,Nat.zero_le _⟩
 refine h.trans ?_
 rw[ah,bX]
 exact cj.SN (by simp[cy] at hk;omega) _
theorem dR.NO (c:Int) {n:LI} (hn:n.length=13) (e0:LI->Option R): ∀(j m:Nat) (v3:LI),j<=13->j<m->v3.length+j<=1000->dR.RV k c n e0 m ((j:Int)-1) v3=e0 (v3++down n c j):=by
 intro j
 induction j with
 |zero=>
  intro m v3 hj hm h3
  obtain ⟨m,rfl⟩: ∃m',m=m' +1:=⟨m-1,by omega⟩
  refine bV rfl (bF aC ?_)
  unfold down
  rw[cm]
 |succ j ih=>
  intro m v3 hj hm h3
  obtain ⟨m,rfl⟩: ∃m',m=m' +1:=⟨m-1,by omega⟩
  have e:((j+1:Nat):Int)-1=(j:Int):=by omega
  rw[e]
  refine bV rfl (bT ae (cT (bA ae ae) ?_))
  rw[aa,wrap_i64]
  unfold down
  cases hb:(n.getD j 0==c) with
  |true=>
   refine bT rfl (cT (nY) ((ih m _ (by omega) (by omega) (by simp;omega)).trans ?_))
   simp
  |false=>exact bF rfl (ih m _ (by omega) (by omega) (by omega))
theorem dR.SN (hk:100<k) {n:LI} (hn:n.length=13) (e0:LI->Option R) (x:Int):dR.l9 k n e0 k 4 [x] =e0 ([x]++pD n):=by
 have d:=fun c=>(Fw n c 13).1
 obtain ⟨q,rfl⟩: ∃q,k=q+5:=⟨k-5,by omega⟩
 have one: ∀(m:Nat) (v0:Int) (v3:LI),1<=v0->v0<=4->v3.length<=100->dR.l9 (q+5) n e0 (m+1) v0 v3=dR.l9 (q+5) n e0 m (v0-1) (v3++down n v0 13):=fun m v0 v3 h0 h1 h3=>by
  refine bV rfl (bT ae ((dR.NO v0 hn _ 13 _ _ (by omega) (by omega) (by omega)).trans ?_))
  rw[wrap_i64]
 have d4:=d 4;have d3:=d 3;have d2:=d 2
 show dR.l9 (q+5) n e0 (q+4+1) 4 [x] =_
 rw[one (q+4) 4 [x] (by omega) (by omega) (by simp)]
 show dR.l9 (q+5) n e0 (q+3+1) 3 _=_
 rw[one (q+3) 3 _ (by omega) (by omega) (by simp;omega)]
 show dR.l9 (q+5) n e0 (q+2+1) 2 _=_
 rw[one (q+2) 2 _ (by omega) (by omega) (by simp;omega)]
 show dR.l9 (q+5) n e0 (q+1+1) 1 _=_
 rw[one (q+1) 1 _ (by omega) (by omega) (by simp;omega)]
 refine bV rfl (bF rfl ?_)
 unfold pD
 simp only[bp]
def oA (n:LI) (h:Int) (j:Nat):Bool:=n.getD (bif decide (h-(j:Int)<0) then 12 else (h-(j:Int)).toNat) 0==1
def o5 (n:LI):Nat->Int
 |0=> -1
 |j+1=>bif oA n ((j:Int)+3) 0&&(oA n ((j:Int)+3) 1&&(oA n ((j:Int)+3) 2&&(oA n ((j:Int)+3) 3&&oA n ((j:Int)+3) 4))) then (j:Int)+3 else o5 n j
theorem bj.XK {n:LI} (hn:n.length=13) {h:Int} (h0:3<=h) (h1:h<=12) (e0:Bool->Option R) (m:Nat) (v2:Bool) {j:Nat} (hj:j<5):bj.l6 k n h e0 (m+1) v2 (j:Int)=bj.l6 k n h e0 m (v2&&oA n h j) ((j+1:Nat):Int):=by
 refine bV rfl (bT ae ?_)
 rw[wrap_i64 (n:=h-(j:Int)),aK]
 unfold oA
 by_cases hd:h-(j:Int)<0
 ·rw[ae hd]
  cases v2 with
  |true=>exact bT rfl (bT rfl (bW ae))
  |false=>rfl
 ·rw[aC hd]
  cases v2 with
  |true=>exact bF rfl (bT rfl (bW (bA ae ae)))
  |false=>rfl
theorem bj.Z4 (hk:100<k) {n:LI} (hn:n.length=13) {h:Int} (h0:3<=h) (h1:h<=12) (e0:Bool->Option R):bj.l6 k n h e0 k true 0=e0 (oA n h 0&&(oA n h 1&&(oA n h 2&&(oA n h 3&&oA n h 4)))):=by
 obtain ⟨q,rfl⟩: ∃q,k=q+6:=⟨k-6,by omega⟩
 have one:=bj.XK (k:=q+6) hn h0 h1 e0
 refine (one (q+5) true (j:=0) (by omega)).trans ((one (q+4) _ (j:=1) (by omega)).trans ((one (q+3) _ (j:=2) (by omega)).trans ((one (q+2) _ (j:=3) (by omega)).trans ((one (q+1) _ (j:=4) (by omega)).trans (bV rfl (bF rfl ?_))))))
 simp only[Bool.true_and,Bool.and_assoc]
theorem bj.loop (hk:100<k) {n:LI} (hn:n.length=13): ∀(j m:Nat),j<=10->j<m->bj.l2 k n (fun x2=>some x2) (some (-1)) m ((j:Int)+2)=some (o5 n j):=by
 intro j
 induction j with
 |zero=>
  intro m hj hm
  obtain ⟨m,rfl⟩: ∃m',m=m' +1:=⟨m-1,by omega⟩
  exact kz rfl (br rfl)
 |succ j ih=>
  intro m hj hm
  obtain ⟨m,rfl⟩: ∃m',m=m' +1:=⟨m-1,by omega⟩
  rw[show ((j+1:Nat):Int)+2=(j:Int)+3 by omega]
  refine kz rfl (bT ae ((bj.Z4 hk hn (by omega) (by omega) _).trans ?_))
  unfold o5
  cases hb:(oA n ((j:Int)+3) 0&&(oA n ((j:Int)+3) 1&&(oA n ((j:Int)+3) 2&&(oA n ((j:Int)+3) 3&&oA n ((j:Int)+3) 4)))) with
  |true=>rfl
  |false=>
   refine bF rfl ?_
   rw[wrap_i64,show (j:Int)+3-1=(j:Int)+2 by omega]
   exact ih m (by omega) (by omega)
theorem bj.eq (hk:cy<=k) {n:LI} (hn:n.length=13):bj.f k n=some (o5 n 10):=
 bj.loop (by simp[cy] at hk;omega) hn 10 k (by omega) (by simp[cy] at hk;omega)
def NP (r:LI):Int:=bif ((r.length:Int) != 5) then-1 else bif r.getD 0 0-r.getD 4 0==4 then r.getD 0 0 else bif decide (r=[12,3,2,1,0]) then 3 else-1
def has (n:LI) (c:Int):Int:=n.foldl (fun b a=>bif a==c then b+1 else b) 0
theorem cQ.eq (hk:cy<=k) {n:LI} (hn:n.length=13) (c:Int):cQ.f k n c=some (has n c):=by
 have h:=scan (B:=Int) n (fun m b i=>cQ.l3 k n c (fun x1=>some x1) m b i) (fun _ _=>true) (fun b a=>bif a==c then b+1 else b) (fun x=>some x) (fun _ _=>none) (fun i b=>0<=b/\b<=i)
  (fun m b i h hI=>by
    refine bV rfl (bT ae (cT (cg h) ?_))
    rw[aa,aN _ h,aK,wrap_i64]
    cases (n[i]==c)<;>rfl)
  (fun b i h hI _=>by cases (n[i]==c)<;>simp<;>omega)
  (fun m b hI=>bV rfl (br aC))
  n.length 0 k 0 (by omega) (cd hk (by omega)) ⟨Int.le_refl _,Int.le_refl _⟩
 refine h.trans ?_
 rw[ah,bX];rfl
def ue (l:LI):Bool:=l.all fun c=>bJ c==bJ (l.getD 0 0)
theorem fw.eq (hk:cy<=k) {l:LI} (hl:l.length<1048577) (h0:0<l.length):fw.f k l=some (ue l):=by
 have h:=scan (B:=Unit) l (fun m b i=>fw.l2 k l (some false) (some true) m i) (fun _ a=>bJ a==bJ (l.getD 0 0)) (fun b a=>b) (fun _=>some true) (fun _ _=>some false) (fun i b=>True)
  (fun m b i h hI=>by
    refine kz rfl (bT ae (cT (cg h) ?_))
    rw[aa,aN _ h,aK]
    refine bS (bP.eq ..) (cT ae (bS (bP.eq ..) ?_))
    show (bif !(bJ l[i]==bJ (l.getD 0 0)) then _ else _)=_
    cases (bJ l[i]==bJ (l.getD 0 0))<;>rfl)
  (fun b i h hI hp=>trivial)
  (fun m b hI=>kz rfl (br aC))
  (l.length-1) 1 k () (by omega) (by have:=cd hk hl;omega) trivial
 refine h.trans ?_
 rw[tv]
 have e:ue l=(l.drop 1).all fun c=>bJ c==bJ (l.getD 0 0):=by
  cases l with
  |nil=>simp at h0
  |cons a l=>unfold ue;simp
 rw[e]
 cases ((l.drop 1).all fun c=>bJ c==bJ (l.getD 0 0))<;>rfl
theorem il.flush (hk:cy<=k) {l:LI} (hl:l.length<1048577) (h0:0<l.length) (e0:Bool->Option R):il.l6 k l l (l.length:Int) e0 k true 0=e0 (ue l):=by
 have h:=scan (B:=Bool) l (fun m b i=>il.l6 k l l (l.length:Int) e0 m b i) (fun _ _=>true) (fun b a=>b&&(bJ a==bJ (l.getD 0 0))) e0 (fun _ _=>none) (fun i b=>True)
  (fun m b i h hI=>by
    refine bV rfl (bT ae (cT (cg h) ?_))
    rw[aa,aN _ h,aK]
    cases b with
    |true=>exact bT rfl (bS (bU.eq ..) (cT ae (bN (bU.eq ..))))
    |false=>rfl)
  (fun b i h hI hp=>trivial)
  (fun m b hI=>bV rfl (br aC))
  l.length 0 k true (by omega) (cd hk hl) trivial
 refine h.trans ?_
 rw[ah,bX]
 have key: ∀(q:LI) (b:Bool),q.foldl (fun b a=>b&&(bJ a==bJ (l.getD 0 0))) b=(b&&q.all fun c=>bJ c==bJ (l.getD 0 0)):=by
  intro q
  induction q with
  |nil=>intro b;simp
  |cons a q ih=>intro b;rw[aY,ih,List.all_cons,Bool.and_assoc]
 rw[key,Bool.true_and];rfl
def jv (n:LI) (c:Int):Nat:=(n.filter fun a=>a==c).length
theorem rW (a:Int) (n:LI) (c:Int):jv (a::n) c=(a==c).toNat+jv n c:=by
 unfold jv
 rw[List.filter_cons]
 cases (a==c)<;>simp;omega
theorem JW (n:LI) (c:Int):has n c=(jv n c:Int):=by
 have key: ∀(n:LI) (b:Int),n.foldl (fun b a=>bif a==c then b+1 else b) b=b+(jv n c:Int):=by
  intro n
  induction n with
  |nil=>intro b;simp[jv]
  |cons a n ih=>
   intro b
   rw[aY,ih,rW]
   cases (a==c)<;>simp<;>omega
 unfold has
 rw[key];omega
theorem LX (n:LI) (c:Int): ∀j,j<=n.length->(down n c j).length=jv (n.take j) c
 |0,_=>by simp[down,jv]
 |j+1,h=>by
  have ih:=LX n c j (by omega)
  have e:n.take (j+1)=n.take j++[n[j]'(by omega)]:=be (by omega)
  rw[e,show down n c (j+1)=bif n.getD j 0==c then (j:Int)::down n c j else down n c j from rfl]
  unfold jv at ih ⊢
  rw[List.filter_append,au,<- ih,aN _ (by omega),List.filter_cons]
  cases (n[j]'(by omega)==c)<;>simp
theorem CE (n:LI) (c:Int): ∀j,sJ n c j=List.replicate (down n c j).length c
 |0=>rfl
 |j+1=>by
  have ih:=CE n c j
  unfold down sJ
  rw[ih]
  cases (n.getD j 0==c)<;>simp[List.replicate_succ]
theorem uU {n:LI} (hn:n.length=13) (c:Int):sJ n c 13=List.replicate (jv n c) c/\(down n c 13).length=jv n c:=by
 have h:=LX n c 13 (by omega)
 rw[List.take_of_length_le (by omega)] at h
 exact ⟨by rw[CE,h],h⟩
theorem Pj: ∀(n:LI),(∀x∈n,0<=x/\x<=4)->n.sum=4*(jv n 4:Int)+(3*(jv n 3:Int)+(2*(jv n 2:Int)+(jv n 1:Int)))
 | [],_=>by simp[jv]
 |a::n,h=>by
  have ih:=Pj n (fun x hx=>h x (by simp[hx]))
  have ha:=h a (by simp)
  rw[List.sum_cons,ih,rW,rW,rW,rW]
  have:a=0\/a=1\/a=2\/a=3\/a=4:=by omega
  rcases this with rfl|rfl|rfl|rfl|rfl<;>simp<;>omega
theorem vO: ∀(c h:LI),c.Nodup->(∀x∈c,x∈h)->c.length<=h.length
 | [],h,_,_=>Nat.zero_le _
 |a::c,h,hn,hx=>by
  have hn:=List.nodup_cons.1 hn
  have ha:a∈h:=hx a (by simp)
  have:=vO c (h.erase a) hn.2 (fun x hx'=>(List.mem_erase_of_ne (by rintro rfl;exact hn.1 hx')).2 (hx x (by simp[hx'])))
  have h2:=List.length_erase_of_mem ha
  have h3:=List.length_pos_of_mem ha
  rw[ab]
  omega
theorem Fx {n:LI} {c:Int}: ∀ {j r:Nat},r<j->(n.getD r 0==c)=true->(r:Int)∈down n c j
 |0,r,h,_=>by omega
 |j+1,r,h,he=>by
  unfold down
  by_cases e:r=j
  ·subst e;rw[he];simp
  ·have:=Fx (n:=n) (c:=c) (j:=j) (r:=r) (by omega) he
   cases (n.getD j 0==c)
   ·exact this
   ·exact List.mem_cons_of_mem _ this
theorem SO {n:LI} (hn:n.length=13) {h:Int} (h0:3<=h) (h1:h<=12) (hs:(oA n h 0&&(oA n h 1&&(oA n h 2&&(oA n h 3&&oA n h 4))))=true):5<=jv n 1:=by
 rw[<- (uU hn 1).2]
 obtain ⟨s0,hs⟩:=Bool.and_eq_true_iff.1 hs
 obtain ⟨s1,hs⟩:=Bool.and_eq_true_iff.1 hs
 obtain ⟨s2,hs⟩:=Bool.and_eq_true_iff.1 hs
 obtain ⟨s3,s4⟩:=Bool.and_eq_true_iff.1 hs
 have one: ∀(j:Nat),0<=h-(j:Int)->oA n h j=true->h-(j:Int)∈down n 1 13:=fun j hj hb=>by
  unfold oA at hb
  rw[aC (by omega),an] at hb
  have:=Fx (j:=13) (by omega) hb
  rwa [Int.toNat_of_nonneg hj] at this
 have m0:=one 0 (by omega) s0
 have m1:=one 1 (by omega) s1
 have m2:=one 2 (by omega) s2
 have m3:=one 3 (by omega) s3
 by_cases h3:h=3
 ·subst h3
  have m4:(12:Int)∈down n 1 13:=Fx (n:=n) (c:=1) (j:=13) (r:=12) (by omega) s4
  exact vO [3,2,1,0,12] _ (by decide) (fun x hx=>by
   simp only[cL,cA,or_false] at hx
   rcases hx with rfl|rfl|rfl|rfl|rfl
   ·exact m0
   ·exact m1
   ·exact m2
   ·exact m3
   ·exact m4)
 ·have m4:=one 4 (by omega) s4
  refine vO [h-(0:Nat),h-(1:Nat),h-(2:Nat),h-(3:Nat),h-(4:Nat)] _ ?_ (fun x hx=> ?_)
  ·simp only[List.nodup_cons,cL,cA,or_false,not_or]
   refine ⟨⟨?_,?_,?_,?_⟩,⟨?_,?_,?_⟩,⟨?_,?_⟩,?_,not_false,List.nodup_nil⟩<;>omega
  ·simp only[cL,cA,or_false] at hx
   rcases hx with rfl|rfl|rfl|rfl|rfl
   ·exact m0
   ·exact m1
   ·exact m2
   ·exact m3
   ·exact m4
theorem Pm {n:LI} (hn:n.length=13): ∀j,j<=10->o5 n j= -1\/(3<=o5 n j/\5<=jv n 1)
 |0,_=> .inl rfl
 |j+1,h=>by
  unfold o5
  cases hb:(oA n ((j:Int)+3) 0&&(oA n ((j:Int)+3) 1&&(oA n ((j:Int)+3) 2&&(oA n ((j:Int)+3) 3&&oA n ((j:Int)+3) 4)))) with
  |true=>exact .inr ⟨by simp only[ak];omega,SO hn (by omega) (by omega) hb⟩
  |false=>exact Pm hn j (by omega)
def Qq:Nat->Nat->LL
 |0,0=>[[]]
 |0,_+1=>[]
 |m+1,0=>(Qq m 0).map fun v=>0::v
 |m+1,s+1=>(Qq m (s+1)).map (fun v=>0::v)++(Qq m s).map fun v=>1::v
theorem LY: ∀(n:LI) (s:Nat),(∀x∈n,x=0\/x=1)->jv n 1=s->n∈Qq n.length s
 | [],s,hx,hs=>by
   have:s=0:=by simpa[jv] using hs.symm
   subst this
   simp[Qq]
 |a::n,s,hx,hs=>by
  have ih:=fun s=>LY n s (fun x h=>hx x (by simp[h]))
  rw[rW] at hs
  rcases hx a (by simp) with rfl|rfl
  ·have hs:jv n 1=s:=by simpa using hs
   have:=ih s hs
   cases s with
   |zero=>exact List.mem_map.2 ⟨n,this,rfl⟩
   |succ s=>exact List.mem_append.2 (.inl (List.mem_map.2 ⟨n,this,rfl⟩))
  ·have hs:1+jv n 1=s:=by simpa using hs
   obtain ⟨s,rfl⟩: ∃s',s=s' +1:=⟨s-1,by omega⟩
   exact List.mem_append.2 (.inr (List.mem_map.2 ⟨n,ih s (by omega),rfl⟩))
set_option maxRecDepth 100000 in
set_option maxHeartbeats 4000000 in
theorem Vd:(Qq 13 5).all (fun n=>NP (down n 1 13)==o5 n 10)=true:=by decide+kernel
def Wo (p fl m4 m3 n2 m2:Bool):Int:=
 bif p&&fl then 8 else bif m4 then 7 else bif m3&&n2 then 6 else bif fl then 5 else bif p then 4 else bif m3 then 3 else bif m2&&n2 then 2 else bif m2 then 1 else 0
def LZ (p fl h4 h3 L0 Pn:Bool):Int:=
 bif p&&fl then 8 else bif h4 then 7 else bif h3&&L0 then 6 else bif fl then 5 else bif p then 4 else bif h3 then 3 else bif Pn then 2 else bif L0 then 1 else 0
structure Z5 (n:LI):Prop where
 len:n.length=13
 str:NP (pD n)=o5 n 10
 l1:1<=(lM n).length
 l2:((lM n).getD 0 0==3)=true\/((lM n).getD 0 0==2)=true->2<=(lM n).length
 kind: ∀fl,Wo (decide (o5 n 10>=0)) fl ((lM n).getD 0 0==4) ((lM n).getD 0 0==3) ((lM n).getD 1 0==2) ((lM n).getD 0 0==2)=LZ (decide (o5 n 10>=0)) fl (has n 4==1) (has n 3==1) (has n 2==1) (has n 2==2)
 top: ∀fl,(decide (o5 n 10>=0))=(LZ (decide (o5 n 10>=0)) fl (has n 4==1) (has n 3==1) (has n 2==1) (has n 2==2)==4||LZ (decide (o5 n 10>=0)) fl (has n 4==1) (has n 3==1) (has n 2==1) (has n 2==2)==8)
 rl:(pD n).length<=52
theorem Ve {n:LI} (hn:n.length=13) (hx: ∀x∈n,0<=x/\x<=4) (hs:n.sum=5):Z5 n:=by
 have mH:=Pj n hx
 rw[hs] at mH
 obtain ⟨c4,d4⟩:=uU hn 4
 obtain ⟨c3,d3⟩:=uU hn 3
 obtain ⟨c2,d2⟩:=uU hn 2
 obtain ⟨c1,d1⟩:=uU hn 1
 have hm:lM n=List.replicate (jv n 4) 4++(List.replicate (jv n 3) 3++(List.replicate (jv n 2) 2++List.replicate (jv n 1) 1)):=by unfold lM;rw[c4,c3,c2,c1]
 have hr:(pD n).length=jv n 4+(jv n 3+(jv n 2+jv n 1)):=by unfold pD;simp only[au];rw[d4,d3,d2,d1]
 have h4:=JW n 4
 have h3:=JW n 3
 have h2:=JW n 2
 have hd:=Pm hn 10 (ai _)
 by_cases h5:jv n 1=5
 ·have e4:jv n 4=0:=by omega
  have e3:jv n 3=0:=by omega
  have e2:jv n 2=0:=by omega
  have h01: ∀x∈n,x=0\/x=1:=by
   intro x hxn
   have:=hx x hxn
   have no: ∀c,jv n c=0->x≠c:=fun c hc e=>by
    unfold jv at hc
    have:=List.length_eq_zero_iff.1 hc
    have Z6:x∈n.filter fun a=>a==c:=List.mem_filter.2 ⟨hxn,by simpa using e⟩
    rw[this] at Z6;cases Z6
   have:=no 4 e4;have:=no 3 e3;have:=no 2 e2
   omega
  have lN:NP (down n 1 13)=o5 n 10:=by
   have:=List.all_eq_true.1 Vd n (by have:=LY n 5 h01 h5;rwa [hn] at this)
   exact aE this
  have hrk:pD n=down n 1 13:=by
   have z: ∀c,jv n c=0->down n c 13=[]:=fun c hc=>List.length_eq_zero_iff.1 (by rw[(uU hn c).2];exact hc)
   unfold pD
   rw[z 4 e4,z 3 e3,z 2 e2];rfl
  rw[e4,e3,e2,h5] at hm
  have hm:lM n=[1,1,1,1,1]:=hm
  rw[e4] at h4;rw[e3] at h3;rw[e2] at h2
  refine ⟨hn,by rw[hrk];exact lN,by rw[hm];decide,fun h=>by rw[hm];decide,fun fl=> ?_,fun fl=> ?_,by omega⟩
  ·rw[hm,h4,h3,h2]
   generalize decide (o5 n 10>=0)=p
   revert p fl;decide
  ·rw[h4,h3,h2]
   generalize decide (o5 n 10>=0)=p
   revert p fl;decide
 ·have lN:o5 n 10= -1:=by
   rcases hd with h| ⟨_,h⟩
   ·exact h
   ·omega
  have hl5:(((pD n).length:Int) != 5)=true:=by
   rw[hr]
   simp
   omega
  have hI:NP (pD n)= -1:=by unfold NP;rw[hl5];rfl
  have q4:jv n 4=0\/jv n 4=1:=by omega
  have q3:jv n 3=0\/jv n 3=1:=by omega
  have q2:jv n 2=0\/jv n 2=1\/jv n 2=2:=by omega
  have XL:(jv n 4=1/\jv n 3=0/\jv n 2=0/\jv n 1=1)\/(jv n 4=0/\jv n 3=1/\jv n 2=1/\jv n 1=0)\/(jv n 4=0/\jv n 3=1/\jv n 2=0/\jv n 1=2)\/(jv n 4=0/\jv n 3=0/\jv n 2=2/\jv n 1=1)\/(jv n 4=0/\jv n 3=0/\jv n 2=1/\jv n 1=3):=by
   rcases q4 with q4|q4<;>rcases q3 with q3|q3<;>rcases q2 with q2|q2|q2<;>rw[q4,q3,q2] at mH ⊢ <;>omega
  rcases XL with ⟨e4,e3,e2,e1⟩| ⟨e4,e3,e2,e1⟩| ⟨e4,e3,e2,e1⟩| ⟨e4,e3,e2,e1⟩| ⟨e4,e3,e2,e1⟩
  all_goals
   rw[e4,e3,e2,e1] at hm
   rw[e4] at h4;rw[e3] at h3;rw[e2] at h2
   refine ⟨hn,by rw[hI,lN],by rw[hm];decide,fun h=>by rw[hm];decide,fun fl=> ?_,fun fl=> ?_,by omega⟩
   ·rw[hm,h4,h3,h2,lN];revert fl;decide
   ·rw[h4,h3,h2,lN];revert fl;decide
theorem Po: ∀(l:LI) (n:LI),n.length=13->(∀c∈l,bI c=true)->(l.foldl p_ n).sum=n.sum+(l.length:Int)
 | [],n,_,_=>by simp
 |c::l,n,hn,hc=>by
  have hr:=Fu (hc c (by simp))
  have iS:(cu c).toNat<n.length:=by omega
  rw[aY,Po l (p_ n c) (by unfold p_;rw[fg];exact hn) (fun x hx=>hc x (by simp[hx])),ab]
  have key: ∀(n:LI) (i:Nat),i<n.length->(n.set i (n.getD i 0+1)).sum=n.sum+1:=by
   intro n
   induction n with
   |nil=>intro i h;simp at h
   |cons a n ih=>
    intro i h
    cases i with
    |zero=>simp;omega
    |succ i=>
     have:=ih i (by simpa using h)
     simp only[List.set_cons_succ,List.sum_cons,List.getD_cons_succ]
     rw[this];omega
  unfold p_
  rw[key n _ iS];omega
theorem uV {l:LI} (h:dz l=true) (h5:l.length=5):Z5 (rV l):=by
 obtain ⟨hc,sq⟩:=jy.1 h
 have ho:=XJ hc
 refine Ve ho.len (fun x hx=> ?_) ?_
 ·obtain ⟨r,hr,rfl⟩:=List.getElem_of_mem hx
  rw[ho.len] at hr
  have e:=ho.at' r hr
  rw[aN _ (by rw[ho.len];exact hr)] at e
  rw[e]
  have h4:(l.filter fun c=>cu c==(r:Int)).length<=4:=by
   refine vO _ [(r:Int),(r:Int)+13,(r:Int)+26,(r:Int)+39] (sq.filter _) (fun x hx=> ?_)
   obtain ⟨h1,h2⟩:=List.mem_filter.1 hx
   have hcx:=hc x h1
   have hb:=cU.1 hcx
   have er:cu x=x.tmod 13:=by unfold cu;rw[hcx];rfl
   have h3:=aX (b:=13) hb.1
   have h2:cu x=(r:Int):=by simpa using h2
   simp only[cL,cA,or_false]
   omega
  omega
 ·have:=Po l (List.replicate 13 0) (by simp) hc
  unfold rV
  rw[this,h5];rfl
def mI (l:LI):Int:=LZ (decide (o5 (rV l) 10>=0)) (ue l) (has (rV l) 4==1) (has (rV l) 3==1) (has (rV l) 2==1) (has (rV l) 2==2)
def rX (l:LI):Int:=bif dz l&&((l.length:Int)==5) then mI l else-1
def o6 (l:LI):LI:=bif dz l&&((l.length:Int)==5) then (bif decide (o5 (rV l) 10>=0) then [mI l,o5 (rV l) 10] else [mI l]++pD (rV l)) else []
theorem SP (p fl h4 h3 L0 Pn:Bool):(bif p then bif fl then some (8:Int) else bif h4 then some 7 else bif h3 then bif L0 then some 6 else bif fl then some 5 else bif p then some 4 else bif h3 then some 3 else bif Pn then some 2 else bif L0 then some 1 else some 0
 else bif fl then some 5 else bif p then some 4 else bif h3 then some 3 else bif Pn then some 2 else bif L0 then some 1 else some 0
 else bif h4 then some 7 else bif h3 then bif L0 then some 6 else bif fl then some 5 else bif p then some 4 else bif h3 then some 3 else bif Pn then some 2 else bif L0 then some 1 else some 0
  else bif fl then some 5 else bif p then some 4 else bif h3 then some 3 else bif Pn then some 2 else bif L0 then some 1 else some 0)=some (LZ p fl h4 h3 L0 Pn):=by
 revert p fl h4 h3 L0 Pn;decide
theorem nT.eq (hk:cy<=k) {l:LI} (hl:l.length<1048577):nT.f k l=some (rX l):=by
 unfold rX
 refine bS (bQ.eq hk (by omega)) ?_
 cases h1:dz l with
 |false=>rfl
 |true=>
  refine bF rfl ?_
  show (bif !((l.length:Int)==5) then _ else _)=_
  cases h2:((l.length:Int)==5) with
  |false=>rfl
  |true=>
   have h5:l.length=5:=by have:(l.length:Int)=5:=by simpa using h2
                          omega
   have hF:=uV h1 h5
   have hc:=(jy.1 h1).1
   have e4:=cQ.eq hk hF.len 4
   have e3:=cQ.eq hk hF.len 3
   have e2:=cQ.eq hk hF.len 2
   have ef:=fw.eq hk hl (by omega:0<l.length)
   have es:=bj.eq hk hF.len
   refine bF rfl (bS (fN.eq hk hl hc) (bS es ?_))
   simp only[e4,e3,e2,ef,es,aO]
   exact SP ..
theorem SQ (p fl m4 m3 n2 m2 d1:Bool) (h1:m3=true\/m2=true->d1=true):(bif p then bif fl then some (8:Int) else bif m4 then some 7 else
 bif m3 then bY d1<|bif n2 then some 6 else bif fl then some 5 else bif p then some 4 else bif m3 then some 3 else bif m2 then bY d1<|bif n2 then some 2 else bif m2 then some 1 else some 0 else bif m2 then some 1 else some 0
 else bif fl then some 5 else bif p then some 4 else bif m3 then some 3 else bif m2 then bY d1<|bif n2 then some 2 else bif m2 then some 1 else some 0 else bif m2 then some 1 else some 0
 else bif m4 then some 7 else
  bif m3 then bY d1<|bif n2 then some 6 else bif fl then some 5 else bif p then some 4 else bif m3 then some 3 else bif m2 then bY d1<|bif n2 then some 2 else bif m2 then some 1 else some 0 else bif m2 then some 1 else some 0
  else bif fl then some 5 else bif p then some 4 else bif m3 then some 3 else bif m2 then bY d1<|bif n2 then some 2 else bif m2 then some 1 else some 0 else bif m2 then some 1 else some 0)=some (Wo p fl m4 m3 n2 m2):=by
 revert p fl m4 m3 n2 m2 d1;decide
theorem jj.eq (hk:cy<=k) {r:LI} (hr: ∀x∈r,0<=x/\x<=12) (hl:r.length<1048577):jj.f k r=some (NP r):=by
 unfold jj.f NP
 cases h5:((r.length:Int) != 5) with
 |true=>rfl
 |false=>
  have h5':r.length=5:=by have:(r.length:Int)=5:=by simpa using h5
                          omega
  have g0:=hr _ (nX (l:=r) (i:=0) 0 (by omega))
  have g4:=hr _ (nX (l:=r) (i:=4) 0 (by omega))
  refine bF rfl (cT ae (cT ae ?_))
  rw[wrap_i64]
  cases (r.getD 0 0-r.getD 4 0==4) with
  |true=>exact bT rfl (bW ae)
  |false=>
   refine bF rfl (bS (ck.eq hk [12,3,2,1,0] (by omega)) ?_)
   unfold Jy
   cases decide (r=[12,3,2,1,0])<;>rfl
theorem uW (n:LI) (c:Int): ∀j,∀x∈down n c j,0<=x/\x<(j:Int)
 |0,x,h=>by cases h
 |j+1,x,h=>by
  unfold down at h
  cases hb:(n.getD j 0==c) with
  |true=>
   rw[hb,ak] at h
   rcases List.mem_cons.1 h with rfl|h
   ·omega
   ·have:=uW n c j x h;omega
  |false=>
   rw[hb,an] at h
   have:=uW n c j x h;omega
theorem CF (n:LI): ∀x∈pD n,0<=x/\x<=12:=fun x hx=>by
 unfold pD at hx
 simp only[List.mem_append] at hx
 rcases hx with h|h|h|h
 ·have:=uW n 4 13 x h;omega
 ·have:=uW n 3 13 x h;omega
 ·have:=uW n 2 13 x h;omega
 ·have:=uW n 1 13 x h;omega
theorem il.eq (hk:cy<=k) {l:LI} (hl:l.length<1048577):il.f k l=some (rX l):=by
 unfold rX
 refine bS (bo.eq hk (by omega)) ?_
 cases h1:dz l with
 |false=>rfl
 |true=>
  refine bF rfl ?_
  show (bif !((l.length:Int)==5) then _ else _)=_
  cases h2:((l.length:Int)==5) with
  |false=>rfl
  |true=>
   have h5:l.length=5:=by have:(l.length:Int)=5:=by simpa using h2
                          omega
   have hF:=uV h1 h5
   have hc:=(jy.1 h1).1
   have es:=jj.eq hk (CF (rV l)) (by have:=hF.rl;omega)
   rw[hF.str] at es
   have c0:decide (0<((lM (rV l)).length:Int))=true:=ae (by have:=hF.l1;omega)
   refine bF rfl (bS (cj.eq hk hl hc) ((il.flush hk hl (by omega) _).trans (bS es ?_)))
   have key:=SQ (decide (o5 (rV l) 10>=0)) (ue l) ((lM (rV l)).getD 0 0==4) ((lM (rV l)).getD 0 0==3) ((lM (rV l)).getD 1 0==2) ((lM (rV l)).getD 0 0==2) (decide (1<((lM (rV l)).length:Int))) (fun h=>ae (by have:=hF.l2 h;omega))
   rw[hF.kind] at key
   simp only[c0,bW]
   exact key
theorem dR.eq (hk:cy<=k) {l:LI} (hl:l.length<1048577):dR.f k l=some (o6 l):=by
 refine bS (nT.eq hk hl) ?_
 unfold rX o6
 cases h1:(dz l&&((l.length:Int)==5)) with
 |false=>rfl
 |true=>
  obtain ⟨h1,h2⟩:=Bool.and_eq_true_iff.1 h1
  have h5:l.length=5:=by have:(l.length:Int)=5:=by simpa using h2
                         omega
  have hF:=uV h1 h5
  have hc:=(jy.1 h1).1
  have es:=bj.eq hk hF.len
  have ht:decide (o5 (rV l) 10>=0)=(mI l==4||mI l==8):=hF.top (ue l)
  have hn: ¬mI l<0:=by
   unfold mI
   generalize decide (o5 (rV l) 10>=0)=p
   generalize ue l=fl
   generalize (has (rV l) 4==1)=h4
   generalize (has (rV l) 3==1)=h3
   generalize (has (rV l) 2==1)=L0
   generalize (has (rV l) 2==2)=Pn
   revert p fl h4 h3 L0 Pn;decide
  rw[ht]
  simp only[ak]
  refine bF (aC hn) (bS (fN.eq hk hl hc) ?_)
  cases h4:(mI l==4) with
  |true=>exact bT rfl (bN es)
  |false=>
   refine bF rfl ?_
   cases h8:(mI l==8) with
   |true=>exact bT rfl (bN es)
   |false=>exact bF rfl (dR.SN (by simp[cy] at hk;omega) hF.len _ _)
theorem po.eq (hk:cy<=k) {l:LI} (hl:l.length<1048577):po.f k l=some (o6 l):=by
 refine bS (il.eq hk hl) ?_
 unfold rX o6
 cases h1:(dz l&&((l.length:Int)==5)) with
 |false=>rfl
 |true=>
  obtain ⟨h1,h2⟩:=Bool.and_eq_true_iff.1 h1
  have h5:l.length=5:=by have:(l.length:Int)=5:=by simpa using h2
                         omega
  have hF:=uV h1 h5
  have hc:=(jy.1 h1).1
  have es:=jj.eq hk (CF (rV l)) (by have:=hF.rl;omega)
  rw[hF.str] at es
  have hn: ¬mI l<0:=by
   unfold mI
   generalize decide (o5 (rV l) 10>=0)=p
   generalize ue l=fl
   generalize (has (rV l) 4==1)=h4
   generalize (has (rV l) 3==1)=h3
   generalize (has (rV l) 2==1)=L0
   generalize (has (rV l) 2==2)=Pn
   revert p fl h4 h3 L0 Pn;decide
  simp only[ak]
  refine bF (aC hn) (bS (cj.eq hk hl hc) (bS es ?_))
  cases h4:decide (o5 (rV l) 10>=0) with
  |true=>rfl
  |false=>exact bF rfl (bW (nY (by have:=hF.rl;simp only[];omega)))
def Qr:List BA:=[(Xb:BA),(Xc:BA),(⟨#[116,119,111]⟩:BA),(UK:BA),(Xe:BA),(RZ:BA),(Jg:BA),(W7:BA),(w6:BA)]
def kindName (c:Int):BA:=Qr.getD c.toNat bE
theorem Dn (c:Int):(kindName c).size<=13:=by
 unfold kindName
 rcases Nat.lt_or_ge c.toNat 9 with h|h
 ·have:c.toNat=0\/c.toNat=1\/c.toNat=2\/c.toNat=3\/c.toNat=4\/c.toNat=5\/c.toNat=6\/c.toNat=7\/c.toNat=8:=by omega
  rcases this with h|h|h|h|h|h|h|h|h<;>rw[h]<;>decide
 ·rw[aL,List.getElem?_eq_none (by exact h)]
  exact Nat.zero_le _
theorem mz.eq (k:Nat) {c:Int} (h:0<=c/\c<=8):mz.f k c=some (kindName c):=by
 refine bS (bb.eq ..) (bF ?_ (bW (bA (ae h.1) ae)))
 rw[ja.2 h];rfl
theorem mq.eq (k:Nat) {c:Int} (h:0<=c/\c<=8):mq.f k c=some (kindName c):=by
 refine bS (aI.eq ..) (bF ?_ (bW (bA (ae h.1) ae)))
 rw[ja.2 h];rfl
theorem SR (l:LI):0<=mI l/\mI l<=8:=by
 unfold mI
 generalize decide (o5 (rV l) 10>=0)=p
 generalize ue l=fl
 generalize (has (rV l) 4==1)=h4
 generalize (has (rV l) 3==1)=h3
 generalize (has (rV l) 2==1)=L0
 generalize (has (rV l) 2==2)=Pn
 revert p fl h4 h3 L0 Pn;decide
theorem Pp (n:LI): ∀j,o5 n j<=(j:Int)+2
 |0=>by simp[o5]
 |j+1=>by
  have:=Pp n j
  unfold o5
  cases (oA n ((j:Int)+3) 0&&(oA n ((j:Int)+3) 1&&(oA n ((j:Int)+3) 2&&(oA n ((j:Int)+3) 3&&oA n ((j:Int)+3) 4))))<;>simp only[ak,an]<;>omega
theorem Dp (l:LI):o6 l=[]\/ ∃c x r,o6 l=c::x::r/\0<=c/\c<=8/\(∀y∈x::r,0<=y/\y<=12)/\r.length<=51:=by
 unfold o6
 cases h1:(dz l&&((l.length:Int)==5)) with
 |false=>exact .inl rfl
 |true=>
  obtain ⟨h1,h2⟩:=Bool.and_eq_true_iff.1 h1
  have h5:l.length=5:=by have:(l.length:Int)=5:=by simpa using h2
                         omega
  have hF:=uV h1 h5
  obtain ⟨k0,k8⟩:=SR l
  right
  simp only[ak]
  by_cases h4:o5 (rV l) 10>=0
  ·rw[ae h4]
   have:=Pp (rV l) 10
   refine ⟨mI l,o5 (rV l) 10,[],rfl,k0,k8,fun y hy=> ?_,by simp⟩
   simp only[cL,cA,or_false] at hy
   subst hy;omega
  ·rw[aC h4]
   have hr:=CF (rV l)
   have hl:=hF.rl
   have hl1:1<=(pD (rV l)).length:=by
    have h:=hF.l1
    have e:(pD (rV l)).length=(lM (rV l)).length:=by
     unfold pD lM
     simp only[au,CE,List.length_replicate]
    omega
   cases hq:pD (rV l) with
   |nil=>rw[hq] at hl1;simp at hl1
   |cons x r=>
    rw[hq] at hr hl
    exact ⟨mI l,x,r,rfl,k0,k8,hr,by simpa using hl⟩
def Bh (l:LI):BA:=bif ((o6 l).length:Int)==0 then K3 else kindName ((o6 l).getD 0 0)++(uA:BA)++wH ((o6 l).drop 1) RX
theorem li.eq (hk:cy<=k) {l:LI} (hl:l.length<1048577):li.f k l=some (Bh l):=by
 refine bS (dR.eq hk hl) ?_
 unfold Bh
 rcases Dp l with h| ⟨c,x,r,h,c0,c8,hr,Qa⟩
 ·rw[h];rfl
 ·rw[h]
  have h0:(((c::x::r).length:Int)==0)=false:=by simp;omega
  have hw: ∀n∈x::r,tf .i64 n:=fun n hn=>qx (by have:=hr n hn;omega)
  have h1:=xp (l:=x::r) (sep:=RX) hw (ai 1)
  have h2:=Dn c
  have h3:(uA:BA).size=1:=rfl
  simp only[ab] at h1
  have et:((c::x::r).take (((c::x::r).length:Int).toNat)).drop 1=x::r:=by
   rw[aa,List.take_length];rfl
  have hn:=dr.eq hk (l:=x::r) (by simp only[ab];omega) hw
  have hj:=cx.XD hk (l:=x::r) (sep:=RX) (by simp only[ab];omega) hw (ai 1)
  have ho:xq (x::r) RX=wH (x::r) RX:=by
   unfold xq
   rw[show (((x::r).length:Int)==0)=false by simp;omega];rfl
  rw[ho] at hj
  refine Eq.trans ?_ (congrArg some (br h0).symm)
  refine bF h0 (cT (ae (by simp only[ab];omega)) (bS (mz.eq k (c:=(c::x::r).getD 0 0) ⟨c0,c8⟩) (cT (ae (by show (kindName c).size+_<=_;simp only[ia];omega)) (cT (bA ae ae) (cT (ae (by simp only[ab];omega)) ?_)))))
  rw[et]
  refine bS hn (bS hj (bW (ae ?_)))
  show (kindName c++(uA:BA)).size+_<=_
  rw[aq]
  simp only[ia];omega
theorem lg.eq (hk:cy<=k) {l:LI} (hl:l.length<1048577):lg.f k l=some (Bh l):=by
 refine bS (po.eq hk hl) ?_
 unfold Bh
 rcases Dp l with h| ⟨c,x,r,h,c0,c8,hr,Qa⟩
 ·rw[h];rfl
 ·rw[h]
  have h0:(((c::x::r).length:Int)==0)=false:=by simp;omega
  have hw: ∀n∈x::r,tf .i64 n:=fun n hn=>qx (by have:=hr n hn;omega)
  have h1:=xp (l:=x::r) (sep:=RX) hw (ai 1)
  have h2:=Dn c
  have h3:(uA:BA).size=1:=rfl
  simp only[ab] at h1
  have et:((c::x::r).take (((c::x::r).length:Int).toNat)).drop 1=x::r:=by
   rw[aa,List.take_length];rfl
  have hj:=cK.eq hk (l:=x::r) (sep:=RX) (by simp only[ab];omega) hw (ai 1)
  refine Eq.trans ?_ (congrArg some (br h0).symm)
  refine bF h0 (cT (ae (by simp only[ab];omega)) (bS (mq.eq k (c:=(c::x::r).getD 0 0) ⟨c0,c8⟩) (cT (ae (by show (kindName c).size+_<=_;simp only[ia];omega)) (cT (bA ae ae) (cT (ae (by simp only[ab];omega)) ?_)))))
  rw[et]
  refine bS hj (bW (ae ?_))
  show (kindName c++(uA:BA)).size+_<=_
  rw[aq]
  simp only[ia];omega
def xz (l:LI):LI:=M4 (fun i b=>bif ob l (i:Int) then b++[(i:Int)] else b) 52 0 []
theorem iF.eq (hk:cy<=k) {l:LI} (hl:l.length<1048577):iF.f k l=some (xz l):=by
 have h:=upto (B:=LI) 52 (fun m b i=>iF.l3 k l (fun x2=>some x2) m i b) (fun i b=>bif ob l (i:Int) then b++[(i:Int)] else b) (fun x=>some x) (fun i b=>b.length<=i)
  (fun m b i h hI=>by
    refine bV rfl ?_
    refine bT ae (bS (d_.eq hk _ hl) ?_)
    rw[aK]
    cases ob l (i:Int) with
    |false=>rfl
    |true=>exact bT rfl (bW (ae (by simp[room];omega))))
  (fun b i h hI=>by cases ob l (i:Int)<;>simp<;>omega)
  (fun m b hI=>bV rfl (br aC))
  52 0 k [] (by omega) (by simp[cy] at hk;omega) (by simp)
 exact h
theorem iB.eq (hk:cy<=k) {l:LI} (hl:l.length<1048577):iB.f k l=some (xz l):=by
 have h:=upto (B:=LI) 52 (fun m b i=>iB.l3 k l (fun x2=>some x2) m i b) (fun i b=>bif ob l (i:Int) then b++[(i:Int)] else b) (fun x=>some x) (fun i b=>b.length<=i)
  (fun m b i h hI=>by
    refine bV rfl ?_
    refine bT ae (bS (dX.eq hk _ hl) ?_)
    rw[aK]
    cases ob l (i:Int) with
    |false=>rfl
    |true=>exact bT rfl (bW (ae (by simp[room];omega))))
  (fun b i h hI=>by cases ob l (i:Int)<;>simp<;>omega)
  (fun m b hI=>bV rfl (br aC))
  52 0 k [] (by omega) (by simp[cy] at hk;omega) (by simp)
 exact h
theorem Pq (g:Nat->LI->LI) (hg: ∀i b,(g i b).length<=b.length+1): ∀(m i:Nat) (b:LI),(M4 g m i b).length<=b.length+m
 |0,i,b=>ai _
 |m+1,i,b=>by
  have:=Pq g hg m (i+1) (g i b)
  have:=hg i b
  show (M4 g m (i+1) (g i b)).length<=_
  omega
theorem Bi (l:LI):(xz l).length<=52:=by
 have:=Pq (fun i b=>bif ob l (i:Int) then b++[(i:Int)] else b) (fun i b=>by cases ob l (i:Int)<;>simp) 52 0 []
 simpa[xz] using this
