/- Plain laws of the program's functions, joined. Conditions: as each theorem says. -/
import Derived.Test.YtbmmhdmljajcfaaGreatDoorPP1
import Derived.Test.YtbmmhdmljajcfaaGreatDoorXFnExactConsoleLine
set_option linter.unusedVariables false
set_option linter.unusedSimpArgs false
set_option linter.unusedSectionVars false
namespace Go.Proofs.YtbmmhdmljajcfaaGreatDoor
open Go V
variable {R:Type} {k:Nat}
def Wp:BA:=Xd
def Wq:BA:=Jh
def Wr:BA:=yL
def uX (b1 b2:Bool):BA:=bif b1&&b2 then Wp else bif b1 then Wq else bif b2 then Wr else bE
theorem lm.eq (k:Nat) (n e:Int) (b1 b2:Bool) (w f:LI) (t l:Int):lm.f k n e b1 b2 w f t l=some (uX b1 b2):=by cases b1<;>cases b2<;>rfl
theorem lc.eq (k:Nat) (n e:Int) (b1 b2:Bool) (w f:LI) (t l:Int):lc.f k n e b1 b2 w f t l=some (uX b1 b2):=by cases b1<;>cases b2<;>rfl
def rJ (l:LI):BA:=bif ((l.length:Int)==0) then K3 else kH l
theorem iK.eq (hk:cy<=k) {l:LI} (hl:l.length<1048577):iK.f k l=some (rJ l):=by
 unfold iK.f rJ
 cases (l.length:Int)==0 with
 |true=>rfl
 |false=>exact bF rfl (bN (bL.eq hk hl))
theorem ji.eq (hk:cy<=k) {l:LI} (hl:l.length<1048577):ji.f k l=some (rJ l):=by
 unfold ji.f rJ
 cases (l.length:Int)==0 with
 |true=>rfl
 |false=>exact bF rfl (bN (cF.eq hk hl))
theorem nF (l:LI):(rJ l).size<=60/\wS (rJ l):=by
 unfold rJ
 cases (l.length:Int)==0 with
 |true=>exact ⟨by show (K3:BA).size<=60;decide,vE (by decide)⟩
 |false=>exact ⟨Ff l,LC l⟩
theorem rq (b1 b2:Bool):(uX b1 b2).size<=4/\wS (uX b1 b2):=by
 have h1:wS Wp:=by unfold wS;decide+kernel
 have h2:wS Wq:=by unfold wS;decide+kernel
 have h3:wS Wr:=by unfold wS;decide+kernel
 cases b1<;>cases b2
 ·exact ⟨by decide,Iu⟩
 ·exact ⟨by decide,h3⟩
 ·exact ⟨by decide,h2⟩
 ·exact ⟨by decide,h1⟩
theorem L1: ∀(m u:Nat),u<m-> ∀x∈Go.Lib.decDigits u,x≠32:=by
 have Z7: ∀d:Nat,d<10->UInt8.ofNat (48+d)≠32:=fun d hd=>by
  have:d=0\/d=1\/d=2\/d=3\/d=4\/d=5\/d=6\/d=7\/d=8\/d=9:=by omega
  rcases this with rfl|rfl|rfl|rfl|rfl|rfl|rfl|rfl|rfl|rfl<;>decide+kernel
 intro m
 induction m with
 |zero=>intro u h;omega
 |succ m ih=>
  intro u hu x hx
  rw[Go.Lib.decDigits] at hx
  by_cases h:u<10
  ·rw[dif_pos h] at hx
   rw[List.mem_singleton.1 hx];exact Z7 u h
  ·rw[dif_neg h] at hx
   rcases List.mem_append.1 hx with hx|hx
   ·exact ih (u/10) (by omega) x hx
   ·rw[List.mem_singleton.1 hx];exact Z7 _ (by omega)
theorem yp (n:Int):wS (iM n):=by
 intro x hx
 have hx:x∈(Go.Lib.itoa n).toArray.toList:=hx
 unfold Go.Lib.itoa at hx
 split at hx
 ·rcases List.mem_cons.1 (show x∈45::Go.Lib.decDigits n.natAbs from hx) with rfl|hx
  ·decide
  ·exact L1 _ _ (Nat.lt_succ_self _) x hx
 ·exact L1 _ _ (Nat.lt_succ_self _) x hx
def rY (r:Rl):List BA:=[Jj++iM r.n,UL++iM r.e,UQ++uX r.b1 r.b2,Xa++rJ r.w,R0++rJ r.f,RY++iM r.t,Hj++iM r.l]
def spB:BA:=uz
def uY (r:Rl):BA:=bif r.ok then pR (rY r) spB else bE
theorem SS {r:Rl} (h:r.ok=true):tf .i64 r.n/\tf .i64 r.e/\tf .i64 r.t/\tf .i64 r.l/\(r.b1||r.b2)=true/\2<=r.n/\r.n<=6:=by
 unfold Rl.ok vn mJ at h
 simp only[ay,dH] at h
 have w (n:Int) (h1: -9223372036854775808<=n) (h2:n<=9223372036854775807):tf .i64 n:=by simp[tf,Lit.wf,IntKind.min,IntKind.max,IntKind.signed,IntKind.bits];omega
 obtain ⟨⟨⟨⟨⟨⟨⟨h1,h2⟩,⟨h3,h4⟩⟩,h5⟩,_⟩,_⟩,⟨h6,h7⟩⟩,⟨h8,h9⟩⟩:=h
 exact ⟨w _ (by omega) (by omega),w _ (by omega) (by omega),w _ (by omega) (by omega),w _ (by omega) (by omega),h5,h1,h2⟩
theorem D_ {r:Rl} (h:r.ok=true): ∀w∈rY r,w.size<=68/\wS w:=by
 obtain ⟨w1,w2,w3,w4,_⟩:=SS h
 have g (p x:BA) (hp:p.size<=8) (hn:wS p) (hx:x.size<=60/\wS x):(p++x).size<=68/\wS (p++x):=⟨by rw[aq];omega,vD hn hx.2⟩
 have i1:=gV w1
 have i2:=gV w2
 have i3:=gV w3
 have i4:=gV w4
 have r1:=rq r.b1 r.b2
 intro w hw
 simp only[rY,cL,cA,or_false] at hw
 rcases hw with rfl|rfl|rfl|rfl|rfl|rfl|rfl
 ·exact g _ _ (by decide) (by unfold wS;decide+kernel) ⟨by omega,yp _⟩
 ·exact g _ _ (by decide) (by unfold wS;decide+kernel) ⟨by omega,yp _⟩
 ·exact g _ _ (by decide) (by unfold wS;decide+kernel) ⟨by omega,r1.2⟩
 ·exact g _ _ (by decide) (by unfold wS;decide+kernel) (nF _)
 ·exact g _ _ (by decide) (by unfold wS;decide+kernel) (nF _)
 ·exact g _ _ (by decide) (by unfold wS;decide+kernel) ⟨by omega,yp _⟩
 ·exact g _ _ (by decide) (by unfold wS;decide+kernel) ⟨by omega,yp _⟩
theorem NQ (a b c d e f g sep:BA):pR [a,b,c,d,e,f,g] sep=a++sep++b++sep++c++sep++d++sep++e++sep++f++sep++g:=by
 apply uJ
 show ((Go.Lib.join _ _).toArray).toList=_
 simp[Go.Lib.join,List.intercalate,uK]
theorem ld.eq (hk:cy<=k) {r:Rl} (h:r.sm):ld.f k r.n r.e r.b1 r.b2 r.w r.f r.t r.l=some (uY r):=by
 refine bS (dk.eq hk r.n r.e r.b1 r.b2 r.t r.l h.1 h.2) ?_
 unfold uY
 show (bif !r.ok then _ else _)=_
 cases hr:r.ok with
 |false=>rfl
 |true=>
  obtain ⟨w1,w2,w3,w4,_⟩:=SS hr
  have i1:=gV w1
  have i2:=gV w2
  have i3:=gV w3
  have i4:=gV w4
  have r1:=(rq r.b1 r.b2).1
  have m1:=(nF r.w).1
  have m2:=(nF r.f).1
  have hM:1000<=ia:=by unfold ia;omega
  have z8:(Jj:BA).size=8:=rfl
  have z1:(UL:BA).size=5:=rfl
  have z2:(UQ:BA).size=6:=rfl
  have z3:(Xa:BA).size=5:=rfl
  have z4:(R0:BA).size=5:=rfl
  have z5:(RY:BA).size=5:=rfl
  have z6:(Hj:BA).size=6:=rfl
  refine bF rfl (bS (a_.eq k w1) (cT ae (bS (a_.eq k w2) (cT ae (bS (lc.eq ..) (cT ae ?_))))))
  refine bS (ji.eq hk h.1) (cT ae (bS (ji.eq hk h.2) (cT ae (bS (a_.eq k w3) (cT ae (bS (a_.eq k w4) (cT ae ?_)))))))
  exact bN (strings_Join.eq k (l:=rY r) (sep:=spB) (by show 7<_;decide) (fun y hy=>by have:=(D_ hr y hy).1;omega) (by decide))
theorem ln.eq (hk:cy<=k) {r:Rl} (h:r.sm):ln.f k r.n r.e r.b1 r.b2 r.w r.f r.t r.l=some (uY r):=by
 refine bS (dm.eq hk r.n r.e r.b1 r.b2 r.t r.l h.1 h.2) ?_
 unfold uY
 show (bif !r.ok then _ else _)=_
 cases hr:r.ok with
 |false=>rfl
 |true=>
  obtain ⟨w1,w2,w3,w4,_⟩:=SS hr
  have i1:=gV w1
  have i2:=gV w2
  have i3:=gV w3
  have i4:=gV w4
  have r1:=(rq r.b1 r.b2).1
  have m1:=(nF r.w).1
  have m2:=(nF r.f).1
  have hM:1000<=ia:=by unfold ia;omega
  have z8:(Jj:BA).size=8:=rfl
  have z1:(wY:BA).size=6:=rfl
  have z2:(oP:BA).size=7:=rfl
  have z3:(w8:BA).size=6:=rfl
  have z4:(wM:BA).size=6:=rfl
  have z5:(Ay:BA).size=6:=rfl
  have z6:(D4:BA).size=7:=rfl
  have c {X:Option BA} {q:Nat} (hq:q<=1000):bY (decide (q<=ia)) X=X:=bW ae
  refine bF rfl (bS (aT.eq hk w1) ((c (by simp only[aq,z8];omega)).trans ((c (by simp only[aq,z8,z1];omega)).trans ?_)))
  refine bS (aT.eq hk w2) ((c (by simp only[aq,z8,z1];omega)).trans ((c (by simp only[aq,z8,z1,z2];omega)).trans ?_))
  refine bS (lm.eq ..) ((c (by simp only[aq,z8,z1,z2];omega)).trans ((c (by simp only[aq,z8,z1,z2,z3];omega)).trans ?_))
  refine bS (iK.eq hk h.1) ((c (by simp only[aq,z8,z1,z2,z3];omega)).trans ((c (by simp only[aq,z8,z1,z2,z3,z4];omega)).trans ?_))
  refine bS (iK.eq hk h.2) ((c (by simp only[aq,z8,z1,z2,z3,z4];omega)).trans ((c (by simp only[aq,z8,z1,z2,z3,z4,z5];omega)).trans ?_))
  refine bS (aT.eq hk w3) ((c (by simp only[aq,z8,z1,z2,z3,z4,z5];omega)).trans ((c (by simp only[aq,z8,z1,z2,z3,z4,z5,z6];omega)).trans ?_))
  refine bS (aT.eq hk w4) ((c (by simp only[aq,z8,z1,z2,z3,z4,z5,z6];omega)).trans ?_)
  refine congrArg some ?_
  show _=pR (rY r) spB
  unfold rY
  rw[NQ]
  apply uJ
  simp[uK,spB]
abbrev Tb.RE (t:Tb) (e:BA):Int×Int×Bool×Bool×LI×LI×Int×Int×LI×Bool×LI×Int×Int×Bool×Bool×LI×LI×Int×Int×LL×LI×LI×Int×Int×Int×LI×LL×BA:=(t.r.n,t.r.e,t.r.b1,t.r.b2,t.r.w,t.r.f,t.r.t,t.r.l,t.fI,t.on,t.qn,t.g.r.n,t.g.r.e,t.g.r.b1,t.g.r.b2,t.g.r.w,t.g.r.f,t.g.r.t,t.g.r.l,t.g.hs,t.g.st,t.g.hp,t.g.tn,t.g.mv,t.g.ps,t.rd,t.jJ,e)
abbrev Tb.ws (t:Tb):Prop:= ∀y∈t.jJ,∀n∈y,tf .i64 n
def bK:BA:=zK
def okB:BA:=PW
def qa (t:Tb) (o:Option Tb):Tb×BA:=match o with
 |some u=>(u,okB)
 |none=>(t,noW)
def kr (t:Tb):Nat->BA
 |3=>qM (uY t.r) K3
 |4=>Bc t
 |5=>qM (xw t.g) K3
 |6=>ig (cv t.g)
 |7=>AW t.rd
 |8=>qM (rp (t.jJ.map Bd) uz) K3
 |_=>qM (vN t) okB
def kI (l:LI):Nat->BA
 |14=>rp ((lG l).map ig) uz
 |15=>iM (aaq l)
 |16=>Bh l
 |_=>iM ((xz l).length:Int)
def dD (t:Tb) (i:Nat) (ws:List BA):Tb×BA:=match i,ws with
 |0,[]=>qa t (some sD)
 |1,[]=>qa t (vG (gU t (-1)))
 |2,[]=>qa t (vG (hU t))
 |3,[]=>(t,kr t 3)
 |4,[]=>(t,kr t 4)
 |5,[]=>(t,kr t 5)
 |6,[]=>(t,kr t 6)
 |7,[]=>(t,kr t 7)
 |8,[]=>(t,kr t 8)
 |9,[]=>(t,kr t 9)
 |10,[a,b,c]=>bif nG [a,b,c] then qa t (tZ t (qt [a,b,c])) else (t,bK)
 |11,[a]=>bif decide (cZ a>=0) then qa t (vG (iU t (cZ a))) else (t,bK)
 |12,[a]=>bif (bw a).2 then qa t (vG (o4 t (bw a).1)) else (t,bK)
 |13,[a]=>bif (bw a).2 then (t,ym t.g (bw a).1) else (t,bK)
 |14,[a]=>bif (aU a).2 then (t,kI (aU a).1 14) else (t,bK)
 |15,[a]=>bif (aU a).2 then (t,kI (aU a).1 15) else (t,bK)
 |16,[a]=>bif (aU a).2 then (t,kI (aU a).1 16) else (t,bK)
 |17,[a]=>bif (gI a).2 then (t,kI (gI a).1 17) else (t,bK)
 |18,[a,b]=>bif (aU a).2&&(bw b).2 then (t,iM (nB (aU a).1 (bw b).1)) else (t,bK)
 |_,_=>(t,bK)
def jk (w:BA):Nat:=vF.findIdx fun x=>decide (w=x)
def kJ (t:Tb) (s:BA):Tb×BA:=match mM s with
 | []=>(t,bK)
 |w::ws=>bif decide ((s.size:Int)>200) then (t,bK) else dD t (jk w) ws
theorem Dq {w:BA} (h:w∉vF):jk w=19:=by
 unfold jk
 exact List.findIdx_eq_length.2 fun x hx=>aC fun e=>h (e ▸ hx)
theorem Dr {t:Tb} (ws:List BA):dD t 19 ws=(t,bK):=by unfold dD;rfl
theorem SU (hk:cy<=k) {t:Tb} (h:t.sm) (hw:t.ws):
 (∀ns l,t.ap (gd.f k) Az ns l=some (kr t 3))/\(∀ns l,t.ap (gd.f k) H4 ns l=some (kr t 4))/\(∀ns l,t.ap (gd.f k) w7 ns l=some (kr t 5))/\(∀ns l,t.ap (gd.f k) zL ns l=some (kr t 6))/\(∀ns l,t.ap (gd.f k) D2 ns l=some (kr t 7))/\(∀ns l,t.ap (gd.f k) B6 ns l=some (kr t 8))/\(∀ns l,t.ap (gd.f k) ri ns l=some (kr t 9)):=by
 have hg:=h.2.2.2.1
 have hp:(cv t.g).length<1048577:=by have:=ov t.g;omega
 refine ⟨fun ns l=> ?_,fun ns l=> ?_,fun ns l=> ?_,fun ns l=> ?_,fun ns l=> ?_,fun ns l=> ?_,fun ns l=> ?_⟩
 ·exact bT (by decide+kernel) (bS (ld.eq hk h.1) (bN (iY.eq ..)))
 ·exact bF (by decide+kernel) (bT (by decide+kernel) (bN (ka.eq hk h)))
 ·exact bF (by decide+kernel) (bF (by decide+kernel) (bT (by decide+kernel) (bS (fJ.eq hk hg) (bN (iY.eq ..)))))
 ·exact bF (by decide+kernel) (bF (by decide+kernel) (bF (by decide+kernel) (bF (by decide+kernel) (bT (by decide+kernel) (bS (eA.eq hk hg) (bN (fK.eq hk hp)))))))
 ·exact bF (by decide+kernel) (bF (by decide+kernel) (bF (by decide+kernel) (bF (by decide+kernel) (bF (by decide+kernel) (bT (by decide+kernel) (bN (kP.eq hk h.2.2.2.2.1)))))))
 ·exact bF (by decide+kernel) (bF (by decide+kernel) (bF (by decide+kernel) (bF (by decide+kernel) (bF (by decide+kernel) (bF (by decide+kernel) (bT (by decide+kernel) (bS (eY.eq hk h.2.2.2.2.2.1 h.2.2.2.2.2.2 hw) (bN (iY.eq ..)))))))))
 ·exact bF (by decide+kernel) (bF (by decide+kernel) (bF (by decide+kernel) (bF (by decide+kernel) (bF (by decide+kernel) (bF (by decide+kernel) (bF (by decide+kernel) (bT (by decide+kernel) (bS (ng.eq hk h) (bN (iY.eq ..))))))))))
theorem yq (hk:cy<=k) {t:Tb} {l:LI} (hl:l.length<1048577):
 (∀ns,t.ap (gd.f k) D5 ns l=some (kI l 14))/\(∀ns,t.ap (gd.f k) Cb ns l=some (kI l 15))/\(∀ns,t.ap (gd.f k) Hk ns l=some (kI l 16))/\(∀ns,t.ap (gd.f k) yK ns l=some (kI l 17)):=by
 have hm:=pC l
 have Uw: ∀y∈lG l,y.length<1048577:=fun y hy=>by have:=pz hy;omega
 have ho:=rI l
 have hs:=Bi l
 refine ⟨fun ns=> ?_,fun ns=> ?_,fun ns=> ?_,fun ns=> ?_⟩
 ·exact bF (by decide+kernel) (bF (by decide+kernel) (bF (by decide+kernel) (bF (by decide+kernel) (bF (by decide+kernel) (bF (by decide+kernel) (bF (by decide+kernel) (bF (by decide+kernel) (bT (by decide+kernel) (bS (bz.eq hk hl) (bN (eZ.eq hk (by omega) Uw)))))))))))
 ·exact bF (by decide+kernel) (bF (by decide+kernel) (bF (by decide+kernel) (bF (by decide+kernel) (bF (by decide+kernel) (bF (by decide+kernel) (bF (by decide+kernel) (bF (by decide+kernel) (bF (by decide+kernel) (bT (by decide+kernel) (bS (mn.eq hk hl) (bN (a_.eq k (qx ⟨by omega,by omega⟩)))))))))))))
 ·exact bF (by decide+kernel) (bF (by decide+kernel) (bF (by decide+kernel) (bF (by decide+kernel) (bF (by decide+kernel) (bF (by decide+kernel) (bF (by decide+kernel) (bF (by decide+kernel) (bF (by decide+kernel) (bF (by decide+kernel) (bT (by decide+kernel) (bN (lg.eq hk hl))))))))))))
 ·exact bF (by decide+kernel) (bF (by decide+kernel) (bF (by decide+kernel) (bF (by decide+kernel) (bF (by decide+kernel) (bF (by decide+kernel) (bF (by decide+kernel) (bF (by decide+kernel) (bF (by decide+kernel) (bF (by decide+kernel) (bF (by decide+kernel) (bT (by decide+kernel) (bS (iB.eq hk hl) (bN (a_.eq k (qx ⟨by omega,by omega⟩)))))))))))))))
theorem Qs (hk:cy<=k) {t:Tb} {l:LI} (hl:l.length<1048577) (n:Int):t.ap (gd.f k) zM [n] l=some (iM (nB l n)):=by
 have ht:=Bg hl n
 exact bF (by decide+kernel) (bF (by decide+kernel) (bF (by decide+kernel) (bF (by decide+kernel) (bF (by decide+kernel) (bF (by decide+kernel) (bF (by decide+kernel) (bF (by decide+kernel) (bF (by decide+kernel) (bF (by decide+kernel) (bF (by decide+kernel) (bF (by decide+kernel) (cT (ae (by simp)) (bS (iC.eq hk hl n) (bN (a_.eq k (qx ⟨by omega,by omega⟩))))))))))))))))
theorem SV (hk:cy<=k) {t:Tb} (h:t.sm) (n:Int) (l:LI):t.ap (gd.f k) B_ [n] l=some (ym t.g n):=by
 exact bF (by decide+kernel) (bF (by decide+kernel) (bF (by decide+kernel) (bT (by decide+kernel) (cT (ae (by simp)) (Pd (k:=k) h.2.2.2.1 n (nP.eq hk h.2.2.2.1 n) @fun me hand top x y sizes u w h1 h2 h3 h4=>fL.eq hk top x y u w h1 h2 h3 h4)))))
theorem kB (w:BA):(w.toList==w.toList)=true:=beq_self_eq_true _
theorem Eu (w:BA) (ws:List BA):((w::ws).take (((w::ws).length:Int).toNat)).drop 1=ws:=by
 rw[aa,List.take_length];rfl
section
variable {k:Nat} (hk:cy<=k) {t:Tb} (ht:t.sm) {s:BA} (hs:s.size<1048577) {w:BA} {ws:List BA} (hw:mM s=w::ws) (h2: ¬((s.size:Int)>200))
include hk ht hs hw h2
theorem Bj:ws.length<1048577/\ ∀x∈ws,x.size<1048577:=by
 have h1:=JJ s
 have h3:=Lv s
 rw[hw] at h1 h3
 rw[ab] at h1
 exact ⟨by omega,fun x hx=>by have:=h3 x (List.mem_cons_of_mem _ hx);omega⟩
theorem sK.Qt {K:BA} (XM:dy.f k w=some (K,false)):t.ap (gy.f k) s=some (t.RE bK):=by
 refine bS (fE.eq hk hs) ?_
 rw[hw]
 exact bF (aC h2) (bF (by rw[ab];simp;omega) (cT (ae (by rw[ab];omega)) (bS XM (bT rfl (bN (ar.eq hk ht))))))
theorem sK.XN {K:BA} (XM:dy.f k w=some (K,true)) (ho:(operands K ws).2.2=false):t.ap (gy.f k) s=some (t.RE bK):=by
 obtain ⟨q1,q2⟩:=Bj hk ht hs hw h2
 refine bS (fE.eq hk hs) ?_
 rw[hw]
 refine bF (aC h2) (bF (by rw[ab];simp;omega) (cT (ae (by rw[ab];omega)) (bS XM (bF rfl (cT (bA ae ae) (cT (ae (by rw[ab];omega)) ?_))))))
 rw[Eu]
 exact bS (gB.eq hk q1 q2) (bT (by show (!(operands K ws).2.2)=true;rw[ho];rfl) (bN (ar.eq hk ht)))
theorem sK.change {K:BA} {ns l:LI} {o:Option Tb} (XM:dy.f k w=some (K,true)) (ho:operands K ws=(ns,l,true)) (B8:w=D1\/w=Nc\/w=qw\/w=H3\/w=rj\/w=zb) (hc: ∃r,t.ap (bO.f k) w ns=some r/\NF t r o):t.ap (gy.f k) s=some ((qa t o).1.RE (qa t o).2):=by
 obtain ⟨q1,q2⟩:=Bj hk ht hs hw h2
 obtain ⟨r,hr,hq⟩:=hc
 refine bS (fE.eq hk hs) ?_
 rw[hw]
 refine bF (aC h2) (bF (by rw[ab];simp;omega) (cT (ae (by rw[ab];omega)) (bS XM (bF rfl (cT (bA ae ae) (cT (ae (by rw[ab];omega)) ?_))))))
 rw[Eu]
 refine bS ((gB.eq hk q1 q2).trans (congrArg some ho)) (bF rfl (cT (ae (by rw[ab];omega)) ?_))
 rcases B8 with rfl|rfl|rfl|rfl|rfl|rfl
 ·refine bT (kB D1) (cT (ae (by rw[ab];omega)) (bS hr ?_))
  rcases hq with ⟨u,b,rfl,rfl⟩| ⟨rfl,rfl⟩
  ·refine bT rfl ?_
   cases b with
   |true=>exact br rfl
   |false=>exact bT rfl (bN (ar.eq hk ht))
  ·exact bF rfl (bN (ar.eq hk ht))
 ·refine bF (bB (w:=Nc) (x:=D1) (by decide)) (bT (kB Nc) (cT (ae (by rw[ab];omega)) (bS hr ?_)))
  rcases hq with ⟨u,b,rfl,rfl⟩| ⟨rfl,rfl⟩
  ·refine bT rfl ?_
   cases b with
   |true=>exact br rfl
   |false=>exact bT rfl (bN (ar.eq hk ht))
  ·exact bF rfl (bN (ar.eq hk ht))
 ·refine bF (bB (w:=qw) (x:=D1) (by decide)) (bF (bB (w:=qw) (x:=Nc) (by decide)) (bT (kB qw) (cT (ae (by rw[ab];omega)) (bS hr ?_))))
  rcases hq with ⟨u,b,rfl,rfl⟩| ⟨rfl,rfl⟩
  ·refine bT rfl ?_
   cases b with
   |true=>exact br rfl
   |false=>exact bT rfl (bN (ar.eq hk ht))
  ·exact bF rfl (bN (ar.eq hk ht))
 ·refine bF (bB (w:=H3) (x:=D1) (by decide)) (bF (bB (w:=H3) (x:=Nc) (by decide)) (bF (bB (w:=H3) (x:=qw) (by decide)) (bT (kB H3) (cT (ae (by rw[ab];omega)) (bS hr ?_)))))
  rcases hq with ⟨u,b,rfl,rfl⟩| ⟨rfl,rfl⟩
  ·refine bT rfl ?_
   cases b with
   |true=>exact br rfl
   |false=>exact bT rfl (bN (ar.eq hk ht))
  ·exact bF rfl (bN (ar.eq hk ht))
 ·refine bF (bB (w:=rj) (x:=D1) (by decide)) (bF (bB (w:=rj) (x:=Nc) (by decide)) (bF (bB (w:=rj) (x:=qw) (by decide)) (bF (bB (w:=rj) (x:=H3) (by decide)) (bT (kB rj) (cT (ae (by rw[ab];omega)) (bS hr ?_))))))
  rcases hq with ⟨u,b,rfl,rfl⟩| ⟨rfl,rfl⟩
  ·refine bT rfl ?_
   cases b with
   |true=>exact br rfl
   |false=>exact bT rfl (bN (ar.eq hk ht))
  ·exact bF rfl (bN (ar.eq hk ht))
 ·refine bF (bB (w:=zb) (x:=D1) (by decide)) (bF (bB (w:=zb) (x:=Nc) (by decide)) (bF (bB (w:=zb) (x:=qw) (by decide)) (bF (bB (w:=zb) (x:=H3) (by decide)) (bF (bB (w:=zb) (x:=rj) (by decide)) (bT (kB zb) (cT (ae (by rw[ab];omega)) (bS hr ?_)))))))
  rcases hq with ⟨u,b,rfl,rfl⟩| ⟨rfl,rfl⟩
  ·refine bT rfl ?_
   cases b with
   |true=>exact br rfl
   |false=>exact bT rfl (bN (ar.eq hk ht))
  ·exact bF rfl (bN (ar.eq hk ht))
theorem sK.answer {K:BA} {ns l:LI} {x:BA} (XM:dy.f k w=some (K,true)) (ho:operands K ws=(ns,l,true)) (B8:w≠D1/\w≠Nc/\w≠qw/\w≠H3/\w≠rj/\w≠zb) (hc:t.ap (gd.f k) w ns l=some x):t.ap (gy.f k) s=some (t.RE x):=by
 obtain ⟨q1,q2⟩:=Bj hk ht hs hw h2
 obtain ⟨i1,i2,i3,i4,i5,i6⟩:=B8
 refine bS (fE.eq hk hs) ?_
 rw[hw]
 refine bF (aC h2) (bF (by rw[ab];simp;omega) (cT (ae (by rw[ab];omega)) (bS XM (bF rfl (cT (bA ae ae) (cT (ae (by rw[ab];omega)) ?_))))))
 rw[Eu]
 refine bS ((gB.eq hk q1 q2).trans (congrArg some ho)) (bF rfl (cT (ae (by rw[ab];omega)) ?_))
 exact bF (bB i1) (bF (bB i2) (bF (bB i3) (bF (bB i4) (bF (bB i5) (bF (bB i6) (bS (ar.eq hk ht) (cT (ae (by rw[ab];omega)) (bN hc))))))))
end
theorem gO {K:BA} {ws:List BA} (h:ws.length≠K.size):(operands K ws).2.2=false:=by
 unfold operands
 rw[show ((ws.length:Int) != (K.size:Int))=true by simp;omega];rfl
theorem gy.eq (hk:cy<=k) {t:Tb} (ht:t.sm) (hT:t.ws) {s:BA} (hs:s.size<1048577):t.ap (gy.f k) s=some ((kJ t s).1.RE (kJ t s).2):=by
 have e0:mM s=[]->kJ t s=(t,bK):=fun h=>by unfold kJ;rw[h]
 have e1: ∀w ws,mM s=w::ws->kJ t s=bif decide ((s.size:Int)>200) then (t,bK) else dD t (jk w) ws:=fun w ws h=>by unfold kJ;rw[h]
 cases hw:mM s with
 |nil=>
  rw[e0 hw]
  refine bS (fE.eq hk hs) ?_
  rw[hw]
  by_cases h2:(s.size:Int)>200
  ·exact bT (ae h2) (bN (ar.eq hk ht))
  ·exact bF (aC h2) (bT rfl (bN (ar.eq hk ht)))
 |cons w ws=>
  rw[e1 w ws hw]
  by_cases h2:(s.size:Int)>200
  ·rw[ae h2]
   refine bS (fE.eq hk hs) ?_
   exact bT (ae h2) (bN (ar.eq hk ht))
  ·rw[aC h2,an]
   have no:=fun {K} h=>sK.Qt (K:=K) hk ht hs hw h2 h
   have uf:=fun {K} h h'=>sK.XN (K:=K) hk ht hs hw h2 h h'
   have Y5:=fun {K ns l o} h h' hi hc=>sK.change (K:=K) (ns:=ns) (l:=l) (o:=o) hk ht hs hw h2 h h' hi hc
   have Qu:=fun {K ns l x} h h' hi hc=>sK.answer (K:=K) (ns:=ns) (l:=l) (x:=x) hk ht hs hw h2 h h' hi hc
   obtain ⟨a3,a4,a5,a6,a7,a8,a9⟩:=SU hk ht hT
   by_cases B8:w∈vF
   ·unfold vF at B8
    simp only[cL,cA,or_false] at B8
    rcases B8 with rfl|rfl|rfl|rfl|rfl|rfl|rfl|rfl|rfl|rfl|rfl|rfl|rfl|rfl|rfl|rfl|rfl|rfl|rfl
    ·have e:jk D1=0:=by decide+kernel
     rw[e]
     have sh:=(by kernel_rfl:dy.f k D1=some (bE,true))
     match ws,hw with
     | [],_=>exact Y5 (ns:=[]) (l:=[]) sh rfl ((.inl rfl)) (bO.new hk [])
     |_::_,_=>exact uf sh (gO (by rw[ab];exact Nat.succ_ne_zero _))
    ·have e:jk H3=1:=by decide+kernel
     rw[e]
     have sh:=(by kernel_rfl:dy.f k H3=some (bE,true))
     match ws,hw with
     | [],_=>exact Y5 (ns:=[]) (l:=[]) sh rfl ((.inr (.inr (.inr (.inl rfl))))) (bO.take hk ht [])
     |_::_,_=>exact uf sh (gO (by rw[ab];exact Nat.succ_ne_zero _))
    ·have e:jk rj=2:=by decide+kernel
     rw[e]
     have sh:=(by kernel_rfl:dy.f k rj=some (bE,true))
     match ws,hw with
     | [],_=>exact Y5 (ns:=[]) (l:=[]) sh rfl ((.inr (.inr (.inr (.inr (.inl rfl)))))) (bO.settle hk ht [])
     |_::_,_=>exact uf sh (gO (by rw[ab];exact Nat.succ_ne_zero _))
    ·have e:jk Az=3:=by decide+kernel
     rw[e]
     have sh:=(by kernel_rfl:dy.f k Az=some (bE,true))
     match ws,hw with
     | [],_=>exact Qu (ns:=[]) (l:=[]) sh rfl ⟨by decide,by decide,by decide,by decide,by decide,by decide⟩ (a3 [] [])
     |_::_,_=>exact uf sh (gO (by rw[ab];exact Nat.succ_ne_zero _))
    ·have e:jk H4=4:=by decide+kernel
     rw[e]
     have sh:=(by kernel_rfl:dy.f k H4=some (bE,true))
     match ws,hw with
     | [],_=>exact Qu (ns:=[]) (l:=[]) sh rfl ⟨by decide,by decide,by decide,by decide,by decide,by decide⟩ (a4 [] [])
     |_::_,_=>exact uf sh (gO (by rw[ab];exact Nat.succ_ne_zero _))
    ·have e:jk w7=5:=by decide+kernel
     rw[e]
     have sh:=(by kernel_rfl:dy.f k w7=some (bE,true))
     match ws,hw with
     | [],_=>exact Qu (ns:=[]) (l:=[]) sh rfl ⟨by decide,by decide,by decide,by decide,by decide,by decide⟩ (a5 [] [])
     |_::_,_=>exact uf sh (gO (by rw[ab];exact Nat.succ_ne_zero _))
    ·have e:jk zL=6:=by decide+kernel
     rw[e]
     have sh:=(by kernel_rfl:dy.f k zL=some (bE,true))
     match ws,hw with
     | [],_=>exact Qu (ns:=[]) (l:=[]) sh rfl ⟨by decide,by decide,by decide,by decide,by decide,by decide⟩ (a6 [] [])
     |_::_,_=>exact uf sh (gO (by rw[ab];exact Nat.succ_ne_zero _))
    ·have e:jk D2=7:=by decide+kernel
     rw[e]
     have sh:=(by kernel_rfl:dy.f k D2=some (bE,true))
     match ws,hw with
     | [],_=>exact Qu (ns:=[]) (l:=[]) sh rfl ⟨by decide,by decide,by decide,by decide,by decide,by decide⟩ (a7 [] [])
     |_::_,_=>exact uf sh (gO (by rw[ab];exact Nat.succ_ne_zero _))
    ·have e:jk B6=8:=by decide+kernel
     rw[e]
     have sh:=(by kernel_rfl:dy.f k B6=some (bE,true))
     match ws,hw with
     | [],_=>exact Qu (ns:=[]) (l:=[]) sh rfl ⟨by decide,by decide,by decide,by decide,by decide,by decide⟩ (a8 [] [])
     |_::_,_=>exact uf sh (gO (by rw[ab];exact Nat.succ_ne_zero _))
    ·have e:jk ri=9:=by decide+kernel
     rw[e]
     have sh:=(by kernel_rfl:dy.f k ri=some (bE,true))
     match ws,hw with
     | [],_=>exact Qu (ns:=[]) (l:=[]) sh rfl ⟨by decide,by decide,by decide,by decide,by decide,by decide⟩ (a9 [] [])
     |_::_,_=>exact uf sh (gO (by rw[ab];exact Nat.succ_ne_zero _))
    ·have e:jk Nc=10:=by decide+kernel
     rw[e]
     have sh:=(by kernel_rfl:dy.f k Nc=some (⟨#[78,78,78]⟩,true))
     match ws,hw with
     | [],_=>exact uf sh (gO (by decide))
     | [a],_=>exact uf sh (gO (by show 1≠3;decide))
     | [a,b],_=>exact uf sh (gO (by show 2≠3;decide))
     |a::b::c::d::r,_=>exact uf sh (gO (by rw[ab,ab,ab,ab];show _+1+1+1+1≠3;omega))
     | [a,b,c],hw=>
       have hc:dD t 10 [a,b,c] =bif nG [a,b,c] then qa t (tZ t (qt [a,b,c])) else (t,bK):=rfl
       rw[hc]
       have op:operands ⟨#[78,78,78]⟩ [a,b,c] =bif (bw a).2 then (bif (bw b).2 then (bif (bw c).2 then (qt [a,b,c],[],true) else ([],[],false)) else ([],[],false)) else ([],[],false):=rfl
       have en:nG [a,b,c] =((bw a).2&&((bw b).2&&((bw c).2&&true))):=rfl
       rw[en]
       cases ha:(bw a).2 with
       |false=>rw[ha] at op;exact uf sh (by rw[op];rfl)
       |true=>
        rw[ha] at op
        cases hb:(bw b).2 with
        |false=>rw[hb] at op;exact uf sh (by rw[op];rfl)
        |true=>
         rw[hb] at op
         cases hc:(bw c).2 with
         |false=>rw[hc] at op;exact uf sh (by rw[op];rfl)
         |true=>
          rw[hc] at op
          exact Y5 sh op ((.inr (.inl rfl))) (NG hk ht (by show 3<1000000;decide))
    ·have e:jk qw=11:=by decide+kernel
     rw[e]
     have sh:=(by kernel_rfl:dy.f k qw=some (⟨#[99]⟩,true))
     match ws,hw with
     | [],_=>exact uf sh (gO (by decide))
     |a::b::r,_=>exact uf sh (gO (by rw[ab,ab];show _+1+1≠1;omega))
     | [a],hw=>
       have hc:dD t 11 [a] =bif decide (cZ a>=0) then qa t (vG (iU t (cZ a))) else (t,bK):=rfl
       rw[hc]
       have op:operands ⟨#[99]⟩ [a] =bif decide (cZ a>=0) then ([cZ a],[],true) else ([],[],false):=rfl
       cases hb:decide (cZ a>=0) with
       |false=>rw[hb] at op;exact uf sh (by rw[op];rfl)
       |true=>
        rw[hb] at op
        exact Y5 sh op ((.inr (.inr (.inl rfl)))) (bO.acd hk ht (cZ a))
    ·have e:jk zb=12:=by decide+kernel
     rw[e]
     have sh:=(by kernel_rfl:dy.f k zb=some (⟨#[78]⟩,true))
     match ws,hw with
     | [],_=>exact uf sh (gO (by decide))
     |a::b::r,_=>exact uf sh (gO (by rw[ab,ab];show _+1+1≠1;omega))
     | [a],hw=>
       have hc:dD t 12 [a] =bif (bw a).2 then qa t (vG (o4 t (bw a).1)) else (t,bK):=rfl
       rw[hc]
       have op:operands ⟨#[78]⟩ [a] =bif (bw a).2 then ([(bw a).1],[],true) else ([],[],false):=rfl
       cases hb:(bw a).2 with
       |false=>rw[hb] at op;exact uf sh (by rw[op];rfl)
       |true=>
        rw[hb] at op
        exact Y5 sh op ((.inr (.inr (.inr (.inr (.inr rfl)))))) (bO.ace hk ht (bw a).1)
    ·have e:jk B_=13:=by decide+kernel
     rw[e]
     have sh:=(by kernel_rfl:dy.f k B_=some (⟨#[78]⟩,true))
     match ws,hw with
     | [],_=>exact uf sh (gO (by decide))
     |a::b::r,_=>exact uf sh (gO (by rw[ab,ab];show _+1+1≠1;omega))
     | [a],hw=>
       have hc:dD t 13 [a] =bif (bw a).2 then (t,ym t.g (bw a).1) else (t,bK):=rfl
       rw[hc]
       have op:operands ⟨#[78]⟩ [a] =bif (bw a).2 then ([(bw a).1],[],true) else ([],[],false):=rfl
       cases hb:(bw a).2 with
       |false=>rw[hb] at op;exact uf sh (by rw[op];rfl)
       |true=>
        rw[hb] at op
        exact Qu sh op ⟨by decide,by decide,by decide,by decide,by decide,by decide⟩ (SV hk ht (bw a).1 [])
    ·have e:jk D5=14:=by decide+kernel
     rw[e]
     have sh:=(by kernel_rfl:dy.f k D5=some (W_,true))
     match ws,hw with
     | [],_=>exact uf sh (gO (by decide))
     |a::b::r,_=>exact uf sh (gO (by rw[ab,ab];show _+1+1≠1;omega))
     | [a],hw=>
       have hc:dD t 14 [a] =bif (aU a).2 then (t,kI (aU a).1 14) else (t,bK):=rfl
       rw[hc]
       have op:operands W_ [a] =bif (aU a).2 then ([],(aU a).1,true) else ([],[],false):=rfl
       cases hb:(aU a).2 with
       |false=>rw[hb] at op;exact uf sh (by rw[op];rfl)
       |true=>
        rw[hb] at op
        exact Qu sh op ⟨by decide,by decide,by decide,by decide,by decide,by decide⟩ ((yq hk (t:=t) (Nat.lt_of_le_of_lt (k9 a) (by decide))).1 [])
    ·have e:jk Cb=15:=by decide+kernel
     rw[e]
     have sh:=(by kernel_rfl:dy.f k Cb=some (W_,true))
     match ws,hw with
     | [],_=>exact uf sh (gO (by decide))
     |a::b::r,_=>exact uf sh (gO (by rw[ab,ab];show _+1+1≠1;omega))
     | [a],hw=>
       have hc:dD t 15 [a] =bif (aU a).2 then (t,kI (aU a).1 15) else (t,bK):=rfl
       rw[hc]
       have op:operands W_ [a] =bif (aU a).2 then ([],(aU a).1,true) else ([],[],false):=rfl
       cases hb:(aU a).2 with
       |false=>rw[hb] at op;exact uf sh (by rw[op];rfl)
       |true=>
        rw[hb] at op
        exact Qu sh op ⟨by decide,by decide,by decide,by decide,by decide,by decide⟩ ((yq hk (t:=t) (Nat.lt_of_le_of_lt (k9 a) (by decide))).2.1 [])
    ·have e:jk Hk=16:=by decide+kernel
     rw[e]
     have sh:=(by kernel_rfl:dy.f k Hk=some (W_,true))
     match ws,hw with
     | [],_=>exact uf sh (gO (by decide))
     |a::b::r,_=>exact uf sh (gO (by rw[ab,ab];show _+1+1≠1;omega))
     | [a],hw=>
       have hc:dD t 16 [a] =bif (aU a).2 then (t,kI (aU a).1 16) else (t,bK):=rfl
       rw[hc]
       have op:operands W_ [a] =bif (aU a).2 then ([],(aU a).1,true) else ([],[],false):=rfl
       cases hb:(aU a).2 with
       |false=>rw[hb] at op;exact uf sh (by rw[op];rfl)
       |true=>
        rw[hb] at op
        exact Qu sh op ⟨by decide,by decide,by decide,by decide,by decide,by decide⟩ ((yq hk (t:=t) (Nat.lt_of_le_of_lt (k9 a) (by decide))).2.2.1 [])
    ·have e:jk yK=17:=by decide+kernel
     rw[e]
     have sh:=(by kernel_rfl:dy.f k yK=some (⟨#[112]⟩,true))
     match ws,hw with
     | [],_=>exact uf sh (gO (by decide))
     |a::b::r,_=>exact uf sh (gO (by rw[ab,ab];show _+1+1≠1;omega))
     | [a],hw=>
       have hc:dD t 17 [a] =bif (gI a).2 then (t,kI (gI a).1 17) else (t,bK):=rfl
       rw[hc]
       have op:operands ⟨#[112]⟩ [a] =bif (gI a).2 then ([],(gI a).1,true) else ([],[],false):=rfl
       cases hb:(gI a).2 with
       |false=>rw[hb] at op;exact uf sh (by rw[op];rfl)
       |true=>
        rw[hb] at op
        exact Qu sh op ⟨by decide,by decide,by decide,by decide,by decide,by decide⟩ ((yq hk (t:=t) (AY a)).2.2.2 [])
    ·have e:jk zM=18:=by decide+kernel
     rw[e]
     have sh:=(by kernel_rfl:dy.f k zM=some (⟨#[104,78]⟩,true))
     match ws,hw with
     | [],_=>exact uf sh (gO (by decide))
     | [a],_=>exact uf sh (gO (by show 1≠2;decide))
     |a::b::c::r,_=>exact uf sh (gO (by rw[ab,ab,ab];show _+1+1+1≠2;omega))
     | [a,b],hw=>
       have hc:dD t 18 [a,b] =bif (aU a).2&&(bw b).2 then (t,iM (nB (aU a).1 (bw b).1)) else (t,bK):=rfl
       rw[hc]
       have op:operands ⟨#[104,78]⟩ [a,b] =bif (aU a).2 then (bif (bw b).2 then ([(bw b).1],(aU a).1,true) else ([],[],false)) else ([],[],false):=rfl
       cases hb:(aU a).2 with
       |false=>rw[hb] at op;exact uf sh (by rw[op];rfl)
       |true=>
        rw[hb] at op
        cases Cd:(bw b).2 with
        |false=>rw[Cd] at op;exact uf sh (by rw[op];rfl)
        |true=>
         rw[Cd] at op
         exact Qu sh op ⟨by decide,by decide,by decide,by decide,by decide,by decide⟩ (Qs hk (t:=t) (Nat.lt_of_le_of_lt (k9 a) (by decide)) (bw b).1)
   ·rw[Dq B8,Dr]
    exact no (HD k B8)
theorem qE {Pr:Tb->Prop} {t:Tb} {o:Option Tb} (h:Pr t) (ho: ∀u,o=some u->Pr u):Pr (qa t o).1:=by
 cases o with
 |none=>exact h
 |some u=>exact ho u rfl
theorem yr {Pr:Tb->Prop} {p:Tb×Bool} (h:Pr p.1): ∀u,vG p=some u->Pr u:=fun u e=>by
 unfold vG at e
 cases hb:p.2 with
 |true=>rw[hb] at e;cases e;exact h
 |false=>rw[hb] at e;cases e
theorem qN {Pr:Tb->Prop} {b:Bool} {x y:Tb×BA} (h1:Pr x.1) (h2:Pr y.1):Pr (bif b then x else y).1:=by cases b<;>assumption
theorem L2 {Pr:Tb->Prop} {t:Tb} (h:Pr t) (hf:Pr sD) (hm: ∀m,Pr (gU t m).1) (hs:Pr (hU t).1) (hp: ∀c,Pr (iU t c).1) (hb: ∀ns u,tZ t ns=some u->Pr u) (i:Nat) (ws:List BA):Pr (dD t i ws).1:=by
 unfold dD
 split
 ·exact qE h fun u e=>by cases e;exact hf
 ·exact qE h (yr (hm (-1)))
 ·exact qE h (yr hs)
 ·exact h
 ·exact h
 ·exact h
 ·exact h
 ·exact h
 ·exact h
 ·exact h
 ·exact qN (qE h (hb _)) h
 ·exact qN (qE h (yr (hp _))) h
 ·refine qN (qE h (yr ?_)) h
  unfold o4
  cases (choice t.g _ != -1) with
  |true=>exact hp _
  |false=>exact hm (-1)
 ·exact qN h h
 ·exact qN h h
 ·exact qN h h
 ·exact qN h h
 ·exact qN h h
 ·exact qN h h
 ·exact h
theorem Bk {Pr:Tb->Prop} {t:Tb} (h:Pr t) (hf:Pr sD) (hm: ∀m,Pr (gU t m).1) (hs:Pr (hU t).1) (hp: ∀c,Pr (iU t c).1) (hb: ∀ns u,tZ t ns=some u->Pr u) (s:BA):Pr (kJ t s).1:=by
 unfold kJ
 split
 ·exact h
 ·exact qN h (L2 h hf hm hs hp hb _ _)
theorem Fz {t:Tb} (h:t.sm) (s:BA):(kJ t s).1.sm:=Bk (Pr:=Tb.sm) h Qk (fun m=>xk h m) (zi h) (fun c=>Db h c) (fun ns u e=>Ix _ h e) s
theorem FE {a b:Bool} {X Y:R} (h:a=false\/b=false):(bif a then (bif b then X else Y) else Y)=Y:=by
 rcases h with rfl|rfl
 ·rfl
 ·cases a<;>rfl
theorem kt {t:Tb} {w:BA} (h:w≠Az/\w≠H4/\w≠w7/\w≠zL/\w≠D2/\w≠B6/\w≠ri):t.ap (jB.f k) w=some bK:=by
 obtain ⟨h1,h2,h3,h4,h5,h6,h7⟩:=h
 exact bF (bB h1) (bF (bB h2) (bF (bB h3) (bF (bB h4) (bF (bB h5) (bF (bB h6) (br (bB h7)))))))
theorem SW (hk:cy<=k) {t:Tb} (h:t.sm) (hw:t.ws):
 (t.ap (jB.f k) Az=some (kr t 3))/\(t.ap (jB.f k) H4=some (kr t 4))/\(t.ap (jB.f k) w7=some (kr t 5))/\(t.ap (jB.f k) zL=some (kr t 6))/\(t.ap (jB.f k) D2=some (kr t 7))/\(t.ap (jB.f k) B6=some (kr t 8))/\(t.ap (jB.f k) ri=some (kr t 9)):=by
 have hg:=h.2.2.2.1
 have hp:(cv t.g).length<1048577:=by have:=ov t.g;omega
 refine ⟨?_,?_,?_,?_,?_,?_,?_⟩
 ·exact bT (kB Az) (bS (ln.eq hk h.1) (bN (jt.eq ..)))
 ·exact bF (bB (w:=H4) (x:=Az) (by decide)) (bT (kB H4) (bN (kf.eq hk h)))
 ·exact bF (bB (w:=w7) (x:=Az) (by decide)) (bF (bB (w:=w7) (x:=H4) (by decide)) (bT (kB w7) (bS (fQ.eq hk hg) (bN (jt.eq ..)))))
 ·exact bF (bB (w:=zL) (x:=Az) (by decide)) (bF (bB (w:=zL) (x:=H4) (by decide)) (bF (bB (w:=zL) (x:=w7) (by decide)) (bT (kB zL) (bS (eB.eq hk hg) (bN (c_.eq hk hp))))))
 ·exact bF (bB (w:=D2) (x:=Az) (by decide)) (bF (bB (w:=D2) (x:=H4) (by decide)) (bF (bB (w:=D2) (x:=w7) (by decide)) (bF (bB (w:=D2) (x:=zL) (by decide)) (bT (kB D2) (bN (gw.eq hk h.2.2.2.2.1))))))
 ·exact bF (bB (w:=B6) (x:=Az) (by decide)) (bF (bB (w:=B6) (x:=H4) (by decide)) (bF (bB (w:=B6) (x:=w7) (by decide)) (bF (bB (w:=B6) (x:=zL) (by decide)) (bF (bB (w:=B6) (x:=D2) (by decide)) (bT (kB B6) (bS (iN.eq hk h.2.2.2.2.2.1 h.2.2.2.2.2.2 hw) (bN (jt.eq ..))))))))
 ·refine bF (bB (w:=ri) (x:=Az) (by decide)) (bF (bB (w:=ri) (x:=H4) (by decide)) (bF (bB (w:=ri) (x:=w7) (by decide)) (bF (bB (w:=ri) (x:=zL) (by decide)) (bF (bB (w:=ri) (x:=D2) (by decide)) (bF (bB (w:=ri) (x:=B6) (by decide)) (bT (kB ri) (bS (nk.eq hk h) ?_)))))))
  show _=some (qM (vN t) okB)
  unfold qM
  cases (vN t).toList==bE.toList<;>rfl
section
variable {k:Nat} (hk:cy<=k)
include hk
theorem vP {w a:BA} {r:List BA} {v:LI} {ok:Bool} (ha:a.size<1048577) (hv:de.f k r=some (v,ok)) (h:(aU a).2=false\/ok=false):cN.j3 k (w::a::r)=some bK:=by
 refine (br (aC (by rw[ab,ab];omega))).trans ((bW (ae (by rw[ab,ab];omega))).trans ((bN (eO.eq hk ha)).trans ((bW (ae (by rw[ab,ab];omega))).trans ((bN hv).trans ?_))))
 cases hb:(aU a).2 with
 |false=>exact jV rfl
 |true=>
  rcases h with h|rfl
  ·rw[hb] at h;cases h
  ·exact (br rfl).trans (jV rfl)
theorem Bm {w a:BA} {r:List BA} {v:LI} (ha:a.size<1048577) (hv:de.f k r=some (v,true)) (hb:(aU a).2=true) {X:Option BA} (hX:(bY (decide (0<((w::a::r).length:Int)))<|
 bif (((w::a::r).getD 0 bE).toList==(D5:BA).toList) then
  bif ((v.length:Int)==0) then
   (aW.f k (aU a).1).bind fun r3=>
   (e7.f k r3).bind fun r4=>
   some r4
  else
   cN.j2 k (w::a::r) (v,true) (aU a)
 else
  cN.j2 k (w::a::r) (v,true) (aU a))=X):cN.j3 k (w::a::r)=X:=
 bF (aC (by rw[ab,ab];omega)) (cT (ae (by rw[ab,ab];omega)) (bS (eO.eq hk ha) (cT (ae (by rw[ab,ab];omega)) (bS hv (bF (by show (!(aU a).2)=false;rw[hb];rfl) (bF rfl hX))))))
theorem mN (w:BA) (ws:List BA):decide (0<((w::ws).length:Int))=true:=ae (by rw[ab];omega)
theorem Qv {w:BA} {ws:List BA} (hs: ∀x∈ws,x.size<1048577) (hl:ws.length<1048577) (h0:w=yK->ws.length≠1) (h1:w=D5->ws.length≠1) (h2:w=Cb->ws.length≠1) (h3:w=Hk->ws.length≠1) (h4:w=zM->ws.length≠2):cN.f k (w::ws)=some bK:=by
 have XO: ∀ {x:BA} {n:Nat} {m:Int},(w=x->ws.length≠n)->m=(ws.length:Int)-(n:Int)->((w.toList==x.toList)=false\/(m==0)=false):=fun {x n m} h hm=>by
  by_cases e:w=x
  ·right;have:=h e;rw[hm];simp;omega
  ·left;exact bB e
 refine cT (mN hk w ws) ((FE ?_).trans ?_)
 ·by_cases e:w=yK
  ·right;have:=h0 e;rw[ab];simp;omega
  ·left;exact bB e
 ·match ws,hs,hl,h0,h1,h2,h3,h4 with
  | [],_,_,_,_,_,_,_=>exact jV rfl
  |a::r,hs,hl,h0,h1,h2,h3,h4=>
   have ha:=hs a (by simp)
   obtain ⟨v,hv,zc⟩:=de.eq hk (ws:=r) (by rw[ab] at hl;omega) (fun x hx=>hs x (List.mem_cons_of_mem _ hx))
   cases zk:nG r with
   |false=>rw[zk] at hv;exact vP hk ha hv (.inr rfl)
   |true=>
    rw[zk] at hv
    have Vf:v.length=r.length:=by rw[zc zk];unfold qt;rw[ca]
    cases hb:(aU a).2 with
    |false=>exact vP hk ha hv (.inl hb)
    |true=>
     have t1: ∀ {x:BA},(w=x->(a::r).length≠1)->((w.toList==x.toList)=false\/((v.length:Int)==0)=false):=fun {x} h=>by
      by_cases e:w=x
      ·right;have:=h e;rw[ab] at this;simp;intro hh;rw[hh] at Vf;simp at Vf;omega
      ·left;exact bB e
     have t2: ∀ {x:BA},(w=x->(a::r).length≠2)->((w.toList==x.toList)=false\/((v.length:Int)==1)=false):=fun {x} h=>by
      by_cases e:w=x
      ·right;have:=h e;rw[ab] at this;simp;omega
      ·left;exact bB e
     refine Bm hk ha hv hb (cT (mN hk w (a::r)) ((FE (t1 h1)).trans (cT (mN hk w (a::r)) ((FE (t1 h2)).trans (cT (mN hk w (a::r)) ((FE (t1 h3)).trans (cT (mN hk w (a::r)) ?_)))))))
     exact FE (t2 h4)
theorem qb:de.f k [] =some ([],true):=by
 obtain ⟨v,hv,zc⟩:=de.eq hk (ws:=[]) (by decide) (fun x hx=>by cases hx)
 rw[zc rfl] at hv
 exact hv
theorem NR {a:BA} (ha:a.size<1048577):cN.f k [yK,a] =some (bif (gI a).2 then kI (gI a).1 17 else bK):=by
 have hs:=Bi (gI a).1
 refine (bW rfl).trans ((jV (kB _)).trans ((jV rfl).trans ((bW rfl).trans ((bN (iZ.eq hk ha)).trans ?_))))
 cases (gI a).2 with
 |false=>exact jV rfl
 |true=>exact (br rfl).trans ((bN (iF.eq hk (AY a))).trans ((bN (aT.eq hk (qx ⟨by omega,by omega⟩))).trans rfl))
theorem NS {a:BA} (ha:a.size<1048577):cN.f k [D5,a] =some (bif (aU a).2 then kI (aU a).1 14 else bK):=by
 have hl:(aU a).1.length<1048577:=Nat.lt_of_le_of_lt (k9 a) (by decide)
 have hm:=pC (aU a).1
 have Uw: ∀y∈lG (aU a).1,y.length<1048577:=fun y hy=>by have:=pz hy;omega
 have ho:=rI (aU a).1
 refine cT rfl (bF (bB (w:=D5) (x:=yK) (by decide)) ?_)
 cases hb:(aU a).2 with
 |false=>exact vP hk ha (qb hk) (.inl hb)
 |true=>
  refine Bm hk ha (qb hk) hb (cT rfl ?_)
  exact bT (kB D5) (bT rfl (bS (aW.eq hk hl) (bS (e7.eq hk (by omega) Uw) rfl)))
theorem Qw {a:BA} (ha:a.size<1048577):cN.f k [Cb,a] =some (bif (aU a).2 then kI (aU a).1 15 else bK):=by
 have hl:(aU a).1.length<1048577:=Nat.lt_of_le_of_lt (k9 a) (by decide)
 have hm:=pC (aU a).1
 have Uw: ∀y∈lG (aU a).1,y.length<1048577:=fun y hy=>by have:=pz hy;omega
 have ho:=rI (aU a).1
 refine cT rfl (bF (bB (w:=Cb) (x:=yK) (by decide)) ?_)
 cases hb:(aU a).2 with
 |false=>exact vP hk ha (qb hk) (.inl hb)
 |true=>
  refine Bm hk ha (qb hk) hb (cT rfl ?_)
  exact bF (bB (w:=Cb) (x:=D5) (by decide)) (cT rfl (bT (kB Cb) (bT rfl (bS (my.eq hk hl) (bS (aT.eq hk (qx ⟨by omega,by omega⟩)) rfl)))))
theorem Qx {a:BA} (ha:a.size<1048577):cN.f k [Hk,a] =some (bif (aU a).2 then kI (aU a).1 16 else bK):=by
 have hl:(aU a).1.length<1048577:=Nat.lt_of_le_of_lt (k9 a) (by decide)
 have hm:=pC (aU a).1
 have Uw: ∀y∈lG (aU a).1,y.length<1048577:=fun y hy=>by have:=pz hy;omega
 have ho:=rI (aU a).1
 refine cT rfl (bF (bB (w:=Hk) (x:=yK) (by decide)) ?_)
 cases hb:(aU a).2 with
 |false=>exact vP hk ha (qb hk) (.inl hb)
 |true=>
  refine Bm hk ha (qb hk) hb (cT rfl ?_)
  exact bF (bB (w:=Hk) (x:=D5) (by decide)) (cT rfl (bF (bB (w:=Hk) (x:=Cb) (by decide)) (cT rfl (bT (kB Hk) (bT rfl (bS (li.eq hk hl) rfl))))))
theorem Qy {a b:BA} (ha:a.size<1048577) (K4:b.size<1048577):cN.f k [zM,a,b] =some (bif (aU a).2&&(bw b).2 then iM (nB (aU a).1 (bw b).1) else bK):=by
 have hl:(aU a).1.length<1048577:=Nat.lt_of_le_of_lt (k9 a) (by decide)
 have hr:=Bg hl (bw b).1
 obtain ⟨v,hv,zc⟩:=de.eq hk (ws:=[b]) (by show 1<1048577;decide) (fun x hx=>by rw[List.mem_singleton.1 hx];exact K4)
 have en:nG [b] =((bw b).2&&true):=rfl
 rw[en,Bool.and_true] at hv zc
 refine cT rfl (bF (bB (w:=zM) (x:=yK) (by decide)) ?_)
 cases hb:(aU a).2 with
 |false=>exact vP hk ha hv (.inl hb)
 |true=>
  cases Cd:(bw b).2 with
  |false=>rw[Cd] at hv;exact vP hk ha hv (.inr rfl)
  |true=>
   rw[Cd] at hv zc
   rw[zc rfl] at hv
   refine Bm hk ha hv hb (cT rfl ?_)
   exact bF (bB (w:=zM) (x:=D5) (by decide)) (cT rfl (bF (bB (w:=zM) (x:=Cb) (by decide)) (cT rfl (bF (bB (w:=zM) (x:=Hk) (by decide)) (cT rfl (bT (kB zM) (bT rfl (cT rfl (bS (iH.eq hk hl (bw b).1) (bS (aT.eq hk (qx ⟨by omega,by omega⟩)) rfl))))))))))
variable {t:Tb} (ht:t.sm) (hT:t.ws)
include ht
theorem JY:t.ap (az.j0 k)=some (t.RE bK):=bN (bm.eq hk ht)
theorem vQ (p:Tb×Bool):t.ap (az.j1 k) (p.1.wF p.2)=some ((qa t (vG p)).1.RE (qa t (vG p)).2):=by
 obtain ⟨u,b⟩:=p
 cases b with
 |true=>exact bN (a:=u.RE okB) rfl
 |false=>exact bN (a:=t.RE noW) (bT rfl (bN (bm.eq hk ht)))
theorem Bn {r:List BA} {x:BA} (h:cN.f k r=some x):t.ap (az.j3 k) r=some (t.RE x):=bS (bm.eq hk ht) (bS h rfl)
variable {s:BA} (hs:s.size<1048577) {w:BA} {ws:List BA} (hw:mM s=w::ws) (h2: ¬((s.size:Int)>200))
include hs hw h2
theorem sL (hp:w=qw->ws.length≠1):t.ap (az.f k) s=t.ap (az.j10 k) (w::ws):=by
 refine bS (dY.eq hk hs) ?_
 rw[hw]
 refine bF (by rw[ab];simp;omega) (bF (aC h2) ?_)
 by_cases e:w=qw
 ·exact br (by have:=hp e;rw[ab];simp;omega)
 ·cases hl:(((w::ws).length:Int)==2) with
  |false=>exact br rfl
  |true=>exact bT rfl (cT (mN hk w ws) (br (bB e)))
theorem vR {v:LI} {ok:Bool} (hv:de.f k ws=some (v,ok)) {X:Option (Int×Int×Bool×Bool×LI×LI×Int×Int×LI×Bool×LI×Int×Int×Bool×Bool×LI×LI×Int×Int×LL×LI×LI×Int×Int×Int×LI×LL×BA)} (hX:(bif (!ok) then t.ap (az.j3 k) (w::ws) else
 bY (decide (0<((w::ws).length:Int)))<|
 bif (((w::ws).getD 0 bE).toList==(D1:BA).toList) then
  bif ((v.length:Int)==0) then
   (lh.f k).bind fun r3=>
   (nC.f k r3.1 r3.2.1 (t2 r3).1 (t3 r3).1 (t4 r3).1 (t5 r3).1 (t6 r3).1 (t7 r3)).bind fun r4=>
   t.ap (az.j1 k) r4
  else
   t.ap (az.j9 k) (w::ws) (v,ok)
 else
  t.ap (az.j9 k) (w::ws) (v,ok))=X):t.ap (az.j10 k) (w::ws)=X:=by
 refine cT (bA ae ae) (cT (ae (by rw[ab];omega)) ?_)
 rw[Eu]
 exact bS hv hX
theorem Qz {x y:BA} (hp:w=qw->ws.length≠1) (f0:w=D1->ws.length≠0) (f1:w=Nc->ws.length≠3) (f2:w=H3->ws.length≠0) (f3:w=rj->ws.length≠0) (f4:w=zb->ws.length≠1) (f5:w=B_->ws.length≠1) (hx:ws=[]->t.ap (jB.f k) w=some x) (hy:ws≠[]->cN.f k (w::ws)=some x):t.ap (az.f k) s=some (t.RE x):=by
 obtain ⟨q1,q2⟩:=Bj hk ht hs hw h2
 obtain ⟨v,hv,zc⟩:=de.eq hk q1 q2
 refine (sL hk ht hs hw h2 hp).trans (vR hk ht hs hw h2 hv ?_)
 cases zk:nG ws with
 |false=>
  have nL:ws≠[]:=fun e=>by rw[e] at zk;cases zk
  exact bT rfl (Bn hk ht (hy nL))
 |true=>
  have Vf:v.length=ws.length:=by rw[zc zk];unfold qt;rw[ca]
  have XO: ∀ {x:BA} {n:Nat},(w=x->ws.length≠n)->((w.toList==x.toList)=false\/((v.length:Int)==(n:Int))=false):=fun {x n} h=>by
   by_cases e:w=x
   ·right;have:=h e;simp;omega
   ·left;exact bB e
  have c:=mN hk w ws
  refine bF rfl (cT c ((FE (XO f0)).trans (cT c ((FE (XO f1)).trans (cT c ((FE (XO f2)).trans (cT c ((FE (XO f3)).trans (cT c ((FE (XO f4)).trans (cT c ((FE (XO f5)).trans ?_))))))))))))
  cases hl:((v.length:Int)==0) with
  |true=>
   have he:ws=[]:=List.length_eq_zero_iff.1 (by have:=aE hl;omega)
   exact bT hl (bS (bm.eq hk ht) (cT c (bS (hx he) rfl)))
  |false=>
   have nL:ws≠[]:=fun e=>(beq_eq_false_iff_ne.1 hl) (by rw[Vf,e];rfl)
   exact bF hl (Bn hk ht (hy nL))
end
theorem az.eq (hk:cy<=k) {t:Tb} (ht:t.sm) (hT:t.ws) {s:BA} (hs:s.size<1048577):t.ap (az.f k) s=some ((kJ t s).1.RE (kJ t s).2):=by
 have e0:mM s=[]->kJ t s=(t,bK):=fun h=>by unfold kJ;rw[h]
 have e1: ∀w ws,mM s=w::ws->kJ t s=bif decide ((s.size:Int)>200) then (t,bK) else dD t (jk w) ws:=fun w ws h=>by unfold kJ;rw[h]
 cases hw:mM s with
 |nil=>
  rw[e0 hw]
  refine bS (dY.eq hk hs) ?_
  rw[hw]
  exact bT rfl (JY hk ht)
 |cons w ws=>
  rw[e1 w ws hw]
  by_cases h2:(s.size:Int)>200
  ·rw[ae h2]
   refine bS (dY.eq hk hs) ?_
   rw[hw]
   exact bF (by rw[ab];simp;omega) (bT (ae h2) (JY hk ht))
  ·rw[aC h2,an]
   obtain ⟨q1,q2⟩:=Bj hk ht hs hw h2
   obtain ⟨a3,a4,a5,a6,a7,a8,a9⟩:=SW hk ht hT
   have dC:= @Qz k hk t ht s hs w ws hw h2
   have cr:=fun h0 h1 h2 h3 h4=>Qv hk (w:=w) (ws:=ws) q2 q1 h0 h1 h2 h3 h4
   by_cases B8:w∈vF
   ·unfold vF at B8
    simp only[cL,cA,or_false] at B8
    rcases B8 with rfl|rfl|rfl|rfl|rfl|rfl|rfl|rfl|rfl|rfl|rfl|rfl|rfl|rfl|rfl|rfl|rfl|rfl|rfl
    ·have e:jk D1=0:=by decide+kernel
     rw[e]
     match ws,hw,q1,q2,@dC,cr with
     | [],hw,q1,q2,dC,cr=>
       have cp:=mN hk D1 []
       refine (sL hk ht hs hw h2 bg).trans (vR hk ht hs hw h2 (qb hk) (bF rfl (cT cp ?_)))
       exact bT (kB D1) (bT rfl (bS (a:=qZ.tp) rfl (bS (SG hk) (vQ hk ht (sD,true)))))
     |a::r,hw,q1,q2,dC,cr=>
      have hc:dD t 0 (a::r)=(t,bK):=rfl
      rw[hc]
      exact dC (y:=bK) bg (fun _=>(by rw[ab];show _+1≠0;omega)) bg bg bg bg bg (fun h=>absurd h (List.cons_ne_nil _ _)) (fun _=>(cr bg bg bg bg bg))
    ·have e:jk H3=1:=by decide+kernel
     rw[e]
     match ws,hw,q1,q2,@dC,cr with
     | [],hw,q1,q2,dC,cr=>
       have cp:=mN hk H3 []
       refine (sL hk ht hs hw h2 bg).trans (vR hk ht hs hw h2 (qb hk) (bF rfl (cT cp ?_)))
       have he:=gZ.eq hk ht
       have hc:dD t 1 [] =qa t (vG (gU t (-1))):=rfl
       rw[hc]
       generalize gU t (-1)=p at he
       exact bF (bB (w:=H3) (x:=D1) (by decide)) (cT cp (bF (bB (w:=H3) (x:=Nc) (by decide)) (cT cp (bT (kB H3) (bT rfl (bS he (vQ hk ht p)))))))
     |a::r,hw,q1,q2,dC,cr=>
      have hc:dD t 1 (a::r)=(t,bK):=rfl
      rw[hc]
      exact dC (y:=bK) bg bg bg (fun _=>(by rw[ab];show _+1≠0;omega)) bg bg bg (fun h=>absurd h (List.cons_ne_nil _ _)) (fun _=>(cr bg bg bg bg bg))
    ·have e:jk rj=2:=by decide+kernel
     rw[e]
     match ws,hw,q1,q2,@dC,cr with
     | [],hw,q1,q2,dC,cr=>
       have cp:=mN hk rj []
       refine (sL hk ht hs hw h2 bg).trans (vR hk ht hs hw h2 (qb hk) (bF rfl (cT cp ?_)))
       have he:=iI.eq hk ht
       have hc:dD t 2 [] =qa t (vG (hU t)):=rfl
       rw[hc]
       generalize hU t=p at he
       exact bF (bB (w:=rj) (x:=D1) (by decide)) (cT cp (bF (bB (w:=rj) (x:=Nc) (by decide)) (cT cp (bF (bB (w:=rj) (x:=H3) (by decide)) (cT cp (bT (kB rj) (bT rfl (bS he (vQ hk ht p)))))))))
     |a::r,hw,q1,q2,dC,cr=>
      have hc:dD t 2 (a::r)=(t,bK):=rfl
      rw[hc]
      exact dC (y:=bK) bg bg bg bg (fun _=>(by rw[ab];show _+1≠0;omega)) bg bg (fun h=>absurd h (List.cons_ne_nil _ _)) (fun _=>(cr bg bg bg bg bg))
    ·have e:jk Az=3:=by decide+kernel
     rw[e]
     match ws,hw,q1,q2,@dC,cr with
     | [],hw,q1,q2,dC,cr=>
       exact dC (y:=bK) bg bg bg bg bg bg bg (fun _=>a3) (fun h=>absurd rfl h)
     |a::r,hw,q1,q2,dC,cr=>
      have hc:dD t 3 (a::r)=(t,bK):=rfl
      rw[hc]
      exact dC (y:=bK) bg bg bg bg bg bg bg (fun h=>absurd h (List.cons_ne_nil _ _)) (fun _=>(cr bg bg bg bg bg))
    ·have e:jk H4=4:=by decide+kernel
     rw[e]
     match ws,hw,q1,q2,@dC,cr with
     | [],hw,q1,q2,dC,cr=>
       exact dC (y:=bK) bg bg bg bg bg bg bg (fun _=>a4) (fun h=>absurd rfl h)
     |a::r,hw,q1,q2,dC,cr=>
      have hc:dD t 4 (a::r)=(t,bK):=rfl
      rw[hc]
      exact dC (y:=bK) bg bg bg bg bg bg bg (fun h=>absurd h (List.cons_ne_nil _ _)) (fun _=>(cr bg bg bg bg bg))
    ·have e:jk w7=5:=by decide+kernel
     rw[e]
     match ws,hw,q1,q2,@dC,cr with
     | [],hw,q1,q2,dC,cr=>
       exact dC (y:=bK) bg bg bg bg bg bg bg (fun _=>a5) (fun h=>absurd rfl h)
     |a::r,hw,q1,q2,dC,cr=>
      have hc:dD t 5 (a::r)=(t,bK):=rfl
      rw[hc]
      exact dC (y:=bK) bg bg bg bg bg bg bg (fun h=>absurd h (List.cons_ne_nil _ _)) (fun _=>(cr bg bg bg bg bg))
    ·have e:jk zL=6:=by decide+kernel
     rw[e]
     match ws,hw,q1,q2,@dC,cr with
     | [],hw,q1,q2,dC,cr=>
       exact dC (y:=bK) bg bg bg bg bg bg bg (fun _=>a6) (fun h=>absurd rfl h)
     |a::r,hw,q1,q2,dC,cr=>
      have hc:dD t 6 (a::r)=(t,bK):=rfl
      rw[hc]
      exact dC (y:=bK) bg bg bg bg bg bg bg (fun h=>absurd h (List.cons_ne_nil _ _)) (fun _=>(cr bg bg bg bg bg))
    ·have e:jk D2=7:=by decide+kernel
     rw[e]
     match ws,hw,q1,q2,@dC,cr with
     | [],hw,q1,q2,dC,cr=>
       exact dC (y:=bK) bg bg bg bg bg bg bg (fun _=>a7) (fun h=>absurd rfl h)
     |a::r,hw,q1,q2,dC,cr=>
      have hc:dD t 7 (a::r)=(t,bK):=rfl
      rw[hc]
      exact dC (y:=bK) bg bg bg bg bg bg bg (fun h=>absurd h (List.cons_ne_nil _ _)) (fun _=>(cr bg bg bg bg bg))
    ·have e:jk B6=8:=by decide+kernel
     rw[e]
     match ws,hw,q1,q2,@dC,cr with
     | [],hw,q1,q2,dC,cr=>
       exact dC (y:=bK) bg bg bg bg bg bg bg (fun _=>a8) (fun h=>absurd rfl h)
     |a::r,hw,q1,q2,dC,cr=>
      have hc:dD t 8 (a::r)=(t,bK):=rfl
      rw[hc]
      exact dC (y:=bK) bg bg bg bg bg bg bg (fun h=>absurd h (List.cons_ne_nil _ _)) (fun _=>(cr bg bg bg bg bg))
    ·have e:jk ri=9:=by decide+kernel
     rw[e]
     match ws,hw,q1,q2,@dC,cr with
     | [],hw,q1,q2,dC,cr=>
       exact dC (y:=bK) bg bg bg bg bg bg bg (fun _=>a9) (fun h=>absurd rfl h)
     |a::r,hw,q1,q2,dC,cr=>
      have hc:dD t 9 (a::r)=(t,bK):=rfl
      rw[hc]
      exact dC (y:=bK) bg bg bg bg bg bg bg (fun h=>absurd h (List.cons_ne_nil _ _)) (fun _=>(cr bg bg bg bg bg))
    ·have e:jk Nc=10:=by decide+kernel
     rw[e]
     match ws,hw,q1,q2,@dC,cr with
     | [],hw,q1,q2,dC,cr=>
       have hc:dD t 10 [] =(t,bK):=rfl
       rw[hc]
       exact dC (y:=bK) bg bg (fun _=>(by show 0≠3;decide)) bg bg bg bg (fun _=>kt ⟨by decide,by decide,by decide,by decide,by decide,by decide,by decide⟩) (fun _=>(cr bg bg bg bg bg))
     | [a],hw,q1,q2,dC,cr=>
       have hc:dD t 10 [a] =(t,bK):=rfl
       rw[hc]
       exact dC (y:=bK) bg bg (fun _=>(by show 1≠3;decide)) bg bg bg bg (fun h=>absurd h (List.cons_ne_nil _ _)) (fun _=>(cr bg bg bg bg bg))
     | [a,b],hw,q1,q2,dC,cr=>
       have hc:dD t 10 [a,b] =(t,bK):=rfl
       rw[hc]
       exact dC (y:=bK) bg bg (fun _=>(by show 2≠3;decide)) bg bg bg bg (fun h=>absurd h (List.cons_ne_nil _ _)) (fun _=>(cr bg bg bg bg bg))
     | [a,b,c],hw,q1,q2,dC,cr=>
       have cp:=mN hk Nc [a,b,c]
       have hc:dD t 10 [a,b,c] =bif nG [a,b,c] then qa t (tZ t (qt [a,b,c])) else (t,bK):=rfl
       obtain ⟨v,hv,zc⟩:=de.eq hk (ws:=[a,b,c]) q1 q2
       have en:nG [a,b,c] =nG [a,b,c]:=rfl
       rw[hc]
       refine (sL hk ht hs hw h2 bg).trans (vR hk ht hs hw h2 hv ?_)
       cases hb:nG [a,b,c] with
       |false=>exact bT rfl (Bn hk ht (cr bg bg bg bg bg))
       |true=>
        have Z8:=zc hb
        subst Z8
        refine bF rfl (cT cp ?_)
        have he:=fO.eq hk ht (ns:=qt [a,b,c]) (by show 3<1000000;decide)
        rw[ak]
        generalize tZ t (qt [a,b,c])=o at he
        cases o with
        |none=>exact bF (bB (w:=Nc) (x:=D1) (by decide)) (cT cp (bT (kB Nc) (bT rfl (bS he (vQ hk ht (t,false))))))
        |some u=>exact bF (bB (w:=Nc) (x:=D1) (by decide)) (cT cp (bT (kB Nc) (bT rfl (bS he (vQ hk ht (u,true))))))
     |a::b::c::d::r,hw,q1,q2,dC,cr=>
      have hc:dD t 10 (a::b::c::d::r)=(t,bK):=rfl
      rw[hc]
      exact dC (y:=bK) bg bg (fun _=>(by rw[ab,ab,ab,ab];show _+1+1+1+1≠3;omega)) bg bg bg bg (fun h=>absurd h (List.cons_ne_nil _ _)) (fun _=>(cr bg bg bg bg bg))
    ·have e:jk qw=11:=by decide+kernel
     rw[e]
     match ws,hw,q1,q2,@dC,cr with
     | [],hw,q1,q2,dC,cr=>
       have hc:dD t 11 [] =(t,bK):=rfl
       rw[hc]
       exact dC (y:=bK) (fun _=>(by show 0≠1;decide)) bg bg bg bg bg bg (fun _=>kt ⟨by decide,by decide,by decide,by decide,by decide,by decide,by decide⟩) (fun _=>(cr bg bg bg bg bg))
     | [a],hw,q1,q2,dC,cr=>
       have hc:dD t 11 [a] =bif decide (cZ a>=0) then qa t (vG (iU t (cZ a))) else (t,bK):=rfl
       rw[hc]
       refine bS (dY.eq hk hs) ?_
       rw[hw]
       refine bF rfl (bF (aC h2) (bT rfl (cT rfl (bT (kB _) (cT rfl (bS (dQ.eq hk a) ?_))))))
       by_cases hb:cZ a<0
       ·rw[aC (show ¬cZ a>=0 by omega)];exact bT (ae hb) (JY hk ht)
       ·rw[ae (show cZ a>=0 by omega)]
        have he:=gY.eq hk ht (cZ a)
        rw[ak]
        generalize iU t (cZ a)=p at he
        exact bF (aC hb) (bS he (vQ hk ht p))
     |a::b::r,hw,q1,q2,dC,cr=>
      have hc:dD t 11 (a::b::r)=(t,bK):=rfl
      rw[hc]
      exact dC (y:=bK) (fun _=>(by rw[ab,ab];show _+1+1≠1;omega)) bg bg bg bg bg bg (fun h=>absurd h (List.cons_ne_nil _ _)) (fun _=>(cr bg bg bg bg bg))
    ·have e:jk zb=12:=by decide+kernel
     rw[e]
     match ws,hw,q1,q2,@dC,cr with
     | [],hw,q1,q2,dC,cr=>
       have hc:dD t 12 [] =(t,bK):=rfl
       rw[hc]
       exact dC (y:=bK) bg bg bg bg bg (fun _=>(by show 0≠1;decide)) bg (fun _=>kt ⟨by decide,by decide,by decide,by decide,by decide,by decide,by decide⟩) (fun _=>(cr bg bg bg bg bg))
     | [a],hw,q1,q2,dC,cr=>
       have cp:=mN hk zb [a]
       have hc:dD t 12 [a] =bif (bw a).2 then qa t (vG (o4 t (bw a).1)) else (t,bK):=rfl
       obtain ⟨v,hv,zc⟩:=de.eq hk (ws:=[a]) q1 q2
       have en:nG [a] =((bw a).2&&true):=rfl
       rw[en,Bool.and_true] at hv zc
       rw[hc]
       refine (sL hk ht hs hw h2 bg).trans (vR hk ht hs hw h2 hv ?_)
       cases hb:(bw a).2 with
       |false=>exact bT rfl (Bn hk ht (cr bg bg bg bg bg))
       |true=>
        have Z8:=zc hb
        subst Z8
        refine bF rfl (cT cp ?_)
        have he:=nj.eq hk ht (bw a).1
        rw[ak]
        generalize o4 t (bw a).1=p at he
        exact bF (bB (w:=zb) (x:=D1) (by decide)) (cT cp (bF (bB (w:=zb) (x:=Nc) (by decide)) (cT cp (bF (bB (w:=zb) (x:=H3) (by decide)) (cT cp (bF (bB (w:=zb) (x:=rj) (by decide)) (cT cp (bT (kB zb) (bT rfl (cT rfl (bS he (vQ hk ht p))))))))))))
     |a::b::r,hw,q1,q2,dC,cr=>
      have hc:dD t 12 (a::b::r)=(t,bK):=rfl
      rw[hc]
      exact dC (y:=bK) bg bg bg bg bg (fun _=>(by rw[ab,ab];show _+1+1≠1;omega)) bg (fun h=>absurd h (List.cons_ne_nil _ _)) (fun _=>(cr bg bg bg bg bg))
    ·have e:jk B_=13:=by decide+kernel
     rw[e]
     match ws,hw,q1,q2,@dC,cr with
     | [],hw,q1,q2,dC,cr=>
       have hc:dD t 13 [] =(t,bK):=rfl
       rw[hc]
       exact dC (y:=bK) bg bg bg bg bg bg (fun _=>(by show 0≠1;decide)) (fun _=>kt ⟨by decide,by decide,by decide,by decide,by decide,by decide,by decide⟩) (fun _=>(cr bg bg bg bg bg))
     | [a],hw,q1,q2,dC,cr=>
       have cp:=mN hk B_ [a]
       have hc:dD t 13 [a] =bif (bw a).2 then (t,ym t.g (bw a).1) else (t,bK):=rfl
       obtain ⟨v,hv,zc⟩:=de.eq hk (ws:=[a]) q1 q2
       have en:nG [a] =((bw a).2&&true):=rfl
       rw[en,Bool.and_true] at hv zc
       rw[hc]
       refine (sL hk ht hs hw h2 bg).trans (vR hk ht hs hw h2 hv ?_)
       cases hb:(bw a).2 with
       |false=>exact bT rfl (Bn hk ht (cr bg bg bg bg bg))
       |true=>
        have Z8:=zc hb
        subst Z8
        refine bF rfl (cT cp ?_)
        exact bF (bB (w:=B_) (x:=D1) (by decide)) (cT cp (bF (bB (w:=B_) (x:=Nc) (by decide)) (cT cp (bF (bB (w:=B_) (x:=H3) (by decide)) (cT cp (bF (bB (w:=B_) (x:=rj) (by decide)) (cT cp (bF (bB (w:=B_) (x:=zb) (by decide)) (cT cp (bT (kB B_) (bT rfl (bS (bm.eq hk ht) (cT rfl (bS (Pd (k:=k) ht.2.2.2.1 (bw a).1 (nW.eq hk ht.2.2.2.1 (bw a).1) @fun me hand top x y sizes u w h1 h2 h3 h4=>fP.eq hk top x y u w h1 h2 h3 h4) rfl))))))))))))))
     |a::b::r,hw,q1,q2,dC,cr=>
      have hc:dD t 13 (a::b::r)=(t,bK):=rfl
      rw[hc]
      exact dC (y:=bK) bg bg bg bg bg bg (fun _=>(by rw[ab,ab];show _+1+1≠1;omega)) (fun h=>absurd h (List.cons_ne_nil _ _)) (fun _=>(cr bg bg bg bg bg))
    ·have e:jk D5=14:=by decide+kernel
     rw[e]
     match ws,hw,q1,q2,@dC,cr with
     | [],hw,q1,q2,dC,cr=>
       have hc:dD t 14 [] =(t,bK):=rfl
       rw[hc]
       exact dC (y:=bK) bg bg bg bg bg bg bg (fun _=>kt ⟨by decide,by decide,by decide,by decide,by decide,by decide,by decide⟩) (fun _=>(cr bg (fun _=>(by show 0≠1;decide)) bg bg bg))
     | [a],hw,q1,q2,dC,cr=>
       have hc:dD t 14 [a] =bif (aU a).2 then (t,kI (aU a).1 14) else (t,bK):=rfl
       have hh:=NS hk (a:=a) (q2 a (by simp))
       rw[hc]
       cases hb:(aU a).2 with
       |false=>
        rw[hb] at hh
        exact dC (y:=bK) bg bg bg bg bg bg bg (fun h=>absurd h (List.cons_ne_nil _ _)) (fun _=>hh)
       |true=>
        rw[hb] at hh
        exact dC (y:=bK) bg bg bg bg bg bg bg (fun h=>absurd h (List.cons_ne_nil _ _)) (fun _=>hh)
     |a::b::r,hw,q1,q2,dC,cr=>
      have hc:dD t 14 (a::b::r)=(t,bK):=rfl
      rw[hc]
      exact dC (y:=bK) bg bg bg bg bg bg bg (fun h=>absurd h (List.cons_ne_nil _ _)) (fun _=>(cr bg (fun _=>(by rw[ab,ab];show _+1+1≠1;omega)) bg bg bg))
    ·have e:jk Cb=15:=by decide+kernel
     rw[e]
     match ws,hw,q1,q2,@dC,cr with
     | [],hw,q1,q2,dC,cr=>
       have hc:dD t 15 [] =(t,bK):=rfl
       rw[hc]
       exact dC (y:=bK) bg bg bg bg bg bg bg (fun _=>kt ⟨by decide,by decide,by decide,by decide,by decide,by decide,by decide⟩) (fun _=>(cr bg bg (fun _=>(by show 0≠1;decide)) bg bg))
     | [a],hw,q1,q2,dC,cr=>
       have hc:dD t 15 [a] =bif (aU a).2 then (t,kI (aU a).1 15) else (t,bK):=rfl
       have hh:=Qw hk (a:=a) (q2 a (by simp))
       rw[hc]
       cases hb:(aU a).2 with
       |false=>
        rw[hb] at hh
        exact dC (y:=bK) bg bg bg bg bg bg bg (fun h=>absurd h (List.cons_ne_nil _ _)) (fun _=>hh)
       |true=>
        rw[hb] at hh
        exact dC (y:=bK) bg bg bg bg bg bg bg (fun h=>absurd h (List.cons_ne_nil _ _)) (fun _=>hh)
     |a::b::r,hw,q1,q2,dC,cr=>
      have hc:dD t 15 (a::b::r)=(t,bK):=rfl
      rw[hc]
      exact dC (y:=bK) bg bg bg bg bg bg bg (fun h=>absurd h (List.cons_ne_nil _ _)) (fun _=>(cr bg bg (fun _=>(by rw[ab,ab];show _+1+1≠1;omega)) bg bg))
    ·have e:jk Hk=16:=by decide+kernel
     rw[e]
     match ws,hw,q1,q2,@dC,cr with
     | [],hw,q1,q2,dC,cr=>
       have hc:dD t 16 [] =(t,bK):=rfl
       rw[hc]
       exact dC (y:=bK) bg bg bg bg bg bg bg (fun _=>kt ⟨by decide,by decide,by decide,by decide,by decide,by decide,by decide⟩) (fun _=>(cr bg bg bg (fun _=>(by show 0≠1;decide)) bg))
     | [a],hw,q1,q2,dC,cr=>
       have hc:dD t 16 [a] =bif (aU a).2 then (t,kI (aU a).1 16) else (t,bK):=rfl
       have hh:=Qx hk (a:=a) (q2 a (by simp))
       rw[hc]
       cases hb:(aU a).2 with
       |false=>
        rw[hb] at hh
        exact dC (y:=bK) bg bg bg bg bg bg bg (fun h=>absurd h (List.cons_ne_nil _ _)) (fun _=>hh)
       |true=>
        rw[hb] at hh
        exact dC (y:=bK) bg bg bg bg bg bg bg (fun h=>absurd h (List.cons_ne_nil _ _)) (fun _=>hh)
     |a::b::r,hw,q1,q2,dC,cr=>
      have hc:dD t 16 (a::b::r)=(t,bK):=rfl
      rw[hc]
      exact dC (y:=bK) bg bg bg bg bg bg bg (fun h=>absurd h (List.cons_ne_nil _ _)) (fun _=>(cr bg bg bg (fun _=>(by rw[ab,ab];show _+1+1≠1;omega)) bg))
    ·have e:jk yK=17:=by decide+kernel
     rw[e]
     match ws,hw,q1,q2,@dC,cr with
     | [],hw,q1,q2,dC,cr=>
       have hc:dD t 17 [] =(t,bK):=rfl
       rw[hc]
       exact dC (y:=bK) bg bg bg bg bg bg bg (fun _=>kt ⟨by decide,by decide,by decide,by decide,by decide,by decide,by decide⟩) (fun _=>(cr (fun _=>(by show 0≠1;decide)) bg bg bg bg))
     | [a],hw,q1,q2,dC,cr=>
       have hc:dD t 17 [a] =bif (gI a).2 then (t,kI (gI a).1 17) else (t,bK):=rfl
       have hh:=NR hk (a:=a) (q2 a (by simp))
       rw[hc]
       cases hb:(gI a).2 with
       |false=>
        rw[hb] at hh
        exact dC (y:=bK) bg bg bg bg bg bg bg (fun h=>absurd h (List.cons_ne_nil _ _)) (fun _=>hh)
       |true=>
        rw[hb] at hh
        exact dC (y:=bK) bg bg bg bg bg bg bg (fun h=>absurd h (List.cons_ne_nil _ _)) (fun _=>hh)
     |a::b::r,hw,q1,q2,dC,cr=>
      have hc:dD t 17 (a::b::r)=(t,bK):=rfl
      rw[hc]
      exact dC (y:=bK) bg bg bg bg bg bg bg (fun h=>absurd h (List.cons_ne_nil _ _)) (fun _=>(cr (fun _=>(by rw[ab,ab];show _+1+1≠1;omega)) bg bg bg bg))
    ·have e:jk zM=18:=by decide+kernel
     rw[e]
     match ws,hw,q1,q2,@dC,cr with
     | [],hw,q1,q2,dC,cr=>
       have hc:dD t 18 [] =(t,bK):=rfl
       rw[hc]
       exact dC (y:=bK) bg bg bg bg bg bg bg (fun _=>kt ⟨by decide,by decide,by decide,by decide,by decide,by decide,by decide⟩) (fun _=>(cr bg bg bg bg (fun _=>(by show 0≠2;decide))))
     | [a],hw,q1,q2,dC,cr=>
       have hc:dD t 18 [a] =(t,bK):=rfl
       rw[hc]
       exact dC (y:=bK) bg bg bg bg bg bg bg (fun h=>absurd h (List.cons_ne_nil _ _)) (fun _=>(cr bg bg bg bg (fun _=>(by show 1≠2;decide))))
     | [a,b],hw,q1,q2,dC,cr=>
       have hc:dD t 18 [a,b] =bif (aU a).2&&(bw b).2 then (t,iM (nB (aU a).1 (bw b).1)) else (t,bK):=rfl
       have hh:=Qy hk (a:=a) (b:=b) (q2 a (by simp)) (q2 b (by simp))
       rw[hc]
       cases hb:((aU a).2&&(bw b).2) with
       |false=>
        rw[hb] at hh
        exact dC (y:=bK) bg bg bg bg bg bg bg (fun h=>absurd h (List.cons_ne_nil _ _)) (fun _=>hh)
       |true=>
        rw[hb] at hh
        exact dC (y:=bK) bg bg bg bg bg bg bg (fun h=>absurd h (List.cons_ne_nil _ _)) (fun _=>hh)
     |a::b::c::r,hw,q1,q2,dC,cr=>
      have hc:dD t 18 (a::b::c::r)=(t,bK):=rfl
      rw[hc]
      exact dC (y:=bK) bg bg bg bg bg bg bg (fun h=>absurd h (List.cons_ne_nil _ _)) (fun _=>(cr bg bg bg bg (fun _=>(by rw[ab,ab,ab];show _+1+1+1≠2;omega))))
   ·rw[Dq B8,Dr]
    unfold vF at B8
    simp only[cL,cA,or_false,not_or] at B8
    obtain ⟨n0,n1,n2,n3,n4,n5,n6,n7,n8,n9,n10,n11,n12,n13,n14,n15,n16,n17,n18⟩:=B8
    exact dC (y:=bK) (fun h=>absurd h n11) (fun h=>absurd h n0) (fun h=>absurd h n10) (fun h=>absurd h n1) (fun h=>absurd h n2) (fun h=>absurd h n12) (fun h=>absurd h n13) (fun _=>kt ⟨n3,n4,n5,n6,n7,n8,n9⟩) (fun _=>cr (fun h=>absurd h n17) (fun h=>absurd h n14) (fun h=>absurd h n15) (fun h=>absurd h n16) (fun h=>absurd h n18))
theorem abK (hk:cy<=k) {t:Tb} (h:t.sm) (hw:t.ws) {s:BA} (hs:s.size<1048577): ∃(u:Tb) (x:BA),u.sm/\t.ap (az.f k) s=some (u.RE x)/\t.ap (gy.f k) s=some (u.RE x):=⟨_,_,Fz h s,az.eq hk h hw hs,gy.eq hk h hw hs⟩
set_option maxRecDepth 100000 in
theorem abg.same (hk:cy<=k) (abB:Int) (abC:Int) (abL:Bool) (abM:Bool) (abp:LI) (abq:LI) (abD:Int) (abF:Int) (abr:LI) (abN:Bool) (aa9:LI) (abh:Int) (abi:Int) (abt:Bool) (abu:Bool) (aa_:LI) (aba:LI) (abj:Int) (abk:Int) (aaM:LL) (abb:LI) (abc:LI) (abl:Int) (abm:Int) (abn:Int) (abd:LI) (aaO:LL) (a1:BA) (h0:tf .i64 abB) (h1:tf .i64 abC) (h2:abp.length<1048577) (h3: ∀n∈abp,tf .i64 n) (h4:abq.length<1048577) (h5: ∀n∈abq,tf .i64 n) (h6:tf .i64 abD) (h7:tf .i64 abF) (h8:abr.length<1048577) (h9: ∀n∈abr,tf .i64 n) (UH:aa9.length<1048577) (h11: ∀n∈aa9,tf .i64 n) (M6:tf .i64 abh) (Ux:tf .i64 abi) (h14:aa_.length<1048577) (h15: ∀n∈aa_,tf .i64 n) (Xv:aba.length<1048577) (h17: ∀n∈aba,tf .i64 n) (h18:tf .i64 abj) (h19:tf .i64 abk) (h20:aaM.length<1048577) (L0: ∀y∈aaM,y.length<1048577) (Pn: ∀y∈aaM,∀n∈y,tf .i64 n) (h23:abb.length<1048577) (h24: ∀n∈abb,tf .i64 n) (h25:abc.length<1048577) (h26: ∀n∈abc,tf .i64 n) (h27:tf .i64 abl) (h28:tf .i64 abm) (h29:tf .i64 abn) (h30:abd.length<1048577) (h31: ∀n∈abd,tf .i64 n) (h32:aaO.length<1048577) (h33: ∀y∈aaO,y.length<1048577) (h34: ∀y∈aaO,∀n∈y,tf .i64 n) (h35:a1.size<1048577) (h36:a1.size<=maxLen): ∃r:Int×Int×Bool×Bool×LI×LI×Int×Int×LI×Bool×LI×Int×Int×Bool×Bool×LI×LI×Int×Int×LL×LI×LI×Int×Int×Int×LI×LL×BA,az.f k abB abC abL abM abp abq abD abF abr abN aa9 abh abi abt abu aa_ aba abj abk aaM abb abc abl abm abn abd aaO a1=some r/\gy.f k abB abC abL abM abp abq abD abF abr abN aa9 abh abi abt abu aa_ aba abj abk aaM abb abc abl abm abn abd aaO a1=some r/\(r.2.2.2.2.1.length<1048577)/\(r.2.2.2.2.2.1.length<1048577)/\(r.2.2.2.2.2.2.2.2.1.length<1048577)/\(r.2.2.2.2.2.2.2.2.2.2.1.length<1048577)/\(r.2.2.2.2.2.2.2.2.2.2.2.2.2.2.2.1.length<1048577)/\(r.2.2.2.2.2.2.2.2.2.2.2.2.2.2.2.2.1.length<1048577)/\(r.2.2.2.2.2.2.2.2.2.2.2.2.2.2.2.2.2.2.2.1.length<1048577)/\(∀y∈r.2.2.2.2.2.2.2.2.2.2.2.2.2.2.2.2.2.2.2.1,y.length<1048577)/\(r.2.2.2.2.2.2.2.2.2.2.2.2.2.2.2.2.2.2.2.2.1.length<1048577)/\(r.2.2.2.2.2.2.2.2.2.2.2.2.2.2.2.2.2.2.2.2.2.1.length<1048577)/\(r.2.2.2.2.2.2.2.2.2.2.2.2.2.2.2.2.2.2.2.2.2.2.2.2.2.1.length<1048577)/\(r.2.2.2.2.2.2.2.2.2.2.2.2.2.2.2.2.2.2.2.2.2.2.2.2.2.2.1.length<1048577)/\(∀y∈r.2.2.2.2.2.2.2.2.2.2.2.2.2.2.2.2.2.2.2.2.2.2.2.2.2.2.1,y.length<1048577):=by
 have ht:(⟨⟨abB,abC,abL,abM,abp,abq,abD,abF⟩,abr,abN,aa9,⟨⟨abh,abi,abt,abu,aa_,aba,abj,abk⟩,aaM,abb,abc,abl,abm,abn⟩,abd,aaO⟩:Tb).sm:=⟨⟨h2,h4⟩,h8,UH,⟨⟨h14,Xv⟩,⟨h20,L0⟩,h23,h25⟩,h30,h32,h33⟩
 obtain ⟨u,x,⟨s1,s2,s3,s4,s5,s6⟩,e1,e2⟩:=abK hk ht h34 h35
 exact ⟨_,e1,e2,s1.1,s1.2,s2,s3,s4.1.1,s4.1.2,s4.2.1.1,s4.2.1.2,s4.2.2.1,s4.2.2.2,s5,s6.1,s6.2⟩
