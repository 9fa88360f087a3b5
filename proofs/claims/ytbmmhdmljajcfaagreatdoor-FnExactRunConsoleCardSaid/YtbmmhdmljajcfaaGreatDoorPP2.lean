/- Plain laws of the program's functions, joined. Conditions: as each theorem says. -/
import Derived.Test.YtbmmhdmljajcfaaGreatDoorKit
import Derived.Test.YtbmmhdmljajcfaaGreatDoorFSpecConsoleLine
import Derived.Test.YtbmmhdmljajcfaaGreatDoorFImplConsoleLine
import Derived.Test.YtbmmhdmljajcfaaGreatDoorPP0
import Derived.Test.YtbmmhdmljajcfaaGreatDoorPP1
import Derived.Test.YtbmmhdmljajcfaaGreatDoorFFnExactRunConsole
import Derived.Test.YtbmmhdmljajcfaaGreatDoorXFnExactRunConsole
set_option linter.unusedVariables false
set_option linter.unusedSimpArgs false
set_option linter.unusedSectionVars false
namespace Go.Proofs.YtbmmhdmljajcfaaGreatDoor
open Go Go.Proofs.YtbmmhdmljajcfaaGreatDoor.V
def Wp:ByteArray:=W5
def Wq:ByteArray:=RX
def Wr:ByteArray:=RY
def uX (b1 b2:Bool):ByteArray:=bif b1&&b2 then Wp else bif b1 then Wq else bif b2 then Wr else ByteArray.empty
theorem lm.eq (k:Nat) (n e:Int) (b1 b2:Bool) (w f:List Int) (t l:Int):lm.f k n e b1 b2 w f t l=some (uX b1 b2):=by cases b1<;>cases b2<;>rfl
theorem lc.eq (k:Nat) (n e:Int) (b1 b2:Bool) (w f:List Int) (t l:Int):lc.f k n e b1 b2 w f t l=some (uX b1 b2):=by cases b1<;>cases b2<;>rfl
def rJ (l:List Int):ByteArray:=bif ((l.length:Int)==0) then oP else kH l
theorem iK.eq {k:Nat} (hk:cy<=k) {l:List Int} (hl:l.length<1048577):iK.f k l=some (rJ l):=by
 unfold iK.f rJ
 cases (l.length:Int)==0 with
 |true=>rfl
 |false=>exact bF rfl (bN (bL.eq hk hl))
theorem ji.eq {k:Nat} (hk:cy<=k) {l:List Int} (hl:l.length<1048577):ji.f k l=some (rJ l):=by
 unfold ji.f rJ
 cases (l.length:Int)==0 with
 |true=>rfl
 |false=>exact bF rfl (bN (bE.eq hk hl))
theorem nF (l:List Int):(rJ l).size<=60/\wS (rJ l):=by
 unfold rJ
 cases (l.length:Int)==0 with
 |true=>exact ⟨by show oP.size<=60;decide,vE (by decide)⟩
 |false=>exact ⟨Ff l,LC l⟩
theorem rq (b1 b2:Bool):(uX b1 b2).size<=4/\wS (uX b1 b2):=by
 have h1:wS Wp:=by unfold wS;decide+kernel
 have h2:wS Wq:=by unfold wS;decide+kernel
 have h3:wS Wr:=by unfold wS;decide+kernel
 cases b1<;>cases b2
 ·exact ⟨by decide,Iu⟩
 ·exact ⟨by decide,h3⟩
 ·exact ⟨by decide,h2⟩
 ·exact ⟨by decide,h1⟩
theorem L1: ∀(m u:Nat),u<m-> ∀x∈Go.Lib.decDigits u,x≠32:=by
 have Z7: ∀d:Nat,d<10->UInt8.ofNat (48+d)≠32:=fun d hd=>by
  have:d=0\/d=1\/d=2\/d=3\/d=4\/d=5\/d=6\/d=7\/d=8\/d=9:=by omega
  rcases this with rfl|rfl|rfl|rfl|rfl|rfl|rfl|rfl|rfl|rfl<;>decide+kernel
 intro m
 induction m with
 |zero=>intro u h;omega
 |succ m ih=>
  intro u hu x hx
  rw[Go.Lib.decDigits] at hx
  by_cases h:u<10
  ·rw[dif_pos h] at hx
   rw[List.mem_singleton.1 hx];exact Z7 u h
  ·rw[dif_neg h] at hx
   rcases List.mem_append.1 hx with hx|hx
   ·exact ih (u/10) (by omega) x hx
   ·rw[List.mem_singleton.1 hx];exact Z7 _ (by omega)
theorem yp (n:Int):wS (iM n):=by
 intro x hx
 have hx:x∈(Go.Lib.itoa n).toArray.toList:=hx
 unfold Go.Lib.itoa at hx
 split at hx
 ·rcases List.mem_cons.1 (show x∈45::Go.Lib.decDigits n.natAbs from hx) with rfl|hx
  ·decide
  ·exact L1 _ _ (Nat.lt_succ_self _) x hx
 ·exact L1 _ _ (Nat.lt_succ_self _) x hx
def rY (r:Rl):List ByteArray:=[Jj++iM r.n,UK++iM r.e,UL++uX r.b1 r.b2,UM++rJ r.w,UN++rJ r.f,UO++iM r.t,UP++iM r.l]
def spB:ByteArray:=oU
def uY (r:Rl):ByteArray:=bif r.ok then pR (rY r) spB else ByteArray.empty
theorem SS {r:Rl} (h:r.ok=true):tf .i64 r.n/\tf .i64 r.e/\tf .i64 r.t/\tf .i64 r.l/\(r.b1||r.b2)=true/\2<=r.n/\r.n<=6:=by
 unfold Rl.ok vn mJ at h
 simp only[ay,dH] at h
 have w (n:Int) (h1: -9223372036854775808<=n) (h2:n<=9223372036854775807):tf .i64 n:=by simp[tf,Lit.wf,IntKind.min,IntKind.max,IntKind.signed,IntKind.bits];omega
 obtain ⟨⟨⟨⟨⟨⟨⟨h1,h2⟩,⟨h3,h4⟩⟩,h5⟩,_⟩,_⟩,⟨h6,h7⟩⟩,⟨h8,h9⟩⟩:=h
 exact ⟨w _ (by omega) (by omega),w _ (by omega) (by omega),w _ (by omega) (by omega),w _ (by omega) (by omega),h5,h1,h2⟩
theorem D_ {r:Rl} (h:r.ok=true): ∀w∈rY r,w.size<=68/\wS w:=by
 obtain ⟨w1,w2,w3,w4,_⟩:=SS h
 have g (p x:ByteArray) (hp:p.size<=8) (hn:wS p) (hx:x.size<=60/\wS x):(p++x).size<=68/\wS (p++x):=⟨by rw[aq];omega,vD hn hx.2⟩
 have i1:=gV w1
 have i2:=gV w2
 have i3:=gV w3
 have i4:=gV w4
 have r1:=rq r.b1 r.b2
 intro w hw
 simp only[rY,cL,cA,or_false] at hw
 rcases hw with rfl|rfl|rfl|rfl|rfl|rfl|rfl
 ·exact g _ _ (by decide) (by unfold wS;decide+kernel) ⟨by omega,yp _⟩
 ·exact g _ _ (by decide) (by unfold wS;decide+kernel) ⟨by omega,yp _⟩
 ·exact g _ _ (by decide) (by unfold wS;decide+kernel) ⟨by omega,r1.2⟩
 ·exact g _ _ (by decide) (by unfold wS;decide+kernel) (nF _)
 ·exact g _ _ (by decide) (by unfold wS;decide+kernel) (nF _)
 ·exact g _ _ (by decide) (by unfold wS;decide+kernel) ⟨by omega,yp _⟩
 ·exact g _ _ (by decide) (by unfold wS;decide+kernel) ⟨by omega,yp _⟩
theorem NQ (a b c d e f g sep:ByteArray):pR [a,b,c,d,e,f,g] sep=a++sep++b++sep++c++sep++d++sep++e++sep++f++sep++g:=by
 apply uJ
 show ((Go.Lib.join _ _).toArray).toList=_
 simp[Go.Lib.join,List.intercalate,uK]
theorem ld.eq {k:Nat} (hk:cy<=k) {r:Rl} (h:r.sm):ld.f k r.n r.e r.b1 r.b2 r.w r.f r.t r.l=some (uY r):=by
 refine bS (dk.eq hk r.n r.e r.b1 r.b2 r.t r.l h.1 h.2) ?_
 unfold uY
 show (bif !r.ok then _ else _)=_
 cases hr:r.ok with
 |false=>rfl
 |true=>
  obtain ⟨w1,w2,w3,w4,_⟩:=SS hr
  have i1:=gV w1
  have i2:=gV w2
  have i3:=gV w3
  have i4:=gV w4
  have r1:=(rq r.b1 r.b2).1
  have m1:=(nF r.w).1
  have m2:=(nF r.f).1
  have hM:1000<=ia:=by unfold ia;omega
  have z8:Jj.size=8:=rfl
  have z1:UK.size=5:=rfl
  have z2:UL.size=6:=rfl
  have z3:UM.size=5:=rfl
  have z4:UN.size=5:=rfl
  have z5:UO.size=5:=rfl
  have z6:UP.size=6:=rfl
  refine bF rfl (bS (a_.eq k w1) (cT ae (bS (a_.eq k w2) (cT ae (bS (lc.eq ..) (cT ae ?_))))))
  refine bS (ji.eq hk h.1) (cT ae (bS (ji.eq hk h.2) (cT ae (bS (a_.eq k w3) (cT ae (bS (a_.eq k w4) (cT ae ?_)))))))
  exact bN (strings_Join.eq k (l:=rY r) (sep:=spB) (by show 7<_;decide) (fun y hy=>by have:=(D_ hr y hy).1;omega) (by decide))
theorem ln.eq {k:Nat} (hk:cy<=k) {r:Rl} (h:r.sm):ln.f k r.n r.e r.b1 r.b2 r.w r.f r.t r.l=some (uY r):=by
 refine bS (dm.eq hk r.n r.e r.b1 r.b2 r.t r.l h.1 h.2) ?_
 unfold uY
 show (bif !r.ok then _ else _)=_
 cases hr:r.ok with
 |false=>rfl
 |true=>
  obtain ⟨w1,w2,w3,w4,_⟩:=SS hr
  have i1:=gV w1
  have i2:=gV w2
  have i3:=gV w3
  have i4:=gV w4
  have r1:=(rq r.b1 r.b2).1
  have m1:=(nF r.w).1
  have m2:=(nF r.f).1
  have hM:1000<=ia:=by unfold ia;omega
  have z8:Jj.size=8:=rfl
  have z1:Az.size=6:=rfl
  have z2:D5.size=7:=rfl
  have z3:Hk.size=6:=rfl
  have z4:K3.size=6:=rfl
  have z5:PW.size=6:=rfl
  have z6:UQ.size=7:=rfl
  have c {X:Option ByteArray} {q:Nat} (hq:q<=1000):bY (decide (q<=ia)) X=X:=bW ae
  refine bF rfl (bS (aT.eq hk w1) ((c (by simp only[aq,z8];omega)).trans ((c (by simp only[aq,z8,z1];omega)).trans ?_)))
  refine bS (aT.eq hk w2) ((c (by simp only[aq,z8,z1];omega)).trans ((c (by simp only[aq,z8,z1,z2];omega)).trans ?_))
  refine bS (lm.eq ..) ((c (by simp only[aq,z8,z1,z2];omega)).trans ((c (by simp only[aq,z8,z1,z2,z3];omega)).trans ?_))
  refine bS (iK.eq hk h.1) ((c (by simp only[aq,z8,z1,z2,z3];omega)).trans ((c (by simp only[aq,z8,z1,z2,z3,z4];omega)).trans ?_))
  refine bS (iK.eq hk h.2) ((c (by simp only[aq,z8,z1,z2,z3,z4];omega)).trans ((c (by simp only[aq,z8,z1,z2,z3,z4,z5];omega)).trans ?_))
  refine bS (aT.eq hk w3) ((c (by simp only[aq,z8,z1,z2,z3,z4,z5];omega)).trans ((c (by simp only[aq,z8,z1,z2,z3,z4,z5,z6];omega)).trans ?_))
  refine bS (aT.eq hk w4) ((c (by simp only[aq,z8,z1,z2,z3,z4,z5,z6];omega)).trans ?_)
  refine congrArg some ?_
  show _=pR (rY r) spB
  unfold rY
  rw[NQ]
  apply uJ
  simp[uK,spB]
abbrev Tb.RE (t:Tb) (e:ByteArray):Int×Int×Bool×Bool×List Int×List Int×Int×Int×List Int×Bool×List Int×Int×Int×Bool×Bool×List Int×List Int×Int×Int×List (List Int)×List Int×List Int×Int×Int×Int×List Int×List (List Int)×ByteArray:=(t.r.n,t.r.e,t.r.b1,t.r.b2,t.r.w,t.r.f,t.r.t,t.r.l,t.fI,t.on,t.qn,t.g.r.n,t.g.r.e,t.g.r.b1,t.g.r.b2,t.g.r.w,t.g.r.f,t.g.r.t,t.g.r.l,t.g.hs,t.g.st,t.g.hp,t.g.tn,t.g.mv,t.g.ps,t.rd,t.jJ,e)
abbrev Tb.ws (t:Tb):Prop:= ∀y∈t.jJ,∀n∈y,tf .i64 n
def bK:ByteArray:=Cb
def okB:ByteArray:=Hj
def qa (t:Tb) (o:Option Tb):Tb×ByteArray:=match o with
 |some u=>(u,okB)
 |none=>(t,noW)
def kr (t:Tb):Nat->ByteArray
 |3=>qM (uY t.r) oP
 |4=>Bc t
 |5=>qM (xw t.g) oP
 |6=>ig (cv t.g)
 |7=>AW t.rd
 |8=>qM (rp (t.jJ.map Bd) oU) oP
 |_=>qM (vN t) okB
def kI (l:List Int):Nat->ByteArray
 |14=>rp ((lG l).map ig) oU
 |15=>iM (q7 l)
 |16=>Bh l
 |_=>iM ((xz l).length:Int)
def dD (t:Tb) (i:Nat) (ws:List ByteArray):Tb×ByteArray:=match i,ws with
 |0,[]=>qa t (some sD)
 |1,[]=>qa t (vG (gU t (-1)))
 |2,[]=>qa t (vG (hU t))
 |3,[]=>(t,kr t 3)
 |4,[]=>(t,kr t 4)
 |5,[]=>(t,kr t 5)
 |6,[]=>(t,kr t 6)
 |7,[]=>(t,kr t 7)
 |8,[]=>(t,kr t 8)
 |9,[]=>(t,kr t 9)
 |10,[a,b,c]=>bif nG [a,b,c] then qa t (tZ t (qt [a,b,c])) else (t,bK)
 |11,[a]=>bif decide (cZ a>=0) then qa t (vG (iU t (cZ a))) else (t,bK)
 |12,[a]=>bif (bw a).2 then qa t (vG (o4 t (bw a).1)) else (t,bK)
 |13,[a]=>bif (bw a).2 then (t,ym t.g (bw a).1) else (t,bK)
 |14,[a]=>bif (aU a).2 then (t,kI (aU a).1 14) else (t,bK)
 |15,[a]=>bif (aU a).2 then (t,kI (aU a).1 15) else (t,bK)
 |16,[a]=>bif (aU a).2 then (t,kI (aU a).1 16) else (t,bK)
 |17,[a]=>bif (gI a).2 then (t,kI (gI a).1 17) else (t,bK)
 |18,[a,b]=>bif (aU a).2&&(bw b).2 then (t,iM (nB (aU a).1 (bw b).1)) else (t,bK)
 |_,_=>(t,bK)
def jk (w:ByteArray):Nat:=vF.findIdx fun x=>decide (w=x)
def kJ (t:Tb) (s:ByteArray):Tb×ByteArray:=match mM s with
 | []=>(t,bK)
 |w::ws=>bif decide ((s.size:Int)>200) then (t,bK) else dD t (jk w) ws
theorem Dq {w:ByteArray} (h:w∉vF):jk w=19:=by
 unfold jk
 exact List.findIdx_eq_length.2 fun x hx=>aC fun e=>h (e ▸ hx)
theorem Dr {t:Tb} (ws:List ByteArray):dD t 19 ws=(t,bK):=by unfold dD;rfl
theorem SU {k:Nat} (hk:cy<=k) {t:Tb} (h:t.sm) (hw:t.ws):
 (∀ns l,t.ap (gd.f k) wY ns l=some (kr t 3))/\(∀ns l,t.ap (gd.f k) uz ns l=some (kr t 4))/\(∀ns l,t.ap (gd.f k) wZ ns l=some (kr t 5))/\(∀ns l,t.ap (gd.f k) w6 ns l=some (kr t 6))/\(∀ns l,t.ap (gd.f k) H3 ns l=some (kr t 7))/\(∀ns l,t.ap (gd.f k) H4 ns l=some (kr t 8))/\(∀ns l,t.ap (gd.f k) w7 ns l=some (kr t 9)):=by
 have hg:=h.2.2.2.1
 have hp:(cv t.g).length<1048577:=by have:=ov t.g;omega
 refine ⟨fun ns l=> ?_,fun ns l=> ?_,fun ns l=> ?_,fun ns l=> ?_,fun ns l=> ?_,fun ns l=> ?_,fun ns l=> ?_⟩
 ·exact bT (by decide+kernel) (bS (ld.eq hk h.1) (bN (iY.eq ..)))
 ·exact bF (by decide+kernel) (bT (by decide+kernel) (bN (ka.eq hk h)))
 ·exact bF (by decide+kernel) (bF (by decide+kernel) (bT (by decide+kernel) (bS (fJ.eq hk hg) (bN (iY.eq ..)))))
 ·exact bF (by decide+kernel) (bF (by decide+kernel) (bF (by decide+kernel) (bF (by decide+kernel) (bT (by decide+kernel) (bS (eA.eq hk hg) (bN (fK.eq hk hp)))))))
 ·exact bF (by decide+kernel) (bF (by decide+kernel) (bF (by decide+kernel) (bF (by decide+kernel) (bF (by decide+kernel) (bT (by decide+kernel) (bN (kP.eq hk h.2.2.2.2.1)))))))
 ·exact bF (by decide+kernel) (bF (by decide+kernel) (bF (by decide+kernel) (bF (by decide+kernel) (bF (by decide+kernel) (bF (by decide+kernel) (bT (by decide+kernel) (bS (eY.eq hk h.2.2.2.2.2.1 h.2.2.2.2.2.2 hw) (bN (iY.eq ..)))))))))
 ·exact bF (by decide+kernel) (bF (by decide+kernel) (bF (by decide+kernel) (bF (by decide+kernel) (bF (by decide+kernel) (bF (by decide+kernel) (bF (by decide+kernel) (bT (by decide+kernel) (bS (ng.eq hk h) (bN (iY.eq ..))))))))))
theorem yq {k:Nat} (hk:cy<=k) {t:Tb} {l:List Int} (hl:l.length<1048577):
 (∀ns,t.ap (gd.f k) yK ns l=some (kI l 14))/\(∀ns,t.ap (gd.f k) zK ns l=some (kI l 15))/\(∀ns,t.ap (gd.f k) zL ns l=some (kI l 16))/\(∀ns,t.ap (gd.f k) zM ns l=some (kI l 17)):=by
 have hm:=pC l
 have Uw: ∀y∈lG l,y.length<1048577:=fun y hy=>by have:=pz hy;omega
 have ho:=rI l
 have hs:=Bi l
 refine ⟨fun ns=> ?_,fun ns=> ?_,fun ns=> ?_,fun ns=> ?_⟩
 ·exact bF (by decide+kernel) (bF (by decide+kernel) (bF (by decide+kernel) (bF (by decide+kernel) (bF (by decide+kernel) (bF (by decide+kernel) (bF (by decide+kernel) (bF (by decide+kernel) (bT (by decide+kernel) (bS (bz.eq hk hl) (bN (eZ.eq hk (by omega) Uw)))))))))))
 ·exact bF (by decide+kernel) (bF (by decide+kernel) (bF (by decide+kernel) (bF (by decide+kernel) (bF (by decide+kernel) (bF (by decide+kernel) (bF (by decide+kernel) (bF (by decide+kernel) (bF (by decide+kernel) (bT (by decide+kernel) (bS (mn.eq hk hl) (bN (a_.eq k (qx ⟨by omega,by omega⟩)))))))))))))
 ·exact bF (by decide+kernel) (bF (by decide+kernel) (bF (by decide+kernel) (bF (by decide+kernel) (bF (by decide+kernel) (bF (by decide+kernel) (bF (by decide+kernel) (bF (by decide+kernel) (bF (by decide+kernel) (bF (by decide+kernel) (bT (by decide+kernel) (bN (lg.eq hk hl))))))))))))
 ·exact bF (by decide+kernel) (bF (by decide+kernel) (bF (by decide+kernel) (bF (by decide+kernel) (bF (by decide+kernel) (bF (by decide+kernel) (bF (by decide+kernel) (bF (by decide+kernel) (bF (by decide+kernel) (bF (by decide+kernel) (bF (by decide+kernel) (bT (by decide+kernel) (bS (iB.eq hk hl) (bN (a_.eq k (qx ⟨by omega,by omega⟩)))))))))))))))
theorem Qs {k:Nat} (hk:cy<=k) {t:Tb} {l:List Int} (hl:l.length<1048577) (n:Int):t.ap (gd.f k) Ax [n] l=some (iM (nB l n)):=by
 have ht:=Bg hl n
 exact bF (by decide+kernel) (bF (by decide+kernel) (bF (by decide+kernel) (bF (by decide+kernel) (bF (by decide+kernel) (bF (by decide+kernel) (bF (by decide+kernel) (bF (by decide+kernel) (bF (by decide+kernel) (bF (by decide+kernel) (bF (by decide+kernel) (bF (by decide+kernel) (cT (ae (by simp)) (bS (iC.eq hk hl n) (bN (a_.eq k (qx ⟨by omega,by omega⟩))))))))))))))))
theorem SV {k:Nat} (hk:cy<=k) {t:Tb} (h:t.sm) (n:Int) (l:List Int):t.ap (gd.f k) yJ [n] l=some (ym t.g n):=by
 exact bF (by decide+kernel) (bF (by decide+kernel) (bF (by decide+kernel) (bT (by decide+kernel) (cT (ae (by simp)) (Pd (k:=k) h.2.2.2.1 n (nP.eq hk h.2.2.2.1 n) @fun me hand top x y sizes u w h1 h2 h3 h4=>fL.eq hk top x y u w h1 h2 h3 h4)))))
theorem kB (w:ByteArray):(w.toList==w.toList)=true:=beq_self_eq_true _
theorem Eu (w:ByteArray) (ws:List ByteArray):((w::ws).take (((w::ws).length:Int).toNat)).drop 1=ws:=by
 rw[aa,List.take_length];rfl
section
variable {k:Nat} (hk:cy<=k) {t:Tb} (ht:t.sm) {s:ByteArray} (hs:s.size<1048577) {w:ByteArray} {ws:List ByteArray} (hw:mM s=w::ws) (h2: ¬((s.size:Int)>200))
include hk ht hs hw h2
theorem Bj:ws.length<1048577/\ ∀x∈ws,x.size<1048577:=by
 have h1:=JJ s
 have h3:=Lv s
 rw[hw] at h1 h3
 rw[ab] at h1
 exact ⟨by omega,fun x hx=>by have:=h3 x (List.mem_cons_of_mem _ hx);omega⟩
theorem sK.Qt {K:ByteArray} (XM:dy.f k w=some (K,false)):t.ap (gy.f k) s=some (t.RE bK):=by
 refine bS (fE.eq hk hs) ?_
 rw[hw]
 exact bF (aC h2) (bF (by rw[ab];simp;omega) (cT (ae (by rw[ab];omega)) (bS XM (bT rfl (bN (ar.eq hk ht))))))
theorem sK.XN {K:ByteArray} (XM:dy.f k w=some (K,true)) (ho:(operands K ws).2.2=false):t.ap (gy.f k) s=some (t.RE bK):=by
 obtain ⟨q1,q2⟩:=Bj hk ht hs hw h2
 refine bS (fE.eq hk hs) ?_
 rw[hw]
 refine bF (aC h2) (bF (by rw[ab];simp;omega) (cT (ae (by rw[ab];omega)) (bS XM (bF rfl (cT (bA ae ae) (cT (ae (by rw[ab];omega)) ?_))))))
 rw[Eu]
 exact bS (gB.eq hk q1 q2) (bT (by show (!(operands K ws).2.2)=true;rw[ho];rfl) (bN (ar.eq hk ht)))
theorem sK.change {K:ByteArray} {ns l:List Int} {o:Option Tb} (XM:dy.f k w=some (K,true)) (ho:operands K ws=(ns,l,true)) (B8:w=qw\/w=B6\/w=uA\/w=D1\/w=D2\/w=ri) (hc: ∃r,t.ap (bO.f k) w ns=some r/\NF t r o):t.ap (gy.f k) s=some ((qa t o).1.RE (qa t o).2):=by
 obtain ⟨q1,q2⟩:=Bj hk ht hs hw h2
 obtain ⟨r,hr,hq⟩:=hc
 refine bS (fE.eq hk hs) ?_
 rw[hw]
 refine bF (aC h2) (bF (by rw[ab];simp;omega) (cT (ae (by rw[ab];omega)) (bS XM (bF rfl (cT (bA ae ae) (cT (ae (by rw[ab];omega)) ?_))))))
 rw[Eu]
 refine bS ((gB.eq hk q1 q2).trans (congrArg some ho)) (bF rfl (cT (ae (by rw[ab];omega)) ?_))
 rcases B8 with rfl|rfl|rfl|rfl|rfl|rfl
 ·refine bT (kB qw) (cT (ae (by rw[ab];omega)) (bS hr ?_))
  rcases hq with ⟨u,b,rfl,rfl⟩| ⟨rfl,rfl⟩
  ·refine bT rfl ?_
   cases b with
   |true=>exact br rfl
   |false=>exact bT rfl (bN (ar.eq hk ht))
  ·exact bF rfl (bN (ar.eq hk ht))
 ·refine bF (bB (w:=B6) (x:=qw) (by decide)) (bT (kB B6) (cT (ae (by rw[ab];omega)) (bS hr ?_)))
  rcases hq with ⟨u,b,rfl,rfl⟩| ⟨rfl,rfl⟩
  ·refine bT rfl ?_
   cases b with
   |true=>exact br rfl
   |false=>exact bT rfl (bN (ar.eq hk ht))
  ·exact bF rfl (bN (ar.eq hk ht))
 ·refine bF (bB (w:=uA) (x:=qw) (by decide)) (bF (bB (w:=uA) (x:=B6) (by decide)) (bT (kB uA) (cT (ae (by rw[ab];omega)) (bS hr ?_))))
  rcases hq with ⟨u,b,rfl,rfl⟩| ⟨rfl,rfl⟩
  ·refine bT rfl ?_
   cases b with
   |true=>exact br rfl
   |false=>exact bT rfl (bN (ar.eq hk ht))
  ·exact bF rfl (bN (ar.eq hk ht))
 ·refine bF (bB (w:=D1) (x:=qw) (by decide)) (bF (bB (w:=D1) (x:=B6) (by decide)) (bF (bB (w:=D1) (x:=uA) (by decide)) (bT (kB D1) (cT (ae (by rw[ab];omega)) (bS hr ?_)))))
  rcases hq with ⟨u,b,rfl,rfl⟩| ⟨rfl,rfl⟩
  ·refine bT rfl ?_
   cases b with
   |true=>exact br rfl
   |false=>exact bT rfl (bN (ar.eq hk ht))
  ·exact bF rfl (bN (ar.eq hk ht))
 ·refine bF (bB (w:=D2) (x:=qw) (by decide)) (bF (bB (w:=D2) (x:=B6) (by decide)) (bF (bB (w:=D2) (x:=uA) (by decide)) (bF (bB (w:=D2) (x:=D1) (by decide)) (bT (kB D2) (cT (ae (by rw[ab];omega)) (bS hr ?_))))))
  rcases hq with ⟨u,b,rfl,rfl⟩| ⟨rfl,rfl⟩
  ·refine bT rfl ?_
   cases b with
   |true=>exact br rfl
   |false=>exact bT rfl (bN (ar.eq hk ht))
  ·exact bF rfl (bN (ar.eq hk ht))
 ·refine bF (bB (w:=ri) (x:=qw) (by decide)) (bF (bB (w:=ri) (x:=B6) (by decide)) (bF (bB (w:=ri) (x:=uA) (by decide)) (bF (bB (w:=ri) (x:=D1) (by decide)) (bF (bB (w:=ri) (x:=D2) (by decide)) (bT (kB ri) (cT (ae (by rw[ab];omega)) (bS hr ?_)))))))
  rcases hq with ⟨u,b,rfl,rfl⟩| ⟨rfl,rfl⟩
  ·refine bT rfl ?_
   cases b with
   |true=>exact br rfl
   |false=>exact bT rfl (bN (ar.eq hk ht))
  ·exact bF rfl (bN (ar.eq hk ht))
theorem sK.answer {K:ByteArray} {ns l:List Int} {x:ByteArray} (XM:dy.f k w=some (K,true)) (ho:operands K ws=(ns,l,true)) (B8:w≠qw/\w≠B6/\w≠uA/\w≠D1/\w≠D2/\w≠ri) (hc:t.ap (gd.f k) w ns l=some x):t.ap (gy.f k) s=some (t.RE x):=by
 obtain ⟨q1,q2⟩:=Bj hk ht hs hw h2
 obtain ⟨i1,i2,i3,i4,i5,i6⟩:=B8
 refine bS (fE.eq hk hs) ?_
 rw[hw]
 refine bF (aC h2) (bF (by rw[ab];simp;omega) (cT (ae (by rw[ab];omega)) (bS XM (bF rfl (cT (bA ae ae) (cT (ae (by rw[ab];omega)) ?_))))))
 rw[Eu]
 refine bS ((gB.eq hk q1 q2).trans (congrArg some ho)) (bF rfl (cT (ae (by rw[ab];omega)) ?_))
 exact bF (bB i1) (bF (bB i2) (bF (bB i3) (bF (bB i4) (bF (bB i5) (bF (bB i6) (bS (ar.eq hk ht) (cT (ae (by rw[ab];omega)) (bN hc))))))))
end
theorem gO {K:ByteArray} {ws:List ByteArray} (h:ws.length≠K.size):(operands K ws).2.2=false:=by
 unfold operands
 rw[show ((ws.length:Int) != (K.size:Int))=true by simp;omega];rfl
theorem gy.eq {k:Nat} (hk:cy<=k) {t:Tb} (ht:t.sm) (hT:t.ws) {s:ByteArray} (hs:s.size<1048577):t.ap (gy.f k) s=some ((kJ t s).1.RE (kJ t s).2):=by
 have e0:mM s=[]->kJ t s=(t,bK):=fun h=>by unfold kJ;rw[h]
 have e1: ∀w ws,mM s=w::ws->kJ t s=bif decide ((s.size:Int)>200) then (t,bK) else dD t (jk w) ws:=fun w ws h=>by unfold kJ;rw[h]
 cases hw:mM s with
 |nil=>
  rw[e0 hw]
  refine bS (fE.eq hk hs) ?_
  rw[hw]
  by_cases h2:(s.size:Int)>200
  ·exact bT (ae h2) (bN (ar.eq hk ht))
  ·exact bF (aC h2) (bT rfl (bN (ar.eq hk ht)))
 |cons w ws=>
  rw[e1 w ws hw]
  by_cases h2:(s.size:Int)>200
  ·rw[ae h2]
   refine bS (fE.eq hk hs) ?_
   exact bT (ae h2) (bN (ar.eq hk ht))
  ·rw[aC h2,an]
   have no:=fun {K} h=>sK.Qt (K:=K) hk ht hs hw h2 h
   have uf:=fun {K} h h'=>sK.XN (K:=K) hk ht hs hw h2 h h'
   have Y5:=fun {K ns l o} h h' hi hc=>sK.change (K:=K) (ns:=ns) (l:=l) (o:=o) hk ht hs hw h2 h h' hi hc
   have Qu:=fun {K ns l x} h h' hi hc=>sK.answer (K:=K) (ns:=ns) (l:=l) (x:=x) hk ht hs hw h2 h h' hi hc
   obtain ⟨a3,a4,a5,a6,a7,a8,a9⟩:=SU hk ht hT
   by_cases B8:w∈vF
   ·unfold vF at B8
    simp only[cL,cA,or_false] at B8
    rcases B8 with rfl|rfl|rfl|rfl|rfl|rfl|rfl|rfl|rfl|rfl|rfl|rfl|rfl|rfl|rfl|rfl|rfl|rfl|rfl
    ·have e:jk qw=0:=by decide+kernel
     rw[e]
     have sh:=(by kernel_rfl:dy.f k qw=some (ByteArray.empty,true))
     match ws,hw with
     | [],_=>exact Y5 (ns:=[]) (l:=[]) sh rfl ((.inl rfl)) (bO.new hk [])
     |_::_,_=>exact uf sh (gO (by rw[ab];exact Nat.succ_ne_zero _))
    ·have e:jk D1=1:=by decide+kernel
     rw[e]
     have sh:=(by kernel_rfl:dy.f k D1=some (ByteArray.empty,true))
     match ws,hw with
     | [],_=>exact Y5 (ns:=[]) (l:=[]) sh rfl ((.inr (.inr (.inr (.inl rfl))))) (bO.take hk ht [])
     |_::_,_=>exact uf sh (gO (by rw[ab];exact Nat.succ_ne_zero _))
    ·have e:jk D2=2:=by decide+kernel
     rw[e]
     have sh:=(by kernel_rfl:dy.f k D2=some (ByteArray.empty,true))
     match ws,hw with
     | [],_=>exact Y5 (ns:=[]) (l:=[]) sh rfl ((.inr (.inr (.inr (.inr (.inl rfl)))))) (bO.settle hk ht [])
     |_::_,_=>exact uf sh (gO (by rw[ab];exact Nat.succ_ne_zero _))
    ·have e:jk wY=3:=by decide+kernel
     rw[e]
     have sh:=(by kernel_rfl:dy.f k wY=some (ByteArray.empty,true))
     match ws,hw with
     | [],_=>exact Qu (ns:=[]) (l:=[]) sh rfl ⟨by decide,by decide,by decide,by decide,by decide,by decide⟩ (a3 [] [])
     |_::_,_=>exact uf sh (gO (by rw[ab];exact Nat.succ_ne_zero _))
    ·have e:jk uz=4:=by decide+kernel
     rw[e]
     have sh:=(by kernel_rfl:dy.f k uz=some (ByteArray.empty,true))
     match ws,hw with
     | [],_=>exact Qu (ns:=[]) (l:=[]) sh rfl ⟨by decide,by decide,by decide,by decide,by decide,by decide⟩ (a4 [] [])
     |_::_,_=>exact uf sh (gO (by rw[ab];exact Nat.succ_ne_zero _))
    ·have e:jk wZ=5:=by decide+kernel
     rw[e]
     have sh:=(by kernel_rfl:dy.f k wZ=some (ByteArray.empty,true))
     match ws,hw with
     | [],_=>exact Qu (ns:=[]) (l:=[]) sh rfl ⟨by decide,by decide,by decide,by decide,by decide,by decide⟩ (a5 [] [])
     |_::_,_=>exact uf sh (gO (by rw[ab];exact Nat.succ_ne_zero _))
    ·have e:jk w6=6:=by decide+kernel
     rw[e]
     have sh:=(by kernel_rfl:dy.f k w6=some (ByteArray.empty,true))
     match ws,hw with
     | [],_=>exact Qu (ns:=[]) (l:=[]) sh rfl ⟨by decide,by decide,by decide,by decide,by decide,by decide⟩ (a6 [] [])
     |_::_,_=>exact uf sh (gO (by rw[ab];exact Nat.succ_ne_zero _))
    ·have e:jk H3=7:=by decide+kernel
     rw[e]
     have sh:=(by kernel_rfl:dy.f k H3=some (ByteArray.empty,true))
     match ws,hw with
     | [],_=>exact Qu (ns:=[]) (l:=[]) sh rfl ⟨by decide,by decide,by decide,by decide,by decide,by decide⟩ (a7 [] [])
     |_::_,_=>exact uf sh (gO (by rw[ab];exact Nat.succ_ne_zero _))
    ·have e:jk H4=8:=by decide+kernel
     rw[e]
     have sh:=(by kernel_rfl:dy.f k H4=some (ByteArray.empty,true))
     match ws,hw with
     | [],_=>exact Qu (ns:=[]) (l:=[]) sh rfl ⟨by decide,by decide,by decide,by decide,by decide,by decide⟩ (a8 [] [])
     |_::_,_=>exact uf sh (gO (by rw[ab];exact Nat.succ_ne_zero _))
    ·have e:jk w7=9:=by decide+kernel
     rw[e]
     have sh:=(by kernel_rfl:dy.f k w7=some (ByteArray.empty,true))
     match ws,hw with
     | [],_=>exact Qu (ns:=[]) (l:=[]) sh rfl ⟨by decide,by decide,by decide,by decide,by decide,by decide⟩ (a9 [] [])
     |_::_,_=>exact uf sh (gO (by rw[ab];exact Nat.succ_ne_zero _))
    ·have e:jk B6=10:=by decide+kernel
     rw[e]
     have sh:=(by kernel_rfl:dy.f k B6=some (⟨#[78,78,78]⟩,true))
     match ws,hw with
     | [],_=>exact uf sh (gO (by decide))
     | [a],_=>exact uf sh (gO (by show 1≠3;decide))
     | [a,b],_=>exact uf sh (gO (by show 2≠3;decide))
     |a::b::c::d::r,_=>exact uf sh (gO (by rw[ab,ab,ab,ab];show _+1+1+1+1≠3;omega))
     | [a,b,c],hw=>
       have hc:dD t 10 [a,b,c] =bif nG [a,b,c] then qa t (tZ t (qt [a,b,c])) else (t,bK):=rfl
       rw[hc]
       have op:operands ⟨#[78,78,78]⟩ [a,b,c] =bif (bw a).2 then (bif (bw b).2 then (bif (bw c).2 then (qt [a,b,c],[],true) else ([],[],false)) else ([],[],false)) else ([],[],false):=rfl
       have en:nG [a,b,c] =((bw a).2&&((bw b).2&&((bw c).2&&true))):=rfl
       rw[en]
       cases ha:(bw a).2 with
       |false=>rw[ha] at op;exact uf sh (by rw[op];rfl)
       |true=>
        rw[ha] at op
        cases hb:(bw b).2 with
        |false=>rw[hb] at op;exact uf sh (by rw[op];rfl)
        |true=>
         rw[hb] at op
         cases hc:(bw c).2 with
         |false=>rw[hc] at op;exact uf sh (by rw[op];rfl)
         |true=>
          rw[hc] at op
          exact Y5 sh op ((.inr (.inl rfl))) (NG hk ht (by show 3<1000000;decide))
    ·have e:jk uA=11:=by decide+kernel
     rw[e]
     have sh:=(by kernel_rfl:dy.f k uA=some (⟨#[99]⟩,true))
     match ws,hw with
     | [],_=>exact uf sh (gO (by decide))
     |a::b::r,_=>exact uf sh (gO (by rw[ab,ab];show _+1+1≠1;omega))
     | [a],hw=>
       have hc:dD t 11 [a] =bif decide (cZ a>=0) then qa t (vG (iU t (cZ a))) else (t,bK):=rfl
       rw[hc]
       have op:operands ⟨#[99]⟩ [a] =bif decide (cZ a>=0) then ([cZ a],[],true) else ([],[],false):=rfl
       cases hb:decide (cZ a>=0) with
       |false=>rw[hb] at op;exact uf sh (by rw[op];rfl)
       |true=>
        rw[hb] at op
        exact Y5 sh op ((.inr (.inr (.inl rfl)))) (bO.acd hk ht (cZ a))
    ·have e:jk ri=12:=by decide+kernel
     rw[e]
     have sh:=(by kernel_rfl:dy.f k ri=some (PS,true))
     match ws,hw with
     | [],_=>exact uf sh (gO (by decide))
     |a::b::r,_=>exact uf sh (gO (by rw[ab,ab];show _+1+1≠1;omega))
     | [a],hw=>
       have hc:dD t 12 [a] =bif (bw a).2 then qa t (vG (o4 t (bw a).1)) else (t,bK):=rfl
       rw[hc]
       have op:operands PS [a] =bif (bw a).2 then ([(bw a).1],[],true) else ([],[],false):=rfl
       cases hb:(bw a).2 with
       |false=>rw[hb] at op;exact uf sh (by rw[op];rfl)
       |true=>
        rw[hb] at op
        exact Y5 sh op ((.inr (.inr (.inr (.inr (.inr rfl)))))) (bO.ace hk ht (bw a).1)
    ·have e:jk yJ=13:=by decide+kernel
     rw[e]
     have sh:=(by kernel_rfl:dy.f k yJ=some (PS,true))
     match ws,hw with
     | [],_=>exact uf sh (gO (by decide))
     |a::b::r,_=>exact uf sh (gO (by rw[ab,ab];show _+1+1≠1;omega))
     | [a],hw=>
       have hc:dD t 13 [a] =bif (bw a).2 then (t,ym t.g (bw a).1) else (t,bK):=rfl
       rw[hc]
       have op:operands PS [a] =bif (bw a).2 then ([(bw a).1],[],true) else ([],[],false):=rfl
       cases hb:(bw a).2 with
       |false=>rw[hb] at op;exact uf sh (by rw[op];rfl)
       |true=>
        rw[hb] at op
        exact Qu sh op ⟨by decide,by decide,by decide,by decide,by decide,by decide⟩ (SV hk ht (bw a).1 [])
    ·have e:jk yK=14:=by decide+kernel
     rw[e]
     have sh:=(by kernel_rfl:dy.f k yK=some (Jg,true))
     match ws,hw with
     | [],_=>exact uf sh (gO (by decide))
     |a::b::r,_=>exact uf sh (gO (by rw[ab,ab];show _+1+1≠1;omega))
     | [a],hw=>
       have hc:dD t 14 [a] =bif (aU a).2 then (t,kI (aU a).1 14) else (t,bK):=rfl
       rw[hc]
       have op:operands Jg [a] =bif (aU a).2 then ([],(aU a).1,true) else ([],[],false):=rfl
       cases hb:(aU a).2 with
       |false=>rw[hb] at op;exact uf sh (by rw[op];rfl)
       |true=>
        rw[hb] at op
        exact Qu sh op ⟨by decide,by decide,by decide,by decide,by decide,by decide⟩ ((yq hk (t:=t) (Nat.lt_of_le_of_lt (k9 a) (by decide))).1 [])
    ·have e:jk zK=15:=by decide+kernel
     rw[e]
     have sh:=(by kernel_rfl:dy.f k zK=some (Jg,true))
     match ws,hw with
     | [],_=>exact uf sh (gO (by decide))
     |a::b::r,_=>exact uf sh (gO (by rw[ab,ab];show _+1+1≠1;omega))
     | [a],hw=>
       have hc:dD t 15 [a] =bif (aU a).2 then (t,kI (aU a).1 15) else (t,bK):=rfl
       rw[hc]
       have op:operands Jg [a] =bif (aU a).2 then ([],(aU a).1,true) else ([],[],false):=rfl
       cases hb:(aU a).2 with
       |false=>rw[hb] at op;exact uf sh (by rw[op];rfl)
       |true=>
        rw[hb] at op
        exact Qu sh op ⟨by decide,by decide,by decide,by decide,by decide,by decide⟩ ((yq hk (t:=t) (Nat.lt_of_le_of_lt (k9 a) (by decide))).2.1 [])
    ·have e:jk zL=16:=by decide+kernel
     rw[e]
     have sh:=(by kernel_rfl:dy.f k zL=some (Jg,true))
     match ws,hw with
     | [],_=>exact uf sh (gO (by decide))
     |a::b::r,_=>exact uf sh (gO (by rw[ab,ab];show _+1+1≠1;omega))
     | [a],hw=>
       have hc:dD t 16 [a] =bif (aU a).2 then (t,kI (aU a).1 16) else (t,bK):=rfl
       rw[hc]
       have op:operands Jg [a] =bif (aU a).2 then ([],(aU a).1,true) else ([],[],false):=rfl
       cases hb:(aU a).2 with
       |false=>rw[hb] at op;exact uf sh (by rw[op];rfl)
       |true=>
        rw[hb] at op
        exact Qu sh op ⟨by decide,by decide,by decide,by decide,by decide,by decide⟩ ((yq hk (t:=t) (Nat.lt_of_le_of_lt (k9 a) (by decide))).2.2.1 [])
    ·have e:jk zM=17:=by decide+kernel
     rw[e]
     have sh:=(by kernel_rfl:dy.f k zM=some (⟨#[112]⟩,true))
     match ws,hw with
     | [],_=>exact uf sh (gO (by decide))
     |a::b::r,_=>exact uf sh (gO (by rw[ab,ab];show _+1+1≠1;omega))
     | [a],hw=>
       have hc:dD t 17 [a] =bif (gI a).2 then (t,kI (gI a).1 17) else (t,bK):=rfl
       rw[hc]
       have op:operands ⟨#[112]⟩ [a] =bif (gI a).2 then ([],(gI a).1,true) else ([],[],false):=rfl
       cases hb:(gI a).2 with
       |false=>rw[hb] at op;exact uf sh (by rw[op];rfl)
       |true=>
        rw[hb] at op
        exact Qu sh op ⟨by decide,by decide,by decide,by decide,by decide,by decide⟩ ((yq hk (t:=t) (AY a)).2.2.2 [])
    ·have e:jk Ax=18:=by decide+kernel
     rw[e]
     have sh:=(by kernel_rfl:dy.f k Ax=some (⟨#[104,78]⟩,true))
     match ws,hw with
     | [],_=>exact uf sh (gO (by decide))
     | [a],_=>exact uf sh (gO (by show 1≠2;decide))
     |a::b::c::r,_=>exact uf sh (gO (by rw[ab,ab,ab];show _+1+1+1≠2;omega))
     | [a,b],hw=>
       have hc:dD t 18 [a,b] =bif (aU a).2&&(bw b).2 then (t,iM (nB (aU a).1 (bw b).1)) else (t,bK):=rfl
       rw[hc]
       have op:operands ⟨#[104,78]⟩ [a,b] =bif (aU a).2 then (bif (bw b).2 then ([(bw b).1],(aU a).1,true) else ([],[],false)) else ([],[],false):=rfl
       cases hb:(aU a).2 with
       |false=>rw[hb] at op;exact uf sh (by rw[op];rfl)
       |true=>
        rw[hb] at op
        cases Cd:(bw b).2 with
        |false=>rw[Cd] at op;exact uf sh (by rw[op];rfl)
        |true=>
         rw[Cd] at op
         exact Qu sh op ⟨by decide,by decide,by decide,by decide,by decide,by decide⟩ (Qs hk (t:=t) (Nat.lt_of_le_of_lt (k9 a) (by decide)) (bw b).1)
   ·rw[Dq B8,Dr]
    exact no (HD k B8)
theorem qE {Pr:Tb->Prop} {t:Tb} {o:Option Tb} (h:Pr t) (ho: ∀u,o=some u->Pr u):Pr (qa t o).1:=by
 cases o with
 |none=>exact h
 |some u=>exact ho u rfl
theorem yr {Pr:Tb->Prop} {p:Tb×Bool} (h:Pr p.1): ∀u,vG p=some u->Pr u:=fun u e=>by
 unfold vG at e
 cases hb:p.2 with
 |true=>rw[hb] at e;cases e;exact h
 |false=>rw[hb] at e;cases e
theorem qN {Pr:Tb->Prop} {b:Bool} {x y:Tb×ByteArray} (h1:Pr x.1) (h2:Pr y.1):Pr (bif b then x else y).1:=by cases b<;>assumption
theorem L2 {Pr:Tb->Prop} {t:Tb} (h:Pr t) (hf:Pr sD) (hm: ∀m,Pr (gU t m).1) (hs:Pr (hU t).1) (hp: ∀c,Pr (iU t c).1) (hb: ∀ns u,tZ t ns=some u->Pr u) (i:Nat) (ws:List ByteArray):Pr (dD t i ws).1:=by
 unfold dD
 split
 ·exact qE h fun u e=>by cases e;exact hf
 ·exact qE h (yr (hm (-1)))
 ·exact qE h (yr hs)
 ·exact h
 ·exact h
 ·exact h
 ·exact h
 ·exact h
 ·exact h
 ·exact h
 ·exact qN (qE h (hb _)) h
 ·exact qN (qE h (yr (hp _))) h
 ·refine qN (qE h (yr ?_)) h
  unfold o4
  cases (choice t.g _ != -1) with
  |true=>exact hp _
  |false=>exact hm (-1)
 ·exact qN h h
 ·exact qN h h
 ·exact qN h h
 ·exact qN h h
 ·exact qN h h
 ·exact qN h h
 ·exact h
theorem Bk {Pr:Tb->Prop} {t:Tb} (h:Pr t) (hf:Pr sD) (hm: ∀m,Pr (gU t m).1) (hs:Pr (hU t).1) (hp: ∀c,Pr (iU t c).1) (hb: ∀ns u,tZ t ns=some u->Pr u) (s:ByteArray):Pr (kJ t s).1:=by
 unfold kJ
 split
 ·exact h
 ·exact qN h (L2 h hf hm hs hp hb _ _)
theorem Fz {t:Tb} (h:t.sm) (s:ByteArray):(kJ t s).1.sm:=Bk (Pr:=Tb.sm) h Qk (fun m=>xk h m) (zi h) (fun c=>Db h c) (fun ns u e=>Ix _ h e) s
def tH (z x:Tb):Prop:=jb x=true\/x=z
theorem qF {z t u:Tb} {ok:Bool} (h:tH z t):tH z (done t u ok).1:=by
 unfold done
 cases hc:(ok&&jb t&&jb u) with
 |false=>exact h
 |true=>exact .inl (Bool.and_eq_true_iff.1 hc).2
theorem zq {z t:Tb} (h:tH z t) (c:Int):tH z (iU t c).1:=by
 unfold iU
 cases bI c with
 |true=>exact qF h
 |false=>exact h
theorem Ea {z t:Tb} (h:tH z t) (a b:Int) (ss bs:List Int):tH z (iW t a b ss bs).1:=by
 unfold iW
 cases (a==1) with
 |true=>exact qF h
 |false=>
  cases (a==2) with
  |true=>exact qF h
  |false=>
   cases (a==3) with
   |true=>exact zq h b
   |false=>
    cases (a==4) with
    |true=>exact qF h
    |false=>
     cases (a==5) with
     |true=>exact qF h
     |false=>exact h
theorem Ds {z:Tb}: ∀(l:List (List iQ)) {t u:Tb},tH z t->pZ l t=some u->tH z u
 | [],t,u,h,e=>by cases e;exact h
 |e::l,t,u,h,e1=>by
  unfold pZ at e1
  cases hb:(iW t (gi e 0) (gi e 1) (gl e 2) (gl e 3)).2 with
  |true=>rw[hb] at e1;exact Ds l (Ea h ..) e1
  |false=>rw[hb] at e1;cases e1
theorem JX:jb sD=true:=by
 unfold jb lF sD
 rw[show qZ.ok=true from Fg,aC (by show ¬((([]:List Int).length:Int)>qZ.n);decide)]
 decide+kernel
theorem Bl {z t:Tb} (h:tH z t) (s:ByteArray):tH z (kJ t s).1:=Bk (Pr:=tH z) h (.inl JX) (fun m=>qF h) (qF h) (fun c=>zq h c) (fun ns u e=>Ds _ h e) s
theorem L3 {t:Tb} (h:jb t=true):t.jJ.length<=50/\(∀y∈t.jJ,y.length<=6)/\t.ws:=by
 have h3:=(vt h).2.2.1
 have hr:=fun {r}=>Hu (r:=r) h3
 unfold lF at h3
 simp only[ay,dH] at h3
 refine ⟨by have:=h3.1.2;omega,fun y hy=>by have:=hr hy;omega,fun y hy n hn=> ?_⟩
 have h4:=List.all_eq_true.1 h3.2 y hy
 unfold nJ ES at h4
 simp only[ay] at h4
 have h5:=ja.1 (List.all_eq_true.1 h4.1.2 n hn)
 exact qx ⟨by omega,by omega⟩
def Dt:Tb:=⟨⟨0,0,false,false,[],[],0,0⟩,[],false,[],Da,[],[]⟩
theorem L4:Dt.sm:=⟨⟨by decide,by decide⟩,by show ([]:List Int).length<_;simp,by show ([]:List Int).length<_;simp,xi,by show ([]:List Int).length<_;simp,by show ([]:List (List Int)).length<_;simp,fun y hy=>by cases hy⟩
theorem FC {t:Tb} (h:tH Dt t):t.jJ.length<=50/\(∀y∈t.jJ,y.length<=6)/\t.ws/\t.rd.length<=400:=by
 rcases h with h|rfl
 ·obtain ⟨h1,h2,h3⟩:=L3 h
  exact ⟨h1,h2,h3,by have:=(vt h).2.2.2.1;omega⟩
 ·exact ⟨Nat.zero_le _,(fun y hy=>by cases hy),(fun y hy=>by cases hy),Nat.zero_le _⟩
theorem FE {R:Type} {a b:Bool} {X Y:R} (h:a=false\/b=false):(bif a then (bif b then X else Y) else Y)=Y:=by
 rcases h with rfl|rfl
 ·rfl
 ·cases a<;>rfl
theorem kt {k:Nat} {t:Tb} {w:ByteArray} (h:w≠wY/\w≠uz/\w≠wZ/\w≠w6/\w≠H3/\w≠H4/\w≠w7):t.ap (jB.f k) w=some bK:=by
 obtain ⟨h1,h2,h3,h4,h5,h6,h7⟩:=h
 exact bF (bB h1) (bF (bB h2) (bF (bB h3) (bF (bB h4) (bF (bB h5) (bF (bB h6) (br (bB h7)))))))
theorem SW {k:Nat} (hk:cy<=k) {t:Tb} (h:t.sm) (hw:t.ws):
 (t.ap (jB.f k) wY=some (kr t 3))/\(t.ap (jB.f k) uz=some (kr t 4))/\(t.ap (jB.f k) wZ=some (kr t 5))/\(t.ap (jB.f k) w6=some (kr t 6))/\(t.ap (jB.f k) H3=some (kr t 7))/\(t.ap (jB.f k) H4=some (kr t 8))/\(t.ap (jB.f k) w7=some (kr t 9)):=by
 have hg:=h.2.2.2.1
 have hp:(cv t.g).length<1048577:=by have:=ov t.g;omega
 refine ⟨?_,?_,?_,?_,?_,?_,?_⟩
 ·exact bT (kB wY) (bS (ln.eq hk h.1) (bN (jt.eq ..)))
 ·exact bF (bB (w:=uz) (x:=wY) (by decide)) (bT (kB uz) (bN (kf.eq hk h)))
 ·exact bF (bB (w:=wZ) (x:=wY) (by decide)) (bF (bB (w:=wZ) (x:=uz) (by decide)) (bT (kB wZ) (bS (fQ.eq hk hg) (bN (jt.eq ..)))))
 ·exact bF (bB (w:=w6) (x:=wY) (by decide)) (bF (bB (w:=w6) (x:=uz) (by decide)) (bF (bB (w:=w6) (x:=wZ) (by decide)) (bT (kB w6) (bS (eB.eq hk hg) (bN (c_.eq hk hp))))))
 ·exact bF (bB (w:=H3) (x:=wY) (by decide)) (bF (bB (w:=H3) (x:=uz) (by decide)) (bF (bB (w:=H3) (x:=wZ) (by decide)) (bF (bB (w:=H3) (x:=w6) (by decide)) (bT (kB H3) (bN (gw.eq hk h.2.2.2.2.1))))))
 ·exact bF (bB (w:=H4) (x:=wY) (by decide)) (bF (bB (w:=H4) (x:=uz) (by decide)) (bF (bB (w:=H4) (x:=wZ) (by decide)) (bF (bB (w:=H4) (x:=w6) (by decide)) (bF (bB (w:=H4) (x:=H3) (by decide)) (bT (kB H4) (bS (e9.eq hk h.2.2.2.2.2.1 h.2.2.2.2.2.2 hw) (bN (jt.eq ..))))))))
 ·refine bF (bB (w:=w7) (x:=wY) (by decide)) (bF (bB (w:=w7) (x:=uz) (by decide)) (bF (bB (w:=w7) (x:=wZ) (by decide)) (bF (bB (w:=w7) (x:=w6) (by decide)) (bF (bB (w:=w7) (x:=H3) (by decide)) (bF (bB (w:=w7) (x:=H4) (by decide)) (bT (kB w7) (bS (nk.eq hk h) ?_)))))))
  show _=some (qM (vN t) okB)
  unfold qM
  cases (vN t).toList==ByteArray.empty.toList<;>rfl
section
variable {k:Nat} (hk:cy<=k)
include hk
theorem vP {w a:ByteArray} {r:List ByteArray} {v:List Int} {ok:Bool} (ha:a.size<1048577) (hv:de.f k r=some (v,ok)) (h:(aU a).2=false\/ok=false):cN.j3 k (w::a::r)=some bK:=by
 refine (br (aC (by rw[ab,ab];omega))).trans ((bW (ae (by rw[ab,ab];omega))).trans ((bN (eO.eq hk ha)).trans ((bW (ae (by rw[ab,ab];omega))).trans ((bN hv).trans ?_))))
 cases hb:(aU a).2 with
 |false=>exact jV rfl
 |true=>
  rcases h with h|rfl
  ·rw[hb] at h;cases h
  ·exact (br rfl).trans (jV rfl)
theorem Bm {w a:ByteArray} {r:List ByteArray} {v:List Int} (ha:a.size<1048577) (hv:de.f k r=some (v,true)) (hb:(aU a).2=true) {X:Option ByteArray} (hX:(bY (decide (0<((w::a::r).length:Int)))<|
 bif (((w::a::r).getD 0 ByteArray.empty).toList==yK.toList) then
  bif ((v.length:Int)==0) then
   (aW.f k (aU a).1).bind fun r3=>
   (e7.f k r3).bind fun r4=>
   some r4
  else
   cN.j2 k (w::a::r) (v,true) (aU a)
 else
  cN.j2 k (w::a::r) (v,true) (aU a))=X):cN.j3 k (w::a::r)=X:=
 bF (aC (by rw[ab,ab];omega)) (cT (ae (by rw[ab,ab];omega)) (bS (eO.eq hk ha) (cT (ae (by rw[ab,ab];omega)) (bS hv (bF (by show (!(aU a).2)=false;rw[hb];rfl) (bF rfl hX))))))
theorem mN (w:ByteArray) (ws:List ByteArray):decide (0<((w::ws).length:Int))=true:=ae (by rw[ab];omega)
theorem Qv {w:ByteArray} {ws:List ByteArray} (hs: ∀x∈ws,x.size<1048577) (hl:ws.length<1048577) (h0:w=zM->ws.length≠1) (h1:w=yK->ws.length≠1) (h2:w=zK->ws.length≠1) (h3:w=zL->ws.length≠1) (h4:w=Ax->ws.length≠2):cN.f k (w::ws)=some bK:=by
 have XO: ∀ {x:ByteArray} {n:Nat} {m:Int},(w=x->ws.length≠n)->m=(ws.length:Int)-(n:Int)->((w.toList==x.toList)=false\/(m==0)=false):=fun {x n m} h hm=>by
  by_cases e:w=x
  ·right;have:=h e;rw[hm];simp;omega
  ·left;exact bB e
 refine cT (mN hk w ws) ((FE ?_).trans ?_)
 ·by_cases e:w=zM
  ·right;have:=h0 e;rw[ab];simp;omega
  ·left;exact bB e
 ·match ws,hs,hl,h0,h1,h2,h3,h4 with
  | [],_,_,_,_,_,_,_=>exact jV rfl
  |a::r,hs,hl,h0,h1,h2,h3,h4=>
   have ha:=hs a (by simp)
   obtain ⟨v,hv,zc⟩:=de.eq hk (ws:=r) (by rw[ab] at hl;omega) (fun x hx=>hs x (List.mem_cons_of_mem _ hx))
   cases zk:nG r with
   |false=>rw[zk] at hv;exact vP hk ha hv (.inr rfl)
   |true=>
    rw[zk] at hv
    have Vf:v.length=r.length:=by rw[zc zk];unfold qt;rw[ca]
    cases hb:(aU a).2 with
    |false=>exact vP hk ha hv (.inl hb)
    |true=>
     have t1: ∀ {x:ByteArray},(w=x->(a::r).length≠1)->((w.toList==x.toList)=false\/((v.length:Int)==0)=false):=fun {x} h=>by
      by_cases e:w=x
      ·right;have:=h e;rw[ab] at this;simp;intro hh;rw[hh] at Vf;simp at Vf;omega
      ·left;exact bB e
     have t2: ∀ {x:ByteArray},(w=x->(a::r).length≠2)->((w.toList==x.toList)=false\/((v.length:Int)==1)=false):=fun {x} h=>by
      by_cases e:w=x
      ·right;have:=h e;rw[ab] at this;simp;omega
      ·left;exact bB e
     refine Bm hk ha hv hb (cT (mN hk w (a::r)) ((FE (t1 h1)).trans (cT (mN hk w (a::r)) ((FE (t1 h2)).trans (cT (mN hk w (a::r)) ((FE (t1 h3)).trans (cT (mN hk w (a::r)) ?_)))))))
     exact FE (t2 h4)
theorem qb:de.f k [] =some ([],true):=by
 obtain ⟨v,hv,zc⟩:=de.eq hk (ws:=[]) (by decide) (fun x hx=>by cases hx)
 rw[zc rfl] at hv
 exact hv
theorem NR {a:ByteArray} (ha:a.size<1048577):cN.f k [zM,a] =some (bif (gI a).2 then kI (gI a).1 17 else bK):=by
 have hs:=Bi (gI a).1
 refine (bW rfl).trans ((jV (kB _)).trans ((jV rfl).trans ((bW rfl).trans ((bN (iZ.eq hk ha)).trans ?_))))
 cases (gI a).2 with
 |false=>exact jV rfl
 |true=>exact (br rfl).trans ((bN (iF.eq hk (AY a))).trans ((bN (aT.eq hk (qx ⟨by omega,by omega⟩))).trans rfl))
theorem NS {a:ByteArray} (ha:a.size<1048577):cN.f k [yK,a] =some (bif (aU a).2 then kI (aU a).1 14 else bK):=by
 have hl:(aU a).1.length<1048577:=Nat.lt_of_le_of_lt (k9 a) (by decide)
 have hm:=pC (aU a).1
 have Uw: ∀y∈lG (aU a).1,y.length<1048577:=fun y hy=>by have:=pz hy;omega
 have ho:=rI (aU a).1
 refine cT rfl (bF (bB (w:=yK) (x:=zM) (by decide)) ?_)
 cases hb:(aU a).2 with
 |false=>exact vP hk ha (qb hk) (.inl hb)
 |true=>
  refine Bm hk ha (qb hk) hb (cT rfl ?_)
  exact bT (kB yK) (bT rfl (bS (aW.eq hk hl) (bS (e7.eq hk (by omega) Uw) rfl)))
theorem Qw {a:ByteArray} (ha:a.size<1048577):cN.f k [zK,a] =some (bif (aU a).2 then kI (aU a).1 15 else bK):=by
 have hl:(aU a).1.length<1048577:=Nat.lt_of_le_of_lt (k9 a) (by decide)
 have hm:=pC (aU a).1
 have Uw: ∀y∈lG (aU a).1,y.length<1048577:=fun y hy=>by have:=pz hy;omega
 have ho:=rI (aU a).1
 refine cT rfl (bF (bB (w:=zK) (x:=zM) (by decide)) ?_)
 cases hb:(aU a).2 with
 |false=>exact vP hk ha (qb hk) (.inl hb)
 |true=>
  refine Bm hk ha (qb hk) hb (cT rfl ?_)
  exact bF (bB (w:=zK) (x:=yK) (by decide)) (cT rfl (bT (kB zK) (bT rfl (bS (my.eq hk hl) (bS (aT.eq hk (qx ⟨by omega,by omega⟩)) rfl)))))
theorem Qx {a:ByteArray} (ha:a.size<1048577):cN.f k [zL,a] =some (bif (aU a).2 then kI (aU a).1 16 else bK):=by
 have hl:(aU a).1.length<1048577:=Nat.lt_of_le_of_lt (k9 a) (by decide)
 have hm:=pC (aU a).1
 have Uw: ∀y∈lG (aU a).1,y.length<1048577:=fun y hy=>by have:=pz hy;omega
 have ho:=rI (aU a).1
 refine cT rfl (bF (bB (w:=zL) (x:=zM) (by decide)) ?_)
 cases hb:(aU a).2 with
 |false=>exact vP hk ha (qb hk) (.inl hb)
 |true=>
  refine Bm hk ha (qb hk) hb (cT rfl ?_)
  exact bF (bB (w:=zL) (x:=yK) (by decide)) (cT rfl (bF (bB (w:=zL) (x:=zK) (by decide)) (cT rfl (bT (kB zL) (bT rfl (bS (li.eq hk hl) rfl))))))
theorem Qy {a b:ByteArray} (ha:a.size<1048577) (K4:b.size<1048577):cN.f k [Ax,a,b] =some (bif (aU a).2&&(bw b).2 then iM (nB (aU a).1 (bw b).1) else bK):=by
 have hl:(aU a).1.length<1048577:=Nat.lt_of_le_of_lt (k9 a) (by decide)
 have hr:=Bg hl (bw b).1
 obtain ⟨v,hv,zc⟩:=de.eq hk (ws:=[b]) (by show 1<1048577;decide) (fun x hx=>by rw[List.mem_singleton.1 hx];exact K4)
 have en:nG [b] =((bw b).2&&true):=rfl
 rw[en,Bool.and_true] at hv zc
 refine cT rfl (bF (bB (w:=Ax) (x:=zM) (by decide)) ?_)
 cases hb:(aU a).2 with
 |false=>exact vP hk ha hv (.inl hb)
 |true=>
  cases Cd:(bw b).2 with
  |false=>rw[Cd] at hv;exact vP hk ha hv (.inr rfl)
  |true=>
   rw[Cd] at hv zc
   rw[zc rfl] at hv
   refine Bm hk ha hv hb (cT rfl ?_)
   exact bF (bB (w:=Ax) (x:=yK) (by decide)) (cT rfl (bF (bB (w:=Ax) (x:=zK) (by decide)) (cT rfl (bF (bB (w:=Ax) (x:=zL) (by decide)) (cT rfl (bT (kB Ax) (bT rfl (cT rfl (bS (iH.eq hk hl (bw b).1) (bS (aT.eq hk (qx ⟨by omega,by omega⟩)) rfl))))))))))
variable {t:Tb} (ht:t.sm) (hT:t.ws)
include ht
theorem JY:t.ap (az.j0 k)=some (t.RE bK):=bN (bm.eq hk ht)
theorem vQ (p:Tb×Bool):t.ap (az.j1 k) (p.1.wF p.2)=some ((qa t (vG p)).1.RE (qa t (vG p)).2):=by
 obtain ⟨u,b⟩:=p
 cases b with
 |true=>exact bN (a:=u.RE okB) rfl
 |false=>exact bN (a:=t.RE noW) (bT rfl (bN (bm.eq hk ht)))
theorem Bn {r:List ByteArray} {x:ByteArray} (h:cN.f k r=some x):t.ap (az.j3 k) r=some (t.RE x):=bS (bm.eq hk ht) (bS h rfl)
variable {s:ByteArray} (hs:s.size<1048577) {w:ByteArray} {ws:List ByteArray} (hw:mM s=w::ws) (h2: ¬((s.size:Int)>200))
include hs hw h2
theorem sL (hp:w=uA->ws.length≠1):t.ap (az.f k) s=t.ap (az.j10 k) (w::ws):=by
 refine bS (dY.eq hk hs) ?_
 rw[hw]
 refine bF (by rw[ab];simp;omega) (bF (aC h2) ?_)
 by_cases e:w=uA
 ·exact br (by have:=hp e;rw[ab];simp;omega)
 ·cases hl:(((w::ws).length:Int)==2) with
  |false=>exact br rfl
  |true=>exact bT rfl (cT (mN hk w ws) (br (bB e)))
theorem vR {v:List Int} {ok:Bool} (hv:de.f k ws=some (v,ok)) {X:Option (Int×Int×Bool×Bool×List Int×List Int×Int×Int×List Int×Bool×List Int×Int×Int×Bool×Bool×List Int×List Int×Int×Int×List (List Int)×List Int×List Int×Int×Int×Int×List Int×List (List Int)×ByteArray)} (hX:(bif (!ok) then t.ap (az.j3 k) (w::ws) else
 bY (decide (0<((w::ws).length:Int)))<|
 bif (((w::ws).getD 0 ByteArray.empty).toList==qw.toList) then
  bif ((v.length:Int)==0) then
   (lh.f k).bind fun r3=>
   (nC.f k r3.1 r3.2.1 (t2 r3).1 (t3 r3).1 (t4 r3).1 (t5 r3).1 (t6 r3).1 (t7 r3)).bind fun r4=>
   t.ap (az.j1 k) r4
  else
   t.ap (az.j9 k) (w::ws) (v,ok)
 else
  t.ap (az.j9 k) (w::ws) (v,ok))=X):t.ap (az.j10 k) (w::ws)=X:=by
 refine cT (bA ae ae) (cT (ae (by rw[ab];omega)) ?_)
 rw[Eu]
 exact bS hv hX
theorem Qz {x y:ByteArray} (hp:w=uA->ws.length≠1) (f0:w=qw->ws.length≠0) (f1:w=B6->ws.length≠3) (f2:w=D1->ws.length≠0) (f3:w=D2->ws.length≠0) (f4:w=ri->ws.length≠1) (f5:w=yJ->ws.length≠1) (hx:ws=[]->t.ap (jB.f k) w=some x) (hy:ws≠[]->cN.f k (w::ws)=some x):t.ap (az.f k) s=some (t.RE x):=by
 obtain ⟨q1,q2⟩:=Bj hk ht hs hw h2
 obtain ⟨v,hv,zc⟩:=de.eq hk q1 q2
 refine (sL hk ht hs hw h2 hp).trans (vR hk ht hs hw h2 hv ?_)
 cases zk:nG ws with
 |false=>
  have nL:ws≠[]:=fun e=>by rw[e] at zk;cases zk
  exact bT rfl (Bn hk ht (hy nL))
 |true=>
  have Vf:v.length=ws.length:=by rw[zc zk];unfold qt;rw[ca]
  have XO: ∀ {x:ByteArray} {n:Nat},(w=x->ws.length≠n)->((w.toList==x.toList)=false\/((v.length:Int)==(n:Int))=false):=fun {x n} h=>by
   by_cases e:w=x
   ·right;have:=h e;simp;omega
   ·left;exact bB e
  have c:=mN hk w ws
  refine bF rfl (cT c ((FE (XO f0)).trans (cT c ((FE (XO f1)).trans (cT c ((FE (XO f2)).trans (cT c ((FE (XO f3)).trans (cT c ((FE (XO f4)).trans (cT c ((FE (XO f5)).trans ?_))))))))))))
  cases hl:((v.length:Int)==0) with
  |true=>
   have he:ws=[]:=List.length_eq_zero_iff.1 (by have:=aE hl;omega)
   exact bT hl (bS (bm.eq hk ht) (cT c (bS (hx he) rfl)))
  |false=>
   have nL:ws≠[]:=fun e=>(beq_eq_false_iff_ne.1 hl) (by rw[Vf,e];rfl)
   exact bF hl (Bn hk ht (hy nL))
end
theorem az.eq {k:Nat} (hk:cy<=k) {t:Tb} (ht:t.sm) (hT:t.ws) {s:ByteArray} (hs:s.size<1048577):t.ap (az.f k) s=some ((kJ t s).1.RE (kJ t s).2):=by
 have e0:mM s=[]->kJ t s=(t,bK):=fun h=>by unfold kJ;rw[h]
 have e1: ∀w ws,mM s=w::ws->kJ t s=bif decide ((s.size:Int)>200) then (t,bK) else dD t (jk w) ws:=fun w ws h=>by unfold kJ;rw[h]
 cases hw:mM s with
 |nil=>
  rw[e0 hw]
  refine bS (dY.eq hk hs) ?_
  rw[hw]
  exact bT rfl (JY hk ht)
 |cons w ws=>
  rw[e1 w ws hw]
  by_cases h2:(s.size:Int)>200
  ·rw[ae h2]
   refine bS (dY.eq hk hs) ?_
   rw[hw]
   exact bF (by rw[ab];simp;omega) (bT (ae h2) (JY hk ht))
  ·rw[aC h2,an]
   obtain ⟨q1,q2⟩:=Bj hk ht hs hw h2
   obtain ⟨a3,a4,a5,a6,a7,a8,a9⟩:=SW hk ht hT
   have dC:= @Qz k hk t ht s hs w ws hw h2
   have cr:=fun h0 h1 h2 h3 h4=>Qv hk (w:=w) (ws:=ws) q2 q1 h0 h1 h2 h3 h4
   by_cases B8:w∈vF
   ·unfold vF at B8
    simp only[cL,cA,or_false] at B8
    rcases B8 with rfl|rfl|rfl|rfl|rfl|rfl|rfl|rfl|rfl|rfl|rfl|rfl|rfl|rfl|rfl|rfl|rfl|rfl|rfl
    ·have e:jk qw=0:=by decide+kernel
     rw[e]
     match ws,hw,q1,q2,@dC,cr with
     | [],hw,q1,q2,dC,cr=>
       have cp:=mN hk qw []
       refine (sL hk ht hs hw h2 bg).trans (vR hk ht hs hw h2 (qb hk) (bF rfl (cT cp ?_)))
       exact bT (kB qw) (bT rfl (bS (a:=qZ.tp) rfl (bS (SG hk) (vQ hk ht (sD,true)))))
     |a::r,hw,q1,q2,dC,cr=>
      have hc:dD t 0 (a::r)=(t,bK):=rfl
      rw[hc]
      exact dC (y:=bK) bg (fun _=>(by rw[ab];show _+1≠0;omega)) bg bg bg bg bg (fun h=>absurd h (List.cons_ne_nil _ _)) (fun _=>(cr bg bg bg bg bg))
    ·have e:jk D1=1:=by decide+kernel
     rw[e]
     match ws,hw,q1,q2,@dC,cr with
     | [],hw,q1,q2,dC,cr=>
       have cp:=mN hk D1 []
       refine (sL hk ht hs hw h2 bg).trans (vR hk ht hs hw h2 (qb hk) (bF rfl (cT cp ?_)))
       have he:=gZ.eq hk ht
       have hc:dD t 1 [] =qa t (vG (gU t (-1))):=rfl
       rw[hc]
       generalize gU t (-1)=p at he
       exact bF (bB (w:=D1) (x:=qw) (by decide)) (cT cp (bF (bB (w:=D1) (x:=B6) (by decide)) (cT cp (bT (kB D1) (bT rfl (bS he (vQ hk ht p)))))))
     |a::r,hw,q1,q2,dC,cr=>
      have hc:dD t 1 (a::r)=(t,bK):=rfl
      rw[hc]
      exact dC (y:=bK) bg bg bg (fun _=>(by rw[ab];show _+1≠0;omega)) bg bg bg (fun h=>absurd h (List.cons_ne_nil _ _)) (fun _=>(cr bg bg bg bg bg))
    ·have e:jk D2=2:=by decide+kernel
     rw[e]
     match ws,hw,q1,q2,@dC,cr with
     | [],hw,q1,q2,dC,cr=>
       have cp:=mN hk D2 []
       refine (sL hk ht hs hw h2 bg).trans (vR hk ht hs hw h2 (qb hk) (bF rfl (cT cp ?_)))
       have he:=iI.eq hk ht
       have hc:dD t 2 [] =qa t (vG (hU t)):=rfl
       rw[hc]
       generalize hU t=p at he
       exact bF (bB (w:=D2) (x:=qw) (by decide)) (cT cp (bF (bB (w:=D2) (x:=B6) (by decide)) (cT cp (bF (bB (w:=D2) (x:=D1) (by decide)) (cT cp (bT (kB D2) (bT rfl (bS he (vQ hk ht p)))))))))
     |a::r,hw,q1,q2,dC,cr=>
      have hc:dD t 2 (a::r)=(t,bK):=rfl
      rw[hc]
      exact dC (y:=bK) bg bg bg bg (fun _=>(by rw[ab];show _+1≠0;omega)) bg bg (fun h=>absurd h (List.cons_ne_nil _ _)) (fun _=>(cr bg bg bg bg bg))
    ·have e:jk wY=3:=by decide+kernel
     rw[e]
     match ws,hw,q1,q2,@dC,cr with
     | [],hw,q1,q2,dC,cr=>
       exact dC (y:=bK) bg bg bg bg bg bg bg (fun _=>a3) (fun h=>absurd rfl h)
     |a::r,hw,q1,q2,dC,cr=>
      have hc:dD t 3 (a::r)=(t,bK):=rfl
      rw[hc]
      exact dC (y:=bK) bg bg bg bg bg bg bg (fun h=>absurd h (List.cons_ne_nil _ _)) (fun _=>(cr bg bg bg bg bg))
    ·have e:jk uz=4:=by decide+kernel
     rw[e]
     match ws,hw,q1,q2,@dC,cr with
     | [],hw,q1,q2,dC,cr=>
       exact dC (y:=bK) bg bg bg bg bg bg bg (fun _=>a4) (fun h=>absurd rfl h)
     |a::r,hw,q1,q2,dC,cr=>
      have hc:dD t 4 (a::r)=(t,bK):=rfl
      rw[hc]
      exact dC (y:=bK) bg bg bg bg bg bg bg (fun h=>absurd h (List.cons_ne_nil _ _)) (fun _=>(cr bg bg bg bg bg))
    ·have e:jk wZ=5:=by decide+kernel
     rw[e]
     match ws,hw,q1,q2,@dC,cr with
     | [],hw,q1,q2,dC,cr=>
       exact dC (y:=bK) bg bg bg bg bg bg bg (fun _=>a5) (fun h=>absurd rfl h)
     |a::r,hw,q1,q2,dC,cr=>
      have hc:dD t 5 (a::r)=(t,bK):=rfl
      rw[hc]
      exact dC (y:=bK) bg bg bg bg bg bg bg (fun h=>absurd h (List.cons_ne_nil _ _)) (fun _=>(cr bg bg bg bg bg))
    ·have e:jk w6=6:=by decide+kernel
     rw[e]
     match ws,hw,q1,q2,@dC,cr with
     | [],hw,q1,q2,dC,cr=>
       exact dC (y:=bK) bg bg bg bg bg bg bg (fun _=>a6) (fun h=>absurd rfl h)
     |a::r,hw,q1,q2,dC,cr=>
      have hc:dD t 6 (a::r)=(t,bK):=rfl
      rw[hc]
      exact dC (y:=bK) bg bg bg bg bg bg bg (fun h=>absurd h (List.cons_ne_nil _ _)) (fun _=>(cr bg bg bg bg bg))
    ·have e:jk H3=7:=by decide+kernel
     rw[e]
     match ws,hw,q1,q2,@dC,cr with
     | [],hw,q1,q2,dC,cr=>
       exact dC (y:=bK) bg bg bg bg bg bg bg (fun _=>a7) (fun h=>absurd rfl h)
     |a::r,hw,q1,q2,dC,cr=>
      have hc:dD t 7 (a::r)=(t,bK):=rfl
      rw[hc]
      exact dC (y:=bK) bg bg bg bg bg bg bg (fun h=>absurd h (List.cons_ne_nil _ _)) (fun _=>(cr bg bg bg bg bg))
    ·have e:jk H4=8:=by decide+kernel
     rw[e]
     match ws,hw,q1,q2,@dC,cr with
     | [],hw,q1,q2,dC,cr=>
       exact dC (y:=bK) bg bg bg bg bg bg bg (fun _=>a8) (fun h=>absurd rfl h)
     |a::r,hw,q1,q2,dC,cr=>
      have hc:dD t 8 (a::r)=(t,bK):=rfl
      rw[hc]
      exact dC (y:=bK) bg bg bg bg bg bg bg (fun h=>absurd h (List.cons_ne_nil _ _)) (fun _=>(cr bg bg bg bg bg))
    ·have e:jk w7=9:=by decide+kernel
     rw[e]
     match ws,hw,q1,q2,@dC,cr with
     | [],hw,q1,q2,dC,cr=>
       exact dC (y:=bK) bg bg bg bg bg bg bg (fun _=>a9) (fun h=>absurd rfl h)
     |a::r,hw,q1,q2,dC,cr=>
      have hc:dD t 9 (a::r)=(t,bK):=rfl
      rw[hc]
      exact dC (y:=bK) bg bg bg bg bg bg bg (fun h=>absurd h (List.cons_ne_nil _ _)) (fun _=>(cr bg bg bg bg bg))
    ·have e:jk B6=10:=by decide+kernel
     rw[e]
     match ws,hw,q1,q2,@dC,cr with
     | [],hw,q1,q2,dC,cr=>
       have hc:dD t 10 [] =(t,bK):=rfl
       rw[hc]
       exact dC (y:=bK) bg bg (fun _=>(by show 0≠3;decide)) bg bg bg bg (fun _=>kt ⟨by decide,by decide,by decide,by decide,by decide,by decide,by decide⟩) (fun _=>(cr bg bg bg bg bg))
     | [a],hw,q1,q2,dC,cr=>
       have hc:dD t 10 [a] =(t,bK):=rfl
       rw[hc]
       exact dC (y:=bK) bg bg (fun _=>(by show 1≠3;decide)) bg bg bg bg (fun h=>absurd h (List.cons_ne_nil _ _)) (fun _=>(cr bg bg bg bg bg))
     | [a,b],hw,q1,q2,dC,cr=>
       have hc:dD t 10 [a,b] =(t,bK):=rfl
       rw[hc]
       exact dC (y:=bK) bg bg (fun _=>(by show 2≠3;decide)) bg bg bg bg (fun h=>absurd h (List.cons_ne_nil _ _)) (fun _=>(cr bg bg bg bg bg))
     | [a,b,c],hw,q1,q2,dC,cr=>
       have cp:=mN hk B6 [a,b,c]
       have hc:dD t 10 [a,b,c] =bif nG [a,b,c] then qa t (tZ t (qt [a,b,c])) else (t,bK):=rfl
       obtain ⟨v,hv,zc⟩:=de.eq hk (ws:=[a,b,c]) q1 q2
       have en:nG [a,b,c] =nG [a,b,c]:=rfl
       rw[hc]
       refine (sL hk ht hs hw h2 bg).trans (vR hk ht hs hw h2 hv ?_)
       cases hb:nG [a,b,c] with
       |false=>exact bT rfl (Bn hk ht (cr bg bg bg bg bg))
       |true=>
        have Z8:=zc hb
        subst Z8
        refine bF rfl (cT cp ?_)
        have he:=fO.eq hk ht (ns:=qt [a,b,c]) (by show 3<1000000;decide)
        rw[ak]
        generalize tZ t (qt [a,b,c])=o at he
        cases o with
        |none=>exact bF (bB (w:=B6) (x:=qw) (by decide)) (cT cp (bT (kB B6) (bT rfl (bS he (vQ hk ht (t,false))))))
        |some u=>exact bF (bB (w:=B6) (x:=qw) (by decide)) (cT cp (bT (kB B6) (bT rfl (bS he (vQ hk ht (u,true))))))
     |a::b::c::d::r,hw,q1,q2,dC,cr=>
      have hc:dD t 10 (a::b::c::d::r)=(t,bK):=rfl
      rw[hc]
      exact dC (y:=bK) bg bg (fun _=>(by rw[ab,ab,ab,ab];show _+1+1+1+1≠3;omega)) bg bg bg bg (fun h=>absurd h (List.cons_ne_nil _ _)) (fun _=>(cr bg bg bg bg bg))
    ·have e:jk uA=11:=by decide+kernel
     rw[e]
     match ws,hw,q1,q2,@dC,cr with
     | [],hw,q1,q2,dC,cr=>
       have hc:dD t 11 [] =(t,bK):=rfl
       rw[hc]
       exact dC (y:=bK) (fun _=>(by show 0≠1;decide)) bg bg bg bg bg bg (fun _=>kt ⟨by decide,by decide,by decide,by decide,by decide,by decide,by decide⟩) (fun _=>(cr bg bg bg bg bg))
     | [a],hw,q1,q2,dC,cr=>
       have hc:dD t 11 [a] =bif decide (cZ a>=0) then qa t (vG (iU t (cZ a))) else (t,bK):=rfl
       rw[hc]
       refine bS (dY.eq hk hs) ?_
       rw[hw]
       refine bF rfl (bF (aC h2) (bT rfl (cT rfl (bT (kB _) (cT rfl (bS (dQ.eq hk a) ?_))))))
       by_cases hb:cZ a<0
       ·rw[aC (show ¬cZ a>=0 by omega)];exact bT (ae hb) (JY hk ht)
       ·rw[ae (show cZ a>=0 by omega)]
        have he:=gY.eq hk ht (cZ a)
        rw[ak]
        generalize iU t (cZ a)=p at he
        exact bF (aC hb) (bS he (vQ hk ht p))
     |a::b::r,hw,q1,q2,dC,cr=>
      have hc:dD t 11 (a::b::r)=(t,bK):=rfl
      rw[hc]
      exact dC (y:=bK) (fun _=>(by rw[ab,ab];show _+1+1≠1;omega)) bg bg bg bg bg bg (fun h=>absurd h (List.cons_ne_nil _ _)) (fun _=>(cr bg bg bg bg bg))
    ·have e:jk ri=12:=by decide+kernel
     rw[e]
     match ws,hw,q1,q2,@dC,cr with
     | [],hw,q1,q2,dC,cr=>
       have hc:dD t 12 [] =(t,bK):=rfl
       rw[hc]
       exact dC (y:=bK) bg bg bg bg bg (fun _=>(by show 0≠1;decide)) bg (fun _=>kt ⟨by decide,by decide,by decide,by decide,by decide,by decide,by decide⟩) (fun _=>(cr bg bg bg bg bg))
     | [a],hw,q1,q2,dC,cr=>
       have cp:=mN hk ri [a]
       have hc:dD t 12 [a] =bif (bw a).2 then qa t (vG (o4 t (bw a).1)) else (t,bK):=rfl
       obtain ⟨v,hv,zc⟩:=de.eq hk (ws:=[a]) q1 q2
       have en:nG [a] =((bw a).2&&true):=rfl
       rw[en,Bool.and_true] at hv zc
       rw[hc]
       refine (sL hk ht hs hw h2 bg).trans (vR hk ht hs hw h2 hv ?_)
       cases hb:(bw a).2 with
       |false=>exact bT rfl (Bn hk ht (cr bg bg bg bg bg))
       |true=>
        have Z8:=zc hb
        subst Z8
        refine bF rfl (cT cp ?_)
        have he:=nj.eq hk ht (bw a).1
        rw[ak]
        generalize o4 t (bw a).1=p at he
        exact bF (bB (w:=ri) (x:=qw) (by decide)) (cT cp (bF (bB (w:=ri) (x:=B6) (by decide)) (cT cp (bF (bB (w:=ri) (x:=D1) (by decide)) (cT cp (bF (bB (w:=ri) (x:=D2) (by decide)) (cT cp (bT (kB ri) (bT rfl (cT rfl (bS he (vQ hk ht p))))))))))))
     |a::b::r,hw,q1,q2,dC,cr=>
      have hc:dD t 12 (a::b::r)=(t,bK):=rfl
      rw[hc]
      exact dC (y:=bK) bg bg bg bg bg (fun _=>(by rw[ab,ab];show _+1+1≠1;omega)) bg (fun h=>absurd h (List.cons_ne_nil _ _)) (fun _=>(cr bg bg bg bg bg))
    ·have e:jk yJ=13:=by decide+kernel
     rw[e]
     match ws,hw,q1,q2,@dC,cr with
     | [],hw,q1,q2,dC,cr=>
       have hc:dD t 13 [] =(t,bK):=rfl
       rw[hc]
       exact dC (y:=bK) bg bg bg bg bg bg (fun _=>(by show 0≠1;decide)) (fun _=>kt ⟨by decide,by decide,by decide,by decide,by decide,by decide,by decide⟩) (fun _=>(cr bg bg bg bg bg))
     | [a],hw,q1,q2,dC,cr=>
       have cp:=mN hk yJ [a]
       have hc:dD t 13 [a] =bif (bw a).2 then (t,ym t.g (bw a).1) else (t,bK):=rfl
       obtain ⟨v,hv,zc⟩:=de.eq hk (ws:=[a]) q1 q2
       have en:nG [a] =((bw a).2&&true):=rfl
       rw[en,Bool.and_true] at hv zc
       rw[hc]
       refine (sL hk ht hs hw h2 bg).trans (vR hk ht hs hw h2 hv ?_)
       cases hb:(bw a).2 with
       |false=>exact bT rfl (Bn hk ht (cr bg bg bg bg bg))
       |true=>
        have Z8:=zc hb
        subst Z8
        refine bF rfl (cT cp ?_)
        exact bF (bB (w:=yJ) (x:=qw) (by decide)) (cT cp (bF (bB (w:=yJ) (x:=B6) (by decide)) (cT cp (bF (bB (w:=yJ) (x:=D1) (by decide)) (cT cp (bF (bB (w:=yJ) (x:=D2) (by decide)) (cT cp (bF (bB (w:=yJ) (x:=ri) (by decide)) (cT cp (bT (kB yJ) (bT rfl (bS (bm.eq hk ht) (cT rfl (bS (Pd (k:=k) ht.2.2.2.1 (bw a).1 (nW.eq hk ht.2.2.2.1 (bw a).1) @fun me hand top x y sizes u w h1 h2 h3 h4=>fP.eq hk top x y u w h1 h2 h3 h4) rfl))))))))))))))
     |a::b::r,hw,q1,q2,dC,cr=>
      have hc:dD t 13 (a::b::r)=(t,bK):=rfl
      rw[hc]
      exact dC (y:=bK) bg bg bg bg bg bg (fun _=>(by rw[ab,ab];show _+1+1≠1;omega)) (fun h=>absurd h (List.cons_ne_nil _ _)) (fun _=>(cr bg bg bg bg bg))
    ·have e:jk yK=14:=by decide+kernel
     rw[e]
     match ws,hw,q1,q2,@dC,cr with
     | [],hw,q1,q2,dC,cr=>
       have hc:dD t 14 [] =(t,bK):=rfl
       rw[hc]
       exact dC (y:=bK) bg bg bg bg bg bg bg (fun _=>kt ⟨by decide,by decide,by decide,by decide,by decide,by decide,by decide⟩) (fun _=>(cr bg (fun _=>(by show 0≠1;decide)) bg bg bg))
     | [a],hw,q1,q2,dC,cr=>
       have hc:dD t 14 [a] =bif (aU a).2 then (t,kI (aU a).1 14) else (t,bK):=rfl
       have hh:=NS hk (a:=a) (q2 a (by simp))
       rw[hc]
       cases hb:(aU a).2 with
       |false=>
        rw[hb] at hh
        exact dC (y:=bK) bg bg bg bg bg bg bg (fun h=>absurd h (List.cons_ne_nil _ _)) (fun _=>hh)
       |true=>
        rw[hb] at hh
        exact dC (y:=bK) bg bg bg bg bg bg bg (fun h=>absurd h (List.cons_ne_nil _ _)) (fun _=>hh)
     |a::b::r,hw,q1,q2,dC,cr=>
      have hc:dD t 14 (a::b::r)=(t,bK):=rfl
      rw[hc]
      exact dC (y:=bK) bg bg bg bg bg bg bg (fun h=>absurd h (List.cons_ne_nil _ _)) (fun _=>(cr bg (fun _=>(by rw[ab,ab];show _+1+1≠1;omega)) bg bg bg))
    ·have e:jk zK=15:=by decide+kernel
     rw[e]
     match ws,hw,q1,q2,@dC,cr with
     | [],hw,q1,q2,dC,cr=>
       have hc:dD t 15 [] =(t,bK):=rfl
       rw[hc]
       exact dC (y:=bK) bg bg bg bg bg bg bg (fun _=>kt ⟨by decide,by decide,by decide,by decide,by decide,by decide,by decide⟩) (fun _=>(cr bg bg (fun _=>(by show 0≠1;decide)) bg bg))
     | [a],hw,q1,q2,dC,cr=>
       have hc:dD t 15 [a] =bif (aU a).2 then (t,kI (aU a).1 15) else (t,bK):=rfl
       have hh:=Qw hk (a:=a) (q2 a (by simp))
       rw[hc]
       cases hb:(aU a).2 with
       |false=>
        rw[hb] at hh
        exact dC (y:=bK) bg bg bg bg bg bg bg (fun h=>absurd h (List.cons_ne_nil _ _)) (fun _=>hh)
       |true=>
        rw[hb] at hh
        exact dC (y:=bK) bg bg bg bg bg bg bg (fun h=>absurd h (List.cons_ne_nil _ _)) (fun _=>hh)
     |a::b::r,hw,q1,q2,dC,cr=>
      have hc:dD t 15 (a::b::r)=(t,bK):=rfl
      rw[hc]
      exact dC (y:=bK) bg bg bg bg bg bg bg (fun h=>absurd h (List.cons_ne_nil _ _)) (fun _=>(cr bg bg (fun _=>(by rw[ab,ab];show _+1+1≠1;omega)) bg bg))
    ·have e:jk zL=16:=by decide+kernel
     rw[e]
     match ws,hw,q1,q2,@dC,cr with
     | [],hw,q1,q2,dC,cr=>
       have hc:dD t 16 [] =(t,bK):=rfl
       rw[hc]
       exact dC (y:=bK) bg bg bg bg bg bg bg (fun _=>kt ⟨by decide,by decide,by decide,by decide,by decide,by decide,by decide⟩) (fun _=>(cr bg bg bg (fun _=>(by show 0≠1;decide)) bg))
     | [a],hw,q1,q2,dC,cr=>
       have hc:dD t 16 [a] =bif (aU a).2 then (t,kI (aU a).1 16) else (t,bK):=rfl
       have hh:=Qx hk (a:=a) (q2 a (by simp))
       rw[hc]
       cases hb:(aU a).2 with
       |false=>
        rw[hb] at hh
        exact dC (y:=bK) bg bg bg bg bg bg bg (fun h=>absurd h (List.cons_ne_nil _ _)) (fun _=>hh)
       |true=>
        rw[hb] at hh
        exact dC (y:=bK) bg bg bg bg bg bg bg (fun h=>absurd h (List.cons_ne_nil _ _)) (fun _=>hh)
     |a::b::r,hw,q1,q2,dC,cr=>
      have hc:dD t 16 (a::b::r)=(t,bK):=rfl
      rw[hc]
      exact dC (y:=bK) bg bg bg bg bg bg bg (fun h=>absurd h (List.cons_ne_nil _ _)) (fun _=>(cr bg bg bg (fun _=>(by rw[ab,ab];show _+1+1≠1;omega)) bg))
    ·have e:jk zM=17:=by decide+kernel
     rw[e]
     match ws,hw,q1,q2,@dC,cr with
     | [],hw,q1,q2,dC,cr=>
       have hc:dD t 17 [] =(t,bK):=rfl
       rw[hc]
       exact dC (y:=bK) bg bg bg bg bg bg bg (fun _=>kt ⟨by decide,by decide,by decide,by decide,by decide,by decide,by decide⟩) (fun _=>(cr (fun _=>(by show 0≠1;decide)) bg bg bg bg))
     | [a],hw,q1,q2,dC,cr=>
       have hc:dD t 17 [a] =bif (gI a).2 then (t,kI (gI a).1 17) else (t,bK):=rfl
       have hh:=NR hk (a:=a) (q2 a (by simp))
       rw[hc]
       cases hb:(gI a).2 with
       |false=>
        rw[hb] at hh
        exact dC (y:=bK) bg bg bg bg bg bg bg (fun h=>absurd h (List.cons_ne_nil _ _)) (fun _=>hh)
       |true=>
        rw[hb] at hh
        exact dC (y:=bK) bg bg bg bg bg bg bg (fun h=>absurd h (List.cons_ne_nil _ _)) (fun _=>hh)
     |a::b::r,hw,q1,q2,dC,cr=>
      have hc:dD t 17 (a::b::r)=(t,bK):=rfl
      rw[hc]
      exact dC (y:=bK) bg bg bg bg bg bg bg (fun h=>absurd h (List.cons_ne_nil _ _)) (fun _=>(cr (fun _=>(by rw[ab,ab];show _+1+1≠1;omega)) bg bg bg bg))
    ·have e:jk Ax=18:=by decide+kernel
     rw[e]
     match ws,hw,q1,q2,@dC,cr with
     | [],hw,q1,q2,dC,cr=>
       have hc:dD t 18 [] =(t,bK):=rfl
       rw[hc]
       exact dC (y:=bK) bg bg bg bg bg bg bg (fun _=>kt ⟨by decide,by decide,by decide,by decide,by decide,by decide,by decide⟩) (fun _=>(cr bg bg bg bg (fun _=>(by show 0≠2;decide))))
     | [a],hw,q1,q2,dC,cr=>
       have hc:dD t 18 [a] =(t,bK):=rfl
       rw[hc]
       exact dC (y:=bK) bg bg bg bg bg bg bg (fun h=>absurd h (List.cons_ne_nil _ _)) (fun _=>(cr bg bg bg bg (fun _=>(by show 1≠2;decide))))
     | [a,b],hw,q1,q2,dC,cr=>
       have hc:dD t 18 [a,b] =bif (aU a).2&&(bw b).2 then (t,iM (nB (aU a).1 (bw b).1)) else (t,bK):=rfl
       have hh:=Qy hk (a:=a) (b:=b) (q2 a (by simp)) (q2 b (by simp))
       rw[hc]
       cases hb:((aU a).2&&(bw b).2) with
       |false=>
        rw[hb] at hh
        exact dC (y:=bK) bg bg bg bg bg bg bg (fun h=>absurd h (List.cons_ne_nil _ _)) (fun _=>hh)
       |true=>
        rw[hb] at hh
        exact dC (y:=bK) bg bg bg bg bg bg bg (fun h=>absurd h (List.cons_ne_nil _ _)) (fun _=>hh)
     |a::b::c::r,hw,q1,q2,dC,cr=>
      have hc:dD t 18 (a::b::c::r)=(t,bK):=rfl
      rw[hc]
      exact dC (y:=bK) bg bg bg bg bg bg bg (fun h=>absurd h (List.cons_ne_nil _ _)) (fun _=>(cr bg bg bg bg (fun _=>(by rw[ab,ab,ab];show _+1+1+1≠2;omega))))
   ·rw[Dq B8,Dr]
    unfold vF at B8
    simp only[cL,cA,or_false,not_or] at B8
    obtain ⟨n0,n1,n2,n3,n4,n5,n6,n7,n8,n9,n10,n11,n12,n13,n14,n15,n16,n17,n18⟩:=B8
    exact dC (y:=bK) (fun h=>absurd h n11) (fun h=>absurd h n0) (fun h=>absurd h n10) (fun h=>absurd h n1) (fun h=>absurd h n2) (fun h=>absurd h n12) (fun h=>absurd h n13) (fun _=>kt ⟨n3,n4,n5,n6,n7,n8,n9⟩) (fun _=>cr (fun h=>absurd h n17) (fun h=>absurd h n14) (fun h=>absurd h n15) (fun h=>absurd h n16) (fun h=>absurd h n18))
def xA:List ByteArray->List ByteArray
 | []=>[]
 | [w]=>bif GQ w then [w] else []
 |w::x::l=>w::xA (x::l)
theorem NT {l:List ByteArray} (h:l≠[]) (w:ByteArray):xA (w::l)=w::xA l:=by
 cases l with
 |nil=>exact absurd rfl h
 |cons x l=>rfl
theorem L5: ∀ {l:List ByteArray},l≠[]->xA l=bif GQ (l.getD (l.length-1) ByteArray.empty) then l else l.take (l.length-1)
 | [],h=>absurd rfl h
 | [w],_=>by
   show (bif GQ w then [w] else [])=bif GQ w then [w] else []
   rfl
 |w::x::l,_=>by
  have ih:=L5 (l:=x::l) (by simp)
  rw[xA,ih]
  have e:(w::x::l).getD ((w::x::l).length-1) ByteArray.empty=(x::l).getD ((x::l).length-1) ByteArray.empty:=by
   simp only[ab,Nat.add_sub_cancel,List.getD_cons_succ]
  rw[e]
  have e2:(w::x::l).take ((w::x::l).length-1)=w::(x::l).take ((x::l).length-1):=by
   simp only[ab,Nat.add_sub_cancel,List.take_succ_cons]
  rw[e2]
  cases GQ ((x::l).getD ((x::l).length-1) ByteArray.empty)<;>rfl
theorem QA {l:List ByteArray}: ∀w∈xA l,w∈l:=by
 induction l with
 |nil=>intro w h;cases h
 |cons v l ih=>
  cases l with
  |nil=>
   intro w h
   unfold xA at h
   cases hb:GQ v with
   |true=>rw[hb] at h;exact h
   |false=>rw[hb] at h;cases h
  |cons x l=>
   intro w h
   rw[xA] at h
   rcases List.mem_cons.1 h with rfl|h
   ·simp
   ·exact List.mem_cons_of_mem _ (ih w h)
def lT (s:ByteArray):List ByteArray:=xA (words s 10)
theorem Du (s:ByteArray): ∀w∈lT s,w.size<=s.size:=fun w hw=>Er s 10 _ _ _ w (QA w hw)
theorem Ps (s:ByteArray) (c:Int) (m a i:Nat):wR s c m a i≠[]:=fun e=>by
 have:=(AT s c m a i).2
 rw[e] at this;simp at this
theorem cF.lines {R:Type} (k:Nat) {s:ByteArray} (hs:s.size<1048577) (e0:List ByteArray->Option R):
 ∀(m n a i:Nat) (acc:List ByteArray),i+m=s.size->m+1<n->a<=i->acc.length<=i->cF.l4 k s e0 n (a:Int) (i:Int) acc=e0 (acc++xA (wR s 10 m a i)):=by
 intro m
 induction m with
 |zero=>
  intro n a i acc hi hn ha Hx
  obtain ⟨n,rfl⟩: ∃j,n=j+1+1:=⟨n-2,by omega⟩
  obtain rfl:i=s.size:=by omega
  have en:GQ (s.extract a s.size)= !decide (a=s.size):=by
   rw[Sw,ByteArray.size_extract]
   by_cases e:a=s.size
   ·rw[ae e,e];simp
   ·rw[aC e];simp;omega
  unfold wR xA
  rw[en]
  refine xr rfl (bT (ae (Int.le_refl _)) (bT (beq_self_eq_true _) ?_))
  by_cases e:a=s.size
  ·rw[ae e,e]
   exact bT (beq_self_eq_true _) (by simp)
  ·rw[aC e]
   refine bF (beq_false_of_ne (by omega)) (bT (beq_self_eq_true _) (cT (bA ae ae) (cT (bA ae ae) (cT (JF) ?_))))
   rw[aK,show ((a:Int)).toNat=a from aa a,show ((s.size:Int)).toNat=s.size from aa _]
   exact xr rfl (br aC)
 |succ m ih=>
  intro n a i acc hi hn ha Hx
  obtain ⟨n,rfl⟩: ∃j,n=j+1:=⟨n-1,by omega⟩
  refine xr rfl (bT ae (bF (beq_false_of_ne (by omega)) (bF (beq_false_of_ne (by omega)) (cT (bA ae ae) ?_))))
  rw[show ((i:Int)).toNat=i from aa i,aK]
  unfold wR
  cases sb s i==10 with
  |true=>
   refine bT rfl (cT (bA ae ae) (cT (bA ae ae) (cT (JF) ?_)))
   rw[show ((a:Int)).toNat=a from aa a,ih n (i+1) (i+1) _ (by omega) (by omega) (by omega) (by simp;omega),bp]
   simp only[ak]
   rw[NT (Ps _ _ _ _ _)];rfl
  |false=>
   refine bF rfl ?_
   rw[ih n a (i+1) acc (by omega) (by omega) (by omega) (by omega)]
   rfl
def rr:List ByteArray->Tb->List ByteArray
 | [],_=>[]
 |l::ls,t=>(kJ t l).2::rr ls (kJ t l).1
theorem FF: ∀(ls:List ByteArray) (t:Tb),(rr ls t).length=ls.length
 | [],_=>rfl
 |l::ls,t=>by rw[rr,ab,ab,FF ls]
theorem dF.loop {R:Type} {k:Nat} (hk:cy<=k) (ls:List ByteArray) (hl:ls.length<1048578) (hs: ∀w∈ls,w.size<1048577) (e0:List ByteArray->Option R): ∀(m i n:Nat) (t:Tb) (acc:List ByteArray),t.sm->tH Dt t->acc.length<=i->i+m=ls.length->m<n->t.pm (dF.l8 k ls (ls.length:Int) e0 n (i:Int)) acc=e0 (acc++rr (ls.drop i) t)
 |m,i,0,t,acc,_,_,_,_,h=>absurd h (by omega)
 |0,i,n+1,t,acc,ht,hg,ha,hi,_=>by
  rw[aZ (by omega)]
  exact bF aC (by rw[rr,cm])
 |m+1,i,n+1,t,acc,ht,hg,ha,hi,hn=>by
  have hq:i<ls.length:=by omega
  rw[drop_cons hq]
  have et:ls.getD ((i:Int)).toNat ByteArray.empty=ls[i]:=by rw[aa,aN _ hq]
  have he:=gy.eq hk ht (FC hg).2.2.1 (hs ls[i] (aj hq))
  have NE:=Fz ht ls[i]
  have M7:=Bl hg ls[i]
  unfold rr
  generalize kJ t ls[i] =q at he NE M7 ⊢
  have ih:=dF.loop hk ls hl hs e0 m (i+1) n q.1 (acc++[q.2]) NE M7 (by simp;omega) (by omega) (by omega)
  rw[<- aK,bp] at ih
  rw[<- et] at he
  have hr:=JF (n:=acc.length+1)
  exact bT ae (cT (cg hq) (bS he (cT hr ih)))
theorem cF.loop {R:Type} {k:Nat} (hk:cy<=k) (ls:List ByteArray) (hl:ls.length<1048577) (hs: ∀w∈ls,w.size<1048577) (e0:List ByteArray->Option R): ∀(m i n:Nat) (t:Tb) (acc:List ByteArray),t.sm->tH Dt t->acc.length<=i->i+m=ls.length->m<n->t.pm (cF.l15 k ls e0 n (i:Int)) acc=e0 (acc++rr (ls.drop i) t)
 |m,i,0,t,acc,_,_,_,_,h=>absurd h (by omega)
 |0,i,n+1,t,acc,ht,hg,ha,hi,_=>by
  rw[aZ (by omega)]
  exact bF aC (by rw[rr,cm])
 |m+1,i,n+1,t,acc,ht,hg,ha,hi,hn=>by
  have hq:i<ls.length:=by omega
  rw[drop_cons hq]
  have et:ls.getD ((i:Int)).toNat ByteArray.empty=ls[i]:=by rw[aa,aN _ hq]
  have he:=az.eq hk ht (FC hg).2.2.1 (hs ls[i] (aj hq))
  have NE:=Fz ht ls[i]
  have M7:=Bl hg ls[i]
  unfold rr
  generalize kJ t ls[i] =q at he NE M7 ⊢
  have ih:=cF.loop hk ls hl hs e0 m (i+1) n q.1 (acc++[q.2]) NE M7 (by simp;omega) (by omega) (by omega)
  rw[<- aK,bp] at ih
  rw[<- et] at he
  have hr:=JF (n:=acc.length+1)
  exact bT ae (cT (cg hq) (bS he (cT hr ih)))
def xB (s:ByteArray):List ByteArray×Bool:=bif decide (((lT s).length:Int)>60) then ([],false) else (rr (lT s) Dt,true)
theorem cF.eq {k:Nat} (hk:cy<=k) {s:ByteArray} (hs:s.size<1048577):cF.f k s=some (xB s):=by
 have hle:=Du s
 refine (cF.lines k hs _ s.size k 0 0 [] (by omega) (by simp[cy] at hk;omega) (ai _) (by simp)).trans ?_
 rw[aM]
 show (bif decide (((lT s).length:Int)>60) then _ else _)=_
 unfold xB
 cases h:decide (((lT s).length:Int)>60) with
 |true=>rfl
 |false=>
  have h60:=of_decide_eq_false h
  refine bF rfl ((cF.loop hk (lT s) (by omega) (fun w hw=>by have:=hle w hw;omega) _ (lT s).length 0 k Dt [] L4 (.inr rfl) (by simp) (by omega) (by simp[cy] at hk;omega)).trans ?_)
  rw[ah,aM];rfl
theorem dF.eq {k:Nat} (hk:cy<=k) {s:ByteArray} (hs:s.size<1048577):dF.f k s=some (xB s):=by
 have hle:=Du s
 have hwl:=Cv s 10
 have nL:words s 10≠[]:=Ps _ _ _ _ _
 have D9:0<(words s 10).length:=List.length_pos_iff.2 nL
 have ht:=L5 nL
 have ew:aF (((words s 10).length:Int)-1)=(((words s 10).length-1:Nat):Int):=by rw[wrap_i64];omega
 have go: ∀ls:List ByteArray,lT s=ls-> ∀A:Option (List ByteArray×Bool),A=((fun x4=>some (x4,true)):List ByteArray->Option (List ByteArray×Bool)) ([]++rr (ls.drop 0) Dt)->(bif decide ((ls.length:Int)>60) then some ([],false) else A)=some (xB s):=fun ls e A hA=>by
  unfold xB
  rw[e]
  cases h:decide ((ls.length:Int)>60) with
  |true=>rfl
  |false=>rw[an,hA,ah];rfl
 have lp:=fun (ls:List ByteArray) (e:lT s=ls) (h60:ls.length<1048578) e0=>dF.loop (R:=List ByteArray×Bool) hk ls h60 (fun w hw=>by have:=hle w (e ▸ hw);omega) e0 ls.length 0 k Dt [] L4 (.inr rfl) (by simp) (by omega) (by simp[cy] at hk;omega)
 refine bS (cb.eq hk 10 hs) ?_
 rw[ew,aa]
 refine cT (bA ae ae) ?_
 have en:(((words s 10).getD ((words s 10).length-1) ByteArray.empty).toList==ByteArray.empty.toList)= !GQ ((words s 10).getD ((words s 10).length-1) ByteArray.empty):=by unfold GQ;rw[Bool.not_not]
 rw[en]
 cases hb:GQ ((words s 10).getD ((words s 10).length-1) ByteArray.empty) with
 |true=>
  have e:lT s=words s 10:=by unfold lT;rw[ht,hb];rfl
  exact bF rfl (go _ e _ (lp _ e (by omega) _))
 |false=>
  have e:lT s=((words s 10).take ((words s 10).length-1)).drop 0:=by unfold lT;rw[ht,hb,ah];rfl
  have el:((((words s 10).take ((words s 10).length-1)).drop 0).length:Int)=((words s 10).length-1:Nat)-0:=by rw[ah,aP];omega
  refine bT rfl (cT (bA ae ae) (cT ae ?_))
  have h1:=go _ e _ (lp _ e (by rw[ah,aP];omega) (fun x4=>some (x4,true)))
  rw[el] at h1
  exact h1
theorem dW.loop (k:Nat) {e0:ByteArray->Option ByteArray} (he: ∀x:ByteArray,x.size<=1000-> ∃y,e0 x=some y): ∀(n v:Nat) (out:ByteArray),v<n->out.size+v<=1000-> ∃y,dW.l4 k e0 n (v:Int) out=some y
 |0,v,out,h,_=>absurd h (by omega)
 |n+1,v,out,h,hz=>by
  by_cases h0:v=0
  ·subst h0
   obtain ⟨y,e⟩:=he out (by omega)
   exact ⟨y,bV rfl (bF aC e)⟩
  ·have e1: ∀x:Int,(strOf [x]).size=1:=fun x=>rfl
   have ew:aF ((v:Int).tdiv 10)=((v/10:Nat):Int):=by
    rw[show (v:Int).tdiv 10=((v/10:Nat):Int) from rfl,wrap_i64]
   obtain ⟨y,e⟩:=dW.loop k he n (v/10) ((strOf [IntKind.wrap .u8 (aF (48+((v:Int).tmod 10)))])++out) (by omega) (by rw[aq,e1];omega)
   rw[<- ew] at e
   exact ⟨y,bV rfl (bT ae (cT (jc (by rw[e1];omega)) e))⟩
theorem dW.ok {k:Nat} (hk:cy<=k) {v:Nat} (h1:0<v) (h2:v<=100): ∃y,dW.f k (v:Int)=some y:=by
 obtain ⟨y,e⟩:=dW.loop k (e0:=fun x1=>bY (decide (UJ.size+x1.size<=ia))<|some (UJ++x1)) (fun x hx=>⟨_,bW (jc (by show 1+x.size<=_;omega))⟩) k v ByteArray.empty (by simp[cy] at hk;omega) (by show 0+v<=1000;omega)
 exact ⟨y,bF aC e⟩
theorem eW.loop {R:Type} {k:Nat} (hk:cy<=k) (e0:Int->List ByteArray->Option R): ∀(m i n g:Nat) (a:List ByteArray),i+m=a.length->a.length<=70->m<n->0<g->g+m<=100->
 ∃w:List ByteArray,w.length=a.length/\(∀j,j<i->w.getD j ByteArray.empty=a.getD j ByteArray.empty)/\(∀j,i<=j->j<a.length->dW.f k ((g+(j-i):Nat):Int)=some (w.getD j ByteArray.empty))/\eW.l2 k e0 n (g:Int) (i:Int) a=e0 ((g+m:Nat):Int) w
 |m,i,0,g,a,_,_,h,_,_=>absurd h (by omega)
 |0,i,n+1,g,a,hi,_,_,_,_=>⟨a,rfl,fun _ _=>rfl,fun j h1 h2=>absurd h2 (by omega),xr rfl (br aC)⟩
 |m+1,i,n+1,g,a,hi,hl,hn,hg,hm=>by
  obtain ⟨y,ey⟩:=dW.ok hk hg (by omega)
  obtain ⟨w,w1,w2,w3,w4⟩:=eW.loop hk e0 m (i+1) n (g+1) (a.set i y) (by rw[fg];omega) (by rw[fg];omega) (by omega) (by omega) (by omega)
  rw[fg] at w1 w3
  refine ⟨w,w1,fun j hj=> ?_,fun j h1 h2=> ?_,?_⟩
  ·rw[w2 j (by omega),aL,List.getElem?_set_ne (by omega),<- aL]
  ·by_cases e:j=i
   ·subst e
    rw[Nat.sub_self,Nat.add_zero,ey,w2 j (by omega),aL,List.getElem?_set_self (by omega)];rfl
   ·have:=w3 j (by omega) h2
    rw[show g+1+(j-(i+1))=g+(j-i) by omega] at this
    exact this
  ·refine xr rfl (bT ae (bS ey (cT (bA ae ae) ?_)))
   rw[aK,aK,show ((i:Int)).toNat=i from aa i,w4,show g+1+m=g+(m+1) by omega]
theorem eo.loop {R:Type} {k:Nat} (hk:cy<=k) (e0 e1:Int->Option R) {w:List ByteArray} (hl:w.length<=70): ∀(m i n g:Nat),i+m=w.length->m<n->g+m<=100->(∀j,i<=j->j<w.length->dW.f k ((g+(j-i):Nat):Int)=some (w.getD j ByteArray.empty))->eo.l2 k w e0 e1 n (g:Int) (i:Int)=e1 ((g+m:Nat):Int)
 |m,i,0,g,_,h,_,_=>absurd h (by omega)
 |0,i,n+1,g,hi,_,_,_=>bV rfl (br aC)
 |m+1,i,n+1,g,hi,hn,hg,hw=>by
  have h0:=hw i (ai _) (by omega)
  rw[Nat.sub_self,Nat.add_zero] at h0
  have ih:=eo.loop hk e0 e1 hl m (i+1) n (g+1) (by omega) (by omega) (by omega) (fun j h1 h2=>by
   have:=hw j (by omega) h2
   rw[show g+(j-i)=g+1+(j-(i+1)) by omega] at this
   exact this)
  refine bV rfl (bT ae (cT (bA ae ae) (bS h0 (bF (by rw[show ((i:Int)).toNat=i from aa i];simp) ?_))))
  rw[aK,aK,ih,show g+1+m=g+(m+1) by omega]
theorem NU {k:Nat} (hk:cy<=k) {a:List ByteArray} (hl:a.length<=70): ∃(m:Int) (w:List ByteArray),eW.f k a 1=some (m,w)/\0<=m/\eo.f k w 1=some m:=by
 have hb:100<k:=by simp[cy] at hk;omega
 obtain ⟨w,w1,_,w3,w4⟩:=eW.loop hk (fun x2 x3=>some (x2,x3)) a.length 0 k 1 a (by omega) hl (by omega) (by omega) (by omega)
 refine ⟨_,w,w4,by omega,?_⟩
 have h:=eo.loop hk (R:=Int) (fun x2=>some (-1)) (fun x3=>some x3) (w:=w) (by omega) w.length 0 k 1 (by omega) (by omega) (by omega) (by rw[w1];exact w3)
 rw[w1] at h
 exact h
theorem NV (s:ByteArray):(xB s).1.length<=60:=by
 unfold xB
 cases h:decide (((lT s).length:Int)>60) with
 |true=>exact Nat.zero_le _
 |false=>
  have h60:=of_decide_eq_false h
  show (rr _ _).length<=_
  rw[FF];omega
theorem iN.eq {k:Nat} (hk:cy<=k) {a:ByteArray} (i_a:a.size<=maxLen):iN.f k a=some true:=by
 by_cases g:(a.size:Int)>(1048576:Int)
 ·exact jV (ae g)
 have ha:a.size<1048577:=by omega
 have e1:=cF.eq hk ha
 have e2:=dF.eq hk ha
 have hl:=NV a
 generalize xB a=r at e1 e2 hl
 have eq:=e_.eq hk (v:=r.1) (by omega)
 obtain ⟨m,w,h1,h2,h3⟩:=NU hk (a:=r.1) (by omega)
 have eb:(!(r.2==r.2))=false:=by simp
 have em:(m != m)=false:=by simp
 exact bF (aC g) (bS e1 (bS e2 (bS eq (bF rfl (bF eb (bS h1 (bS h3 (bF aC (bF em (bS e2 (bS eq (bF rfl (bF eb (bS h3 (bF aC (br em))))))))))))))))
end Go.Proofs.YtbmmhdmljajcfaaGreatDoor
