/- The abstract evaluator and its soundness: part VLaw. Conditions: as each section says. -/
import Derived.Test.YtbmmhdmljajcfaaGreatDoorVShape
import Derived.Test.YtbmmhdmljajcfaaGreatDoorRows
import Derived.ProofKit
import Derived.OpenShut
import Derived.ShutString
import Derived.Deep.Slices
set_option linter.unusedVariables false
set_option linter.unusedSimpArgs false
namespace Go.Proofs.YtbmmhdmljajcfaaGreatDoor.V
open Go
def tf (k:IntKind) (n:Int):Prop:=(Lit.int k n).wf=true
def Ym:Bool->iQ->Prop
 |true,.ints l=>l.length<=maxLen/\ ∀n∈l,tf .i64 n
 |false,.int n=>tf .i64 n
 |_,_=>False
def TG:List Bool->List iQ->Prop
 | [],[]=>True
 |b::sg,x::r=>Ym b x/\TG sg r
 |_,_=>False
def rC:Row->Prop
 | .ints k l=> ∀n∈l,tf k n
 | .eQ _=>True
 | .strs l=> ∀s∈l,s.size<=maxLen
 | .rows _ l=> ∀r∈l,r.length<=maxLen/\ ∀n∈r,tf .i64 n
 | .ek sg _ l=> ∀r∈l,TG sg r
def zD (r0 r:Row):Prop:=match r0,r with
 | .ints k _,.ints k' _=>k' =k
 | .eQ _,.eQ _=>True
 | .strs _,.strs _=>True
 | .rows _ _,.rows o _=>o=false
 | .ek sg _ _,.ek Wz o _=>Wz=sg/\o=false
 |_,_=>False
def TH (tt:TT) (t:Nat) (d:DL):Prop:=match tt t with
 |some ⟨.int k,_,_⟩=> ∃n,d= .i k n/\tf k n
 |some ⟨.bool,_,_⟩=> ∃b,d= .b b
 |some ⟨.str,_,_⟩=> ∃s,d= .s s/\s.size<=maxLen
 |some ⟨.slice e,_,_⟩=> ∃r0 r,eT tt e=some r0/\d= .sl .bi r/\zD r0 r/\rC r/\r.len<=maxLen
 |_=>False
def Yn (tt:TT):List Nat->List DL->Prop
 | [],[]=>True
 |t::ts,d::ds=>TH tt t d/\Yn tt ts ds
 |_,_=>False
def RM (tt:TT) (t:Nat) (d:DV):Prop:=match tt t with
 |some ⟨.struct _,_,_⟩=> ∃ds,d= .agg ds/\Yn tt (bn tt depth t) ds
 |_=> ∃x,d= .l x/\TH tt t x
def TI (tt:TT):List Nat->List DV->Prop
 | [],[]=>True
 |t::ts,d::ds=>RM tt t d/\TI tt ts ds
 |_,_=>False
def PI (tt:TT) (t:Nat):Bool:=match tt t with|some ⟨.int k,s,_⟩=>decide (k= .i64)&&s==1|_=>false
def uw (ok:Nat->Bool) (sz:Nat->Nat):Nat->List (Nat×Nat)->Nat->Bool
 |at',[],e=>at' ==e
 |at',(off,ft)::fs,e=>off==at' &&ok ft&&uw ok sz (at' +sz ft) fs e
def lA (tt:TT) (lf:Nat->Bool):Nat->Nat->Bool
 |0,t=>lf t&&cJ tt t==1&& !fT tt t
 |d+1,t=>match tt t with
  |some ⟨.struct fs,sz,_⟩=>uw (lA tt lf d) (cJ tt) 0 fs sz
  |_=>lf t&&cJ tt t==1
def wk (tt:TT) (t:Nat):Bool:=match tt t with
 |some ⟨.int k,_,_⟩=>decide (k= .i64)
 |some ⟨.slice e,_,_⟩=>PI tt e
 |_=>false
def QU (tt:TT) (e:Nat):Bool:=match tt e with
 |some ⟨.int _,s,_⟩=>s==1
 |some ⟨.bool,s,_⟩=>s==1
 |some ⟨.str,s,_⟩=>s==1
 |some ⟨.slice e',s,_⟩=>s==1&&PI tt e'
 |some ⟨.struct _,s,_⟩=>s==(bn tt depth e).length&&lA tt (wk tt) depth e
 |_=>false
def qI (tt:TT) (t:Nat):Bool:=match tt t with
 |some ⟨.int _,_,_⟩=>true
 |some ⟨.bool,_,_⟩=>true
 |some ⟨.str,_,_⟩=>true
 |some ⟨.slice e,_,_⟩=>QU tt e
 |_=>false
def served (tt:TT) (t:Nat):Bool:=lA tt (qI tt) depth t
section
variable {P:Program} {tt:TT} {H:Type} {enc:TypeId×Value->H} {w:World} {sp:Nat->Bool}
theorem rQ (T:qc P tt) {t:Nat} {e:TE} (h:tt t=some e):P.cellsOf t=cJ tt t:=by
 obtain ⟨i,h1,h2,_⟩:=(T t e h).Gg
 simp[Program.cellsOf,h1,h2,cJ,h]
def wP (w:World):Zs:=fun b=>b<w.heap.size
theorem PJ {a:Addr} {v:Value} (h:w.cell? a=some v):a.block<w.heap.size:=by
 unfold World.cell? at h
 cases e:w.heap[a.block]? with
 |none=>rw[e] at h;cases h
 |some o=>exact (Array.getElem?_eq_some_iff.1 e).1
theorem PK (T:qc P tt) {t e:Nat} {s b b':Nat} {k:IntKind} (ht:tt t=some ⟨.slice e,s,b⟩) (he:tt e=some ⟨.int k,1,b'⟩) {fuel:Nat} {v:Value} {x:DataW H×List MemPlace} (h:DataW.trod enc P w 0 (fun _=>true) true fuel t [v] =some x):
 ∃(l:LI) (A:Option Addr) (cap:Nat),v= .slice A l.length cap/\l.length<=cap/\l.length<=maxLen/\(∀n∈l,tf k n)/\(l≠[]-> ∃ad,A=some ad/\wP w ad.block/\ ∀(j:Nat) (n:Int),l[j]? =some n->w.cell? (ad.add j)=some (.int k n)):=by
 have hc:P.cellsOf e=1:=by rw[rQ T he];simp[cJ,he]
 rcases Go.ChangeShapes.open_ints (T t _ ht).desc (T e _ he).desc hc h with ⟨sf,_⟩| ⟨a,len,cap,zs,sf,_,hl,hm,hz,_,lV,hwz⟩
 ·cases sf
  exact ⟨[],none,0,rfl,by simp,by simp,by simp,fun h=>absurd rfl h⟩
 ·cases sf
  have UB:zs.length=cap:=by simpa using hz
  have hlen:(zs.take len).length=len:=by simp;omega
  refine ⟨zs.take len,some a,cap,by rw[hlen],by omega,by omega,fun n hn=>hwz n (List.mem_of_mem_take hn),fun nL=>⟨a,rfl,?_,fun j n hj=> ?_⟩⟩
  ·have h0:0<len:=by
    rcases bf len with e0|e0
    ·subst e0;simp at nL
    ·exact e0
   have:=lV 0 (by omega)
   have iS:=PJ this
   rwa [rR] at iS
  ·rw[List.getElem?_take] at hj
   split at hj
   ·rename_i Jk
    have:=lV j (by omega)
    rw[this]
    simp[aL,hj]
   ·cases hj
def Ak (R:Nat->Value->Prop):List Nat->List Value->Prop
 | [],[]=>True
 |t::ts,v::vs=>R t v/\Ak R ts vs
 |_,_=>False
theorem Ak.append {R:Nat->Value->Prop}: ∀ {ts us:List Nat} {vs ws:List Value},Ak R ts vs->Ak R us ws->Ak R (ts++us) (vs++ws)
 | [],_,[],_,_,h=>h
 |t::ts,_,v::vs,_,h,h'=>⟨h.1,Ak.append h.2 h'⟩
theorem Ak.length {R:Nat->Value->Prop}: ∀ {ts:List Nat} {vs:List Value},Ak R ts vs->ts.length=vs.length
 | [],[],_=>rfl
 |t::ts,v::vs,h=>by simp[Ak.length h.2]
theorem I3 {ok:Nat->Bool} {sz:Nat->Nat} {e:Nat}: ∀ {fs:List (Nat×Nat)} {a:Nat},uw ok sz a fs e=true->a<=e
 | [],a,h=>by simp[uw] at h;omega
 | (off,ft)::fs,a,h=>by
   simp only[uw,ay] at h
   have:=I3 h.2
   omega
theorem DJ {lf:Nat->Bool}: ∀ {d t:Nat},lA tt lf d t=true-> ∃e,tt t=some e:=by
 intro d t h
 cases ht:tt t with
 |some e=>exact ⟨e,rfl⟩
 |none=>
  cases d with
  |zero=>simp[lA,cJ,ht] at h
  |succ d=>simp[lA,cJ,ht] at h
def CS (enc:TypeId×Value->H) (P:Program) (w:World) (lf:Nat->Bool) (lt:Nat) (v:Value):Prop:=lf lt=true/\ ∃n y,DataW.trod enc P w 0 (fun _=>true) true n lt [v] =some y
theorem I4 (T:qc P tt) {lf:Nat->Bool}: ∀(d t:Nat),lA tt lf d t=true-> ∀ {fuel:Nat} {cs:List Value} {x:DataW H×List MemPlace},DataW.trod enc P w 0 (fun _=>true) true fuel t cs=some x->cs.length=cJ tt t->Ak (CS enc P w lf) (bn tt d t) cs:=by
 intro d
 induction d with
 |zero=>
  intro t hf fuel cs x h hl
  simp only[lA,ay,cG] at hf
  rw[hf.1.2] at hl
  match cs,hl with
  | [v],_=>exact ⟨⟨hf.1.1,fuel,x,h⟩,trivial⟩
 |succ d ih=>
  intro t hf fuel cs x h hl
  have leaf:(lf t&&cJ tt t==1)=true->bn tt (d+1) t=[t]->Ak (CS enc P w lf) (bn tt (d+1) t) cs:=fun h1 h2=>by
   simp only[ay,cG] at h1
   rw[h1.2] at hl
   rw[h2]
   match cs,hl with
   | [v],_=>exact ⟨⟨h1.1,fuel,x,h⟩,trivial⟩
  cases ht:tt t with
  |none=>simp only[lA,ht] at hf;exact leaf hf (by simp[bn,ht])
  |some e=>
   obtain ⟨k,sz,bs⟩:=e
   cases k with
   |struct fs=>
    simp only[lA,ht] at hf
    have iS:bn tt (d+1) t=fs.flatMap fun f=>bn tt d f.2:=by simp[bn,ht]
    rw[iS]
    obtain ⟨fields,hd,hfs,_⟩:=(T t _ ht).desc
    obtain ⟨xs,n,_,_,_,hxl,hx⟩:=DataW.trod_struct hd h
    have yd:cs.length=sz:=by rw[hl];simp[cJ,ht]
    have each: ∀p∈fs,(∃e,tt p.2=some e)-> ∃n y,DataW.trod enc P w 0 (fun _=>true) true n p.2 ((cs.drop p.1).take (cJ tt p.2))=some y:=fun p hp he=>by
     rw[<- hfs] at hp
     obtain ⟨f,hf1,rfl⟩:=List.mem_map.1 hp
     obtain ⟨i,hi⟩:=List.getElem?_of_mem hf1
     have xN:fields[i]? =some f:=by simpa using hi
     obtain ⟨e,he⟩:=he
     have tu:i<xs.length:=by rw[hxl];exact (Array.getElem?_eq_some_iff.1 xN).1
     refine ⟨n,xs[i],?_⟩
     have:=hx i f xN
     rw[rQ T he,aw tu] at this
     exact this
    have go: ∀(RN:List (Nat×Nat)) (a:Nat),(∀p∈RN,p∈fs)->uw (lA tt lf d) (cJ tt) a RN sz=true->Ak (CS enc P w lf) (RN.flatMap fun f=>bn tt d f.2) (cs.drop a):=by
     intro RN
     induction RN with
     |nil=>
      intro a _ hc
      simp[uw] at hc
      rw[List.drop_of_length_le (by omega)]
      trivial
     |cons p RN X_=>
      intro a QP hc
      obtain ⟨off,ft⟩:=p
      simp only[uw,ay,cG] at hc
      obtain ⟨⟨rfl,zk⟩,WD⟩:=hc
      obtain ⟨n',y,hy⟩:=each (off,ft) (QP _ (by simp)) (DJ zk)
      have hle:=I3 WD
      have h1:=ih ft zk hy (by simp;omega)
      have h2:=X_ (off+cJ tt ft) (fun q hq=>QP q (by simp[hq])) WD
      have e2:cs.drop off=(cs.drop off).take (cJ tt ft)++cs.drop (off+cJ tt ft):=by
       rw[<- List.drop_drop];exact (b_ _ _).symm
      rw[e2,List.flatMap_cons]
      exact Ak.append h1 h2
    have:=go fs 0 (fun p hp=>hp) hf
    simpa using this
   |_=>simp only[lA,ht] at hf;exact leaf hf (by simp[bn,ht])
theorem Gh {t:Nat} (h:PI tt t=true): ∃b,tt t=some ⟨.int .i64,1,b⟩:=by
 unfold PI at h
 split at h
 ·rename_i k s b ht
  simp only[ay,dH,cG] at h
  obtain ⟨rfl,rfl⟩:=h
  exact ⟨b,ht⟩
 ·cases h
theorem BJ {Z:Zs} {c:Cell} {v:Value} (h:ik w Z c v fz):aG w Z [c] [v] fz:=⟨fz,fz,h,rfl,(dw _).symm⟩
theorem I5 {Z:Zs} {c:Cell} {v:Value} {cs:List Cell} {vs:List Value} (h:ik w Z c v fz) (h':aG w Z cs vs fz):aG w Z (c::cs) (v::vs) fz:=⟨fz,fz,h,h',(dw _).symm⟩
theorem I6 (T:qc P tt): ∀(ts:List Nat) (cs:List Value),Ak (CS enc P w (wk tt)) ts cs-> ∃rec:List iQ,TG (ts.map (CR tt)) rec/\ ∀pre:List iQ,aG w (wP w) (cR false (pre++rec) pre.length (ts.map (CR tt))) cs fz
 | [],[],_=>⟨[],trivial,fun _=>rfl⟩
 |t::ts,v::cs,h=>by
  obtain ⟨⟨hl,n,y,hy⟩,hr⟩:=h
  obtain ⟨rec,h1,h2⟩:=I6 T ts cs hr
  unfold wk at hl
  split at hl
  ·rename_i k s b ht
   simp only[dH] at hl
   subst hl
   obtain ⟨z,hz,_,hw⟩:=DataW.trod_int (T t _ ht).desc hy
   cases hz
   have hs:CR tt t=false:=by simp[CR,ht]
   refine ⟨.int z::rec,?_,fun pre=> ?_⟩
   ·simp only[bM,hs];exact ⟨hw,h1⟩
   ·simp only[bM,hs,cR]
    refine I5 ⟨?_,rfl⟩ ?_
    ·simp[gi]
    ·have:=h2 (pre++[.int z])
     simpa using this
  ·rename_i e s b ht
   obtain ⟨b',he⟩:=Gh hl
   obtain ⟨l,A,cap,rfl,k1,k2,k3,k4⟩:=PK T ht he hy
   have hs:CR tt t=true:=by simp[CR,ht]
   refine ⟨.ints l::rec,?_,fun pre=> ?_⟩
   ·simp only[bM,hs];exact ⟨⟨k2,k3⟩,h1⟩
   ·simp only[bM,hs,cR]
    have e1:gl (pre++ .ints l::rec) pre.length=l:=by simp[gl]
    rw[e1]
    refine I5 ⟨rfl,A,cap,rfl,k1,k4⟩ ?_
    have:=h2 (pre++[.ints l])
    simpa using this
  ·cases hl
theorem VN (T:qc P tt) {e:Nat} {r0:Row} (rK:QU tt e=true) (h0:eT tt e=some r0) {n:Nat} {cs:List Value} {x:DataW H×List MemPlace} (h:DataW.trod enc P w 0 (fun _=>true) true n e cs=some x) (hlen:cs.length=cJ tt e):
 ∃r,zD r0 r/\rC r/\r.len=1/\aG w (wP w) r.cells cs fz/\r.cells.length=cs.length:=by
 unfold QU at rK
 split at rK
 ·rename_i k s b ht
  obtain ⟨z,rfl,_,hw⟩:=DataW.trod_int (T e _ ht).desc h
  simp only[eT,ht,af] at h0
  subst h0
  exact ⟨.ints k [z],rfl,by simp[rC];exact hw,rfl,BJ ⟨rfl,rfl⟩,rfl⟩
 ·rename_i s b ht
  obtain ⟨z,rfl,_⟩:=DataW.trod_bool (T e _ ht).desc h
  simp only[eT,ht,af] at h0
  subst h0
  exact ⟨.eQ [z],trivial,trivial,rfl,BJ ⟨rfl,rfl⟩,rfl⟩
 ·rename_i s b ht
  obtain ⟨z,rfl,_,hw⟩:=DataW.trod_string (T e _ ht).desc h
  simp only[eT,ht,af] at h0
  subst h0
  exact ⟨.strs [z],trivial,by simp[rC];exact hw,rfl,BJ ⟨rfl,rfl⟩,rfl⟩
 ·rename_i e' s b ht
  simp only[ay,cG] at rK
  obtain ⟨b',he⟩:=Gh rK.2
  have hs:cJ tt e=1:=by simp[cJ,ht,rK.1]
  rw[hs] at hlen
  match cs,hlen with
  | [v],_=>
    obtain ⟨l,A,cap,rfl,k1,k2,k3,k4⟩:=PK T ht he h
    simp only[eT,ht,af] at h0
    subst h0
    exact ⟨.rows false [l],rfl,by simp only[rC,List.mem_singleton,forall_eq];exact ⟨k2,k3⟩,rfl,BJ ⟨rfl,A,cap,rfl,k1,k4⟩,rfl⟩
 ·rename_i fs s b ht
  simp only[ay,cG] at rK
  have hr:=I4 T depth e rK.2 h hlen
  obtain ⟨rec,h1,h2⟩:=I6 T _ _ hr
  simp only[eT,ht] at h0
  obtain ⟨_,h0⟩:=aH h0
  simp only[af] at h0
  subst h0
  refine ⟨.ek ((bn tt depth e).map (CR tt)) false [rec],⟨rfl,rfl⟩,by simp only[rC,List.mem_singleton,forall_eq];exact h1,rfl,?_,?_⟩
  ·have:=h2 []
   simpa[Row.cells] using this
  ·simp[Row.cells,dV,hr.length]
 ·cases rK
theorem VO {r0 r r1:Row} (h:zD r0 r) (h1:zD r0 r1) (hw:rC r) (Y4:rC r1): ∃r',zD r0 r' /\rC r' /\r'.len=r.len+r1.len/\r'.cells=r.cells++r1.cells:=by
 have mem: ∀ {α:Type} {Q:α->Prop} {l m:List α},(∀x∈l,Q x)->(∀x∈m,Q x)-> ∀x∈l++m,Q x:=fun a b x hx=>(List.mem_append.1 hx).elim (a x) (b x)
 cases r0<;>cases r<;>simp only[zD] at h<;>try exact h.elim
 all_goals cases r1<;>simp only[zD] at h1<;>try exact h1.elim
 ·subst h;subst h1
  exact ⟨.ints _ (_++_),rfl,mem hw Y4,by simp[Row.len],by simp[Row.cells]⟩
 ·rename_i l1 l2
  exact ⟨.eQ (l1++l2),trivial,trivial,by simp[Row.len],by simp[Row.cells]⟩
 ·exact ⟨.strs (_++_),trivial,mem hw Y4,by simp[Row.len],by simp[Row.cells]⟩
 ·subst h;subst h1
  exact ⟨.rows false (_++_),rfl,mem hw Y4,by simp[Row.len],by simp[Row.cells]⟩
 ·obtain ⟨rfl,rfl⟩:=h
  obtain ⟨rfl,rfl⟩:=h1
  exact ⟨.ek _ false (_++_),⟨rfl,rfl⟩,mem hw Y4,by simp[Row.len],by simp[Row.cells]⟩
theorem Kx {e:Nat} {r0:Row} (h0:eT tt e=some r0):zD r0 r0.jw/\rC r0.jw/\r0.jw.len=0/\r0.jw.cells=[]:=by
 unfold eT at h0
 split at h0
 ·cases h0;exact ⟨rfl,by simp[Row.jw,rC],rfl,rfl⟩
 ·cases h0;exact ⟨trivial,trivial,rfl,rfl⟩
 ·cases h0;exact ⟨trivial,by simp[Row.jw,rC],rfl,rfl⟩
 ·cases h0;exact ⟨rfl,by simp[Row.jw,rC],rfl,rfl⟩
 ·obtain ⟨_,h0⟩:=aH h0
  cases h0;exact ⟨⟨rfl,rfl⟩,by simp[Row.jw,rC],rfl,rfl⟩
 ·cases h0
theorem open_row (T:qc P tt) {t e s b:Nat} (ht:tt t=some ⟨.slice e,s,b⟩) (rK:QU tt e=true) {r0:Row} (h0:eT tt e=some r0) {fuel:Nat} {v:Value} {x:DataW H×List MemPlace} (h:DataW.trod enc P w 0 (fun _=>true) true fuel t [v] =some x):
 ∃r,zD r0 r/\rC r/\r.len<=maxLen/\iq w (wP w) r v:=by
 obtain ⟨z1,z2,z3,z4⟩:=Kx h0
 rcases Go.Deep.open_slice (T t _ ht).desc h with ⟨sf,_⟩| ⟨a,len,cap,m,n,D,Pl,sf,_,hl,hm,hmm,_,hx⟩
 ·cases sf
  exact ⟨r0.jw,z1,z2,by rw[z3];exact Nat.zero_le _,vW z3⟩
 ·cases sf
  obtain ⟨te,K0⟩: ∃te,tt e=some te:=by
   cases q:tt e with
   |some te=>exact ⟨te,rfl⟩
   |none=>simp[QU,q] at rK
  have oX:=rQ T K0
  rw[oX] at hx
  have hm':m=cap:=by simpa using hmm
  have key: ∀k,k<=m-> ∃r,zD r0 r/\rC r/\r.len=k/\ ∃vs:List Value,vs.length=k*cJ tt e/\(∀j,j<k*cJ tt e->w.cell? (a.add j)=vs[j]?)/\aG w (wP w) r.cells vs fz/\r.cells.length=k*cJ tt e:=by
   intro k
   induction k with
   |zero=>intro _;exact ⟨r0.jw,z1,z2,z3,[],by simp,by simp,by rw[z4];rfl,by rw[z4];simp⟩
   |succ k ih=>
    intro hk
    obtain ⟨r,k1,k2,k3,vs,k4,k5,k6,k7⟩:=ih (by omega)
    obtain ⟨cs',c1,c2⟩:=hx k (by omega)
    obtain ⟨_,c3,c4⟩:=World.cells?_some c1
    obtain ⟨r1,q1,q2,q3,q4,q5⟩:=VN T rK h0 c2 c3
    obtain ⟨r',p1,p2,p3,p4⟩:=VO k1 q1 k2 q2
    refine ⟨r',p1,p2,by omega,vs++cs',by rw[au,k4,c3,Nat.succ_mul],fun j hj=> ?_,?_,?_⟩
    ·by_cases VA:j<k*cJ tt e
     ·rw[k5 j VA,List.getElem?_append_left (by omega)]
     ·have Zc:j-k*cJ tt e<cJ tt e:=by rw[Nat.succ_mul] at hj;omega
      have:=c4 (j-k*cJ tt e) Zc
      rw[add_add,show k*cJ tt e+(j-k*cJ tt e)=j by omega] at this
      rw[this,List.getElem?_append_right (by omega),k4]
    ·rw[p4]
     have:=aG.append k6 (by rw[k4,k7]) q4
     rwa [dw] at this
    ·rw[p4,au,k7,q5,c3,Nat.succ_mul]
  obtain ⟨r,k1,k2,k3,vs,k4,k5,k6,k7⟩:=key len (by omega)
  have D9:0<cJ tt e:=by
   have:=(T e _ K0).some.1
   simpa[cJ,K0] using this
  refine ⟨r,k1,k2,by omega,some a,cap,by rw[k3],by omega,fun nL=>⟨a,rfl,?_,vs,fun j hj=>k5 j (by omega),k6⟩⟩
  have ac1:0<len*cJ tt e:=Nat.mul_pos (by omega) D9
  have Yl:=k5 0 ac1
  rw[aw (by omega)] at Yl
  have:=PJ Yl
  rwa [rR] at this
theorem I7 (T:qc P tt) {Zf:Zs} {t:Nat} {v:Value} (h:CS enc P w (qI tt) t v): ∃d,oJ w Zf (wP w) d v fz/\TH tt t d:=by
 obtain ⟨hl,n,y,hy⟩:=h
 unfold qI at hl
 split at hl
 ·rename_i k s b ht
  obtain ⟨z,hz,_,hw⟩:=DataW.trod_int (T t _ ht).desc hy
  cases hz
  exact ⟨.i k z,⟨rfl,rfl⟩,by unfold TH;rw[ht];exact ⟨z,rfl,hw⟩⟩
 ·rename_i s b ht
  obtain ⟨z,hz,_⟩:=DataW.trod_bool (T t _ ht).desc hy
  cases hz
  exact ⟨.b z,⟨rfl,rfl⟩,by unfold TH;rw[ht];exact ⟨z,rfl⟩⟩
 ·rename_i s b ht
  obtain ⟨z,hz,_,hw⟩:=DataW.trod_string (T t _ ht).desc hy
  cases hz
  exact ⟨.s z,⟨rfl,rfl⟩,by unfold TH;rw[ht];exact ⟨z,rfl,hw⟩⟩
 ·rename_i e s b ht
  obtain ⟨r0,h0⟩: ∃r0,eT tt e=some r0:=by
   unfold QU at hl
   split at hl
   ·rename_i q;exact ⟨_,by simp only[eT,q];rfl⟩
   ·rename_i q;exact ⟨_,by simp only[eT,q];rfl⟩
   ·rename_i q;exact ⟨_,by simp only[eT,q];rfl⟩
   ·rename_i q;exact ⟨_,by simp only[eT,q];rfl⟩
   ·rename_i fs s' b' q
    simp only[ay,cG] at hl
    refine ⟨.ek ((bn tt depth e).map (CR tt)) true [],?_⟩
    have w9:(bn tt depth e).all (xT tt)=true:=by
     have key: ∀(d t:Nat),lA tt (wk tt) d t=true->(bn tt d t).all (xT tt)=true:=by
      have one: ∀t,wk tt t=true->xT tt t=true:=fun t h=>by
       unfold wk at h
       split at h
       ·rename_i q;simp only[xT,q];exact h
       ·rename_i q;simp only[xT,q]
       ·cases h
      intro d
      induction d with
      |zero=>intro t h;simp only[lA,ay] at h;simp[bn,one t h.1.1]
      |succ d ih=>
       intro t h
       cases q2:tt t with
       |none=>simp[lA,q2,cJ] at h
       |some te=>
        obtain ⟨kk,sz,bs⟩:=te
        cases kk with
        |struct fs2=>
         simp only[lA,q2] at h
         simp only[bn,q2]
         have go: ∀(RN:List (Nat×Nat)) (a:Nat),uw (lA tt (wk tt) d) (cJ tt) a RN sz=true->(RN.flatMap fun f=>bn tt d f.2).all (xT tt)=true:=by
          intro RN
          induction RN with
          |nil=>intro _ _;rfl
          |cons p RN X_=>
           intro a hc
           obtain ⟨off,ft⟩:=p
           simp only[uw,ay] at hc
           rw[List.flatMap_cons,List.all_append,ih ft hc.1.2,X_ _ hc.2];rfl
         exact go fs2 0 h
        |_=>simp only[lA,q2,ay] at h;simp[bn,q2,one t h.1]
     exact key depth e hl.2
    simp only[eT,q,w9,ak]
   ·cases hl
  obtain ⟨r,k1,k2,k3,k4⟩:=open_row T ht hl h0 hy
  exact ⟨.sl .bi r,⟨k4,rfl⟩,by unfold TH;rw[ht];exact ⟨r0,r,h0,rfl,k1,k2,k3⟩⟩
 ·cases hl
theorem DM (T:qc P tt) {Zf:Zs}: ∀ {ts:List Nat} {vs:List Value},Ak (CS enc P w (qI tt)) ts vs-> ∃ds,nn w Zf (wP w) ds vs fz/\Yn tt ts ds
 | [],[],_=>⟨[],rfl,trivial⟩
 |t::ts,v::vs,h=>by
  obtain ⟨d,h1,h2⟩:=I7 T (Zf:=Zf) h.1
  obtain ⟨ds,h3,h4⟩:=DM T (Zf:=Zf) h.2
  exact ⟨d::ds,⟨fz,fz,h1,h3,(dw _).symm⟩,h2,h4⟩
theorem TJ (T:qc P tt) {Zf:Zs} {t:Nat} {v:Value} (hs:served tt t=true) {r:Reach} {base:Nat} (EL:Value.okWide P w r base t v) {d:DataW H} {ps:List MemPlace} (h:DataW.Trod enc P w 0 (fun _=>true) true t v d ps): ∃dv,sM w Zf (wP w) dv v fz/\RM tt t dv:=by
 obtain ⟨fuel,hf⟩:=h
 obtain ⟨e,ht⟩:=DJ hs
 obtain ⟨k,s,b⟩:=e
 have leaf:v.cells.toList=[v]->(qI tt t&&cJ tt t==1)=true->(∀x,RM tt t (.l x)↔TH tt t x)-> ∃dv,sM w Zf (wP w) dv v fz/\RM tt t dv:=fun h1 h2 h3=>by
  rw[h1] at hf
  simp only[ay] at h2
  obtain ⟨d,k1,k2⟩:=I7 T (Zf:=Zf) ⟨h2.1,fuel,_,hf⟩
  exact ⟨.l d,k1,(h3 d).2 k2⟩
 have hd:=(T t _ ht).desc
 cases k with
 |struct fs=>
  obtain ⟨fields,hd,_⟩:=hd
  obtain ⟨cs,rfl,sf⟩:=Go.WideShapes.okWide_struct hd EL
  have hlen:cs.toList.length=cJ tt t:=by rw[bC,sf,rQ T ht]
  have hr:=I4 T depth t hs hf hlen
  obtain ⟨ds,k1,k2⟩:=DM T (Zf:=Zf) hr
  refine ⟨.agg ds,⟨cs.toList,by simp,k1⟩,?_⟩
  unfold RM;rw[ht];exact ⟨ds,rfl,k2⟩
 |int k=>
  obtain ⟨n,rfl⟩:=Go.WideShapes.okWide_int hd EL
  exact leaf rfl (by simpa[served,lA,depth,ht] using hs) (fun x=>by unfold RM;rw[ht];simp)
 |bool=>
  obtain ⟨n,rfl⟩:=Go.WideShapes.okWide_bool hd EL
  exact leaf rfl (by simpa[served,lA,depth,ht] using hs) (fun x=>by unfold RM;rw[ht];simp)
 |str=>
  obtain ⟨n,rfl⟩:=Go.WideShapes.okWide_string hd EL
  exact leaf rfl (by simpa[served,lA,depth,ht] using hs) (fun x=>by unfold RM;rw[ht];simp)
 |slice e=>
  obtain ⟨a,l,c,rfl⟩:=Go.WideShapes.okWide_slice hd EL
  exact leaf rfl (by simpa[served,lA,depth,ht] using hs) (fun x=>by unfold RM;rw[ht];simp)
 |_=>simp[served,lA,depth,ht,qI] at hs
theorem H7 (T:qc P tt) {Zf:Zs} {r:Reach} {base:Nat}: ∀ {ts:List Nat} {vs:List Value} {ds:List (DataW H)} {ps:List MemPlace},ts.all (served tt)=true->(∀(j:Nat) t v,ts[j]? =some t->vs[j]? =some v->Value.okWide P w r base t v)->DataW.TrodAll enc P w 0 (fun _=>true) true ts vs ds ps-> ∃Cf,fR w Zf (wP w) Cf vs fz/\TI tt ts Cf
 | [],[],_,_,_,_,_=>⟨[],rfl,trivial⟩
 | [],_::_,[],_,_,_,h=>h.elim
 | [],_::_,_::_,_,_,_,h=>h.elim
 |_::_,[],[],_,_,_,h=>h.elim
 |_::_,[],_::_,_,_,_,h=>h.elim
 |_::_,_::_,[],_,_,_,h=>h.elim
 |t::ts,v::vs,d::ds,ps,hs,EL,h=>by
  obtain ⟨p,q,h1,h2,_⟩:=h
  simp only[List.all_cons,ay] at hs
  obtain ⟨dv,k1,k2⟩:=TJ T (Zf:=Zf) hs.1 (EL 0 t v rfl rfl) h1
  obtain ⟨Cf,k3,k4⟩:=H7 T (Zf:=Zf) hs.2 (fun j t' v' e1 e2=>EL (j+1) t' v' (by simpa using e1) (by simpa using e2)) h2
  exact ⟨dv::Cf,⟨fz,fz,k1,k3,(dw _).symm⟩,k2,k4⟩
end
section
variable {P:Program} {tt:TT}
theorem Frame.below {C:Cx} {w':World} (h:Frame C w') (h0:C.F0=fz):Go.RowKit.Below C.w0.heap.size C.w0 w':=
 ⟨h.os,h.tape,h.output,h.size,fun b hb=>h.block b hb (by rw[h0];rfl)⟩
def Yo (P:Program) (w:World) (hg:Ground P w (wP w)):Cx:={P0:=P,gnd:=hg,w0:=w,F0:=fz,Zl:=wP w,Zf0:=wP w,N:=0,kv:=[],good:=fun b hb=>⟨hb.elim id id,rfl⟩}
theorem Hr {w:World} (hg:Ground P w (wP w)) {f:FuncId} {g:yb} {ds:List DV} {args:Array Value} (yc:wN g.kS=true) (hc:eP P f g ds [.l (.b true)]) (ha:fR w (wP w) (wP w) ds args.toList fz):Calls P f args w fun e w'=>e= .returned (.bool true)/\Go.RowKit.Below w.heap.size w w':=by
 have h:=hc (Yo P w hg) args.toList rfl ha (fun b=>by show fz b<=1;simp) (fun b hb=>by have:1<=fz b:=hb;simp at this)
 rw[Array.toArray_toList] at h
 refine Calls.mono h fun e w' he=> ?_
 obtain ⟨vs,F',rfl,hlen,OY,_,_,hrel⟩:=he
 rw[ky _ _ yc,cm] at hrel
 refine ⟨?_,OY.below rfl⟩
 cases vs with
 |nil=>exact hrel.elim
 |cons v vs=>
  obtain ⟨F1,F2,h1,h2,_⟩:=hrel
  cases vs with
  |nil=>rw[show v= .bool true from h1.1];rfl
  |cons u us=>exact h2.elim
theorem Nn {H:Type} {enc:TypeId×Value->H} {P:Program} {w:World} {base:Nat} {sp:Nat->Bool} {held:Bool} {fuel t:Nat} {ms:Array (String×TypeId)} {cs:List Value} {nm:String} {d:DataW H} {p:List MemPlace}
 (ht:P.underlying t=some (.interface ms)) (h:DataW.trod enc P w base sp held fuel t cs=some (.iface nm d,p)): ∃u v,cs=[.iface u v]:=by
 cases fuel with
 |zero=>simp[DataW.trod] at h
 |succ fuel=>
  simp only[DataW.trod,ht] at h
  split at h
  all_goals first
   |exact ⟨_,_,rfl⟩
   |simp_all
end
section
variable {tt:TT}
theorem P6 {t:Nat} {ts:List Nat} {Cf:List DV} (h:TI tt (t::ts) Cf): ∃d ds,Cf=d::ds/\RM tt t d/\TI tt ts ds:=by
 cases Cf with
 |nil=>exact h.elim
 |cons d ds=>exact ⟨d,ds,rfl,h.1,h.2⟩
theorem Sk {Cf:List DV} (h:TI tt [] Cf):Cf=[]:=by
 cases Cf with
 |nil=>rfl
 |cons d ds=>exact h.elim
theorem iX {t:Nat} {ts:List Nat} {Cf:List DL} (h:Yn tt (t::ts) Cf): ∃d ds,Cf=d::ds/\TH tt t d/\Yn tt ts ds:=by
 cases Cf with
 |nil=>exact h.elim
 |cons d ds=>exact ⟨d,ds,rfl,h.1,h.2⟩
theorem ab3 {Cf:List DL} (h:Yn tt [] Cf):Cf=[]:=by
 cases Cf with
 |nil=>rfl
 |cons d ds=>exact h.elim
theorem acW {t s b:Nat} {fs:List (Nat×Nat)} (ht:tt t=some ⟨.struct fs,s,b⟩) {d:DV} (h:RM tt t d): ∃ds,d= .agg ds/\Yn tt (bn tt depth t) ds:=by
 unfold RM at h;rw[ht] at h;exact h
theorem ZN {t:Nat} (ht:fT tt t=false) {d:DV} (h:RM tt t d): ∃x,d= .l x/\TH tt t x:=by
 unfold RM at h
 split at h
 ·rename_i q;simp[fT,q] at ht
 ·exact h
theorem PS {t s b:Nat} {k:IntKind} (ht:tt t=some ⟨.int k,s,b⟩) {d:DL} (h:TH tt t d): ∃n,d= .i k n/\tf k n:=by
 unfold TH at h;rw[ht] at h;exact h
theorem abe {t s b:Nat} (ht:tt t=some ⟨.bool,s,b⟩) {d:DL} (h:TH tt t d): ∃n,d= .b n:=by
 unfold TH at h;rw[ht] at h;exact h
theorem UY {t s b:Nat} (ht:tt t=some ⟨.str,s,b⟩) {d:DL} (h:TH tt t d): ∃n,d= .s n/\n.size<=maxLen:=by
 unfold TH at h;rw[ht] at h;exact h
theorem abR {t e s b:Nat} (ht:tt t=some ⟨.slice e,s,b⟩) {r0:Row} (h0:eT tt e=some r0) {d:DL} (h:TH tt t d): ∃r,d= .sl .bi r/\zD r0 r/\rC r/\r.len<=maxLen:=by
 unfold TH at h;rw[ht] at h
 obtain ⟨r0',r,h1,h2,h3⟩:=h
 rw[h0] at h1;cases h1
 exact ⟨r,h2,h3⟩
theorem QA {t e s b:Nat} {k:IntKind} (ht:tt t=some ⟨.slice e,s,b⟩) (h0:eT tt e=some (.ints k [])) {d:DL} (h:TH tt t d): ∃l,d= .sl .bi (.ints k l)/\(∀n∈l,tf k n)/\l.length<=maxLen:=by
 obtain ⟨r,h1,h2,h3,h4⟩:=abR ht h0 h
 cases r with
 |ints k' l=>cases (show k' =k from h2);exact ⟨l,h1,h3,h4⟩
 |_=>exact h2.elim
theorem abJ {t e s b:Nat} (ht:tt t=some ⟨.slice e,s,b⟩) (h0:eT tt e=some (.rows true [])) {d:DL} (h:TH tt t d): ∃l,d= .sl .bi (.rows false l)/\(∀r∈l,r.length<=maxLen/\ ∀n∈r,tf .i64 n)/\l.length<=maxLen:=by
 obtain ⟨r,h1,h2,h3,h4⟩:=abR ht h0 h
 cases r with
 |rows o l=>cases (show o=false from h2);exact ⟨l,h1,h3,h4⟩
 |_=>exact h2.elim
end
section
variable {P:Program} {H:Type} {enc:TypeId×Value->H}
theorem Sj {w:World} {name:String} {g:Nat} {cs:Array Value} (hg:P.globalNamed name=some g) (hv:w.var? P name=some cs):g<w.heap.size:=by
 unfold World.var? at hv
 rw[hg] at hv
 simp only[aO] at hv
 by_cases h:g<w.heap.size
 ·exact h
 ·rw[Array.getElem?_eq_none (by omega)] at hv
  cases hv
end
