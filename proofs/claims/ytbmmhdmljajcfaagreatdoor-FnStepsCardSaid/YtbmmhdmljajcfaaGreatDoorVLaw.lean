/- The abstract evaluator and its soundness: part VLaw. Conditions: as each section says. -/
import Derived.Test.YtbmmhdmljajcfaaGreatDoorVShape
import Derived.Test.YtbmmhdmljajcfaaGreatDoorRows
import Derived.WalkKit
import Derived.ProofKit
import Derived.OpenShut
import Derived.ShutString
import Derived.ChangeOld
import Derived.Carry
import Derived.Deep.Slices
set_option linter.unusedVariables false
set_option linter.unusedSimpArgs false
namespace Go.Proofs.YtbmmhdmljajcfaaGreatDoor.V
open Go
def yO (k:IntKind) (n:Int):Prop:=(Lit.int k n).wf=true
def Ps:Bool->jC->Prop
 |true,.ints l=>l.length<=maxLen/\ ∀n∈l,yO .i64 n
 |false,.int n=>yO .i64 n
 |_,_=>False
def LN:List Bool->List jC->Prop
 | [],[]=>True
 |b::sg,x::r=>Ps b x/\LN sg r
 |_,_=>False
def lZ:Row->Prop
 | .ints k l=> ∀n∈l,yO k n
 | .cx _=>True
 | .strs l=> ∀s∈l,s.size<=maxLen
 | .rows _ l=> ∀r∈l,r.length<=maxLen/\ ∀n∈r,yO .i64 n
 | .cB sg _ l=> ∀r∈l,LN sg r
def qv (r0 r:Row):Prop:=match r0,r with
 | .ints k _,.ints k' _=>k' =k
 | .cx _,.cx _=>True
 | .strs _,.strs _=>True
 | .rows _ _,.rows o _=>o=false
 | .cB sg _ _,.cB Oe o _=>Oe=sg/\o=false
 |_,_=>False
def Kn (tt:TT) (t:Nat) (d:DL):Prop:=match tt t with
 |some ⟨.int k,_,_⟩=> ∃n,d= .i k n/\yO k n
 |some ⟨.bool,_,_⟩=> ∃b,d= .b b
 |some ⟨.str,_,_⟩=> ∃s,d= .s s/\s.size<=maxLen
 |some ⟨.slice e,_,_⟩=> ∃r0 r,cp tt e=some r0/\d= .sl .aZ r/\qv r0 r/\lZ r/\r.len<=maxLen
 |_=>False
def Pt (tt:TT):List Nat->List DL->Prop
 | [],[]=>True
 |t::ts,d::ds=>Kn tt t d/\Pt tt ts ds
 |_,_=>False
def Ko (tt:TT) (t:Nat) (d:DV):Prop:=match tt t with
 |some ⟨.struct _,_,_⟩=> ∃ds,d= .agg ds/\Pt tt (aA tt depth t) ds
 |_=> ∃x,d= .l x/\Kn tt t x
def LO (tt:TT):List Nat->List DV->Prop
 | [],[]=>True
 |t::ts,d::ds=>Ko tt t d/\LO tt ts ds
 |_,_=>False
def IT (tt:TT) (t:Nat):Bool:=match tt t with|some ⟨.int k,s,_⟩=>decide (k= .i64)&&s==1|_=>false
def oa (ok:Nat->Bool) (sz:Nat->Nat):Nat->List (Nat×Nat)->Nat->Bool
 |at',[],e=>at' ==e
 |at',(off,ft)::fs,e=>off==at' &&ok ft&&oa ok sz (at' +sz ft) fs e
def gF (tt:TT) (lf:Nat->Bool):Nat->Nat->Bool
 |0,t=>lf t&&bh tt t==1&& !cZ tt t
 |d+1,t=>match tt t with
  |some ⟨.struct fs,sz,_⟩=>oa (gF tt lf d) (bh tt) 0 fs sz
  |_=>lf t&&bh tt t==1
def pn (tt:TT) (t:Nat):Bool:=match tt t with
 |some ⟨.int k,_,_⟩=>decide (k= .i64)
 |some ⟨.slice e,_,_⟩=>IT tt e
 |_=>false
def JL (tt:TT) (e:Nat):Bool:=match tt e with
 |some ⟨.int _,s,_⟩=>s==1
 |some ⟨.bool,s,_⟩=>s==1
 |some ⟨.str,s,_⟩=>s==1
 |some ⟨.slice e',s,_⟩=>s==1&&IT tt e'
 |some ⟨.struct _,s,_⟩=>s==(aA tt depth e).length&&gF tt (pn tt) depth e
 |_=>false
def lD (tt:TT) (t:Nat):Bool:=match tt t with
 |some ⟨.int _,_,_⟩=>true
 |some ⟨.bool,_,_⟩=>true
 |some ⟨.str,_,_⟩=>true
 |some ⟨.slice e,_,_⟩=>JL tt e
 |_=>false
def served (tt:TT) (t:Nat):Bool:=gF tt (lD tt) depth t
section
variable {P:Program} {tt:TT} {H:Type} {enc:TypeId×Value->H} {w:World} {sp:Nat->Bool}
theorem mE (T:kQ P tt) {t:Nat} {e:TE} (h:tt t=some e):P.cellsOf t=bh tt t:=by
 obtain ⟨i,h1,h2,_⟩:=(T t e h).zz
 simp[Program.cellsOf,h1,h2,bh,h]
def nQ (w:World):Zs:=fun b=>b<w.heap.size
theorem IU {a:Addr} {v:Value} (h:w.cell? a=some v):a.block<w.heap.size:=by
 unfold World.cell? at h
 cases e:w.heap[a.block]? with
 |none=>rw[e] at h;cases h
 |some o=>exact (Array.getElem?_eq_some_iff.1 e).1
theorem IV (T:kQ P tt) {t e:Nat} {s b b':Nat} {k:IntKind} (ht:tt t=some ⟨.slice e,s,b⟩) (he:tt e=some ⟨.int k,1,b'⟩) {fuel:Nat} {v:Value} {x:DataW H×List MemPlace} (h:DataW.trod enc P w 0 (fun _=>true) true fuel t [v] =some x):
 ∃(l:List Int) (A:Option Addr) (cap:Nat),v= .slice A l.length cap/\l.length<=cap/\l.length<=maxLen/\(∀n∈l,yO k n)/\(l≠[]-> ∃ad,A=some ad/\nQ w ad.block/\ ∀(j:Nat) (n:Int),l[j]? =some n->w.cell? (ad.add j)=some (.int k n)):=by
 have hc:P.cellsOf e=1:=by rw[mE T he];simp[bh,he]
 rcases Go.ChangeShapes.open_ints (T t _ ht).desc (T e _ he).desc hc h with ⟨np,_⟩| ⟨a,len,cap,zs,np,_,hl,hm,hz,_,gW,Xb⟩
 ·cases np
  exact ⟨[],none,0,rfl,by simp,by simp,by simp,fun h=>absurd rfl h⟩
 ·cases np
  have Mn:zs.length=cap:=by simpa using hz
  have hlen:(zs.take len).length=len:=by simp;omega
  refine ⟨zs.take len,some a,cap,by rw[hlen],by omega,by omega,fun n hn=>Xb n (List.mem_of_mem_take hn),fun mg=>⟨a,rfl,?_,fun j n hj=> ?_⟩⟩
  ·have h0:0<len:=by
    rcases Nat.eq_zero_or_pos len with e0|e0
    ·subst e0;simp at mg
    ·exact e0
   have:=gW 0 (by omega)
   have fJ:=IU this
   rwa [mF] at fJ
  ·rw[List.getElem?_take] at hj
   split at hj
   ·rename_i Ch
    have:=gW j (by omega)
    rw[this]
    simp[List.getD_eq_getElem?_getD,hj]
   ·cases hj
def tL (R:Nat->Value->Prop):List Nat->List Value->Prop
 | [],[]=>True
 |t::ts,v::vs=>R t v/\tL R ts vs
 |_,_=>False
theorem tL.append {R:Nat->Value->Prop}: ∀ {ts us:List Nat} {vs ws:List Value},tL R ts vs->tL R us ws->tL R (ts++us) (vs++ws)
 | [],_,[],_,_,h=>h
 |t::ts,_,v::vs,_,h,h'=>⟨h.1,tL.append h.2 h'⟩
theorem tL.length {R:Nat->Value->Prop}: ∀ {ts:List Nat} {vs:List Value},tL R ts vs->ts.length=vs.length
 | [],[],_=>rfl
 |t::ts,v::vs,h=>by simp[tL.length h.2]
theorem B0 {ok:Nat->Bool} {sz:Nat->Nat} {e:Nat}: ∀ {fs:List (Nat×Nat)} {a:Nat},oa ok sz a fs e=true->a<=e
 | [],a,h=>by simp[oa] at h;omega
 | (off,ft)::fs,a,h=>by
   simp only[oa,Bool.and_eq_true] at h
   have:=B0 h.2
   omega
theorem xD {lf:Nat->Bool}: ∀ {d t:Nat},gF tt lf d t=true-> ∃e,tt t=some e:=by
 intro d t h
 cases ht:tt t with
 |some e=>exact ⟨e,rfl⟩
 |none=>
  cases d with
  |zero=>simp[gF,bh,ht] at h
  |succ d=>simp[gF,bh,ht] at h
def wX (enc:TypeId×Value->H) (P:Program) (w:World) (lf:Nat->Bool) (lt:Nat) (v:Value):Prop:=lf lt=true/\ ∃n y,DataW.trod enc P w 0 (fun _=>true) true n lt [v] =some y
theorem B1 (T:kQ P tt) {lf:Nat->Bool}: ∀(d t:Nat),gF tt lf d t=true-> ∀ {fuel:Nat} {cs:List Value} {x:DataW H×List MemPlace},DataW.trod enc P w 0 (fun _=>true) true fuel t cs=some x->cs.length=bh tt t->tL (wX enc P w lf) (aA tt d t) cs:=by
 intro d
 induction d with
 |zero=>
  intro t hf fuel cs x h hl
  simp only[gF,Bool.and_eq_true,beq_iff_eq] at hf
  rw[hf.1.2] at hl
  match cs,hl with
  | [v],_=>exact ⟨⟨hf.1.1,fuel,x,h⟩,trivial⟩
 |succ d ih=>
  intro t hf fuel cs x h hl
  have leaf:(lf t&&bh tt t==1)=true->aA tt (d+1) t=[t]->tL (wX enc P w lf) (aA tt (d+1) t) cs:=fun h1 h2=>by
   simp only[Bool.and_eq_true,beq_iff_eq] at h1
   rw[h1.2] at hl
   rw[h2]
   match cs,hl with
   | [v],_=>exact ⟨⟨h1.1,fuel,x,h⟩,trivial⟩
  cases ht:tt t with
  |none=>simp only[gF,ht] at hf;exact leaf hf (by simp[aA,ht])
  |some e=>
   obtain ⟨k,sz,bs⟩:=e
   cases k with
   |struct fs=>
    simp only[gF,ht] at hf
    have fJ:aA tt (d+1) t=fs.flatMap fun f=>aA tt d f.2:=by simp[aA,ht]
    rw[fJ]
    obtain ⟨fields,hd,Vz,_⟩:=(T t _ ht).desc
    obtain ⟨xs,n,_,_,_,Sd,hx⟩:=DataW.trod_struct hd h
    have sB:cs.length=sz:=by rw[hl];simp[bh,ht]
    have each: ∀p∈fs,(∃e,tt p.2=some e)-> ∃n y,DataW.trod enc P w 0 (fun _=>true) true n p.2 ((cs.drop p.1).take (bh tt p.2))=some y:=fun p hp he=>by
     rw[<- Vz] at hp
     obtain ⟨f,Xc,rfl⟩:=List.mem_map.1 hp
     obtain ⟨i,hi⟩:=List.getElem?_of_mem Xc
     have qk:fields[i]? =some f:=by simpa using hi
     obtain ⟨e,he⟩:=he
     have Q8:i<xs.length:=by rw[Sd];exact (Array.getElem?_eq_some_iff.1 qk).1
     refine ⟨n,xs[i],?_⟩
     have:=hx i f qk
     rw[mE T he,List.getElem?_eq_getElem Q8] at this
     exact this
    have go: ∀(Kp:List (Nat×Nat)) (a:Nat),(∀p∈Kp,p∈fs)->oa (gF tt lf d) (bh tt) a Kp sz=true->tL (wX enc P w lf) (Kp.flatMap fun f=>aA tt d f.2) (cs.drop a):=by
     intro Kp
     induction Kp with
     |nil=>
      intro a _ hc
      simp[oa] at hc
      rw[List.drop_of_length_le (by omega)]
      trivial
     |cons p Kp Pc=>
      intro a JF hc
      obtain ⟨off,ft⟩:=p
      simp only[oa,Bool.and_eq_true,beq_iff_eq] at hc
      obtain ⟨⟨rfl,xS⟩,Oi⟩:=hc
      obtain ⟨n',y,hy⟩:=each (off,ft) (JF _ (by simp)) (xD xS)
      have hle:=B0 Oi
      have h1:=ih ft xS hy (by simp;omega)
      have h2:=Pc (off+bh tt ft) (fun q hq=>JF q (by simp[hq])) Oi
      have e2:cs.drop off=(cs.drop off).take (bh tt ft)++cs.drop (off+bh tt ft):=by
       rw[<- List.drop_drop];exact (List.take_append_drop _ _).symm
      rw[e2,List.flatMap_cons]
      exact tL.append h1 h2
    have:=go fs 0 (fun p hp=>hp) hf
    simpa using this
   |_=>simp only[gF,ht] at hf;exact leaf hf (by simp[aA,ht])
theorem zA {t:Nat} (h:IT tt t=true): ∃b,tt t=some ⟨.int .i64,1,b⟩:=by
 unfold IT at h
 split at h
 ·rename_i k s b ht
  simp only[Bool.and_eq_true,decide_eq_true_eq,beq_iff_eq] at h
  obtain ⟨rfl,rfl⟩:=h
  exact ⟨b,ht⟩
 ·cases h
theorem uY {Z:Zs} {c:Cell} {v:Value} (h:dZ w Z c v fz):ah w Z [c] [v] fz:=⟨fz,fz,h,rfl,(b_ _).symm⟩
theorem B2 {Z:Zs} {c:Cell} {v:Value} {cs:List Cell} {vs:List Value} (h:dZ w Z c v fz) (h':ah w Z cs vs fz):ah w Z (c::cs) (v::vs) fz:=⟨fz,fz,h,h',(b_ _).symm⟩
theorem B3 (T:kQ P tt): ∀(ts:List Nat) (cs:List Value),tL (wX enc P w (pn tt)) ts cs-> ∃rec:List jC,LN (ts.map (wW tt)) rec/\ ∀pre:List jC,ah w (nQ w) (bn false (pre++rec) pre.length (ts.map (wW tt))) cs fz
 | [],[],_=>⟨[],trivial,fun _=>rfl⟩
 |t::ts,v::cs,h=>by
  obtain ⟨⟨hl,n,y,hy⟩,hr⟩:=h
  obtain ⟨rec,h1,h2⟩:=B3 T ts cs hr
  unfold pn at hl
  split at hl
  ·rename_i k s b ht
   simp only[decide_eq_true_eq] at hl
   subst hl
   obtain ⟨z,hz,_,hw⟩:=DataW.trod_int (T t _ ht).desc hy
   cases hz
   have hs:wW tt t=false:=by simp[wW,ht]
   refine ⟨.int z::rec,?_,fun pre=> ?_⟩
   ·simp only[List.map_cons,hs];exact ⟨hw,h1⟩
   ·simp only[List.map_cons,hs,bn]
    refine B2 ⟨?_,rfl⟩ ?_
    ·simp[gi]
    ·have:=h2 (pre++[.int z])
     simpa using this
  ·rename_i e s b ht
   obtain ⟨b',he⟩:=zA hl
   obtain ⟨l,A,cap,rfl,k1,k2,k3,k4⟩:=IV T ht he hy
   have hs:wW tt t=true:=by simp[wW,ht]
   refine ⟨.ints l::rec,?_,fun pre=> ?_⟩
   ·simp only[List.map_cons,hs];exact ⟨⟨k2,k3⟩,h1⟩
   ·simp only[List.map_cons,hs,bn]
    have e1:gl (pre++ .ints l::rec) pre.length=l:=by simp[gl]
    rw[e1]
    refine B2 ⟨rfl,A,cap,rfl,k1,k4⟩ ?_
    have:=h2 (pre++[.ints l])
    simpa using this
  ·cases hl
theorem Ns (T:kQ P tt) {e:Nat} {r0:Row} (my:JL tt e=true) (h0:cp tt e=some r0) {n:Nat} {cs:List Value} {x:DataW H×List MemPlace} (h:DataW.trod enc P w 0 (fun _=>true) true n e cs=some x) (hlen:cs.length=bh tt e):
 ∃r,qv r0 r/\lZ r/\r.len=1/\ah w (nQ w) r.cells cs fz/\r.cells.length=cs.length:=by
 unfold JL at my
 split at my
 ·rename_i k s b ht
  obtain ⟨z,rfl,_,hw⟩:=DataW.trod_int (T e _ ht).desc h
  simp only[cp,ht,Option.some.injEq] at h0
  subst h0
  exact ⟨.ints k [z],rfl,by simp[lZ];exact hw,rfl,uY ⟨rfl,rfl⟩,rfl⟩
 ·rename_i s b ht
  obtain ⟨z,rfl,_⟩:=DataW.trod_bool (T e _ ht).desc h
  simp only[cp,ht,Option.some.injEq] at h0
  subst h0
  exact ⟨.cx [z],trivial,trivial,rfl,uY ⟨rfl,rfl⟩,rfl⟩
 ·rename_i s b ht
  obtain ⟨z,rfl,_,hw⟩:=DataW.trod_string (T e _ ht).desc h
  simp only[cp,ht,Option.some.injEq] at h0
  subst h0
  exact ⟨.strs [z],trivial,by simp[lZ];exact hw,rfl,uY ⟨rfl,rfl⟩,rfl⟩
 ·rename_i e' s b ht
  simp only[Bool.and_eq_true,beq_iff_eq] at my
  obtain ⟨b',he⟩:=zA my.2
  have hs:bh tt e=1:=by simp[bh,ht,my.1]
  rw[hs] at hlen
  match cs,hlen with
  | [v],_=>
    obtain ⟨l,A,cap,rfl,k1,k2,k3,k4⟩:=IV T ht he h
    simp only[cp,ht,Option.some.injEq] at h0
    subst h0
    exact ⟨.rows false [l],rfl,by simp only[lZ,List.mem_singleton,forall_eq];exact ⟨k2,k3⟩,rfl,uY ⟨rfl,A,cap,rfl,k1,k4⟩,rfl⟩
 ·rename_i fs s b ht
  simp only[Bool.and_eq_true,beq_iff_eq] at my
  have hr:=B1 T depth e my.2 h hlen
  obtain ⟨rec,h1,h2⟩:=B3 T _ _ hr
  simp only[cp,ht] at h0
  obtain ⟨_,h0⟩:=ai h0
  simp only[Option.some.injEq] at h0
  subst h0
  refine ⟨.cB ((aA tt depth e).map (wW tt)) false [rec],⟨rfl,rfl⟩,by simp only[lZ,List.mem_singleton,forall_eq];exact h1,rfl,?_,?_⟩
  ·have:=h2 []
   simpa[Row.cells] using this
  ·simp[Row.cells,cb,hr.length]
 ·cases my
theorem Nu {r0 r r1:Row} (h:qv r0 r) (h1:qv r0 r1) (hw:lZ r) (TD:lZ r1): ∃r',qv r0 r' /\lZ r' /\r'.len=r.len+r1.len/\r'.cells=r.cells++r1.cells:=by
 have mem: ∀ {α:Type} {Q:α->Prop} {l m:List α},(∀x∈l,Q x)->(∀x∈m,Q x)-> ∀x∈l++m,Q x:=fun a b x hx=>(List.mem_append.1 hx).elim (a x) (b x)
 cases r0<;>cases r<;>simp only[qv] at h<;>try exact h.elim
 all_goals cases r1<;>simp only[qv] at h1<;>try exact h1.elim
 ·subst h;subst h1
  exact ⟨.ints _ (_++_),rfl,mem hw TD,by simp[Row.len],by simp[Row.cells]⟩
 ·rename_i l1 l2
  exact ⟨.cx (l1++l2),trivial,trivial,by simp[Row.len],by simp[Row.cells]⟩
 ·exact ⟨.strs (_++_),trivial,mem hw TD,by simp[Row.len],by simp[Row.cells]⟩
 ·subst h;subst h1
  exact ⟨.rows false (_++_),rfl,mem hw TD,by simp[Row.len],by simp[Row.cells]⟩
 ·obtain ⟨rfl,rfl⟩:=h
  obtain ⟨rfl,rfl⟩:=h1
  exact ⟨.cB _ false (_++_),⟨rfl,rfl⟩,mem hw TD,by simp[Row.len],by simp[Row.cells]⟩
theorem Di {e:Nat} {r0:Row} (h0:cp tt e=some r0):qv r0 r0.eb/\lZ r0.eb/\r0.eb.len=0/\r0.eb.cells=[]:=by
 unfold cp at h0
 split at h0
 ·cases h0;exact ⟨rfl,by simp[Row.eb,lZ],rfl,rfl⟩
 ·cases h0;exact ⟨trivial,trivial,rfl,rfl⟩
 ·cases h0;exact ⟨trivial,by simp[Row.eb,lZ],rfl,rfl⟩
 ·cases h0;exact ⟨rfl,by simp[Row.eb,lZ],rfl,rfl⟩
 ·obtain ⟨_,h0⟩:=ai h0
  cases h0;exact ⟨⟨rfl,rfl⟩,by simp[Row.eb,lZ],rfl,rfl⟩
 ·cases h0
theorem open_row (T:kQ P tt) {t e s b:Nat} (ht:tt t=some ⟨.slice e,s,b⟩) (my:JL tt e=true) {r0:Row} (h0:cp tt e=some r0) {fuel:Nat} {v:Value} {x:DataW H×List MemPlace} (h:DataW.trod enc P w 0 (fun _=>true) true fuel t [v] =some x):
 ∃r,qv r0 r/\lZ r/\r.len<=maxLen/\ea w (nQ w) r v:=by
 obtain ⟨z1,z2,z3,z4⟩:=Di h0
 rcases Go.Deep.open_slice (T t _ ht).desc h with ⟨np,_⟩| ⟨a,len,cap,m,n,D,Pl,np,_,hl,hm,VH,_,hx⟩
 ·cases np
  exact ⟨r0.eb,z1,z2,by rw[z3];exact Nat.zero_le _,pa z3⟩
 ·cases np
  obtain ⟨te,DO⟩: ∃te,tt e=some te:=by
   cases q:tt e with
   |some te=>exact ⟨te,rfl⟩
   |none=>simp[JL,q] at my
  have mb:=mE T DO
  rw[mb] at hx
  have X7:m=cap:=by simpa using VH
  have key: ∀k,k<=m-> ∃r,qv r0 r/\lZ r/\r.len=k/\ ∃vs:List Value,vs.length=k*bh tt e/\(∀j,j<k*bh tt e->w.cell? (a.add j)=vs[j]?)/\ah w (nQ w) r.cells vs fz/\r.cells.length=k*bh tt e:=by
   intro k
   induction k with
   |zero=>intro _;exact ⟨r0.eb,z1,z2,z3,[],by simp,by simp,by rw[z4];rfl,by rw[z4];simp⟩
   |succ k ih=>
    intro hk
    obtain ⟨r,k1,k2,k3,vs,k4,k5,k6,k7⟩:=ih (by omega)
    obtain ⟨TF,c1,c2⟩:=hx k (by omega)
    obtain ⟨_,c3,c4⟩:=World.cells?_some c1
    obtain ⟨r1,q1,q2,q3,q4,q5⟩:=Ns T my h0 c2 c3
    obtain ⟨r',p1,p2,p3,p4⟩:=Nu k1 q1 k2 q2
    refine ⟨r',p1,p2,by omega,vs++TF,by rw[List.length_append,k4,c3,Nat.succ_mul],fun j hj=> ?_,?_,?_⟩
    ·by_cases Nh:j<k*bh tt e
     ·rw[k5 j Nh,List.getElem?_append_left (by omega)]
     ·have Qi:j-k*bh tt e<bh tt e:=by rw[Nat.succ_mul] at hj;omega
      have:=c4 (j-k*bh tt e) Qi
      rw[add_add,show k*bh tt e+(j-k*bh tt e)=j by omega] at this
      rw[this,List.getElem?_append_right (by omega),k4]
    ·rw[p4]
     have:=ah.append k6 (by rw[k4,k7]) q4
     rwa [b_] at this
    ·rw[p4,List.length_append,k7,q5,c3,Nat.succ_mul]
  obtain ⟨r,k1,k2,k3,vs,k4,k5,k6,k7⟩:=key len (by omega)
  have AY:0<bh tt e:=by
   have:=(T e _ DO).some.1
   simpa[bh,DO] using this
  refine ⟨r,k1,k2,by omega,some a,cap,by rw[k3],by omega,fun mg=>⟨a,rfl,?_,vs,fun j hj=>k5 j (by omega),k6⟩⟩
  have UI:0<len*bh tt e:=Nat.mul_pos (by omega) AY
  have Pq:=k5 0 UI
  rw[List.getElem?_eq_getElem (by omega)] at Pq
  have:=IU Pq
  rwa [mF] at this
theorem B4 (T:kQ P tt) {Zf:Zs} {t:Nat} {v:Value} (h:wX enc P w (lD tt) t v): ∃d,jU w Zf (nQ w) d v fz/\Kn tt t d:=by
 obtain ⟨hl,n,y,hy⟩:=h
 unfold lD at hl
 split at hl
 ·rename_i k s b ht
  obtain ⟨z,hz,_,hw⟩:=DataW.trod_int (T t _ ht).desc hy
  cases hz
  exact ⟨.i k z,⟨rfl,rfl⟩,by unfold Kn;rw[ht];exact ⟨z,rfl,hw⟩⟩
 ·rename_i s b ht
  obtain ⟨z,hz,_⟩:=DataW.trod_bool (T t _ ht).desc hy
  cases hz
  exact ⟨.b z,⟨rfl,rfl⟩,by unfold Kn;rw[ht];exact ⟨z,rfl⟩⟩
 ·rename_i s b ht
  obtain ⟨z,hz,_,hw⟩:=DataW.trod_string (T t _ ht).desc hy
  cases hz
  exact ⟨.s z,⟨rfl,rfl⟩,by unfold Kn;rw[ht];exact ⟨z,rfl,hw⟩⟩
 ·rename_i e s b ht
  obtain ⟨r0,h0⟩: ∃r0,cp tt e=some r0:=by
   unfold JL at hl
   split at hl
   ·rename_i q;exact ⟨_,by simp only[cp,q];rfl⟩
   ·rename_i q;exact ⟨_,by simp only[cp,q];rfl⟩
   ·rename_i q;exact ⟨_,by simp only[cp,q];rfl⟩
   ·rename_i q;exact ⟨_,by simp only[cp,q];rfl⟩
   ·rename_i fs s' b' q
    simp only[Bool.and_eq_true,beq_iff_eq] at hl
    refine ⟨.cB ((aA tt depth e).map (wW tt)) true [],?_⟩
    have GX:(aA tt depth e).all (qq tt)=true:=by
     have key: ∀(d t:Nat),gF tt (pn tt) d t=true->(aA tt d t).all (qq tt)=true:=by
      have one: ∀t,pn tt t=true->qq tt t=true:=fun t h=>by
       unfold pn at h
       split at h
       ·rename_i q;simp only[qq,q];exact h
       ·rename_i q;simp only[qq,q]
       ·cases h
      intro d
      induction d with
      |zero=>intro t h;simp only[gF,Bool.and_eq_true] at h;simp[aA,one t h.1.1]
      |succ d ih=>
       intro t h
       cases q2:tt t with
       |none=>simp[gF,q2,bh] at h
       |some te=>
        obtain ⟨kk,sz,bs⟩:=te
        cases kk with
        |struct Xd=>
         simp only[gF,q2] at h
         simp only[aA,q2]
         have go: ∀(Kp:List (Nat×Nat)) (a:Nat),oa (gF tt (pn tt) d) (bh tt) a Kp sz=true->(Kp.flatMap fun f=>aA tt d f.2).all (qq tt)=true:=by
          intro Kp
          induction Kp with
          |nil=>intro _ _;rfl
          |cons p Kp Pc=>
           intro a hc
           obtain ⟨off,ft⟩:=p
           simp only[oa,Bool.and_eq_true] at hc
           rw[List.flatMap_cons,List.all_append,ih ft hc.1.2,Pc _ hc.2];rfl
         exact go Xd 0 h
        |_=>simp only[gF,q2,Bool.and_eq_true] at h;simp[aA,q2,one t h.1]
     exact key depth e hl.2
    simp only[cp,q,GX,cond_true]
   ·cases hl
  obtain ⟨r,k1,k2,k3,k4⟩:=open_row T ht hl h0 hy
  exact ⟨.sl .aZ r,⟨k4,rfl⟩,by unfold Kn;rw[ht];exact ⟨r0,r,h0,rfl,k1,k2,k3⟩⟩
 ·cases hl
theorem xE (T:kQ P tt) {Zf:Zs}: ∀ {ts:List Nat} {vs:List Value},tL (wX enc P w (lD tt)) ts vs-> ∃ds,i_ w Zf (nQ w) ds vs fz/\Pt tt ts ds
 | [],[],_=>⟨[],rfl,trivial⟩
 |t::ts,v::vs,h=>by
  obtain ⟨d,h1,h2⟩:=B4 T (Zf:=Zf) h.1
  obtain ⟨ds,h3,h4⟩:=xE T (Zf:=Zf) h.2
  exact ⟨d::ds,⟨fz,fz,h1,h3,(b_ _).symm⟩,h2,h4⟩
theorem LP (T:kQ P tt) {Zf:Zs} {t:Nat} {v:Value} (hs:served tt t=true) {r:Reach} {base:Nat} (yz:Value.okWide P w r base t v) {d:DataW H} {ps:List MemPlace} (h:DataW.Trod enc P w 0 (fun _=>true) true t v d ps): ∃dv,mV w Zf (nQ w) dv v fz/\Ko tt t dv:=by
 obtain ⟨fuel,hf⟩:=h
 obtain ⟨e,ht⟩:=xD hs
 obtain ⟨k,s,b⟩:=e
 have leaf:v.cells.toList=[v]->(lD tt t&&bh tt t==1)=true->(∀x,Ko tt t (.l x)↔Kn tt t x)-> ∃dv,mV w Zf (nQ w) dv v fz/\Ko tt t dv:=fun h1 h2 h3=>by
  rw[h1] at hf
  simp only[Bool.and_eq_true] at h2
  obtain ⟨d,k1,k2⟩:=B4 T (Zf:=Zf) ⟨h2.1,fuel,_,hf⟩
  exact ⟨.l d,k1,(h3 d).2 k2⟩
 have hd:=(T t _ ht).desc
 cases k with
 |struct fs=>
  obtain ⟨fields,hd,_⟩:=hd
  obtain ⟨cs,rfl,np⟩:=Go.WideShapes.okWide_struct hd yz
  have hlen:cs.toList.length=bh tt t:=by rw[Array.length_toList,np,mE T ht]
  have hr:=B1 T depth t hs hf hlen
  obtain ⟨ds,k1,k2⟩:=xE T (Zf:=Zf) hr
  refine ⟨.agg ds,⟨cs.toList,by simp,k1⟩,?_⟩
  unfold Ko;rw[ht];exact ⟨ds,rfl,k2⟩
 |int k=>
  obtain ⟨n,rfl⟩:=Go.WideShapes.okWide_int hd yz
  exact leaf rfl (by simpa[served,gF,depth,ht] using hs) (fun x=>by unfold Ko;rw[ht];simp)
 |bool=>
  obtain ⟨n,rfl⟩:=Go.WideShapes.okWide_bool hd yz
  exact leaf rfl (by simpa[served,gF,depth,ht] using hs) (fun x=>by unfold Ko;rw[ht];simp)
 |str=>
  obtain ⟨n,rfl⟩:=Go.WideShapes.okWide_string hd yz
  exact leaf rfl (by simpa[served,gF,depth,ht] using hs) (fun x=>by unfold Ko;rw[ht];simp)
 |slice e=>
  obtain ⟨a,l,c,rfl⟩:=Go.WideShapes.okWide_slice hd yz
  exact leaf rfl (by simpa[served,gF,depth,ht] using hs) (fun x=>by unfold Ko;rw[ht];simp)
 |_=>simp[served,gF,depth,ht,lD] at hs
theorem Bq (T:kQ P tt) {Zf:Zs} {r:Reach} {base:Nat}: ∀ {ts:List Nat} {vs:List Value} {ds:List (DataW H)} {ps:List MemPlace},ts.all (served tt)=true->(∀(j:Nat) t v,ts[j]? =some t->vs[j]? =some v->Value.okWide P w r base t v)->DataW.TrodAll enc P w 0 (fun _=>true) true ts vs ds ps-> ∃uc,dY w Zf (nQ w) uc vs fz/\LO tt ts uc
 | [],[],_,_,_,_,_=>⟨[],rfl,trivial⟩
 | [],_::_,[],_,_,_,h=>h.elim
 | [],_::_,_::_,_,_,_,h=>h.elim
 |_::_,[],[],_,_,_,h=>h.elim
 |_::_,[],_::_,_,_,_,h=>h.elim
 |_::_,_::_,[],_,_,_,h=>h.elim
 |t::ts,v::vs,d::ds,ps,hs,yz,h=>by
  obtain ⟨p,q,h1,h2,_⟩:=h
  simp only[List.all_cons,Bool.and_eq_true] at hs
  obtain ⟨dv,k1,k2⟩:=LP T (Zf:=Zf) hs.1 (yz 0 t v rfl rfl) h1
  obtain ⟨uc,k3,k4⟩:=Bq T (Zf:=Zf) hs.2 (fun j t' v' e1 e2=>yz (j+1) t' v' (by simpa using e1) (by simpa using e2)) h2
  exact ⟨dv::uc,⟨fz,fz,k1,k3,(b_ _).symm⟩,k2,k4⟩
end
section
variable {P:Program} {tt:TT}
theorem Frame.below {C:Cx} {w':World} (h:Frame C w') (h0:C.F0=fz):Go.RowKit.Below C.w0.heap.size C.w0 w':=
 ⟨h.os,h.tape,h.output,h.size,fun b hb=>h.block b hb (by rw[h0];rfl)⟩
def Pu (P:Program) (w:World) (hg:Ground P w (nQ w)):Cx:={P0:=P,gnd:=hg,w0:=w,F0:=fz,Zl:=nQ w,Zf0:=nQ w,N:=0,kv:=[],good:=fun b hb=>⟨hb.elim id id,rfl⟩}
theorem AP {w:World} (hg:Ground P w (nQ w)) {f:FuncId} {g:pL} {ds:List DV} {args:Array Value} (yf:pP g.gj=true) (hc:fM P f g ds [.l (.b true)]) (ha:dY w (nQ w) (nQ w) ds args.toList fz):Calls P f args w fun e w'=>e= .returned (.bool true)/\Go.RowKit.Below w.heap.size w w':=by
 have h:=hc (Pu P w hg) args.toList rfl ha (fun b=>by show fz b<=1;simp) (fun b hb=>by have:1<=fz b:=hb;simp at this)
 rw[Array.toArray_toList] at h
 refine Calls.mono h fun e w' he=> ?_
 obtain ⟨vs,F',rfl,hlen,FG,_,_,hrel⟩:=he
 rw[gm _ _ yf,List.append_nil] at hrel
 refine ⟨?_,FG.below rfl⟩
 cases vs with
 |nil=>exact hrel.elim
 |cons v vs=>
  obtain ⟨F1,F2,h1,h2,_⟩:=hrel
  cases vs with
  |nil=>rw[show v= .bool true from h1.1];rfl
  |cons u us=>exact h2.elim
theorem GZ {H:Type} {enc:TypeId×Value->H} {P:Program} {w:World} {base:Nat} {sp:Nat->Bool} {held:Bool} {fuel t:Nat} {ms:Array (String×TypeId)} {cs:List Value} {nm:String} {d:DataW H} {p:List MemPlace}
 (ht:P.underlying t=some (.interface ms)) (h:DataW.trod enc P w base sp held fuel t cs=some (.iface nm d,p)): ∃u v,cs=[.iface u v]:=by
 cases fuel with
 |zero=>simp[DataW.trod] at h
 |succ fuel=>
  simp only[DataW.trod,ht] at h
  split at h
  all_goals first
   |exact ⟨_,_,rfl⟩
   |simp_all
theorem KJ {w:World} {Zf:Zs} {r:Row} {vs:List Value} (h:dY w Zf (nQ w) [.l (.sl .aZ r)] vs fz):dY w (nQ w) (nQ w) [.l (.sl .eb r)] vs fz:=by
 cases vs with
 |nil=>exact h.elim
 |cons v vs=>
  cases vs with
  |cons u us=>obtain ⟨_,_,_,h,_⟩:=h;exact h.elim
  |nil=>exact h
end
section
variable {tt:TT}
theorem Jb {t:Nat} {ts:List Nat} {uc:List DV} (h:LO tt (t::ts) uc): ∃d ds,uc=d::ds/\Ko tt t d/\LO tt ts ds:=by
 cases uc with
 |nil=>exact h.elim
 |cons d ds=>exact ⟨d,ds,rfl,h.1,h.2⟩
theorem KI {uc:List DV} (h:LO tt [] uc):uc=[]:=by
 cases uc with
 |nil=>rfl
 |cons d ds=>exact h.elim
theorem Rw {t:Nat} (ht:cZ tt t=false) {d:DV} (h:Ko tt t d): ∃x,d= .l x/\Kn tt t x:=by
 unfold Ko at h
 split at h
 ·rename_i q;simp[cZ,q] at ht
 ·exact h
theorem Nv {t e s b:Nat} (ht:tt t=some ⟨.slice e,s,b⟩) {r0:Row} (h0:cp tt e=some r0) {d:DL} (h:Kn tt t d): ∃r,d= .sl .aZ r/\qv r0 r/\lZ r/\r.len<=maxLen:=by
 unfold Kn at h;rw[ht] at h
 obtain ⟨X8,r,h1,h2,h3⟩:=h
 rw[h0] at h1;cases h1
 exact ⟨r,h2,h3⟩
theorem KH {t e s b:Nat} {k:IntKind} (ht:tt t=some ⟨.slice e,s,b⟩) (h0:cp tt e=some (.ints k [])) {d:DL} (h:Kn tt t d): ∃l,d= .sl .aZ (.ints k l)/\(∀n∈l,yO k n)/\l.length<=maxLen:=by
 obtain ⟨r,h1,h2,h3,h4⟩:=Nv ht h0 h
 cases r with
 |ints k' l=>cases (show k' =k from h2);exact ⟨l,h1,h3,h4⟩
 |_=>exact h2.elim
end
section
variable {P:Program} {H:Type} {enc:TypeId×Value->H}
theorem KG {w:World} {name:String} {g:Nat} {cs:Array Value} (hg:P.globalNamed name=some g) (hv:w.var? P name=some cs):g<w.heap.size:=by
 unfold World.var? at hv
 rw[hg] at hv
 simp only[Option.bind_some] at hv
 by_cases h:g<w.heap.size
 ·exact h
 ·rw[Array.getElem?_eq_none (by omega)] at hv
  cases hv
end
end Go.Proofs.YtbmmhdmljajcfaaGreatDoor.V
