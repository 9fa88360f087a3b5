/- The abstract evaluator and its soundness: part VLaw. Conditions: as each section says. -/
import Derived.Test.YtbmmhdmljajcfaaGreatDoorVShape
import Derived.Test.YtbmmhdmljajcfaaGreatDoorRows
import Derived.WalkKit
import Derived.ProofKit
import Derived.OpenShut
import Derived.ShutString
import Derived.ChangeOld
import Derived.Carry
import Derived.Deep.Slices
set_option linter.unusedVariables false
set_option linter.unusedSimpArgs false
namespace Go.Proofs.YtbmmhdmljajcfaaGreatDoor.V
open Go
def ry (k:IntKind) (n:Int):Prop:=(Lit.int k n).wf=true
def UJ:Bool->gR->Prop
 |true,.ints l=>l.length<=maxLen/\ ∀n∈l,ry .i64 n
 |false,.int n=>ry .i64 n
 |_,_=>False
def Qh:List Bool->List gR->Prop
 | [],[]=>True
 |b::sg,x::r=>UJ b x/\Qh sg r
 |_,_=>False
def og:Row->Prop
 | .ints k l=> ∀n∈l,ry k n
 | .du _=>True
 | .strs l=> ∀s∈l,s.size<=maxLen
 | .rows _ l=> ∀r∈l,r.length<=maxLen/\ ∀n∈r,ry .i64 n
 | .dw sg _ l=> ∀r∈l,Qh sg r
def tX (r0 r:Row):Prop:=match r0,r with
 | .ints k _,.ints k' _=>k' =k
 | .du _,.du _=>True
 | .strs _,.strs _=>True
 | .rows _ _,.rows o _=>o=false
 | .dw sg _ _,.dw SQ o _=>SQ=sg/\o=false
 |_,_=>False
def Oh (tt:TT) (t:Nat) (d:DL):Prop:=match tt t with
 |some ⟨.int k,_,_⟩=> ∃n,d= .i k n/\ry k n
 |some ⟨.bool,_,_⟩=> ∃b,d= .b b
 |some ⟨.str,_,_⟩=> ∃s,d= .s s/\s.size<=maxLen
 |some ⟨.slice e,_,_⟩=> ∃r0 r,di tt e=some r0/\d= .sl .aS r/\tX r0 r/\og r/\r.len<=maxLen
 |_=>False
def UK (tt:TT):List Nat->List DL->Prop
 | [],[]=>True
 |t::ts,d::ds=>Oh tt t d/\UK tt ts ds
 |_,_=>False
def Oi (tt:TT) (t:Nat) (d:DV):Prop:=match tt t with
 |some ⟨.struct _,_,_⟩=> ∃ds,d= .agg ds/\UK tt (aK tt depth t) ds
 |_=> ∃x,d= .l x/\Oh tt t x
def Qi (tt:TT):List Nat->List DV->Prop
 | [],[]=>True
 |t::ts,d::ds=>Oi tt t d/\Qi tt ts ds
 |_,_=>False
def LF (tt:TT) (t:Nat):Bool:=match tt t with|some ⟨.int k,s,_⟩=>decide (k= .i64)&&s==1|_=>false
def qF (ok:Nat->Bool) (sz:Nat->Nat):Nat->List (Nat×Nat)->Nat->Bool
 |at',[],e=>at' ==e
 |at',(off,ft)::fs,e=>off==at' &&ok ft&&qF ok sz (at' +sz ft) fs e
def jf (tt:TT) (lf:Nat->Bool):Nat->Nat->Bool
 |0,t=>lf t&&bz tt t==1&& !eg tt t
 |d+1,t=>match tt t with
  |some ⟨.struct fs,sz,_⟩=>qF (jf tt lf d) (bz tt) 0 fs sz
  |_=>lf t&&bz tt t==1
def sq (tt:TT) (t:Nat):Bool:=match tt t with
 |some ⟨.int k,_,_⟩=>decide (k= .i64)
 |some ⟨.slice e,_,_⟩=>LF tt e
 |_=>false
def Nu (tt:TT) (e:Nat):Bool:=match tt e with
 |some ⟨.int _,s,_⟩=>s==1
 |some ⟨.bool,s,_⟩=>s==1
 |some ⟨.str,s,_⟩=>s==1
 |some ⟨.slice e',s,_⟩=>s==1&&LF tt e'
 |some ⟨.struct _,s,_⟩=>s==(aK tt depth e).length&&jf tt (sq tt) depth e
 |_=>false
def nJ (tt:TT) (t:Nat):Bool:=match tt t with
 |some ⟨.int _,_,_⟩=>true
 |some ⟨.bool,_,_⟩=>true
 |some ⟨.str,_,_⟩=>true
 |some ⟨.slice e,_,_⟩=>Nu tt e
 |_=>false
def served (tt:TT) (t:Nat):Bool:=jf tt (nJ tt) depth t
section
variable {P:Program} {tt:TT} {H:Type} {enc:TypeId×Value->H} {w:World} {sp:Nat->Bool}
theorem oL (T:mW P tt) {t:Nat} {e:TE} (h:tt t=some e):P.cellsOf t=bz tt t:=by
 obtain ⟨i,h1,h2,_⟩:=(T t e h).Cn
 simp[Program.cellsOf,h1,h2,bz,h]
def qg (w:World):Zs:=fun b=>b<w.heap.size
theorem LG {a:Addr} {v:Value} (h:w.cell? a=some v):a.block<w.heap.size:=by
 unfold World.cell? at h
 cases e:w.heap[a.block]? with
 |none=>rw[e] at h;cases h
 |some o=>exact (Array.getElem?_eq_some_iff.1 e).1
theorem LH (T:mW P tt) {t e:Nat} {s b b':Nat} {k:IntKind} (ht:tt t=some ⟨.slice e,s,b⟩) (he:tt e=some ⟨.int k,1,b'⟩) {fuel:Nat} {v:Value} {x:DataW H×List MemPlace} (h:DataW.trod enc P w 0 (fun _=>true) true fuel t [v] =some x):
 ∃(l:List Int) (A:Option Addr) (cap:Nat),v= .slice A l.length cap/\l.length<=cap/\l.length<=maxLen/\(∀n∈l,ry k n)/\(l≠[]-> ∃ad,A=some ad/\qg w ad.block/\ ∀(j:Nat) (n:Int),l[j]? =some n->w.cell? (ad.add j)=some (.int k n)):=by
 have hc:P.cellsOf e=1:=by rw[oL T he];simp[bz,he]
 rcases Go.ChangeShapes.open_ints (T t _ ht).desc (T e _ he).desc hc h with ⟨oZ,_⟩| ⟨a,len,cap,zs,oZ,_,hl,hm,hz,_,jz,hwz⟩
 ·cases oZ
  exact ⟨[],none,0,rfl,by simp,by simp,by simp,fun h=>absurd rfl h⟩
 ·cases oZ
  have QQ:zs.length=cap:=by simpa using hz
  have hlen:(zs.take len).length=len:=by simp;omega
  refine ⟨zs.take len,some a,cap,by rw[hlen],by omega,by omega,fun n hn=>hwz n (List.mem_of_mem_take hn),fun lG=>⟨a,rfl,?_,fun j n hj=> ?_⟩⟩
  ·have h0:0<len:=by
    rcases Nat.eq_zero_or_pos len with e0|e0
    ·subst e0;simp at lG
    ·exact e0
   have:=jz 0 (by omega)
   have gr:=LG this
   rwa [oN] at gr
  ·rw[List.getElem?_take] at hj
   split at hj
   ·rename_i EO
    have:=jz j (by omega)
    rw[this]
    simp[List.getD_eq_getElem?_getD,hj]
   ·cases hj
def wq (R:Nat->Value->Prop):List Nat->List Value->Prop
 | [],[]=>True
 |t::ts,v::vs=>R t v/\wq R ts vs
 |_,_=>False
theorem wq.append {R:Nat->Value->Prop}: ∀ {ts us:List Nat} {vs ws:List Value},wq R ts vs->wq R us ws->wq R (ts++us) (vs++ws)
 | [],_,[],_,_,h=>h
 |t::ts,_,v::vs,_,h,h'=>⟨h.1,wq.append h.2 h'⟩
theorem wq.length {R:Nat->Value->Prop}: ∀ {ts:List Nat} {vs:List Value},wq R ts vs->ts.length=vs.length
 | [],[],_=>rfl
 |t::ts,v::vs,h=>by simp[wq.length h.2]
theorem Ez {ok:Nat->Bool} {sz:Nat->Nat} {e:Nat}: ∀ {fs:List (Nat×Nat)} {a:Nat},qF ok sz a fs e=true->a<=e
 | [],a,h=>by simp[qF] at h;omega
 | (off,ft)::fs,a,h=>by
   simp only[qF,Bool.and_eq_true] at h
   have:=Ez h.2
   omega
theorem Ah {lf:Nat->Bool}: ∀ {d t:Nat},jf tt lf d t=true-> ∃e,tt t=some e:=by
 intro d t h
 cases ht:tt t with
 |some e=>exact ⟨e,rfl⟩
 |none=>
  cases d with
  |zero=>simp[jf,bz,ht] at h
  |succ d=>simp[jf,bz,ht] at h
def zi (enc:TypeId×Value->H) (P:Program) (w:World) (lf:Nat->Bool) (lt:Nat) (v:Value):Prop:=lf lt=true/\ ∃n y,DataW.trod enc P w 0 (fun _=>true) true n lt [v] =some y
theorem EA (T:mW P tt) {lf:Nat->Bool}: ∀(d t:Nat),jf tt lf d t=true-> ∀ {fuel:Nat} {cs:List Value} {x:DataW H×List MemPlace},DataW.trod enc P w 0 (fun _=>true) true fuel t cs=some x->cs.length=bz tt t->wq (zi enc P w lf) (aK tt d t) cs:=by
 intro d
 induction d with
 |zero=>
  intro t hf fuel cs x h hl
  simp only[jf,Bool.and_eq_true,beq_iff_eq] at hf
  rw[hf.1.2] at hl
  match cs,hl with
  | [v],_=>exact ⟨⟨hf.1.1,fuel,x,h⟩,trivial⟩
 |succ d ih=>
  intro t hf fuel cs x h hl
  have leaf:(lf t&&bz tt t==1)=true->aK tt (d+1) t=[t]->wq (zi enc P w lf) (aK tt (d+1) t) cs:=fun h1 h2=>by
   simp only[Bool.and_eq_true,beq_iff_eq] at h1
   rw[h1.2] at hl
   rw[h2]
   match cs,hl with
   | [v],_=>exact ⟨⟨h1.1,fuel,x,h⟩,trivial⟩
  cases ht:tt t with
  |none=>simp only[jf,ht] at hf;exact leaf hf (by simp[aK,ht])
  |some e=>
   obtain ⟨k,sz,bs⟩:=e
   cases k with
   |struct fs=>
    simp only[jf,ht] at hf
    have gr:aK tt (d+1) t=fs.flatMap fun f=>aK tt d f.2:=by simp[aK,ht]
    rw[gr]
    obtain ⟨fields,hd,hfs,_⟩:=(T t _ ht).desc
    obtain ⟨xs,n,_,_,_,Yf,hx⟩:=DataW.trod_struct hd h
    have ui:cs.length=sz:=by rw[hl];simp[bz,ht]
    have each: ∀p∈fs,(∃e,tt p.2=some e)-> ∃n y,DataW.trod enc P w 0 (fun _=>true) true n p.2 ((cs.drop p.1).take (bz tt p.2))=some y:=fun p hp he=>by
     rw[<- hfs] at hp
     obtain ⟨f,hf1,rfl⟩:=List.mem_map.1 hp
     obtain ⟨i,hi⟩:=List.getElem?_of_mem hf1
     have tN:fields[i]? =some f:=by simpa using hi
     obtain ⟨e,he⟩:=he
     have Bc:i<xs.length:=by rw[Yf];exact (Array.getElem?_eq_some_iff.1 tN).1
     refine ⟨n,xs[i],?_⟩
     have:=hx i f tN
     rw[oL T he,List.getElem?_eq_getElem Bc] at this
     exact this
    have go: ∀(Oj:List (Nat×Nat)) (a:Nat),(∀p∈Oj,p∈fs)->qF (jf tt lf d) (bz tt) a Oj sz=true->wq (zi enc P w lf) (Oj.flatMap fun f=>aK tt d f.2) (cs.drop a):=by
     intro Oj
     induction Oj with
     |nil=>
      intro a _ hc
      simp[qF] at hc
      rw[List.drop_of_length_le (by omega)]
      trivial
     |cons p Oj Uw=>
      intro a No hc
      obtain ⟨off,ft⟩:=p
      simp only[qF,Bool.and_eq_true,beq_iff_eq] at hc
      obtain ⟨⟨rfl,Hx⟩,SV⟩:=hc
      obtain ⟨n',y,hy⟩:=each (off,ft) (No _ (by simp)) (Ah Hx)
      have hle:=Ez SV
      have h1:=ih ft Hx hy (by simp;omega)
      have h2:=Uw (off+bz tt ft) (fun q hq=>No q (by simp[hq])) SV
      have e2:cs.drop off=(cs.drop off).take (bz tt ft)++cs.drop (off+bz tt ft):=by
       rw[<- List.drop_drop];exact (List.take_append_drop _ _).symm
      rw[e2,List.flatMap_cons]
      exact wq.append h1 h2
    have:=go fs 0 (fun p hp=>hp) hf
    simpa using this
   |_=>simp only[jf,ht] at hf;exact leaf hf (by simp[aK,ht])
theorem Co {t:Nat} (h:LF tt t=true): ∃b,tt t=some ⟨.int .i64,1,b⟩:=by
 unfold LF at h
 split at h
 ·rename_i k s b ht
  simp only[Bool.and_eq_true,decide_eq_true_eq,beq_iff_eq] at h
  obtain ⟨rfl,rfl⟩:=h
  exact ⟨b,ht⟩
 ·cases h
theorem xN {Z:Zs} {c:Cell} {v:Value} (h:fv w Z c v fz):aj w Z [c] [v] fz:=⟨fz,fz,h,rfl,(cp _).symm⟩
theorem EB {Z:Zs} {c:Cell} {v:Value} {cs:List Cell} {vs:List Value} (h:fv w Z c v fz) (h':aj w Z cs vs fz):aj w Z (c::cs) (v::vs) fz:=⟨fz,fz,h,h',(cp _).symm⟩
theorem EC (T:mW P tt): ∀(ts:List Nat) (cs:List Value),wq (zi enc P w (sq tt)) ts cs-> ∃rec:List gR,Qh (ts.map (zh tt)) rec/\ ∀pre:List gR,aj w (qg w) (bD false (pre++rec) pre.length (ts.map (zh tt))) cs fz
 | [],[],_=>⟨[],trivial,fun _=>rfl⟩
 |t::ts,v::cs,h=>by
  obtain ⟨⟨hl,n,y,hy⟩,hr⟩:=h
  obtain ⟨rec,h1,h2⟩:=EC T ts cs hr
  unfold sq at hl
  split at hl
  ·rename_i k s b ht
   simp only[decide_eq_true_eq] at hl
   subst hl
   obtain ⟨z,hz,_,hw⟩:=DataW.trod_int (T t _ ht).desc hy
   cases hz
   have hs:zh tt t=false:=by simp[zh,ht]
   refine ⟨.int z::rec,?_,fun pre=> ?_⟩
   ·simp only[List.map_cons,hs];exact ⟨hw,h1⟩
   ·simp only[List.map_cons,hs,bD]
    refine EB ⟨?_,rfl⟩ ?_
    ·simp[gi]
    ·have:=h2 (pre++[.int z])
     simpa using this
  ·rename_i e s b ht
   obtain ⟨b',he⟩:=Co hl
   obtain ⟨l,A,cap,rfl,k1,k2,k3,k4⟩:=LH T ht he hy
   have hs:zh tt t=true:=by simp[zh,ht]
   refine ⟨.ints l::rec,?_,fun pre=> ?_⟩
   ·simp only[List.map_cons,hs];exact ⟨⟨k2,k3⟩,h1⟩
   ·simp only[List.map_cons,hs,bD]
    have e1:gl (pre++ .ints l::rec) pre.length=l:=by simp[gl]
    rw[e1]
    refine EB ⟨rfl,A,cap,rfl,k1,k4⟩ ?_
    have:=h2 (pre++[.ints l])
    simpa using this
  ·cases hl
theorem RZ (T:mW P tt) {e:Nat} {r0:Row} (oF:Nu tt e=true) (h0:di tt e=some r0) {n:Nat} {cs:List Value} {x:DataW H×List MemPlace} (h:DataW.trod enc P w 0 (fun _=>true) true n e cs=some x) (hlen:cs.length=bz tt e):
 ∃r,tX r0 r/\og r/\r.len=1/\aj w (qg w) r.cells cs fz/\r.cells.length=cs.length:=by
 unfold Nu at oF
 split at oF
 ·rename_i k s b ht
  obtain ⟨z,rfl,_,hw⟩:=DataW.trod_int (T e _ ht).desc h
  simp only[di,ht,Option.some.injEq] at h0
  subst h0
  exact ⟨.ints k [z],rfl,by simp[og];exact hw,rfl,xN ⟨rfl,rfl⟩,rfl⟩
 ·rename_i s b ht
  obtain ⟨z,rfl,_⟩:=DataW.trod_bool (T e _ ht).desc h
  simp only[di,ht,Option.some.injEq] at h0
  subst h0
  exact ⟨.du [z],trivial,trivial,rfl,xN ⟨rfl,rfl⟩,rfl⟩
 ·rename_i s b ht
  obtain ⟨z,rfl,_,hw⟩:=DataW.trod_string (T e _ ht).desc h
  simp only[di,ht,Option.some.injEq] at h0
  subst h0
  exact ⟨.strs [z],trivial,by simp[og];exact hw,rfl,xN ⟨rfl,rfl⟩,rfl⟩
 ·rename_i e' s b ht
  simp only[Bool.and_eq_true,beq_iff_eq] at oF
  obtain ⟨b',he⟩:=Co oF.2
  have hs:bz tt e=1:=by simp[bz,ht,oF.1]
  rw[hs] at hlen
  match cs,hlen with
  | [v],_=>
    obtain ⟨l,A,cap,rfl,k1,k2,k3,k4⟩:=LH T ht he h
    simp only[di,ht,Option.some.injEq] at h0
    subst h0
    exact ⟨.rows false [l],rfl,by simp only[og,List.mem_singleton,forall_eq];exact ⟨k2,k3⟩,rfl,xN ⟨rfl,A,cap,rfl,k1,k4⟩,rfl⟩
 ·rename_i fs s b ht
  simp only[Bool.and_eq_true,beq_iff_eq] at oF
  have hr:=EA T depth e oF.2 h hlen
  obtain ⟨rec,h1,h2⟩:=EC T _ _ hr
  simp only[di,ht] at h0
  obtain ⟨_,h0⟩:=ak h0
  simp only[Option.some.injEq] at h0
  subst h0
  refine ⟨.dw ((aK tt depth e).map (zh tt)) false [rec],⟨rfl,rfl⟩,by simp only[og,List.mem_singleton,forall_eq];exact h1,rfl,?_,?_⟩
  ·have:=h2 []
   simpa[Row.cells] using this
  ·simp[Row.cells,c_,hr.length]
 ·cases oF
theorem R0 {r0 r r1:Row} (h:tX r0 r) (h1:tX r0 r1) (hw:og r) (Vm:og r1): ∃r',tX r0 r' /\og r' /\r'.len=r.len+r1.len/\r'.cells=r.cells++r1.cells:=by
 have mem: ∀ {α:Type} {Q:α->Prop} {l m:List α},(∀x∈l,Q x)->(∀x∈m,Q x)-> ∀x∈l++m,Q x:=fun a b x hx=>(List.mem_append.1 hx).elim (a x) (b x)
 cases r0<;>cases r<;>simp only[tX] at h<;>try exact h.elim
 all_goals cases r1<;>simp only[tX] at h1<;>try exact h1.elim
 ·subst h;subst h1
  exact ⟨.ints _ (_++_),rfl,mem hw Vm,by simp[Row.len],by simp[Row.cells]⟩
 ·rename_i l1 l2
  exact ⟨.du (l1++l2),trivial,trivial,by simp[Row.len],by simp[Row.cells]⟩
 ·exact ⟨.strs (_++_),trivial,mem hw Vm,by simp[Row.len],by simp[Row.cells]⟩
 ·subst h;subst h1
  exact ⟨.rows false (_++_),rfl,mem hw Vm,by simp[Row.len],by simp[Row.cells]⟩
 ·obtain ⟨rfl,rfl⟩:=h
  obtain ⟨rfl,rfl⟩:=h1
  exact ⟨.dw _ false (_++_),⟨rfl,rfl⟩,mem hw Vm,by simp[Row.len],by simp[Row.cells]⟩
theorem Gv {e:Nat} {r0:Row} (h0:di tt e=some r0):tX r0 r0.fL/\og r0.fL/\r0.fL.len=0/\r0.fL.cells=[]:=by
 unfold di at h0
 split at h0
 ·cases h0;exact ⟨rfl,by simp[Row.fL,og],rfl,rfl⟩
 ·cases h0;exact ⟨trivial,trivial,rfl,rfl⟩
 ·cases h0;exact ⟨trivial,by simp[Row.fL,og],rfl,rfl⟩
 ·cases h0;exact ⟨rfl,by simp[Row.fL,og],rfl,rfl⟩
 ·obtain ⟨_,h0⟩:=ak h0
  cases h0;exact ⟨⟨rfl,rfl⟩,by simp[Row.fL,og],rfl,rfl⟩
 ·cases h0
theorem open_row (T:mW P tt) {t e s b:Nat} (ht:tt t=some ⟨.slice e,s,b⟩) (oF:Nu tt e=true) {r0:Row} (h0:di tt e=some r0) {fuel:Nat} {v:Value} {x:DataW H×List MemPlace} (h:DataW.trod enc P w 0 (fun _=>true) true fuel t [v] =some x):
 ∃r,tX r0 r/\og r/\r.len<=maxLen/\fw w (qg w) r v:=by
 obtain ⟨z1,z2,z3,z4⟩:=Gv h0
 rcases Go.Deep.open_slice (T t _ ht).desc h with ⟨oZ,_⟩| ⟨a,len,cap,m,n,D,Pl,oZ,_,hl,hm,hmm,_,hx⟩
 ·cases oZ
  exact ⟨r0.fL,z1,z2,by rw[z3];exact Nat.zero_le _,rY z3⟩
 ·cases oZ
  obtain ⟨te,G6⟩: ∃te,tt e=some te:=by
   cases q:tt e with
   |some te=>exact ⟨te,rfl⟩
   |none=>simp[Nu,q] at oF
  have mL:=oL T G6
  rw[mL] at hx
  have hm':m=cap:=by simpa using hmm
  have key: ∀k,k<=m-> ∃r,tX r0 r/\og r/\r.len=k/\ ∃vs:List Value,vs.length=k*bz tt e/\(∀j,j<k*bz tt e->w.cell? (a.add j)=vs[j]?)/\aj w (qg w) r.cells vs fz/\r.cells.length=k*bz tt e:=by
   intro k
   induction k with
   |zero=>intro _;exact ⟨r0.fL,z1,z2,z3,[],by simp,by simp,by rw[z4];rfl,by rw[z4];simp⟩
   |succ k ih=>
    intro hk
    obtain ⟨r,k1,k2,k3,vs,k4,k5,k6,k7⟩:=ih (by omega)
    obtain ⟨Yg,c1,c2⟩:=hx k (by omega)
    obtain ⟨_,c3,c4⟩:=World.cells?_some c1
    obtain ⟨r1,q1,q2,q3,q4,q5⟩:=RZ T oF h0 c2 c3
    obtain ⟨r',p1,p2,p3,p4⟩:=R0 k1 q1 k2 q2
    refine ⟨r',p1,p2,by omega,vs++Yg,by rw[List.length_append,k4,c3,Nat.succ_mul],fun j hj=> ?_,?_,?_⟩
    ·by_cases RM:j<k*bz tt e
     ·rw[k5 j RM,List.getElem?_append_left (by omega)]
     ·have Vy:j-k*bz tt e<bz tt e:=by rw[Nat.succ_mul] at hj;omega
      have:=c4 (j-k*bz tt e) Vy
      rw[add_add,show k*bz tt e+(j-k*bz tt e)=j by omega] at this
      rw[this,List.getElem?_append_right (by omega),k4]
    ·rw[p4]
     have:=aj.append k6 (by rw[k4,k7]) q4
     rwa [cp] at this
    ·rw[p4,List.length_append,k7,q5,c3,Nat.succ_mul]
  obtain ⟨r,k1,k2,k3,vs,k4,k5,k6,k7⟩:=key len (by omega)
  have FF:0<bz tt e:=by
   have:=(T e _ G6).some.1
   simpa[bz,G6] using this
  refine ⟨r,k1,k2,by omega,some a,cap,by rw[k3],by omega,fun lG=>⟨a,rfl,?_,vs,fun j hj=>k5 j (by omega),k6⟩⟩
  have ZA:0<len*bz tt e:=Nat.mul_pos (by omega) FF
  have UI:=k5 0 ZA
  rw[List.getElem?_eq_getElem (by omega)] at UI
  have:=LG UI
  rwa [oN] at this
theorem ED (T:mW P tt) {Zf:Zs} {t:Nat} {v:Value} (h:zi enc P w (nJ tt) t v): ∃d,ly w Zf (qg w) d v fz/\Oh tt t d:=by
 obtain ⟨hl,n,y,hy⟩:=h
 unfold nJ at hl
 split at hl
 ·rename_i k s b ht
  obtain ⟨z,hz,_,hw⟩:=DataW.trod_int (T t _ ht).desc hy
  cases hz
  exact ⟨.i k z,⟨rfl,rfl⟩,by unfold Oh;rw[ht];exact ⟨z,rfl,hw⟩⟩
 ·rename_i s b ht
  obtain ⟨z,hz,_⟩:=DataW.trod_bool (T t _ ht).desc hy
  cases hz
  exact ⟨.b z,⟨rfl,rfl⟩,by unfold Oh;rw[ht];exact ⟨z,rfl⟩⟩
 ·rename_i s b ht
  obtain ⟨z,hz,_,hw⟩:=DataW.trod_string (T t _ ht).desc hy
  cases hz
  exact ⟨.s z,⟨rfl,rfl⟩,by unfold Oh;rw[ht];exact ⟨z,rfl,hw⟩⟩
 ·rename_i e s b ht
  obtain ⟨r0,h0⟩: ∃r0,di tt e=some r0:=by
   unfold Nu at hl
   split at hl
   ·rename_i q;exact ⟨_,by simp only[di,q];rfl⟩
   ·rename_i q;exact ⟨_,by simp only[di,q];rfl⟩
   ·rename_i q;exact ⟨_,by simp only[di,q];rfl⟩
   ·rename_i q;exact ⟨_,by simp only[di,q];rfl⟩
   ·rename_i fs s' b' q
    simp only[Bool.and_eq_true,beq_iff_eq] at hl
    refine ⟨.dw ((aK tt depth e).map (zh tt)) true [],?_⟩
    have sV:(aK tt depth e).all (tU tt)=true:=by
     have key: ∀(d t:Nat),jf tt (sq tt) d t=true->(aK tt d t).all (tU tt)=true:=by
      have one: ∀t,sq tt t=true->tU tt t=true:=fun t h=>by
       unfold sq at h
       split at h
       ·rename_i q;simp only[tU,q];exact h
       ·rename_i q;simp only[tU,q]
       ·cases h
      intro d
      induction d with
      |zero=>intro t h;simp only[jf,Bool.and_eq_true] at h;simp[aK,one t h.1.1]
      |succ d ih=>
       intro t h
       cases q2:tt t with
       |none=>simp[jf,q2,bz] at h
       |some te=>
        obtain ⟨kk,sz,bs⟩:=te
        cases kk with
        |struct fs2=>
         simp only[jf,q2] at h
         simp only[aK,q2]
         have go: ∀(Oj:List (Nat×Nat)) (a:Nat),qF (jf tt (sq tt) d) (bz tt) a Oj sz=true->(Oj.flatMap fun f=>aK tt d f.2).all (tU tt)=true:=by
          intro Oj
          induction Oj with
          |nil=>intro _ _;rfl
          |cons p Oj Uw=>
           intro a hc
           obtain ⟨off,ft⟩:=p
           simp only[qF,Bool.and_eq_true] at hc
           rw[List.flatMap_cons,List.all_append,ih ft hc.1.2,Uw _ hc.2];rfl
         exact go fs2 0 h
        |_=>simp only[jf,q2,Bool.and_eq_true] at h;simp[aK,q2,one t h.1]
     exact key depth e hl.2
    simp only[di,q,sV,cond_true]
   ·cases hl
  obtain ⟨r,k1,k2,k3,k4⟩:=open_row T ht hl h0 hy
  exact ⟨.sl .aS r,⟨k4,rfl⟩,by unfold Oh;rw[ht];exact ⟨r0,r,h0,rfl,k1,k2,k3⟩⟩
 ·cases hl
theorem Ai (T:mW P tt) {Zf:Zs}: ∀ {ts:List Nat} {vs:List Value},wq (zi enc P w (nJ tt)) ts vs-> ∃ds,kx w Zf (qg w) ds vs fz/\UK tt ts ds
 | [],[],_=>⟨[],rfl,trivial⟩
 |t::ts,v::vs,h=>by
  obtain ⟨d,h1,h2⟩:=ED T (Zf:=Zf) h.1
  obtain ⟨ds,h3,h4⟩:=Ai T (Zf:=Zf) h.2
  exact ⟨d::ds,⟨fz,fz,h1,h3,(cp _).symm⟩,h2,h4⟩
theorem Qk (T:mW P tt) {Zf:Zs} {t:Nat} {v:Value} (hs:served tt t=true) {r:Reach} {base:Nat} (Bh:Value.okWide P w r base t v) {d:DataW H} {ps:List MemPlace} (h:DataW.Trod enc P w 0 (fun _=>true) true t v d ps): ∃dv,pi w Zf (qg w) dv v fz/\Oi tt t dv:=by
 obtain ⟨fuel,hf⟩:=h
 obtain ⟨e,ht⟩:=Ah hs
 obtain ⟨k,s,b⟩:=e
 have leaf:v.cells.toList=[v]->(nJ tt t&&bz tt t==1)=true->(∀x,Oi tt t (.l x)↔Oh tt t x)-> ∃dv,pi w Zf (qg w) dv v fz/\Oi tt t dv:=fun h1 h2 h3=>by
  rw[h1] at hf
  simp only[Bool.and_eq_true] at h2
  obtain ⟨d,k1,k2⟩:=ED T (Zf:=Zf) ⟨h2.1,fuel,_,hf⟩
  exact ⟨.l d,k1,(h3 d).2 k2⟩
 have hd:=(T t _ ht).desc
 cases k with
 |struct fs=>
  obtain ⟨fields,hd,_⟩:=hd
  obtain ⟨cs,rfl,oZ⟩:=Go.WideShapes.okWide_struct hd Bh
  have hlen:cs.toList.length=bz tt t:=by rw[Array.length_toList,oZ,oL T ht]
  have hr:=EA T depth t hs hf hlen
  obtain ⟨ds,k1,k2⟩:=Ai T (Zf:=Zf) hr
  refine ⟨.agg ds,⟨cs.toList,by simp,k1⟩,?_⟩
  unfold Oi;rw[ht];exact ⟨ds,rfl,k2⟩
 |int k=>
  obtain ⟨n,rfl⟩:=Go.WideShapes.okWide_int hd Bh
  exact leaf rfl (by simpa[served,jf,depth,ht] using hs) (fun x=>by unfold Oi;rw[ht];simp)
 |bool=>
  obtain ⟨n,rfl⟩:=Go.WideShapes.okWide_bool hd Bh
  exact leaf rfl (by simpa[served,jf,depth,ht] using hs) (fun x=>by unfold Oi;rw[ht];simp)
 |str=>
  obtain ⟨n,rfl⟩:=Go.WideShapes.okWide_string hd Bh
  exact leaf rfl (by simpa[served,jf,depth,ht] using hs) (fun x=>by unfold Oi;rw[ht];simp)
 |slice e=>
  obtain ⟨a,l,c,rfl⟩:=Go.WideShapes.okWide_slice hd Bh
  exact leaf rfl (by simpa[served,jf,depth,ht] using hs) (fun x=>by unfold Oi;rw[ht];simp)
 |_=>simp[served,jf,depth,ht,nJ] at hs
theorem DG (T:mW P tt) {Zf:Zs} {r:Reach} {base:Nat}: ∀ {ts:List Nat} {vs:List Value} {ds:List (DataW H)} {ps:List MemPlace},ts.all (served tt)=true->(∀(j:Nat) t v,ts[j]? =some t->vs[j]? =some v->Value.okWide P w r base t v)->DataW.TrodAll enc P w 0 (fun _=>true) true ts vs ds ps-> ∃yq,dV w Zf (qg w) yq vs fz/\Qi tt ts yq
 | [],[],_,_,_,_,_=>⟨[],rfl,trivial⟩
 | [],_::_,[],_,_,_,h=>h.elim
 | [],_::_,_::_,_,_,_,h=>h.elim
 |_::_,[],[],_,_,_,h=>h.elim
 |_::_,[],_::_,_,_,_,h=>h.elim
 |_::_,_::_,[],_,_,_,h=>h.elim
 |t::ts,v::vs,d::ds,ps,hs,Bh,h=>by
  obtain ⟨p,q,h1,h2,_⟩:=h
  simp only[List.all_cons,Bool.and_eq_true] at hs
  obtain ⟨dv,k1,k2⟩:=Qk T (Zf:=Zf) hs.1 (Bh 0 t v rfl rfl) h1
  obtain ⟨yq,k3,k4⟩:=DG T (Zf:=Zf) hs.2 (fun j t' v' e1 e2=>Bh (j+1) t' v' (by simpa using e1) (by simpa using e2)) h2
  exact ⟨dv::yq,⟨fz,fz,k1,k3,(cp _).symm⟩,k2,k4⟩
end
section
variable {P:Program} {tt:TT}
theorem Frame.below {C:Cx} {w':World} (h:Frame C w') (h0:C.F0=fz):Go.RowKit.Below C.w0.heap.size C.w0 w':=
 ⟨h.os,h.tape,h.output,h.size,fun b hb=>h.block b hb (by rw[h0];rfl)⟩
def UL (P:Program) (w:World) (hg:Ground P w (qg w)):Cx:={P0:=P,gnd:=hg,w0:=w,F0:=fz,Zl:=qg w,Zf0:=qg w,N:=0,kv:=[],good:=fun b hb=>⟨hb.elim id id,rfl⟩}
theorem CZ {w:World} (hg:Ground P w (qg w)) {f:FuncId} {g:ug} {ds:List DV} {args:Array Value} (uh:sP g.iH=true) (hc:dt P f g ds [.l (.b true)]) (ha:dV w (qg w) (qg w) ds args.toList fz):Calls P f args w fun e w'=>e= .returned (.bool true)/\Go.RowKit.Below w.heap.size w w':=by
 have h:=hc (UL P w hg) args.toList rfl ha (fun b=>by show fz b<=1;simp) (fun b hb=>by have:1<=fz b:=hb;simp at this)
 rw[Array.toArray_toList] at h
 refine Calls.mono h fun e w' he=> ?_
 obtain ⟨vs,F',rfl,hlen,KU,_,_,hrel⟩:=he
 rw[ik _ _ uh,List.append_nil] at hrel
 refine ⟨?_,KU.below rfl⟩
 cases vs with
 |nil=>exact hrel.elim
 |cons v vs=>
  obtain ⟨F1,F2,h1,h2,_⟩:=hrel
  cases vs with
  |nil=>rw[show v= .bool true from h1.1];rfl
  |cons u us=>exact h2.elim
theorem Jv {H:Type} {enc:TypeId×Value->H} {P:Program} {w:World} {base:Nat} {sp:Nat->Bool} {held:Bool} {fuel t:Nat} {ms:Array (String×TypeId)} {cs:List Value} {nm:String} {d:DataW H} {p:List MemPlace}
 (ht:P.underlying t=some (.interface ms)) (h:DataW.trod enc P w base sp held fuel t cs=some (.iface nm d,p)): ∃u v,cs=[.iface u v]:=by
 cases fuel with
 |zero=>simp[DataW.trod] at h
 |succ fuel=>
  simp only[DataW.trod,ht] at h
  split at h
  all_goals first
   |exact ⟨_,_,rfl⟩
   |simp_all
theorem OO {w:World} {Zf:Zs} {r:Row} {vs:List Value} (h:dV w Zf (qg w) [.l (.sl .aS r)] vs fz):dV w (qg w) (qg w) [.l (.sl .fL r)] vs fz:=by
 cases vs with
 |nil=>exact h.elim
 |cons v vs=>
  cases vs with
  |cons u us=>obtain ⟨_,_,_,h,_⟩:=h;exact h.elim
  |nil=>exact h
end
section
variable {tt:TT}
theorem MG {t:Nat} {ts:List Nat} {yq:List DV} (h:Qi tt (t::ts) yq): ∃d ds,yq=d::ds/\Oi tt t d/\Qi tt ts ds:=by
 cases yq with
 |nil=>exact h.elim
 |cons d ds=>exact ⟨d,ds,rfl,h.1,h.2⟩
theorem ON {yq:List DV} (h:Qi tt [] yq):yq=[]:=by
 cases yq with
 |nil=>rfl
 |cons d ds=>exact h.elim
theorem Wk {t:Nat} (ht:eg tt t=false) {d:DV} (h:Oi tt t d): ∃x,d= .l x/\Oh tt t x:=by
 unfold Oi at h
 split at h
 ·rename_i q;simp[eg,q] at ht
 ·exact h
theorem R1 {t e s b:Nat} (ht:tt t=some ⟨.slice e,s,b⟩) {r0:Row} (h0:di tt e=some r0) {d:DL} (h:Oh tt t d): ∃r,d= .sl .aS r/\tX r0 r/\og r/\r.len<=maxLen:=by
 unfold Oh at h;rw[ht] at h
 obtain ⟨r0',r,h1,h2,h3⟩:=h
 rw[h0] at h1;cases h1
 exact ⟨r,h2,h3⟩
theorem OM {t e s b:Nat} {k:IntKind} (ht:tt t=some ⟨.slice e,s,b⟩) (h0:di tt e=some (.ints k [])) {d:DL} (h:Oh tt t d): ∃l,d= .sl .aS (.ints k l)/\(∀n∈l,ry k n)/\l.length<=maxLen:=by
 obtain ⟨r,h1,h2,h3,h4⟩:=R1 ht h0 h
 cases r with
 |ints k' l=>cases (show k' =k from h2);exact ⟨l,h1,h3,h4⟩
 |_=>exact h2.elim
end
section
variable {P:Program} {H:Type} {enc:TypeId×Value->H}
theorem OL {w:World} {name:String} {g:Nat} {cs:Array Value} (hg:P.globalNamed name=some g) (hv:w.var? P name=some cs):g<w.heap.size:=by
 unfold World.var? at hv
 rw[hg] at hv
 simp only[Option.bind_some] at hv
 by_cases h:g<w.heap.size
 ·exact h
 ·rw[Array.getElem?_eq_none (by omega)] at hv
  cases hv
end
end Go.Proofs.YtbmmhdmljajcfaaGreatDoor.V
