/- The abstract evaluator and its soundness: part VLaw. Conditions: as each section says. -/
import Derived.Test.YtbmmhdmljajcfaaGreatDoorVShape
import Derived.Test.YtbmmhdmljajcfaaGreatDoorRows
import Derived.WalkKit
import Derived.ProofKit
import Derived.OpenShut
import Derived.ShutString
import Derived.ChangeOld
import Derived.Carry
import Derived.Deep.Slices
set_option linter.unusedVariables false
set_option linter.unusedSimpArgs false
namespace Go.Proofs.YtbmmhdmljajcfaaGreatDoor.V
open Go
def wfI (k:IntKind) (n:Int):Prop:=(Lit.int k n).wf=true
def leafWf:Bool->Leaf->Prop
 |true,.ints l=>l.length<=maxLen/\ ∀n∈l,wfI .i64 n
 |false,.int n=>wfI .i64 n
 |_,_=>False
def recWf:List Bool->List Leaf->Prop
 | [],[]=>True
 |b::sg,x::r=>leafWf b x/\recWf sg r
 |_,_=>False
def rowWf:Row->Prop
 | .ints k l=> ∀n∈l,wfI k n
 | .bools _=>True
 | .strs l=> ∀s∈l,s.size<=maxLen
 | .rows _ l=> ∀r∈l,r.length<=maxLen/\ ∀n∈r,wfI .i64 n
 | .recs sg _ l=> ∀r∈l,recWf sg r
def frRow (r0 r:Row):Prop:=match r0,r with
 | .ints k _,.ints k' _=>k' =k
 | .bools _,.bools _=>True
 | .strs _,.strs _=>True
 | .rows _ _,.rows o _=>o=false
 | .recs sg _ _,.recs sg' o _=>sg' =sg/\o=false
 |_,_=>False
def okL (tt:TT) (t:Nat) (d:DL):Prop:=match tt t with
 |some ⟨.int k,_,_⟩=> ∃n,d= .i k n/\wfI k n
 |some ⟨.bool,_,_⟩=> ∃b,d= .b b
 |some ⟨.str,_,_⟩=> ∃s,d= .s s/\s.size<=maxLen
 |some ⟨.slice e,_,_⟩=> ∃r0 r,emptyRow tt e=some r0/\d= .sl .lent r/\frRow r0 r/\rowWf r/\r.len<=maxLen
 |_=>False
def okLs (tt:TT):List Nat->List DL->Prop
 | [],[]=>True
 |t::ts,d::ds=>okL tt t d/\okLs tt ts ds
 |_,_=>False
def okV (tt:TT) (t:Nat) (d:DV):Prop:=match tt t with
 |some ⟨.struct _,_,_⟩=> ∃ds,d= .agg ds/\okLs tt (leafTypes tt depth t) ds
 |_=> ∃x,d= .l x/\okL tt t x
def okVs (tt:TT):List Nat->List DV->Prop
 | [],[]=>True
 |t::ts,d::ds=>okV tt t d/\okVs tt ts ds
 |_,_=>False
def intTy (tt:TT) (t:Nat):Bool:=match tt t with|some ⟨.int k,s,_⟩=>decide (k= .i64)&&s==1|_=>false
def contig (ok:Nat->Bool) (sz:Nat->Nat):Nat->List (Nat×Nat)->Nat->Bool
 |at',[],e=>at' ==e
 |at',(off,ft)::fs,e=>off==at' &&ok ft&&contig ok sz (at' +sz ft) fs e
def flatOK (tt:TT) (lf:Nat->Bool):Nat->Nat->Bool
 |0,t=>lf t&&sizeOf' tt t==1&& !isStruct tt t
 |d+1,t=>match tt t with
  |some ⟨.struct fs,sz,_⟩=>contig (flatOK tt lf d) (sizeOf' tt) 0 fs sz
  |_=>lf t&&sizeOf' tt t==1
def recLeaf (tt:TT) (t:Nat):Bool:=match tt t with
 |some ⟨.int k,_,_⟩=>decide (k= .i64)
 |some ⟨.slice e,_,_⟩=>intTy tt e
 |_=>false
def elOK (tt:TT) (e:Nat):Bool:=match tt e with
 |some ⟨.int _,s,_⟩=>s==1
 |some ⟨.bool,s,_⟩=>s==1
 |some ⟨.str,s,_⟩=>s==1
 |some ⟨.slice e',s,_⟩=>s==1&&intTy tt e'
 |some ⟨.struct _,s,_⟩=>s==(leafTypes tt depth e).length&&flatOK tt (recLeaf tt) depth e
 |_=>false
def leafServed (tt:TT) (t:Nat):Bool:=match tt t with
 |some ⟨.int _,_,_⟩=>true
 |some ⟨.bool,_,_⟩=>true
 |some ⟨.str,_,_⟩=>true
 |some ⟨.slice e,_,_⟩=>elOK tt e
 |_=>false
def served (tt:TT) (t:Nat):Bool:=flatOK tt (leafServed tt) depth t
section
variable {P:Program} {tt:TT} {H:Type} {enc:TypeId×Value->H} {w:World} {sp:Nat->Bool}
theorem cellsOf_size (T:TOK P tt) {t:Nat} {e:TE} (h:tt t=some e):P.cellsOf t=sizeOf' tt t:=by
 obtain ⟨i,h1,h2,_⟩:=(T t e h).info
 simp[Program.cellsOf,h1,h2,sizeOf',h]
def Zall (w:World):Zs:=fun b=>b<w.heap.size
theorem cell_lt {a:Addr} {v:Value} (h:w.cell? a=some v):a.block<w.heap.size:=by
 unfold World.cell? at h
 cases e:w.heap[a.block]? with
 |none=>rw[e] at h;cases h
 |some o=>exact (Array.getElem?_eq_some_iff.1 e).1
theorem open_sl (T:TOK P tt) {t e:Nat} {s b b':Nat} {k:IntKind} (ht:tt t=some ⟨.slice e,s,b⟩) (he:tt e=some ⟨.int k,1,b'⟩) {fuel:Nat} {v:Value} {x:DataW H×List MemPlace} (h:DataW.trod enc P w 0 (fun _=>true) true fuel t [v] =some x):
 ∃(l:List Int) (A:Option Addr) (cap:Nat),v= .slice A l.length cap/\l.length<=cap/\l.length<=maxLen/\(∀n∈l,wfI k n)/\(l≠[]-> ∃ad,A=some ad/\Zall w ad.block/\ ∀(j:Nat) (n:Int),l[j]? =some n->w.cell? (ad.add j)=some (.int k n)):=by
 have hc:P.cellsOf e=1:=by rw[cellsOf_size T he];simp[sizeOf',he]
 rcases Go.ChangeShapes.open_ints (T t _ ht).desc (T e _ he).desc hc h with ⟨hcs,_⟩| ⟨a,len,cap,zs,hcs,_,hl,hm,hz,_,hcell,hwz⟩
 ·cases hcs
  exact ⟨[],none,0,rfl,by simp,by simp,by simp,fun h=>absurd rfl h⟩
 ·cases hcs
  have hzl:zs.length=cap:=by simpa using hz
  have hlen:(zs.take len).length=len:=by simp;omega
  refine ⟨zs.take len,some a,cap,by rw[hlen],by omega,by omega,fun n hn=>hwz n (List.mem_of_mem_take hn),fun hne=>⟨a,rfl,?_,fun j n hj=> ?_⟩⟩
  ·have h0:0<len:=by
    rcases Nat.eq_zero_or_pos len with e0|e0
    ·subst e0;simp at hne
    ·exact e0
   have:=hcell 0 (by omega)
   have hlt:=cell_lt this
   rwa [add_block] at hlt
  ·rw[List.getElem?_take] at hj
   split at hj
   ·rename_i hjl
    have:=hcell j (by omega)
    rw[this]
    simp[List.getD_eq_getElem?_getD,hj]
   ·cases hj
def Rel2 (R:Nat->Value->Prop):List Nat->List Value->Prop
 | [],[]=>True
 |t::ts,v::vs=>R t v/\Rel2 R ts vs
 |_,_=>False
theorem Rel2.append {R:Nat->Value->Prop}: ∀ {ts us:List Nat} {vs ws:List Value},Rel2 R ts vs->Rel2 R us ws->Rel2 R (ts++us) (vs++ws)
 | [],_,[],_,_,h=>h
 |t::ts,_,v::vs,_,h,h'=>⟨h.1,Rel2.append h.2 h'⟩
theorem Rel2.length {R:Nat->Value->Prop}: ∀ {ts:List Nat} {vs:List Value},Rel2 R ts vs->ts.length=vs.length
 | [],[],_=>rfl
 |t::ts,v::vs,h=>by simp[Rel2.length h.2]
theorem contig_le {ok:Nat->Bool} {sz:Nat->Nat} {e:Nat}: ∀ {fs:List (Nat×Nat)} {a:Nat},contig ok sz a fs e=true->a<=e
 | [],a,h=>by simp[contig] at h;omega
 | (off,ft)::fs,a,h=>by
   simp only[contig,Bool.and_eq_true] at h
   have:=contig_le h.2
   omega
theorem flatOK_some {lf:Nat->Bool}: ∀ {d t:Nat},flatOK tt lf d t=true-> ∃e,tt t=some e:=by
 intro d t h
 cases ht:tt t with
 |some e=>exact ⟨e,rfl⟩
 |none=>
  cases d with
  |zero=>simp[flatOK,sizeOf',ht] at h
  |succ d=>simp[flatOK,sizeOf',ht] at h
def LeafIs (enc:TypeId×Value->H) (P:Program) (w:World) (lf:Nat->Bool) (lt:Nat) (v:Value):Prop:=lf lt=true/\ ∃n y,DataW.trod enc P w 0 (fun _=>true) true n lt [v] =some y
theorem flat_open (T:TOK P tt) {lf:Nat->Bool}: ∀(d t:Nat),flatOK tt lf d t=true-> ∀ {fuel:Nat} {cs:List Value} {x:DataW H×List MemPlace},DataW.trod enc P w 0 (fun _=>true) true fuel t cs=some x->cs.length=sizeOf' tt t->Rel2 (LeafIs enc P w lf) (leafTypes tt d t) cs:=by
 intro d
 induction d with
 |zero=>
  intro t hf fuel cs x h hl
  simp only[flatOK,Bool.and_eq_true,beq_iff_eq] at hf
  rw[hf.1.2] at hl
  match cs,hl with
  | [v],_=>exact ⟨⟨hf.1.1,fuel,x,h⟩,trivial⟩
 |succ d ih=>
  intro t hf fuel cs x h hl
  have leaf:(lf t&&sizeOf' tt t==1)=true->leafTypes tt (d+1) t=[t]->Rel2 (LeafIs enc P w lf) (leafTypes tt (d+1) t) cs:=fun h1 h2=>by
   simp only[Bool.and_eq_true,beq_iff_eq] at h1
   rw[h1.2] at hl
   rw[h2]
   match cs,hl with
   | [v],_=>exact ⟨⟨h1.1,fuel,x,h⟩,trivial⟩
  cases ht:tt t with
  |none=>simp only[flatOK,ht] at hf;exact leaf hf (by simp[leafTypes,ht])
  |some e=>
   obtain ⟨k,sz,bs⟩:=e
   cases k with
   |struct fs=>
    simp only[flatOK,ht] at hf
    have hlt:leafTypes tt (d+1) t=fs.flatMap fun f=>leafTypes tt d f.2:=by simp[leafTypes,ht]
    rw[hlt]
    obtain ⟨fields,hd,hfs,_⟩:=(T t _ ht).desc
    obtain ⟨xs,n,_,_,_,hxl,hx⟩:=DataW.trod_struct hd h
    have hcl:cs.length=sz:=by rw[hl];simp[sizeOf',ht]
    have each: ∀p∈fs,(∃e,tt p.2=some e)-> ∃n y,DataW.trod enc P w 0 (fun _=>true) true n p.2 ((cs.drop p.1).take (sizeOf' tt p.2))=some y:=fun p hp he=>by
     rw[<- hfs] at hp
     obtain ⟨f,hf1,rfl⟩:=List.mem_map.1 hp
     obtain ⟨i,hi⟩:=List.getElem?_of_mem hf1
     have hi':fields[i]? =some f:=by simpa using hi
     obtain ⟨e,he⟩:=he
     have hil:i<xs.length:=by rw[hxl];exact (Array.getElem?_eq_some_iff.1 hi').1
     refine ⟨n,xs[i],?_⟩
     have:=hx i f hi'
     rw[cellsOf_size T he,List.getElem?_eq_getElem hil] at this
     exact this
    have go: ∀(fs':List (Nat×Nat)) (a:Nat),(∀p∈fs',p∈fs)->contig (flatOK tt lf d) (sizeOf' tt) a fs' sz=true->Rel2 (LeafIs enc P w lf) (fs'.flatMap fun f=>leafTypes tt d f.2) (cs.drop a):=by
     intro fs'
     induction fs' with
     |nil=>
      intro a _ hc
      simp[contig] at hc
      rw[List.drop_of_length_le (by omega)]
      trivial
     |cons p fs' ih2=>
      intro a hsub hc
      obtain ⟨off,ft⟩:=p
      simp only[contig,Bool.and_eq_true,beq_iff_eq] at hc
      obtain ⟨⟨rfl,hok⟩,hrest⟩:=hc
      obtain ⟨n',y,hy⟩:=each (off,ft) (hsub _ (by simp)) (flatOK_some hok)
      have hle:=contig_le hrest
      have h1:=ih ft hok hy (by simp;omega)
      have h2:=ih2 (off+sizeOf' tt ft) (fun q hq=>hsub q (by simp[hq])) hrest
      have e2:cs.drop off=(cs.drop off).take (sizeOf' tt ft)++cs.drop (off+sizeOf' tt ft):=by
       rw[<- List.drop_drop];exact (List.take_append_drop _ _).symm
      rw[e2,List.flatMap_cons]
      exact Rel2.append h1 h2
    have:=go fs 0 (fun p hp=>hp) hf
    simpa using this
   |_=>simp only[flatOK,ht] at hf;exact leaf hf (by simp[leafTypes,ht])
theorem intTy_some {t:Nat} (h:intTy tt t=true): ∃b,tt t=some ⟨.int .i64,1,b⟩:=by
 unfold intTy at h
 split at h
 ·rename_i k s b ht
  simp only[Bool.and_eq_true,decide_eq_true_eq,beq_iff_eq] at h
  obtain ⟨rfl,rfl⟩:=h
  exact ⟨b,ht⟩
 ·cases h
theorem one_cell {Z:Zs} {c:Cell} {v:Value} (h:CellRel w Z c v fz):CellsRel w Z [c] [v] fz:=⟨fz,fz,h,rfl,(fadd_fz _).symm⟩
theorem cons_cell {Z:Zs} {c:Cell} {v:Value} {cs:List Cell} {vs:List Value} (h:CellRel w Z c v fz) (h':CellsRel w Z cs vs fz):CellsRel w Z (c::cs) (v::vs) fz:=⟨fz,fz,h,h',(fadd_fz _).symm⟩
theorem rec_build (T:TOK P tt): ∀(ts:List Nat) (cs:List Value),Rel2 (LeafIs enc P w (recLeaf tt)) ts cs-> ∃rec:List Leaf,recWf (ts.map (isSl tt)) rec/\ ∀pre:List Leaf,CellsRel w (Zall w) (recCells false (pre++rec) pre.length (ts.map (isSl tt))) cs fz
 | [],[],_=>⟨[],trivial,fun _=>rfl⟩
 |t::ts,v::cs,h=>by
  obtain ⟨⟨hl,n,y,hy⟩,hr⟩:=h
  obtain ⟨rec,h1,h2⟩:=rec_build T ts cs hr
  unfold recLeaf at hl
  split at hl
  ·rename_i k s b ht
   simp only[decide_eq_true_eq] at hl
   subst hl
   obtain ⟨z,hz,_,hw⟩:=DataW.trod_int (T t _ ht).desc hy
   cases hz
   have hs:isSl tt t=false:=by simp[isSl,ht]
   refine ⟨.int z::rec,?_,fun pre=> ?_⟩
   ·simp only[List.map_cons,hs];exact ⟨hw,h1⟩
   ·simp only[List.map_cons,hs,recCells]
    refine cons_cell ⟨?_,rfl⟩ ?_
    ·simp[gi]
    ·have:=h2 (pre++[.int z])
     simpa using this
  ·rename_i e s b ht
   obtain ⟨b',he⟩:=intTy_some hl
   obtain ⟨l,A,cap,rfl,k1,k2,k3,k4⟩:=open_sl T ht he hy
   have hs:isSl tt t=true:=by simp[isSl,ht]
   refine ⟨.ints l::rec,?_,fun pre=> ?_⟩
   ·simp only[List.map_cons,hs];exact ⟨⟨k2,k3⟩,h1⟩
   ·simp only[List.map_cons,hs,recCells]
    have e1:gl (pre++ .ints l::rec) pre.length=l:=by simp[gl]
    rw[e1]
    refine cons_cell ⟨rfl,A,cap,rfl,k1,k4⟩ ?_
    have:=h2 (pre++[.ints l])
    simpa using this
  ·cases hl
theorem el_open (T:TOK P tt) {e:Nat} {r0:Row} (hel:elOK tt e=true) (h0:emptyRow tt e=some r0) {n:Nat} {cs:List Value} {x:DataW H×List MemPlace} (h:DataW.trod enc P w 0 (fun _=>true) true n e cs=some x) (hlen:cs.length=sizeOf' tt e):
 ∃r,frRow r0 r/\rowWf r/\r.len=1/\CellsRel w (Zall w) r.cells cs fz/\r.cells.length=cs.length:=by
 unfold elOK at hel
 split at hel
 ·rename_i k s b ht
  obtain ⟨z,rfl,_,hw⟩:=DataW.trod_int (T e _ ht).desc h
  simp only[emptyRow,ht,Option.some.injEq] at h0
  subst h0
  exact ⟨.ints k [z],rfl,by simp[rowWf];exact hw,rfl,one_cell ⟨rfl,rfl⟩,rfl⟩
 ·rename_i s b ht
  obtain ⟨z,rfl,_⟩:=DataW.trod_bool (T e _ ht).desc h
  simp only[emptyRow,ht,Option.some.injEq] at h0
  subst h0
  exact ⟨.bools [z],trivial,trivial,rfl,one_cell ⟨rfl,rfl⟩,rfl⟩
 ·rename_i s b ht
  obtain ⟨z,rfl,_,hw⟩:=DataW.trod_string (T e _ ht).desc h
  simp only[emptyRow,ht,Option.some.injEq] at h0
  subst h0
  exact ⟨.strs [z],trivial,by simp[rowWf];exact hw,rfl,one_cell ⟨rfl,rfl⟩,rfl⟩
 ·rename_i e' s b ht
  simp only[Bool.and_eq_true,beq_iff_eq] at hel
  obtain ⟨b',he⟩:=intTy_some hel.2
  have hs:sizeOf' tt e=1:=by simp[sizeOf',ht,hel.1]
  rw[hs] at hlen
  match cs,hlen with
  | [v],_=>
    obtain ⟨l,A,cap,rfl,k1,k2,k3,k4⟩:=open_sl T ht he h
    simp only[emptyRow,ht,Option.some.injEq] at h0
    subst h0
    exact ⟨.rows false [l],rfl,by simp only[rowWf,List.mem_singleton,forall_eq];exact ⟨k2,k3⟩,rfl,one_cell ⟨rfl,A,cap,rfl,k1,k4⟩,rfl⟩
 ·rename_i fs s b ht
  simp only[Bool.and_eq_true,beq_iff_eq] at hel
  have hr:=flat_open T depth e hel.2 h hlen
  obtain ⟨rec,h1,h2⟩:=rec_build T _ _ hr
  simp only[emptyRow,ht] at h0
  obtain ⟨_,h0⟩:=bif_some h0
  simp only[Option.some.injEq] at h0
  subst h0
  refine ⟨.recs ((leafTypes tt depth e).map (isSl tt)) false [rec],⟨rfl,rfl⟩,by simp only[rowWf,List.mem_singleton,forall_eq];exact h1,rfl,?_,?_⟩
  ·have:=h2 []
   simpa[Row.cells] using this
  ·simp[Row.cells,recCells_length,hr.length]
 ·cases hel
theorem row_cat {r0 r r1:Row} (h:frRow r0 r) (h1:frRow r0 r1) (hw:rowWf r) (hw1:rowWf r1): ∃r',frRow r0 r' /\rowWf r' /\r'.len=r.len+r1.len/\r'.cells=r.cells++r1.cells:=by
 have mem: ∀ {α:Type} {Q:α->Prop} {l m:List α},(∀x∈l,Q x)->(∀x∈m,Q x)-> ∀x∈l++m,Q x:=fun a b x hx=>(List.mem_append.1 hx).elim (a x) (b x)
 cases r0<;>cases r<;>simp only[frRow] at h<;>try exact h.elim
 all_goals cases r1<;>simp only[frRow] at h1<;>try exact h1.elim
 ·subst h;subst h1
  exact ⟨.ints _ (_++_),rfl,mem hw hw1,by simp[Row.len],by simp[Row.cells]⟩
 ·rename_i l1 l2
  exact ⟨.bools (l1++l2),trivial,trivial,by simp[Row.len],by simp[Row.cells]⟩
 ·exact ⟨.strs (_++_),trivial,mem hw hw1,by simp[Row.len],by simp[Row.cells]⟩
 ·subst h;subst h1
  exact ⟨.rows false (_++_),rfl,mem hw hw1,by simp[Row.len],by simp[Row.cells]⟩
 ·obtain ⟨rfl,rfl⟩:=h
  obtain ⟨rfl,rfl⟩:=h1
  exact ⟨.recs _ false (_++_),⟨rfl,rfl⟩,mem hw hw1,by simp[Row.len],by simp[Row.cells]⟩
theorem emptyRow_frz {e:Nat} {r0:Row} (h0:emptyRow tt e=some r0):frRow r0 r0.frz/\rowWf r0.frz/\r0.frz.len=0/\r0.frz.cells=[]:=by
 unfold emptyRow at h0
 split at h0
 ·cases h0;exact ⟨rfl,by simp[Row.frz,rowWf],rfl,rfl⟩
 ·cases h0;exact ⟨trivial,trivial,rfl,rfl⟩
 ·cases h0;exact ⟨trivial,by simp[Row.frz,rowWf],rfl,rfl⟩
 ·cases h0;exact ⟨rfl,by simp[Row.frz,rowWf],rfl,rfl⟩
 ·obtain ⟨_,h0⟩:=bif_some h0
  cases h0;exact ⟨⟨rfl,rfl⟩,by simp[Row.frz,rowWf],rfl,rfl⟩
 ·cases h0
theorem open_row (T:TOK P tt) {t e s b:Nat} (ht:tt t=some ⟨.slice e,s,b⟩) (hel:elOK tt e=true) {r0:Row} (h0:emptyRow tt e=some r0) {fuel:Nat} {v:Value} {x:DataW H×List MemPlace} (h:DataW.trod enc P w 0 (fun _=>true) true fuel t [v] =some x):
 ∃r,frRow r0 r/\rowWf r/\r.len<=maxLen/\FrzRow w (Zall w) r v:=by
 obtain ⟨z1,z2,z3,z4⟩:=emptyRow_frz h0
 rcases Go.Deep.open_slice (T t _ ht).desc h with ⟨hcs,_⟩| ⟨a,len,cap,m,n,D,Pl,hcs,_,hl,hm,hmm,_,hx⟩
 ·cases hcs
  exact ⟨r0.frz,z1,z2,by rw[z3];exact Nat.zero_le _,nil_frz z3⟩
 ·cases hcs
  obtain ⟨te,hte⟩: ∃te,tt e=some te:=by
   cases q:tt e with
   |some te=>exact ⟨te,rfl⟩
   |none=>simp[elOK,q] at hel
  have hsz:=cellsOf_size T hte
  rw[hsz] at hx
  have hm':m=cap:=by simpa using hmm
  have key: ∀k,k<=m-> ∃r,frRow r0 r/\rowWf r/\r.len=k/\ ∃vs:List Value,vs.length=k*sizeOf' tt e/\(∀j,j<k*sizeOf' tt e->w.cell? (a.add j)=vs[j]?)/\CellsRel w (Zall w) r.cells vs fz/\r.cells.length=k*sizeOf' tt e:=by
   intro k
   induction k with
   |zero=>intro _;exact ⟨r0.frz,z1,z2,z3,[],by simp,by simp,by rw[z4];rfl,by rw[z4];simp⟩
   |succ k ih=>
    intro hk
    obtain ⟨r,k1,k2,k3,vs,k4,k5,k6,k7⟩:=ih (by omega)
    obtain ⟨cs',c1,c2⟩:=hx k (by omega)
    obtain ⟨_,c3,c4⟩:=World.cells?_some c1
    obtain ⟨r1,q1,q2,q3,q4,q5⟩:=el_open T hel h0 c2 c3
    obtain ⟨r',p1,p2,p3,p4⟩:=row_cat k1 q1 k2 q2
    refine ⟨r',p1,p2,by omega,vs++cs',by rw[List.length_append,k4,c3,Nat.succ_mul],fun j hj=> ?_,?_,?_⟩
    ·by_cases hjk:j<k*sizeOf' tt e
     ·rw[k5 j hjk,List.getElem?_append_left (by omega)]
     ·have hj2:j-k*sizeOf' tt e<sizeOf' tt e:=by rw[Nat.succ_mul] at hj;omega
      have:=c4 (j-k*sizeOf' tt e) hj2
      rw[add_add,show k*sizeOf' tt e+(j-k*sizeOf' tt e)=j by omega] at this
      rw[this,List.getElem?_append_right (by omega),k4]
    ·rw[p4]
     have:=CellsRel.append k6 (by rw[k4,k7]) q4
     rwa [fadd_fz] at this
    ·rw[p4,List.length_append,k7,q5,c3,Nat.succ_mul]
  obtain ⟨r,k1,k2,k3,vs,k4,k5,k6,k7⟩:=key len (by omega)
  have hpos:0<sizeOf' tt e:=by
   have:=(T e _ hte).some.1
   simpa[sizeOf',hte] using this
  refine ⟨r,k1,k2,by omega,some a,cap,by rw[k3],by omega,fun hne=>⟨a,rfl,?_,vs,fun j hj=>k5 j (by omega),k6⟩⟩
  have h0lt:0<len*sizeOf' tt e:=Nat.mul_pos (by omega) hpos
  have hc0:=k5 0 h0lt
  rw[List.getElem?_eq_getElem (by omega)] at hc0
  have:=cell_lt hc0
  rwa [add_block] at this
theorem leaf_open (T:TOK P tt) {Zf:Zs} {t:Nat} {v:Value} (h:LeafIs enc P w (leafServed tt) t v): ∃d,DLRel w Zf (Zall w) d v fz/\okL tt t d:=by
 obtain ⟨hl,n,y,hy⟩:=h
 unfold leafServed at hl
 split at hl
 ·rename_i k s b ht
  obtain ⟨z,hz,_,hw⟩:=DataW.trod_int (T t _ ht).desc hy
  cases hz
  exact ⟨.i k z,⟨rfl,rfl⟩,by unfold okL;rw[ht];exact ⟨z,rfl,hw⟩⟩
 ·rename_i s b ht
  obtain ⟨z,hz,_⟩:=DataW.trod_bool (T t _ ht).desc hy
  cases hz
  exact ⟨.b z,⟨rfl,rfl⟩,by unfold okL;rw[ht];exact ⟨z,rfl⟩⟩
 ·rename_i s b ht
  obtain ⟨z,hz,_,hw⟩:=DataW.trod_string (T t _ ht).desc hy
  cases hz
  exact ⟨.s z,⟨rfl,rfl⟩,by unfold okL;rw[ht];exact ⟨z,rfl,hw⟩⟩
 ·rename_i e s b ht
  obtain ⟨r0,h0⟩: ∃r0,emptyRow tt e=some r0:=by
   unfold elOK at hl
   split at hl
   ·rename_i q;exact ⟨_,by simp only[emptyRow,q];rfl⟩
   ·rename_i q;exact ⟨_,by simp only[emptyRow,q];rfl⟩
   ·rename_i q;exact ⟨_,by simp only[emptyRow,q];rfl⟩
   ·rename_i q;exact ⟨_,by simp only[emptyRow,q];rfl⟩
   ·rename_i fs s' b' q
    simp only[Bool.and_eq_true,beq_iff_eq] at hl
    refine ⟨.recs ((leafTypes tt depth e).map (isSl tt)) true [],?_⟩
    have hall:(leafTypes tt depth e).all (leafOK tt)=true:=by
     have key: ∀(d t:Nat),flatOK tt (recLeaf tt) d t=true->(leafTypes tt d t).all (leafOK tt)=true:=by
      have one: ∀t,recLeaf tt t=true->leafOK tt t=true:=fun t h=>by
       unfold recLeaf at h
       split at h
       ·rename_i q;simp only[leafOK,q];exact h
       ·rename_i q;simp only[leafOK,q]
       ·cases h
      intro d
      induction d with
      |zero=>intro t h;simp only[flatOK,Bool.and_eq_true] at h;simp[leafTypes,one t h.1.1]
      |succ d ih=>
       intro t h
       cases q2:tt t with
       |none=>simp[flatOK,q2,sizeOf'] at h
       |some te=>
        obtain ⟨kk,sz,bs⟩:=te
        cases kk with
        |struct fs2=>
         simp only[flatOK,q2] at h
         simp only[leafTypes,q2]
         have go: ∀(fs':List (Nat×Nat)) (a:Nat),contig (flatOK tt (recLeaf tt) d) (sizeOf' tt) a fs' sz=true->(fs'.flatMap fun f=>leafTypes tt d f.2).all (leafOK tt)=true:=by
          intro fs'
          induction fs' with
          |nil=>intro _ _;rfl
          |cons p fs' ih2=>
           intro a hc
           obtain ⟨off,ft⟩:=p
           simp only[contig,Bool.and_eq_true] at hc
           rw[List.flatMap_cons,List.all_append,ih ft hc.1.2,ih2 _ hc.2];rfl
         exact go fs2 0 h
        |_=>simp only[flatOK,q2,Bool.and_eq_true] at h;simp[leafTypes,q2,one t h.1]
     exact key depth e hl.2
    simp only[emptyRow,q,hall,cond_true]
   ·cases hl
  obtain ⟨r,k1,k2,k3,k4⟩:=open_row T ht hl h0 hy
  exact ⟨.sl .lent r,⟨k4,rfl⟩,by unfold okL;rw[ht];exact ⟨r0,r,h0,rfl,k1,k2,k3⟩⟩
 ·cases hl
theorem leaves_open (T:TOK P tt) {Zf:Zs}: ∀ {ts:List Nat} {vs:List Value},Rel2 (LeafIs enc P w (leafServed tt)) ts vs-> ∃ds,DLsRel w Zf (Zall w) ds vs fz/\okLs tt ts ds
 | [],[],_=>⟨[],rfl,trivial⟩
 |t::ts,v::vs,h=>by
  obtain ⟨d,h1,h2⟩:=leaf_open T (Zf:=Zf) h.1
  obtain ⟨ds,h3,h4⟩:=leaves_open T (Zf:=Zf) h.2
  exact ⟨d::ds,⟨fz,fz,h1,h3,(fadd_fz _).symm⟩,h2,h4⟩
theorem arg_open (T:TOK P tt) {Zf:Zs} {t:Nat} {v:Value} (hs:served tt t=true) {r:Reach} {base:Nat} (hval:Value.okWide P w r base t v) {d:DataW H} {ps:List MemPlace} (h:DataW.Trod enc P w 0 (fun _=>true) true t v d ps): ∃dv,DVRel w Zf (Zall w) dv v fz/\okV tt t dv:=by
 obtain ⟨fuel,hf⟩:=h
 obtain ⟨e,ht⟩:=flatOK_some hs
 obtain ⟨k,s,b⟩:=e
 have leaf:v.cells.toList=[v]->(leafServed tt t&&sizeOf' tt t==1)=true->(∀x,okV tt t (.l x)↔okL tt t x)-> ∃dv,DVRel w Zf (Zall w) dv v fz/\okV tt t dv:=fun h1 h2 h3=>by
  rw[h1] at hf
  simp only[Bool.and_eq_true] at h2
  obtain ⟨d,k1,k2⟩:=leaf_open T (Zf:=Zf) ⟨h2.1,fuel,_,hf⟩
  exact ⟨.l d,k1,(h3 d).2 k2⟩
 have hd:=(T t _ ht).desc
 cases k with
 |struct fs=>
  obtain ⟨fields,hd,_⟩:=hd
  obtain ⟨cs,rfl,hcs⟩:=Go.WideShapes.okWide_struct hd hval
  have hlen:cs.toList.length=sizeOf' tt t:=by rw[Array.length_toList,hcs,cellsOf_size T ht]
  have hr:=flat_open T depth t hs hf hlen
  obtain ⟨ds,k1,k2⟩:=leaves_open T (Zf:=Zf) hr
  refine ⟨.agg ds,⟨cs.toList,by simp,k1⟩,?_⟩
  unfold okV;rw[ht];exact ⟨ds,rfl,k2⟩
 |int k=>
  obtain ⟨n,rfl⟩:=Go.WideShapes.okWide_int hd hval
  exact leaf rfl (by simpa[served,flatOK,depth,ht] using hs) (fun x=>by unfold okV;rw[ht];simp)
 |bool=>
  obtain ⟨n,rfl⟩:=Go.WideShapes.okWide_bool hd hval
  exact leaf rfl (by simpa[served,flatOK,depth,ht] using hs) (fun x=>by unfold okV;rw[ht];simp)
 |str=>
  obtain ⟨n,rfl⟩:=Go.WideShapes.okWide_string hd hval
  exact leaf rfl (by simpa[served,flatOK,depth,ht] using hs) (fun x=>by unfold okV;rw[ht];simp)
 |slice e=>
  obtain ⟨a,l,c,rfl⟩:=Go.WideShapes.okWide_slice hd hval
  exact leaf rfl (by simpa[served,flatOK,depth,ht] using hs) (fun x=>by unfold okV;rw[ht];simp)
 |_=>simp[served,flatOK,depth,ht,leafServed] at hs
theorem args_open (T:TOK P tt) {Zf:Zs} {r:Reach} {base:Nat}: ∀ {ts:List Nat} {vs:List Value} {ds:List (DataW H)} {ps:List MemPlace},ts.all (served tt)=true->(∀(j:Nat) t v,ts[j]? =some t->vs[j]? =some v->Value.okWide P w r base t v)->DataW.TrodAll enc P w 0 (fun _=>true) true ts vs ds ps-> ∃dvs,DVsRel w Zf (Zall w) dvs vs fz/\okVs tt ts dvs
 | [],[],_,_,_,_,_=>⟨[],rfl,trivial⟩
 | [],_::_,[],_,_,_,h=>h.elim
 | [],_::_,_::_,_,_,_,h=>h.elim
 |_::_,[],[],_,_,_,h=>h.elim
 |_::_,[],_::_,_,_,_,h=>h.elim
 |_::_,_::_,[],_,_,_,h=>h.elim
 |t::ts,v::vs,d::ds,ps,hs,hval,h=>by
  obtain ⟨p,q,h1,h2,_⟩:=h
  simp only[List.all_cons,Bool.and_eq_true] at hs
  obtain ⟨dv,k1,k2⟩:=arg_open T (Zf:=Zf) hs.1 (hval 0 t v rfl rfl) h1
  obtain ⟨dvs,k3,k4⟩:=args_open T (Zf:=Zf) hs.2 (fun j t' v' e1 e2=>hval (j+1) t' v' (by simpa using e1) (by simpa using e2)) h2
  exact ⟨dv::dvs,⟨fz,fz,k1,k3,(fadd_fz _).symm⟩,k2,k4⟩
end
section
variable {P:Program} {tt:TT}
theorem Frame.below {C:Cx} {w':World} (h:Frame C w') (h0:C.F0=fz):Go.RowKit.Below C.w0.heap.size C.w0 w':=
 ⟨h.os,h.tape,h.output,h.size,fun b hb=>h.block b hb (by rw[h0];rfl)⟩
def lawCxF (P:Program) (w:World) (hg:Ground P w (Zall w)):Cx:={P0:=P,gnd:=hg,w0:=w,F0:=fz,Zl:=Zall w,Zf0:=Zall w,N:=0,kv:=[],good:=fun b hb=>⟨hb.elim id id,rfl⟩}
theorem law_calls_frz {w:World} (hg:Ground P w (Zall w)) {f:FuncId} {g:Sig} {ds:List DV} {args:Array Value} (hio:noIO g.modes=true) (hc:Contract P f g ds [.l (.b true)]) (ha:DVsRel w (Zall w) (Zall w) ds args.toList fz):Calls P f args w fun e w'=>e= .returned (.bool true)/\Go.RowKit.Below w.heap.size w w':=by
 have h:=hc (lawCxF P w hg) args.toList rfl ha (fun b=>by show fz b<=1;simp) (fun b hb=>by have:1<=fz b:=hb;simp at this)
 rw[Array.toArray_toList] at h
 refine Calls.mono h fun e w' he=> ?_
 obtain ⟨vs,F',rfl,hlen,hfr,_,_,hrel⟩:=he
 rw[ioVals_none _ _ hio,List.append_nil] at hrel
 refine ⟨?_,hfr.below rfl⟩
 cases vs with
 |nil=>exact hrel.elim
 |cons v vs=>
  obtain ⟨F1,F2,h1,h2,_⟩:=hrel
  cases vs with
  |nil=>rw[show v= .bool true from h1.1];rfl
  |cons u us=>exact h2.elim
theorem iface_trod {H:Type} {enc:TypeId×Value->H} {P:Program} {w:World} {base:Nat} {sp:Nat->Bool} {held:Bool} {fuel t:Nat} {ms:Array (String×TypeId)} {cs:List Value} {nm:String} {d:DataW H} {p:List MemPlace}
 (ht:P.underlying t=some (.interface ms)) (h:DataW.trod enc P w base sp held fuel t cs=some (.iface nm d,p)): ∃u v,cs=[.iface u v]:=by
 cases fuel with
 |zero=>simp[DataW.trod] at h
 |succ fuel=>
  simp only[DataW.trod,ht] at h
  split at h
  all_goals first
   |exact ⟨_,_,rfl⟩
   |simp_all
end
end Go.Proofs.YtbmmhdmljajcfaaGreatDoor.V
namespace Go.Proofs.YtbmmhdmljajcfaaGreatDoor.V
open Go
section
variable {tt:TT}
theorem okVs_cons {t:Nat} {ts:List Nat} {dvs:List DV} (h:okVs tt (t::ts) dvs): ∃d ds,dvs=d::ds/\okV tt t d/\okVs tt ts ds:=by
 cases dvs with
 |nil=>exact h.elim
 |cons d ds=>exact ⟨d,ds,rfl,h.1,h.2⟩
theorem okVs_nil {dvs:List DV} (h:okVs tt [] dvs):dvs=[]:=by
 cases dvs with
 |nil=>rfl
 |cons d ds=>exact h.elim
theorem okLs_cons {t:Nat} {ts:List Nat} {dvs:List DL} (h:okLs tt (t::ts) dvs): ∃d ds,dvs=d::ds/\okL tt t d/\okLs tt ts ds:=by
 cases dvs with
 |nil=>exact h.elim
 |cons d ds=>exact ⟨d,ds,rfl,h.1,h.2⟩
theorem okLs_nil {dvs:List DL} (h:okLs tt [] dvs):dvs=[]:=by
 cases dvs with
 |nil=>rfl
 |cons d ds=>exact h.elim
theorem okV_agg {t s b:Nat} {fs:List (Nat×Nat)} (ht:tt t=some ⟨.struct fs,s,b⟩) {d:DV} (h:okV tt t d): ∃ds,d= .agg ds/\okLs tt (leafTypes tt depth t) ds:=by
 unfold okV at h;rw[ht] at h;exact h
theorem okV_l {t:Nat} (ht:isStruct tt t=false) {d:DV} (h:okV tt t d): ∃x,d= .l x/\okL tt t x:=by
 unfold okV at h
 split at h
 ·rename_i q;simp[isStruct,q] at ht
 ·exact h
theorem okL_int {t s b:Nat} {k:IntKind} (ht:tt t=some ⟨.int k,s,b⟩) {d:DL} (h:okL tt t d): ∃n,d= .i k n/\wfI k n:=by
 unfold okL at h;rw[ht] at h;exact h
theorem okL_bool {t s b:Nat} (ht:tt t=some ⟨.bool,s,b⟩) {d:DL} (h:okL tt t d): ∃n,d= .b n:=by
 unfold okL at h;rw[ht] at h;exact h
theorem okL_str {t s b:Nat} (ht:tt t=some ⟨.str,s,b⟩) {d:DL} (h:okL tt t d): ∃n,d= .s n/\n.size<=maxLen:=by
 unfold okL at h;rw[ht] at h;exact h
theorem okL_row {t e s b:Nat} (ht:tt t=some ⟨.slice e,s,b⟩) {r0:Row} (h0:emptyRow tt e=some r0) {d:DL} (h:okL tt t d): ∃r,d= .sl .lent r/\frRow r0 r/\rowWf r/\r.len<=maxLen:=by
 unfold okL at h;rw[ht] at h
 obtain ⟨r0',r,h1,h2,h3⟩:=h
 rw[h0] at h1;cases h1
 exact ⟨r,h2,h3⟩
theorem okL_ints {t e s b:Nat} {k:IntKind} (ht:tt t=some ⟨.slice e,s,b⟩) (h0:emptyRow tt e=some (.ints k [])) {d:DL} (h:okL tt t d): ∃l,d= .sl .lent (.ints k l)/\(∀n∈l,wfI k n)/\l.length<=maxLen:=by
 obtain ⟨r,h1,h2,h3,h4⟩:=okL_row ht h0 h
 cases r with
 |ints k' l=>cases (show k' =k from h2);exact ⟨l,h1,h3,h4⟩
 |_=>exact h2.elim
theorem okL_rows {t e s b:Nat} (ht:tt t=some ⟨.slice e,s,b⟩) (h0:emptyRow tt e=some (.rows true [])) {d:DL} (h:okL tt t d): ∃l,d= .sl .lent (.rows false l)/\(∀r∈l,r.length<=maxLen/\ ∀n∈r,wfI .i64 n)/\l.length<=maxLen:=by
 obtain ⟨r,h1,h2,h3,h4⟩:=okL_row ht h0 h
 cases r with
 |rows o l=>cases (show o=false from h2);exact ⟨l,h1,h3,h4⟩
 |_=>exact h2.elim
end
section
variable {P:Program} {H:Type} {enc:TypeId×Value->H}
theorem var_lt {w:World} {name:String} {g:Nat} {cs:Array Value} (hg:P.globalNamed name=some g) (hv:w.var? P name=some cs):g<w.heap.size:=by
 unfold World.var? at hv
 rw[hg] at hv
 simp only[Option.bind_some] at hv
 by_cases h:g<w.heap.size
 ·exact h
 ·rw[Array.getElem?_eq_none (by omega)] at hv
  cases hv
end
end Go.Proofs.YtbmmhdmljajcfaaGreatDoor.V
