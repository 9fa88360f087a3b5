/- The abstract evaluator and its soundness: part VOpH. Conditions: as each section says. -/
import Derived.Test.YtbmmhdmljajcfaaGreatDoorVEval
import Derived.OwnWalk
import Derived.Calls
import Derived.WalkKit
import Derived.WalkLawsBesides
import Derived.Stop.IfaceNil
import Derived.Laws.BytesString
import Derived.Laws.Tables
import Derived.Great.FillDense
import Derived.Great.BuildSlice
import Derived.Laws.MakeOwn
set_option linter.unusedVariables false
set_option linter.unusedSimpArgs false
namespace Go.Proofs.YtbmmhdmljajcfaaGreatDoor.V
open Go
abbrev FP:=Nat->Nat
def fz:FP:=fun _=>0
def f1 (b:Nat):FP:=fun x=>if x=b then 1 else 0
def fadd (F G:FP):FP:=fun x=>F x+G x
theorem fadd_fz (F:FP):fadd F fz=F:=by funext x;simp[fadd,fz]
theorem fz_fadd (F:FP):fadd fz F=F:=by funext x;simp[fadd,fz]
theorem fadd_assoc (F G H:FP):fadd (fadd F G) H=fadd F (fadd G H):=by funext x;simp[fadd,Nat.add_assoc]
theorem fadd_left_comm (F G H:FP):fadd F (fadd G H)=fadd G (fadd F H):=by funext x;simp[fadd];omega
@[simp] theorem fz_at (b:Nat):fz b=0:=rfl
@[simp] theorem fadd_at (F G:FP) (b:Nat):fadd F G b=F b+G b:=rfl
@[simp] theorem f1_self (b:Nat):f1 b b=1:=by simp[f1]
theorem f1_at (b x:Nat):f1 b x=if x=b then 1 else 0:=rfl
abbrev Zs:=Nat->Prop
def IntsAt (w:World) (ad:Addr) (l:List Int):Prop:= ∀(j:Nat) (n:Int),l[j]? =some n->w.cell? (ad.add j)=some (.int .i64 n)
def CellRel (w:World) (Z:Zs):Cell->Value->FP->Prop
 | .free,_,F=>F=fz
 | .sc u,v,F=>v=u/\F=fz
 | .sl false l,v,F=>F=fz/\ ∃A cap,v= .slice A l.length cap/\l.length<=cap/\(l≠[]-> ∃ad,A=some ad/\Z ad.block/\IntsAt w ad l)
 | .sl true l,v,F=>(v= .slice none 0 0/\l=[]/\F=fz)\/ ∃b cap arr ty,v= .slice (some ⟨b,0,none⟩) l.length cap/\w.heap[b]? =some (.cells arr ty (0,0))/\l.length<=cap/\cap<=arr.size/\(∀(j:Nat) (n:Int),l[j]? =some n->arr[j]? =some (Value.int .i64 n))/\F=f1 b
def CellsRel (w:World) (Z:Zs):List Cell->List Value->FP->Prop
 | [],_,F=>F=fz
 |c::cs,v::vs,F=> ∃F1 F2,CellRel w Z c v F1/\CellsRel w Z cs vs F2/\F=fadd F1 F2
 |_::_,[],_=>False
theorem cell?_of_heap {w w':World} {a:Addr} (h:w'.heap[a.block]? =w.heap[a.block]?):w'.cell? a=w.cell? a:=by
 unfold World.cell?;rw[h]
theorem add_block (a:Addr) (n:Nat):(a.add n).block=a.block:=by unfold Addr.add;split<;>rfl
theorem add_add (a:Addr) (m n:Nat):(a.add m).add n=a.add (m+n):=by
 unfold Addr.add
 by_cases hm:m=0
 ·subst hm;simp
 ·by_cases hn:n=0
  ·subst hn;simp[hm]
  ·simp[hm,hn,Nat.add_assoc]
theorem add_zero (a:Addr):a.add 0=a:=by simp[Addr.add]
theorem plain_add (b m n:Nat):(⟨b,m,none⟩:Addr).add n=⟨b,m+n,none⟩:=by unfold Addr.add;split<;>simp_all
theorem cell?_plain {w:World} {b:Nat} {arr:Array Value} {ty:TypeId} {fr:Nat×Nat} (h:w.heap[b]? =some (.cells arr ty fr)) (j:Nat):w.cell? ⟨b,j,none⟩=arr[j]? :=by
 simp[World.cell?,h]
theorem CellRel.mono {w w':World} {Z Z':Zs} {c:Cell} {v:Value} {F:FP} (h:CellRel w Z c v F) (hz: ∀b,Z b->Z' b/\w'.heap[b]? =w.heap[b]?) (hf: ∀b,1<=F b->w'.heap[b]? =w.heap[b]?):CellRel w' Z' c v F:=by
 match c,h with
 | .free,h=>exact h
 | .sc u,h=>exact h
 | .sl false l,⟨h0,A,cap,hv,hlc,hl⟩=>
   refine ⟨h0,A,cap,hv,hlc,fun hne=> ?_⟩
   obtain ⟨ad,e,hZ,hi⟩:=hl hne
   refine ⟨ad,e,(hz _ hZ).1,fun j n hj=> ?_⟩
   rw[cell?_of_heap (w:=w) (by rw[add_block];exact (hz _ hZ).2)]
   exact hi j n hj
 | .sl true l,.inl h=>exact .inl h
 | .sl true l,.inr ⟨b,cap,arr,ty,hv,hb,h1,h2,h3,hF⟩=>
   exact .inr ⟨b,cap,arr,ty,hv,by rw[hf b (by rw[hF];simp)];exact hb,h1,h2,h3,hF⟩
theorem CellsRel.mono {w w':World} {Z Z':Zs} (hz: ∀b,Z b->Z' b/\w'.heap[b]? =w.heap[b]?): ∀ {cs:List Cell} {vs:List Value} {F:FP},CellsRel w Z cs vs F->(∀b,1<=F b->w'.heap[b]? =w.heap[b]?)->CellsRel w' Z' cs vs F
 | [],_,_,h,_=>h
 |c::cs,v::vs,F,⟨F1,F2,h1,h2,hF⟩,hf=>⟨F1,F2,h1.mono hz (fun b hb=>hf b (by rw[hF];simp;omega)),CellsRel.mono hz h2 (fun b hb=>hf b (by rw[hF];simp;omega)),hF⟩
theorem CellsRel.get {w:World} {Z:Zs}: ∀ {cs:List Cell} {vs:List Value} {F:FP},CellsRel w Z cs vs F-> ∀ {j:Nat} {c:Cell},cs[j]? =some c-> ∃v F1 F2,vs[j]? =some v/\CellRel w Z c v F1/\F=fadd F1 F2/\
 ∀(c':Cell) (v':Value) (F':FP),CellRel w Z c' v' F'->CellsRel w Z (cs.set j c') (vs.set j v') (fadd F' F2)
 |c0::cs,v::vs,F,⟨F1,F2,h1,h2,hF⟩,0,c,hc=>by
  simp at hc;subst hc
  exact ⟨v,F1,F2,rfl,h1,hF,fun c' v' F' h'=>⟨F',F2,h',h2,rfl⟩⟩
 |c0::cs,v::vs,F,⟨F1,F2,h1,h2,hF⟩,j+1,c,hc=>by
  obtain ⟨v',G1,G2,e,hr,hG,hset⟩:=CellsRel.get h2 (j:=j) (c:=c) (by simpa using hc)
  refine ⟨v',G1,fadd F1 G2,by simpa using e,hr,by rw[hF,hG,fadd_left_comm],fun c' v'' F' h'=> ?_⟩
  exact ⟨F1,fadd F' G2,h1,hset c' v'' F' h',fadd_left_comm ..⟩
theorem CellsRel.length {w:World} {Z:Zs}: ∀ {cs:List Cell} {vs:List Value} {F:FP},CellsRel w Z cs vs F->cs.length<=vs.length
 | [],_,_,_=>by simp
 |c::cs,v::vs,F,⟨F1,F2,h1,h2,hF⟩=>by have:=CellsRel.length h2;simp;omega
theorem CellsRel.append {w:World} {Z:Zs}: ∀ {cs ds:List Cell} {vs us:List Value} {F G:FP},CellsRel w Z cs vs F->vs.length=cs.length->CellsRel w Z ds us G->CellsRel w Z (cs++ds) (vs++us) (fadd F G)
 | [],ds,[],us,F,G,h,_,h'=>by cases h;rw[fz_fadd];exact h'
 |c::cs,ds,v::vs,us,F,G,⟨F1,F2,h1,h2,hF⟩,hl,h'=>⟨F1,fadd F2 G,h1,CellsRel.append h2 (by simpa using hl) h',by rw[hF,fadd_assoc]⟩
theorem CellsRel.more {w:World} {Z:Zs}: ∀ {cs:List Cell} {vs:List Value} {F:FP} (us:List Value),CellsRel w Z cs vs F->CellsRel w Z cs (vs++us) F
 | [],_,_,_,h=>h
 |c::cs,v::vs,F,us,⟨F1,F2,h1,h2,hF⟩=>⟨F1,F2,h1,CellsRel.more us h2,hF⟩
theorem CellsRel.take {w:World} {Z:Zs}: ∀ {cs:List Cell} {vs:List Value} {F:FP} (n:Nat),CellsRel w Z cs vs F-> ∃F1,CellsRel w Z (cs.take n) (vs.take n) F1/\ ∀b,F1 b<=F b
 | [],vs,F,n,h=>⟨fz,by simp[CellsRel],fun b=>by simp⟩
 |c::cs,v::vs,F,0,h=>⟨fz,by simp[CellsRel],fun b=>by simp⟩
 |c::cs,v::vs,F,n+1,⟨F1,F2,h1,h2,hF⟩=>by
  obtain ⟨G,hG,hle⟩:=CellsRel.take n h2
  exact ⟨fadd F1 G,⟨F1,G,h1,by simpa using hG,rfl⟩,fun b=>by have:=hle b;rw[hF];simp;omega⟩
theorem CellsRel.drop {w:World} {Z:Zs}: ∀ {cs:List Cell} {vs:List Value} {F:FP} (n:Nat),CellsRel w Z cs vs F-> ∃F1,CellsRel w Z (cs.drop n) (vs.drop n) F1/\ ∀b,F1 b<=F b
 | [],vs,F,n,h=>⟨fz,by simp[CellsRel],fun b=>by simp⟩
 |c::cs,v::vs,F,0,h=>⟨F,by simpa using h,fun b=>Nat.le_refl _⟩
 |c::cs,v::vs,F,n+1,⟨F1,F2,h1,h2,hF⟩=>by
  obtain ⟨G,hG,hle⟩:=CellsRel.drop n h2
  exact ⟨G,by simpa using hG,fun b=>by have:=hle b;rw[hF];simp;omega⟩
theorem CellsRel.shrink {w:World} {Z:Zs}: ∀ {cs:List Cell} {vs:List Value} {F:FP},CellsRel w Z cs vs F->CellsRel w Z cs (vs.take cs.length) F
 | [],vs,F,h=>h
 |c::cs,v::vs,F,⟨F1,F2,h1,h2,hF⟩=>⟨F1,F2,h1,by simpa using CellsRel.shrink h2,hF⟩
def Cell.frz:Cell->Cell
 | .sl _ l=> .sl false l
 |c=>c
theorem CellRel.frz {w:World} {Z Z':Zs} {c:Cell} {v:Value} {F:FP} (h:CellRel w Z c v F) (hz: ∀b,Z b->Z' b) (hf: ∀b,1<=F b->Z' b):CellRel w Z' c.frz v fz:=by
 match c,h with
 | .free,h=>rfl
 | .sc u,h=>exact ⟨h.1,rfl⟩
 | .sl false l,⟨h0,A,cap,hv,hlc,hl⟩=>
   refine ⟨rfl,A,cap,hv,hlc,fun hne=> ?_⟩
   obtain ⟨ad,e,hZ,hi⟩:=hl hne
   exact ⟨ad,e,hz _ hZ,hi⟩
 | .sl true l,.inl ⟨h1,h2,h3⟩=>subst h2;exact ⟨rfl,none,0,h1,Nat.le_refl _,fun h=>absurd rfl h⟩
 | .sl true l,.inr ⟨b,cap,arr,ty,hv,hb,h1,h2,h3,hF⟩=>
   refine ⟨rfl,_,cap,hv,h1,fun _=>⟨⟨b,0,none⟩,rfl,hf b (by rw[hF];simp),fun j n hj=> ?_⟩⟩
   rw[plain_add,Nat.zero_add,cell?_plain hb]
   exact h3 j n hj
theorem CellsRel.frz {w:World} {Z Z':Zs} (hz: ∀b,Z b->Z' b): ∀ {cs:List Cell} {vs:List Value} {F:FP},CellsRel w Z cs vs F->(∀b,1<=F b->Z' b)->CellsRel w Z' (cs.map Cell.frz) vs fz
 | [],_,_,h,_=>rfl
 |c::cs,v::vs,F,⟨F1,F2,h1,h2,hF⟩,hf=>⟨fz,fz,h1.frz hz (fun b hb=>hf b (by rw[hF];simp;omega)),CellsRel.frz hz h2 (fun b hb=>hf b (by rw[hF];simp;omega)),(fadd_fz _).symm⟩
theorem recCells_length (o:Bool) (r:List Leaf): ∀(sg:List Bool) (f:Nat),(recCells o r f sg).length=sg.length
 | [],_=>rfl
 |true::sg,f=>by simp[recCells,recCells_length o r sg]
 |false::sg,f=>by simp[recCells,recCells_length o r sg]
theorem flatMap_length {α β:Type} (g:α->List β) (n:Nat) (h: ∀x,(g x).length=n): ∀l:List α,(l.flatMap g).length=l.length*n
 | []=>by simp
 |x::l=>by simp[flatMap_length g n h l,h,Nat.succ_mul,Nat.add_comm]
theorem flatMap_get {α β:Type} (g:α->List β) (n:Nat) (h: ∀x,(g x).length=n): ∀(l:List α) (i f:Nat),f<n->(l.flatMap g)[i*n+f]? =(l[i]?).bind (fun x=>(g x)[f]?)
 | [],i,f,_=>by simp
 |x::l,0,f,hf=>by simp[List.getElem?_append,h,hf]
 |x::l,i+1,f,hf=>by
  have e:(i+1)*n+f=n+(i*n+f):=by rw[Nat.succ_mul];omega
  simp only[List.flatMap_cons,e]
  rw[List.getElem?_append_right (by rw[h];omega),h,Nat.add_sub_cancel_left,flatMap_get g n h l i f hf]
  simp
theorem Row.cells_length (r:Row):r.cells.length=r.len*r.size:=by
 cases r<;>simp[Row.cells,Row.len,Row.size]
 rename_i sg o l
 have:=flatMap_length (fun r=>recCells o r 0 sg) sg.length (fun x=>recCells_length ..) l
 simpa using this
theorem recCells_get (o:Bool) (r:List Leaf): ∀(sg:List Bool) (f j:Nat),(recCells o r f sg)[j]? =(sg[j]?).map fun b=>if b then Cell.sl o (gl r (f+j)) else .sc (.int .i64 (gi r (f+j)))
 | [],f,j=>by simp[recCells]
 |true::sg,f,0=>by simp[recCells]
 |false::sg,f,0=>by simp[recCells]
 |true::sg,f,j+1=>by simp only[recCells,List.getElem?_cons_succ,recCells_get o r sg];congr 1;funext b;rw[show f+1+j=f+(j+1) by omega]
 |false::sg,f,j+1=>by simp only[recCells,List.getElem?_cons_succ,recCells_get o r sg];congr 1;funext b;rw[show f+1+j=f+(j+1) by omega]
theorem recs_get (sg:List Bool) (o:Bool) (l:List (List Leaf)) (i f:Nat) (hf:f<sg.length):(Row.recs sg o l).cells[i*sg.length+f]? =(l[i]?).bind fun r=>(sg[f]?).map fun b=>if b then Cell.sl o (gl r f) else .sc (.int .i64 (gi r f)):=by
 simp only[Row.cells]
 rw[flatMap_get (fun r=>recCells o r 0 sg) sg.length (fun x=>recCells_length ..) l i f hf]
 congr 1;funext r
 rw[recCells_get];simp
theorem frz_cells (r:Row):r.frz.cells=r.cells.map Cell.frz:=by
 cases r<;>simp[Row.frz,Row.cells,Function.comp_def,Cell.frz]
 rename_i sg o l
 rw[List.map_flatMap]
 congr 1;funext r
 apply List.ext_getElem?
 intro j
 rw[List.getElem?_map,recCells_get,recCells_get]
 cases sg[j]? with
 |none=>rfl
 |some b=>cases b<;>simp[Cell.frz]
theorem frz_len (r:Row):r.frz.len=r.len:=by cases r<;>rfl
theorem frz_size (r:Row):r.frz.size=r.size:=by cases r<;>rfl
theorem take_size (r:Row) (n:Nat):(r.take n).size=r.size:=by cases r<;>rfl
theorem drop_size (r:Row) (n:Nat):(r.drop n).size=r.size:=by cases r<;>rfl
theorem take_len (r:Row) (n:Nat):(r.take n).len=min n r.len:=by cases r<;>simp[Row.take,Row.len]
theorem drop_len (r:Row) (n:Nat):(r.drop n).len=r.len-n:=by cases r<;>simp[Row.drop,Row.len]
theorem flatMap_take {α β:Type} (g:α->List β) (n:Nat) (h: ∀x,(g x).length=n): ∀(l:List α) (k:Nat),(l.take k).flatMap g=(l.flatMap g).take (k*n)
 | [],k=>by simp
 |x::l,0=>by simp
 |x::l,k+1=>by
  simp only[List.take_succ_cons,List.flatMap_cons,flatMap_take g n h l k]
  have e:(k+1)*n=n+k*n:=by rw[Nat.succ_mul];omega
  rw[List.take_append,h,e,Nat.add_sub_cancel_left,List.take_of_length_le (l:=g x) (by rw[h];omega)]
theorem flatMap_drop {α β:Type} (g:α->List β) (n:Nat) (h: ∀x,(g x).length=n): ∀(l:List α) (k:Nat),(l.drop k).flatMap g=(l.flatMap g).drop (k*n)
 | [],k=>by simp
 |x::l,0=>by simp
 |x::l,k+1=>by
  simp only[List.drop_succ_cons,List.flatMap_cons,flatMap_drop g n h l k]
  have e:(k+1)*n=n+k*n:=by rw[Nat.succ_mul];omega
  rw[List.drop_append,h,e,Nat.add_sub_cancel_left,List.drop_of_length_le (l:=g x) (by rw[h];omega),List.nil_append]
theorem take_cells (r:Row) (n:Nat):(r.take n).cells=r.cells.take (n*r.size):=by
 cases r<;>simp[Row.take,Row.cells,Row.size,List.map_take]
 exact flatMap_take _ _ (fun x=>recCells_length ..) _ _
theorem drop_cells (r:Row) (n:Nat):(r.drop n).cells=r.cells.drop (n*r.size):=by
 cases r<;>simp[Row.drop,Row.cells,Row.size,List.map_drop]
 exact flatMap_drop _ _ (fun x=>recCells_length ..) _ _
end Go.Proofs.YtbmmhdmljajcfaaGreatDoor.V
namespace Go.Proofs.YtbmmhdmljajcfaaGreatDoor.V
open Go
def FrzAt (w:World) (Z:Zs) (ad:Addr) (cs:List Cell):Prop:=Z ad.block/\ ∃vs:List Value,(∀j,j<cs.length->w.cell? (ad.add j)=vs[j]?)/\CellsRel w Z cs vs fz
def FrzRow (w:World) (Z:Zs) (r:Row) (v:Value):Prop:= ∃A cap,v= .slice A r.len cap/\r.len<=cap/\(r.len≠0-> ∃ad,A=some ad/\FrzAt w Z ad r.cells)
abbrev Place:=Nat->Option (Nat×Nat)
def hdr (q:Option (Nat×Nat)) (n:Nat):Value:=match q with
 |none=> .slice none 0 0
 |some (b,cap)=> .slice (some ⟨b,0,none⟩) n cap
def subHdr (q:Option (Nat×Nat)) (size lo hi:Nat):Value:=match q with
 |none=> .slice none 0 0
 |some (b,cap)=> .slice (some (if cap=lo then ⟨b,0,none⟩ else ⟨b,lo*size,none⟩)) (hi-lo) (cap-lo)
theorem slAt_deep {r:Row} {f:Nat} (h:r.slAt f=true):r.deep=true:=by cases r<;>first|rfl|cases h
theorem slAt_lt {r:Row} {f:Nat} (h:r.slAt f=true):f<r.size:=by
 cases r with
 |rows o l=>simp[Row.slAt] at h;subst h;simp[Row.size]
 |recs sg o l=>
  simp only[Row.slAt] at h
  cases e:sg[f]? with
  |none=>rw[e] at h;cases h
  |some b=>exact (List.getElem?_eq_some_iff.1 e).1
 |_=>cases h
def Root.row? :Root->Option Row
 | .row _ _ r=>some r
 | .hole _ _ r _ _=>some r
 | .box _ _=>none
 | .ghost=>none
def Root.ver:Root->Nat
 | .row _ v _=>v
 | .hole _ v _ _ _=>v
 | .box _ _=>0
 | .ghost=>0
def Root.real:Root->Prop
 | .ghost=>False
 |_=>True
def cellAt (w:World) (q:Option (Nat×Nat)) (j:Nat):Option Value:=match q with
 |none=>none
 |some (b,_)=>w.cell? ⟨b,j,none⟩
structure Env where
 w:World
 Zf:Zs
 ZL:Zs
 ρ:Place
 hp:Nat->Option Root
 nx:Nat
def LVRel (E:Env):LV->Value->Prop
 | .any,_=>True
 | .undef,v=>v=undef
 | .i k n,v=>v= .int k n
 | .b x,v=>v= .bool x
 | .s x,v=>v= .string x
 | .er true,v=>v= .nilIface
 | .er false,v=> ∃t x,v= .iface t x
 | .fn f,v=>v= .func (.func f) #[] #[]
 | .nil,v=>v= .slice none 0 0
 | .val p r,v=>FrzRow E.w (if p then E.Zf else E.ZL) r v
 | .own id,v=>id<E.nx/\ ∀root,E.hp id=some root-> ∃r,root.row? =some r/\v=hdr (E.ρ id) r.len
 | .sub id lo hi,v=>id<E.nx/\ ∀root,E.hp id=some root-> ∃r,root.row? =some r/\lo<=hi/\hi<=r.len/\v=subHdr (E.ρ id) r.size lo hi
 | .inner id ver i f,v=>id<E.nx/\ ∀root,E.hp id=some root->root.real/\ver<=root.ver/\ ∀e r,root= .row e ver r->r.slAt f=true/\i<r.len/\cellAt E.w (E.ρ id) (i*r.size+f)=some v
 | .bptr id k,v=>id<E.nx/\(∀root,E.hp id=some root->root.real)/\ ∃b cap,E.ρ id=some (b,cap)/\v= .pointer (some ⟨b,k,none⟩)
 | .arr id n,v=>id<E.nx/\ ∀root,E.hp id=some root-> ∃r,root.row? =some r/\r.len=n/\ ∃b cap,E.ρ id=some (b,cap)/\v= .pointer (some ⟨b,0,none⟩)
 | .eptr id i f,v=>id<E.nx/\ ∀root,E.hp id=some root-> ∃r,root.row? =some r/\i<r.len/\ ∃b cap,E.ρ id=some (b,cap)/\v= .pointer (some ⟨b,i*r.size+f,none⟩)
 | .vptr p r i f,v=>i<r.len/\ ∃ad,v= .pointer (some (ad.add (i*r.size+f)))/\FrzAt E.w (if p then E.Zf else E.ZL) ad r.cells
 | .iptr id ver i f j,v=>id<E.nx/\ ∀root,E.hp id=some root->root.real/\ver<=root.ver/\ ∀e r,root= .row e ver r->r.slAt f=true/\i<r.len/\j<(innerOf r i f).length/\ ∃A n cap,cellAt E.w (E.ρ id) (i*r.size+f)=some (.slice (some A) n cap)/\v= .pointer (some (A.add j))
def LVsRel (E:Env):List LV->List Value->Prop
 | [],[]=>True
 |x::xs,v::vs=>LVRel E x v/\LVsRel E xs vs
 |_,_=>False
def A1Rel (E:Env):A1->Value->Prop
 | .l x,v=>LVRel E x v
 | .agg xs,v=> ∃vs:List Value,v= .agg vs.toArray/\LVsRel E xs vs
def A1sRel (E:Env):List A1->List Value->Prop
 | [],[]=>True
 |x::xs,v::vs=>A1Rel E x v/\A1sRel E xs vs
 |_,_=>False
def AVRel (E:Env):AV->Value->Prop
 | .one x,v=>A1Rel E x v
 | .tup xs,v=> ∃vs:List Value,v= .tuple vs.toArray/\A1sRel E xs vs
def RowRel (w:World) (Z:Zs) (q:Option (Nat×Nat)) (cs:List Cell) (len size:Nat) (F:FP):Prop:=
 (q=none/\len=0/\F=fz)\/ ∃b cap arr ty F',q=some (b,cap)/\w.heap[b]? =some (.cells arr ty (0,0))/\len<=cap/\cap*size<=arr.size/\CellsRel w Z cs arr.toList F' /\F=fadd (f1 b) F'
def BoxRel (E:Env) (q:Option (Nat×Nat)) (cells:List LV) (F:FP):Prop:=
 ∃b cap vs ty,q=some (b,cap)/\E.w.heap[b]? =some (.cells vs ty (0,0))/\LVsRel E cells vs.toList/\F=f1 b
def RootRel (E:Env) (id:Nat):Root->FP->Prop
 | .row _ _ r,F=>RowRel E.w E.ZL (E.ρ id) r.cells r.len r.size F
 | .hole _ _ r i f,F=>i<r.len/\f<r.size/\RowRel E.w E.ZL (E.ρ id) (r.cells.set (i*r.size+f) .free) r.len r.size F
 | .box _ cells,F=>BoxRel E (E.ρ id) cells F
 | .ghost,F=>F=fz
def Like (w w':World) (q:Option (Nat×Nat)):Root->Root->Prop
 | .box _ _,.box _ _=>True
 | .row _ v r,.row _ v' r'=>r'.len=r.len/\r'.size=r.size/\v<=v' /\(∀f,r'.slAt f=r.slAt f)/\(v' =v->r.deep=true->(∀i f,(innerOf r' i f).length=(innerOf r i f).length)/\ ∀b cap,q=some (b,cap)->w'.heap[b]? =w.heap[b]?)
 | .row _ v r,.hole _ v' r' _ _=>r'.len=r.len/\r'.size=r.size/\v<=v'
 | .hole _ v r _ _,.row _ v' r'=>r'.len=r.len/\r'.size=r.size/\v<v'
 | .ghost,_=>True
 |_,_=>False
theorem Like.refl (w w':World) (q:Option (Nat×Nat)): ∀root:Root,(∀b cap,q=some (b,cap)->root.row?.any Row.deep=true->w'.heap[b]? =w.heap[b]?)->(∀e v r i f,root≠ .hole e v r i f)->Like w w' q root root
 | .box _ _,_,_=>trivial
 | .ghost,_,_=>trivial
 | .row _ v r,h,_=>⟨rfl,rfl,Nat.le_refl _,fun _=>rfl,fun _ hd=>⟨fun _ _=>rfl,fun b cap hq=>h b cap hq (by simp[Root.row?,hd])⟩⟩
 | .hole e v r i f,_,h=>absurd rfl (h e v r i f)
structure Mono (E E':Env):Prop where
 zf: ∀b,E.Zf b->E'.Zf b/\E'.w.heap[b]? =E.w.heap[b]?
 zl: ∀b,E.ZL b->E'.ZL b/\E'.w.heap[b]? =E.w.heap[b]?
 nx:E.nx<=E'.nx
 ρ: ∀id,id<E.nx->(∀root,E.hp id=some root->root.real)->E'.ρ id=E.ρ id
 like: ∀id root',id<E.nx->E'.hp id=some root'-> ∃root,E.hp id=some root/\(Like E.w E'.w (E.ρ id) root root' \/root' =root/\ ∃e v r i f,root= .hole e v r i f)
theorem FrzAt.mono {w w':World} {Z Z':Zs} {ad:Addr} {cs:List Cell} (h:FrzAt w Z ad cs) (hz: ∀b,Z b->Z' b/\w'.heap[b]? =w.heap[b]?):FrzAt w' Z' ad cs:=by
 obtain ⟨h0,vs,h1,h2⟩:=h
 refine ⟨(hz _ h0).1,vs,fun j hj=> ?_,h2.mono hz (fun b hb=>by simp at hb)⟩
 rw[<- h1 j hj]
 exact cell?_of_heap (by rw[add_block];exact (hz _ h0).2)
theorem FrzRow.mono {w w':World} {Z Z':Zs} {r:Row} {v:Value} (h:FrzRow w Z r v) (hz: ∀b,Z b->Z' b/\w'.heap[b]? =w.heap[b]?):FrzRow w' Z' r v:=by
 obtain ⟨A,cap,hv,hlc,h1⟩:=h
 refine ⟨A,cap,hv,hlc,fun hn=> ?_⟩
 obtain ⟨ad,e,h2⟩:=h1 hn
 exact ⟨ad,e,h2.mono hz⟩
theorem Mono.row {E E':Env} (M:Mono E E') {id:Nat} (h:id<E.nx) {root':Root} (h':E'.hp id=some root'): ∃root,E.hp id=some root/\(root.real->root'.real/\root.ver<=root'.ver/\(∀r,root.row? =some r-> ∃r',root'.row? =some r' /\r'.len=r.len/\r'.size=r.size)/\
 ∀e r',root' = .row e root.ver r'-> ∃e0 r,root= .row e0 root.ver r/\(∀f,r'.slAt f=r.slAt f)/\(r.deep=true->(∀i f,(innerOf r' i f).length=(innerOf r i f).length)/\ ∀b cap,E.ρ id=some (b,cap)->E'.w.heap[b]? =E.w.heap[b]?)):=by
 obtain ⟨root,h0,hl⟩:=M.like id root' h h'
 refine ⟨root,h0,fun hreal=> ?_⟩
 rcases hl with hl| ⟨rfl,e,v,r,i,f,rfl⟩
 ·cases root<;>cases root'<;>simp only[Like,Root.real] at hl hreal
  ·obtain ⟨h1,h2,h3,h5,h4⟩:=hl
   refine ⟨trivial,h3,fun r hr=>⟨_,rfl,by simp[Root.row?] at hr;subst hr;exact ⟨h1,h2⟩⟩,fun e r' he=> ?_⟩
   simp only[Root.row.injEq] at he
   obtain ⟨rfl,hv,rfl⟩:=he
   exact ⟨_,_,rfl,h5,fun hd=>h4 hv hd⟩
  ·exact ⟨trivial,hl.2.2,fun r hr=>⟨_,rfl,by simp[Root.row?] at hr;subst hr;exact ⟨hl.1,hl.2.1⟩⟩,fun e r' he=>by cases he⟩
  ·refine ⟨trivial,Nat.le_of_lt hl.2.2,fun r hr=>⟨_,rfl,by simp[Root.row?] at hr;subst hr;exact ⟨hl.1,hl.2.1⟩⟩,fun e r' he=> ?_⟩
   simp only[Root.row.injEq] at he
   have h1:=hl.2.2
   have h2:=he.2.1
   simp only[Root.ver] at h2
   omega
  ·exact ⟨trivial,Nat.le_refl _,fun r hr=>by simp[Root.row?] at hr,fun e r' he=>by cases he⟩
 ·exact ⟨hreal,Nat.le_refl _,fun r hr=>⟨r,hr,rfl,rfl⟩,fun e r' he=>by cases he⟩
theorem real_of_row {root:Root} {r:Row} (h:root.row? =some r):root.real:=by cases root<;>first|trivial|cases h
theorem cellAt_mono {w w':World} {q:Option (Nat×Nat)} {j:Nat} {v:Value} (h:cellAt w q j=some v) (hb: ∀b cap,q=some (b,cap)->w'.heap[b]? =w.heap[b]?):cellAt w' q j=some v:=by
 cases q with
 |none=>exact h
 |some q=>obtain ⟨b,cap⟩:=q;simp only[cellAt] at h ⊢;rw[cell?_of_heap (w:=w) (hb b cap rfl)];exact h
theorem LVRel.mono {E E':Env} (M:Mono E E') {x:LV} {v:Value} (h:LVRel E x v):LVRel E' x v:=by
 match x,h with
 | .any,h=>exact h
 | .undef,h=>exact h
 | .i _ _,h=>exact h
 | .b _,h=>exact h
 | .s _,h=>exact h
 | .er true,h=>exact h
 | .er false,h=>exact h
 | .fn _,h=>exact h
 | .nil,h=>exact h
 | .val p r,h=>cases p<;>exact FrzRow.mono h (by first|exact M.zf|exact M.zl)
 | .own id,⟨h1,h2⟩=>
   refine ⟨Nat.lt_of_lt_of_le h1 M.nx,fun root' h'=> ?_⟩
   obtain ⟨root,h0,hg⟩:=M.row h1 h'
   obtain ⟨r,e,hv⟩:=h2 root h0
   obtain ⟨_,_,hr,_⟩:=hg (real_of_row e)
   obtain ⟨r',e',hl,hs⟩:=hr r e
   exact ⟨r',e',by rw[M.ρ id h1 (fun x hx=>by rw[h0] at hx;cases hx;exact real_of_row e),hl];exact hv⟩
 | .sub id lo hi,⟨h1,h2⟩=>
   refine ⟨Nat.lt_of_lt_of_le h1 M.nx,fun root' h'=> ?_⟩
   obtain ⟨root,h0,hg⟩:=M.row h1 h'
   obtain ⟨r,e,g1,g2,hv⟩:=h2 root h0
   obtain ⟨_,_,hr,_⟩:=hg (real_of_row e)
   obtain ⟨r',e',hl,hs⟩:=hr r e
   exact ⟨r',e',g1,by omega,by rw[M.ρ id h1 (fun x hx=>by rw[h0] at hx;cases hx;exact real_of_row e),hs];exact hv⟩
 | .inner id ver i f,⟨h1,h2⟩=>
   refine ⟨Nat.lt_of_lt_of_le h1 M.nx,fun root' h'=> ?_⟩
   obtain ⟨root,h0,hg⟩:=M.row h1 h'
   obtain ⟨g0,g1,g2⟩:=h2 root h0
   obtain ⟨hre,hv,hr,hd⟩:=hg g0
   refine ⟨hre,Nat.le_trans g1 hv,fun e r' he=> ?_⟩
   have hver:root.ver=ver:=by have:root'.ver=ver:=by rw[he];rfl
                              omega
   subst hver
   obtain ⟨e0,r,hroot,hdd,hk⟩:=hd e r' he
   obtain ⟨m1,m2,m4⟩:=g2 e0 r hroot
   obtain ⟨k2,k3⟩:=hk (slAt_deep m1)
   obtain ⟨r'',q1,q2,q3⟩:=hr r (by rw[hroot];rfl)
   have e2:r'' =r':=by rw[he] at q1;exact (Option.some.inj q1).symm
   rw[e2] at q2 q3
   refine ⟨by rw[hdd];exact m1,by omega,?_⟩
   rw[M.ρ id h1 (fun x hx=>by rw[h0] at hx;cases hx;exact g0),q3]
   exact cellAt_mono m4 k3
 | .bptr id k,⟨h1,hre,b,cap,h2,h3⟩=>
   refine ⟨Nat.lt_of_lt_of_le h1 M.nx,fun root' h'=> ?_,b,cap,by rw[M.ρ id h1 hre];exact h2,h3⟩
   obtain ⟨root,h0,hg⟩:=M.row h1 h'
   exact (hg (hre root h0)).1
 | .arr id n,⟨h1,h2⟩=>
   refine ⟨Nat.lt_of_lt_of_le h1 M.nx,fun root' h'=> ?_⟩
   obtain ⟨root,h0,hg⟩:=M.row h1 h'
   obtain ⟨r,e,g1,b,cap,g2,hv⟩:=h2 root h0
   obtain ⟨_,_,hr,_⟩:=hg (real_of_row e)
   obtain ⟨r',e',hl,hs⟩:=hr r e
   exact ⟨r',e',by omega,b,cap,by rw[M.ρ id h1 (fun x hx=>by rw[h0] at hx;cases hx;exact real_of_row e)];exact g2,hv⟩
 | .eptr id i f,⟨h1,h2⟩=>
   refine ⟨Nat.lt_of_lt_of_le h1 M.nx,fun root' h'=> ?_⟩
   obtain ⟨root,h0,hg⟩:=M.row h1 h'
   obtain ⟨r,e,g1,b,cap,g2,hv⟩:=h2 root h0
   obtain ⟨_,_,hr,_⟩:=hg (real_of_row e)
   obtain ⟨r',e',hl,hs⟩:=hr r e
   exact ⟨r',e',by omega,b,cap,by rw[M.ρ id h1 (fun x hx=>by rw[h0] at hx;cases hx;exact real_of_row e)];exact g2,by rw[hs];exact hv⟩
 | .vptr p r i f,⟨h1,ad,h2,h3⟩=>exact ⟨h1,ad,h2,by cases p<;>exact h3.mono (by first|exact M.zf|exact M.zl)⟩
 | .iptr id ver i f j,⟨h1,h2⟩=>
   refine ⟨Nat.lt_of_lt_of_le h1 M.nx,fun root' h'=> ?_⟩
   obtain ⟨root,h0,hg⟩:=M.row h1 h'
   obtain ⟨g0,g1,g2⟩:=h2 root h0
   obtain ⟨hre,hv,hr,hd⟩:=hg g0
   refine ⟨hre,Nat.le_trans g1 hv,fun e r' he=> ?_⟩
   have hver:root.ver=ver:=by have:root'.ver=ver:=by rw[he];rfl
                              omega
   subst hver
   obtain ⟨e0,r,hroot,hdd,hk⟩:=hd e r' he
   obtain ⟨m1,m2,m5,A,n,cap,m4,m6⟩:=g2 e0 r hroot
   obtain ⟨k2,k3⟩:=hk (slAt_deep m1)
   obtain ⟨r'',q1,q2,q3⟩:=hr r (by rw[hroot];rfl)
   have e2:r'' =r':=by rw[he] at q1;exact (Option.some.inj q1).symm
   rw[e2] at q2 q3
   refine ⟨by rw[hdd];exact m1,by omega,by rw[k2];exact m5,A,n,cap,?_,m6⟩
   rw[M.ρ id h1 (fun x hx=>by rw[h0] at hx;cases hx;exact g0),q3]
   exact cellAt_mono m4 k3
theorem LVsRel.mono {E E':Env} (M:Mono E E'): ∀ {xs:List LV} {vs:List Value},LVsRel E xs vs->LVsRel E' xs vs
 | [],[],h=>h
 |x::xs,v::vs,h=>⟨h.1.mono M,LVsRel.mono M h.2⟩
theorem A1Rel.mono {E E':Env} (M:Mono E E') {x:A1} {v:Value} (h:A1Rel E x v):A1Rel E' x v:=by
 cases x with
 |l x=>exact LVRel.mono M h
 |agg xs=>obtain ⟨vs,e,h⟩:=h;exact ⟨vs,e,h.mono M⟩
theorem A1sRel.mono {E E':Env} (M:Mono E E'): ∀ {xs:List A1} {vs:List Value},A1sRel E xs vs->A1sRel E' xs vs
 | [],[],h=>h
 |x::xs,v::vs,h=>⟨h.1.mono M,A1sRel.mono M h.2⟩
theorem AVRel.mono {E E':Env} (M:Mono E E') {x:AV} {v:Value} (h:AVRel E x v):AVRel E' x v:=by
 cases x with
 |one x=>exact A1Rel.mono M h
 |tup xs=>obtain ⟨vs,e,h⟩:=h;exact ⟨vs,e,h.mono M⟩
theorem RowRel.mono {w w':World} {Z Z':Zs} {q:Option (Nat×Nat)} {cs:List Cell} {len size:Nat} {F:FP} (h:RowRel w Z q cs len size F) (hz: ∀b,Z b->Z' b/\w'.heap[b]? =w.heap[b]?) (hf: ∀b,1<=F b->w'.heap[b]? =w.heap[b]?):RowRel w' Z' q cs len size F:=by
 rcases h with h| ⟨b,cap,arr,ty,F',h1,h2,h3,h4,h5,h6⟩
 ·exact .inl h
 ·exact .inr ⟨b,cap,arr,ty,F',h1,by rw[hf b (by rw[h6];simp)];exact h2,h3,h4,h5.mono hz (fun b hb=>hf b (by rw[h6];simp;omega)),h6⟩
theorem BoxRel.mono {E E':Env} (M:Mono E E') {q:Option (Nat×Nat)} {cells:List LV} {F:FP} (h:BoxRel E q cells F) (hf: ∀b,1<=F b->E'.w.heap[b]? =E.w.heap[b]?):BoxRel E' q cells F:=by
 obtain ⟨b,cap,vs,ty,h1,h2,h3,h4⟩:=h
 exact ⟨b,cap,vs,ty,h1,by rw[hf b (by rw[h4];simp)];exact h2,h3.mono M,h4⟩
theorem RootRel.mono {E E':Env} (M:Mono E E') {id:Nat} (hid:id<E.nx) {root:Root} {F:FP} (hhp:E.hp id=some root) (h:RootRel E id root F) (hf: ∀b,1<=F b->E'.w.heap[b]? =E.w.heap[b]?):RootRel E' id root F:=by
 by_cases hg:root= .ghost
 ·subst hg;exact h
 have hre: ∀x,E.hp id=some x->x.real:=fun x hx=>by rw[hhp] at hx;cases hx;cases root<;>first|trivial|exact absurd rfl hg
 cases root with
 |row e v r=>simp only[RootRel,M.ρ id hid hre] at h ⊢;exact h.mono M.zl hf
 |hole e v r i f=>simp only[RootRel,M.ρ id hid hre] at h ⊢;exact ⟨h.1,h.2.1,h.2.2.mono M.zl hf⟩
 |box t c=>simp only[RootRel,M.ρ id hid hre] at h ⊢;exact h.mono M hf
 |ghost=>exact h
end Go.Proofs.YtbmmhdmljajcfaaGreatDoor.V
namespace Go.Proofs.YtbmmhdmljajcfaaGreatDoor.V
open Go
def sumTo:Nat->(Nat->FP)->FP
 |0,_=>fz
 |n+1,Fs=>fadd (sumTo n Fs) (Fs n)
theorem sumTo_le (Fs:Nat->FP) (b:Nat): ∀ {n id:Nat},id<n->Fs id b<=sumTo n Fs b
 |n+1,id,h=>by
  by_cases e:id=n
  ·subst e;simp[sumTo]
  ·have:=sumTo_le Fs b (n:=n) (id:=id) (by omega);simp[sumTo];omega
theorem sumTo_two (Fs:Nat->FP) (b:Nat): ∀ {n i j:Nat},i<n->j<n->i≠j->Fs i b+Fs j b<=sumTo n Fs b
 |n+1,i,j,hi,hj,hne=>by
  by_cases ei:i=n
  ·subst ei;have:=sumTo_le Fs b (n:=i) (id:=j) (by omega);simp[sumTo];omega
  ·by_cases ej:j=n
   ·subst ej;have:=sumTo_le Fs b (n:=j) (id:=i) (by omega);simp[sumTo];omega
   ·have:=sumTo_two Fs b (n:=n) (i:=i) (j:=j) (by omega) (by omega) hne;simp[sumTo];omega
theorem sumTo_congr {Fs Gs:Nat->FP} (b:Nat): ∀ {n:Nat},(∀j,j<n->Fs j b=Gs j b)->sumTo n Fs b=sumTo n Gs b
 |0,_=>rfl
 |n+1,h=>by simp[sumTo,sumTo_congr b (n:=n) (fun j hj=>h j (by omega)),h n (by omega)]
theorem sumTo_more {Fs:Nat->FP} (b:Nat): ∀ {m n:Nat},n<=m->(∀j,n<=j->j<m->Fs j b=0)->sumTo m Fs b=sumTo n Fs b
 |0,n,h,_=>by have:n=0:=by omega
              subst this;rfl
 |m+1,n,h,hz=>by
  by_cases e:n=m+1
  ·subst e;rfl
  ·simp[sumTo,sumTo_more b (m:=m) (n:=n) (by omega) (fun j h1 h2=>hz j h1 (by omega)),hz m (by omega) (by omega)]
def putF (Fs:Nat->FP) (id:Nat) (F:FP):Nat->FP:=fun j=>if j=id then F else Fs j
@[simp] theorem putF_self (Fs:Nat->FP) (id:Nat) (F:FP):putF Fs id F id=F:=by simp[putF]
theorem putF_ne (Fs:Nat->FP) {id j:Nat} (F:FP) (h:j≠id):putF Fs id F j=Fs j:=by simp[putF,h]
theorem sumTo_put (Fs:Nat->FP) (F:FP) (b:Nat): ∀ {n id:Nat},id<n->sumTo n (putF Fs id F) b+Fs id b=sumTo n Fs b+F b
 |n+1,id,h=>by
  by_cases e:id=n
  ·subst e
   have:=sumTo_congr (Fs:=putF Fs id F) (Gs:=Fs) b (n:=id) (fun j hj=>by rw[putF_ne _ _ (by omega)])
   simp[sumTo];omega
  ·have:=sumTo_put Fs F b (n:=n) (id:=id) (by omega)
   simp[sumTo,putF_ne Fs F (show n≠id by omega)];omega
theorem sumTo_put_new (Fs:Nat->FP) (F:FP) (b:Nat) (n:Nat):sumTo (n+1) (putF Fs n F) b=sumTo n Fs b+F b:=by
 have:=sumTo_congr (Fs:=putF Fs n F) (Gs:=Fs) b (n:=n) (fun j hj=>by rw[putF_ne _ _ (by omega)])
 simp[sumTo,this]
def tabName:String:= "internal/strconv.uint64pow10"
def tabVal:List Int:=(List.range 20).map fun i=>((10^i:Nat):Int)
def errName:String:= "strconv.ErrSyntax"
def Ground (P:Program) (w:World) (Z:Zs):Prop:=(∀b,P.globalNamed tabName=some b->Z b/\w.var? P tabName=some (tabVal.map fun z=>Value.int .u64 z).toArray)/\ ∀b,P.globalNamed errName=some b->Z b/\ ∃t x,w.var? P errName=some #[.iface t x]
theorem var_same {P:Program} {w w':World} {n:String} {b:Nat} (hb:P.globalNamed n=some b) (h:w'.heap[b]? =w.heap[b]?):w'.var? P n=w.var? P n:=by
 unfold World.var?
 rw[hb]
 simp only[Option.bind_some]
 rw[h]
theorem Ground.mono {P:Program} {w w':World} {Z Z':Zs} (h:Ground P w Z) (hz: ∀b,Z b->Z' b/\w'.heap[b]? =w.heap[b]?):Ground P w' Z':=by
 refine ⟨fun b hb=> ?_,fun b hb=> ?_⟩
 ·obtain ⟨h1,h2⟩:=h.1 b hb
  obtain ⟨h3,h4⟩:=hz b h1
  exact ⟨h3,by rw[var_same hb h4];exact h2⟩
 ·obtain ⟨h1,h2⟩:=h.2 b hb
  obtain ⟨h3,h4⟩:=hz b h1
  exact ⟨h3,by rw[var_same hb h4];exact h2⟩
structure Cx where
 P0:Program
 w0:World
 F0:FP
 Zl:Zs
 Zf0:Zs
 N:Nat
 kv:List Value
 good: ∀b,Zl b\/Zf0 b->b<w0.heap.size/\F0 b=0
 gnd:Ground P0 w0 Zf0
def Cx.Zf (C:Cx) (w:World) (F:FP):Zs:=fun b=>C.Zf0 b\/((C.w0.heap.size<=b\/1<=C.F0 b)/\b<w.heap.size/\F b=0)
def Cx.ZL (C:Cx) (w:World) (F:FP):Zs:=fun b=>C.Zl b\/C.Zf w F b
def Cx.env (C:Cx) (w:World) (ρ:Place) (hp:Nat->Option Root) (nx:Nat) (Fs:Nat->FP):Env:={w,Zf:=C.Zf w (sumTo nx Fs),ZL:=C.ZL w (sumTo nx Fs),ρ,hp,nx}
def Cx.val (C:Cx) (a:Act) (t:Nat):Value:=if t<C.N then a.tmps.getD t undef else C.kv.getD (t-C.N) undef
structure Frame (C:Cx) (w:World):Prop where
 size:C.w0.heap.size<=w.heap.size
 os:w.os=C.w0.os
 tape:w.tape=C.w0.tape
 output:w.output=C.w0.output
 block: ∀b,b<C.w0.heap.size->C.F0 b=0->w.heap[b]? =C.w0.heap[b]?
structure MRel (C:Cx) (hp:Nat->Option Root) (nx:Nat) (w:World) (ρ:Place) (Fs:Nat->FP):Prop where
 fresh: ∀id,nx<=id->hp id=none
 roots: ∀id root,hp id=some root->RootRel (C.env w ρ hp nx Fs) id root (Fs id)
 dead: ∀id,hp id=none->Fs id=fz
 one: ∀b,sumTo nx Fs b<=1
 mine: ∀b,1<=sumTo nx Fs b->b<w.heap.size/\(C.w0.heap.size<=b\/1<=C.F0 b)
 frame:Frame C w
structure SRel (C:Cx) (S:St) (a:Act) (w:World) (ρ:Place) (Fs:Nat->FP):Prop where
 mem:MRel C S.hp S.nx w ρ Fs
 defers:a.defers=[]
 size:a.tmps.size=C.N
 slots: ∀t,AVRel (C.env w ρ S.hp S.nx Fs) (S.sl t) (C.val a t)
theorem MRel.ground {C:Cx} {hp:Nat->Option Root} {nx:Nat} {w:World} {ρ:Place} {Fs:Nat->FP} (m:MRel C hp nx w ρ Fs) (F:FP):Ground C.P0 w (C.Zf w F):=
 C.gnd.mono fun b hb=>⟨.inl hb,by obtain ⟨g1,g2⟩:=C.good b (.inr hb);exact m.frame.block b g1 g2⟩
structure NOK (P:Program) (nt:Nat) (C:Cx):Prop where
 nt:nt=C.N
 p:C.P0=P
structure Chg (C:Cx) (hp:Nat->Option Root) (nx:Nat) (w:World) (ρ:Place) (Fs:Nat->FP) (hp':Nat->Option Root) (nx':Nat) (w':World) (ρ':Place) (Fs':Nat->FP):Prop where
 size:w.heap.size<=w'.heap.size
 os:w'.os=w.os
 tape:w'.tape=w.tape
 output:w'.output=w.output
 agree: ∀b,b<w.heap.size->sumTo nx Fs b=0->w'.heap[b]? =w.heap[b]?
 nxle:nx<=nx'
 same: ∀id,id<nx->(∀root,hp id=some root->root.real)->ρ' id=ρ id
 like: ∀id root',id<nx->hp' id=some root'-> ∃root,hp id=some root/\(Like w w' (ρ id) root root' \/root' =root/\ ∃e v r i f,root= .hole e v r i f)
 fresh: ∀id,nx' <=id->hp' id=none
 dead: ∀id,hp' id=none->Fs' id=fz
 one: ∀b,sumTo nx' Fs' b<=1
 new: ∀b,1<=sumTo nx' Fs' b->1<=sumTo nx Fs b\/(w.heap.size<=b/\b<w'.heap.size)
theorem Chg.mono {C:Cx} {hp:Nat->Option Root} {nx:Nat} {w:World} {ρ:Place} {Fs:Nat->FP} {hp':Nat->Option Root} {nx':Nat} {w':World} {ρ':Place} {Fs':Nat->FP} (h:Chg C hp nx w ρ Fs hp' nx' w' ρ' Fs') (m:MRel C hp nx w ρ Fs):Mono (C.env w ρ hp nx Fs) (C.env w' ρ' hp' nx' Fs'):=by
 have hzf: ∀b,C.Zf w (sumTo nx Fs) b->C.Zf w' (sumTo nx' Fs') b/\w'.heap[b]? =w.heap[b]? :=by
  rintro b (h0| ⟨h1,h2,h3⟩)
  ·refine ⟨.inl h0,?_⟩
   obtain ⟨g1,g2⟩:=C.good b (.inr h0)
   refine h.agree b (Nat.lt_of_lt_of_le g1 m.frame.size) ?_
   rcases Nat.eq_zero_or_pos (sumTo nx Fs b) with e|e
   ·exact e
   ·obtain ⟨_,k⟩:=m.mine b e;omega
  ·refine ⟨.inr ⟨h1,Nat.lt_of_lt_of_le h2 h.size,?_⟩,h.agree b h2 h3⟩
   rcases Nat.eq_zero_or_pos (sumTo nx' Fs' b) with e|e
   ·exact e
   ·rcases h.new b e with k|k<;>omega
 refine ⟨hzf,?_,h.nxle,h.same,h.like⟩
 rintro b (h0|h0)
 ·refine ⟨.inl h0,?_⟩
  obtain ⟨g1,g2⟩:=C.good b (.inl h0)
  refine h.agree b (Nat.lt_of_lt_of_le g1 m.frame.size) ?_
  rcases Nat.eq_zero_or_pos (sumTo nx Fs b) with e|e
  ·exact e
  ·obtain ⟨_,k⟩:=m.mine b e;omega
 ·exact ⟨.inr (hzf b h0).1,(hzf b h0).2⟩
theorem Chg.mrel {C:Cx} {hp:Nat->Option Root} {nx:Nat} {w:World} {ρ:Place} {Fs:Nat->FP} {hp':Nat->Option Root} {nx':Nat} {w':World} {ρ':Place} {Fs':Nat->FP} (h:Chg C hp nx w ρ Fs hp' nx' w' ρ' Fs') (m:MRel C hp nx w ρ Fs)
 (hr: ∀id root,hp' id=some root->(hp' id=hp id/\(∀b,1<=Fs id b->w'.heap[b]? =w.heap[b]?)/\Fs' id=Fs id)\/RootRel (C.env w' ρ' hp' nx' Fs') id root (Fs' id)):MRel C hp' nx' w' ρ' Fs':=by
 refine ⟨h.fresh,fun id root hid=> ?_,h.dead,h.one,fun b hb=> ?_,?_⟩
 ·rcases hr id root hid with ⟨h1,h2,h3⟩|h1
  ·have hlt:id<nx:=by
    rcases Nat.lt_or_ge id nx with k|k
    ·exact k
    ·rw[h1,m.fresh id k] at hid;cases hid
   rw[h3]
   exact (m.roots id root (by rw[<- h1];exact hid)).mono (h.mono m) hlt (show hp id=some root by rw[<- h1];exact hid) h2
  ·exact h1
 ·rcases h.new b hb with k|k
  ·exact ⟨Nat.lt_of_lt_of_le (m.mine b k).1 h.size,(m.mine b k).2⟩
  ·exact ⟨k.2,.inl (Nat.le_trans m.frame.size k.1)⟩
 ·refine ⟨Nat.le_trans m.frame.size h.size,by rw[h.os,m.frame.os],by rw[h.tape,m.frame.tape],by rw[h.output,m.frame.output],fun b h1 h2=> ?_⟩
  rw[<- m.frame.block b h1 h2]
  refine h.agree b (Nat.lt_of_lt_of_le h1 m.frame.size) ?_
  rcases Nat.eq_zero_or_pos (sumTo nx Fs b) with e|e
  ·exact e
  ·obtain ⟨_,k⟩:=m.mine b e;omega
theorem getD_set (l:Array Value) (t d:Nat) (v u:Value):(l.setIfInBounds d v).getD t u=if t=d then (if d<l.size then v else l.getD t u) else l.getD t u:=by
 by_cases h:t=d
 ·subst h
  by_cases k:t<l.size
  ·simp[k,Array.getD_eq_getD_getElem?]
  ·simp[k,Array.getD_eq_getD_getElem?]
 ·simp[h,Array.getD_eq_getD_getElem?,Ne.symm h]
theorem SRel.put {C:Cx} {S:St} {a:Act} {w:World} {ρ:Place} {Fs:Nat->FP} (h:SRel C S a w ρ Fs) (dst:Option Tmp) (v:AV) (u:Value) (hv: ∀d,dst=some d->AVRel (C.env w ρ S.hp S.nx Fs) v u) (hd: ∀d,dst=some d->d<C.N):SRel C (S.put dst v) (a.put dst u) w ρ Fs:=by
 cases dst with
 |none=>exact h
 |some d=>
  refine ⟨h.mem,h.defers,by simp[Act.put,h.size],fun t=> ?_⟩
  have hdN:=hd d rfl
  have hs:=h.slots t
  simp only[St.put,Act.put,Cx.val,getD_set,h.size] at hs ⊢
  by_cases e:t=d
  ·subst e;simp[hdN];exact hv t rfl
  ·have:(d==t)=false:=by simp;exact fun h=>e h.symm
   have e2:(t==d)=false:=by simp[e]
   simp only[e,e2,if_false,cond_false];exact hs
theorem SRel.change {C:Cx} {S:St} {a:Act} {w:World} {ρ:Place} {Fs:Nat->FP} (h:SRel C S a w ρ Fs) {hp':Nat->Option Root} {nx':Nat} {w':World} {ρ':Place} {Fs':Nat->FP} (hc:Chg C S.hp S.nx w ρ Fs hp' nx' w' ρ' Fs')
 (hr: ∀id root,hp' id=some root->(hp' id=S.hp id/\(∀b,1<=Fs id b->w'.heap[b]? =w.heap[b]?)/\Fs' id=Fs id)\/RootRel (C.env w' ρ' hp' nx' Fs') id root (Fs' id)):SRel C ⟨S.sl,hp',nx'⟩ a w' ρ' Fs':=
 ⟨hc.mrel h.mem hr,h.defers,h.size,fun t=>(h.slots t).mono (hc.mono h.mem)⟩
theorem AVRel.const (E:Env) (v:Value):AVRel E (.l (ofConst v)) v:=by
 unfold ofConst
 split<;>first|exact rfl|exact trivial
theorem SRel.rd {C:Cx} {S:St} {a:Act} {w:World} {ρ:Place} {Fs:Nat->FP} (h:SRel C S a w ρ Fs) (x:Operand):AVRel (C.env w ρ S.hp S.nx Fs) (St.rd C.N S.sl x) (a.eval x):=by
 cases x with
 |tmp t=>
  simp only[St.rd]
  cases hb:Nat.blt t C.N with
  |false=>exact trivial
  |true=>
   have hlt:t<C.N:=by simpa[Nat.blt_eq] using hb
   have:=h.slots t
   simp only[Cx.val,if_pos hlt] at this
   exact this
 |const v=>exact AVRel.const _ v
 |global g=>exact trivial
 |func f=>exact rfl
end Go.Proofs.YtbmmhdmljajcfaaGreatDoor.V
namespace Go.Proofs.YtbmmhdmljajcfaaGreatDoor.V
open Go
def zeroV (tt:TT) (t:Nat):Value:=match tt t with
 |some ⟨.int k,_,_⟩=> .int k 0
 |some ⟨.bool,_,_⟩=> .bool false
 |some ⟨.str,_,_⟩=> .string ByteArray.empty
 |some ⟨.slice _,_,_⟩=> .slice none 0 0
 |some ⟨.err,_,_⟩=> .nilIface
 |_=> .pointer none
def descOK (P:Program) (t:Nat):TK->Prop
 | .int k=>P.underlying t=some (.int k)
 | .bool=>P.underlying t=some .bool
 | .str=>P.underlying t=some .string
 | .slice e=>P.underlying t=some (.slice e)
 | .array n e=>P.underlying t=some (.array n e)
 | .ptr e=>P.underlying t=some (.pointer e)
 | .struct fs=> ∃fields:Array Field,P.underlying t=some (.struct fields)/\fields.toList.map (fun f=>(f.offset,f.type))=fs/\ ∀f∈fields.toList,∃i,P.info? f.type=some i/\i.size≠0
 | .err=> ∃ms,P.underlying t=some (.interface ms)
 | .other=>True
def zeroOK (tt:TT) (t:Nat) (z:Value):TK->Prop
 | .array n e=>z.cells.toList=List.replicate n (zeroV tt e)
 |_=>z.cells.toList=(leafTypes tt depth t).map (zeroV tt)
structure TFact (P:Program) (tt:TT) (t:Nat) (e:TE):Prop where
 desc:descOK P t e.k
 info: ∃i,P.info? t=some i/\i.size=e.size/\i.bytes=e.bytes/\ ∃z,i.zero=some z/\zeroOK tt t z e.k
 cells:(∀n x,e.k≠ .array n x)->e.size=(leafTypes tt depth t).length
 some:0<e.size/\0<e.bytes
def TOK (P:Program) (tt:TT):Prop:= ∀t e,tt t=some e->TFact P tt t e
structure Out (P:Program) (C:Cx) (S:St) (o:Oper) (E:Eff) (a:Act) (w:World) (w':World) (ρ':Place) (Fs':Nat->FP) (u:Value):Prop where
 run:(execOp a.eval o).run P w= .ok (.value u) w' \/((execOp a.eval o).run P w= .ok .skip w' /\u=undef)
 rel:SRel C ⟨S.sl,upd S.hp E.up,S.nx⟩ a w' ρ' Fs'
 val:AVRel (C.env w' ρ' (upd S.hp E.up) S.nx Fs') E.v u
theorem Out.pure {P:Program} {C:Cx} {S:St} {o:Oper} {E:Eff} {a:Act} {w:World} {ρ:Place} {Fs:Nat->FP} {u:Value} (h:SRel C S a w ρ Fs) (hu:E.up=[]) (hr:(execOp a.eval o).run P w= .ok (.value u) w) (hv:AVRel (C.env w ρ S.hp S.nx Fs) E.v u):Out P C S o E a w w ρ Fs u:=by
 refine ⟨.inl hr,?_,?_⟩
 ·rw[hu];exact h
 ·rw[hu];exact hv
theorem run_v {P:Program} {s:Sem Value} {v:Value} {w w':World} (h:s.run P w= .ok v w'):((do pure (.value (<- s))):Sem Next).run P w= .ok (.value v) w':=by
 have e:=Sem.run_bind' P s (fun v=>Sem.pure (Next.value v)) w
 rw[h] at e
 exact e
theorem run_u {P:Program} {s:Sem Unit} {x:Unit} {w w':World} (h:s.run P w= .ok x w'):((do s;pure .skip):Sem Next).run P w= .ok .skip w':=by
 have e:=Sem.run_bind' P s (fun _=>Sem.pure Next.skip) w
 rw[h] at e
 exact e
theorem run_then {P:Program} {α β:Type} {s:Sem α} {f:α->Sem β} {x:α} {w w':World} (h:s.run P w= .ok x w'):((do let y <- s;f y):Sem β).run P w=(f x).run P w':=by
 have e:=Sem.run_bind' P s f w
 rw[h] at e
 exact e
theorem run_move {P:Program} {ρ:Operand->Value} {o:Oper} {x:Operand} (h:o.op= .move x\/o.op= .assign x) (w:World):(execOp ρ o).run P w= .ok (.value (ρ x)) w:=by
 rcases h with h|h<;>simp[execOp,h,go_sem]<;>rfl
theorem run_pick {P:Program} {ρ:Operand->Value} {o:Oper} {c x y:Operand} {b:Bool} (h:o.op= .pick c x y) (hc:ρ c= .bool b) (w:World):(execOp ρ o).run P w= .ok (.value (if b then ρ x else ρ y)) w:=by
 simp[execOp,h,hc,go_sem,asBool]
theorem run_extract {P:Program} {ρ:Operand->Value} {o:Oper} {x:Operand} {j:Nat} {vs:Array Value} {v:Value} (h:o.op= .extract x j) (hx:ρ x= .tuple vs) (hv:vs[j]? =some v) (w:World):(execOp ρ o).run P w= .ok (.value v) w:=by
 simp[execOp,h,hx,go_sem,Instr.extract,hv]
theorem run_nilCheck {P:Program} {ρ:Operand->Value} {o:Oper} {x:Operand} {a:Addr} (h:o.op= .nilCheck x) (hx:ρ x= .pointer (some a)) (w:World):(execOp ρ o).run P w= .ok (.value (.pointer (some a))) w:=by
 simp[execOp,h,hx,go_sem]
theorem run_binOp {P:Program} {ρ:Operand->Value} {o:Oper} {op:BinOp} {t u:TypeId} {x y:Operand} {v:Value} {w:World} (h:o.op= .binOp op t x y u) (hv:((do eqGuard op t x y (ρ x) (ρ y);Go.binOp op t (ρ x) (ρ y)):Sem Value).run P w= .ok v w):(execOp ρ o).run P w= .ok (.value v) w:=by
 simp only[execOp,h]
 exact run_v hv
theorem run_unOp {P:Program} {ρ:Operand->Value} {o:Oper} {op:UnOp} {t:TypeId} {x:Operand} {v:Value} {w:World} (h:o.op= .unOp op t x) (hv:(Op.unary op (ρ x)).run P w= .ok v w):(execOp ρ o).run P w= .ok (.value v) w:=by
 simp only[execOp,h]
 exact run_v hv
theorem chk_some {α:Type} {p:Bool} {x:Option α} {y:α} (h:chk p x=some y):p=true/\x=some y:=by
 cases p
 ·simp[chk] at h
 ·exact ⟨rfl,h⟩
theorem binOp_ints {P:Program} {op:BinOp} {k k':IntKind} {a b:Int} {z:LV} (he:binOp (R:=LV) op (.i k a) (.i k' b) some=some z) (t:TypeId) (ox oy:Operand) (E:Env) (w:World):
 ∃r,LVRel E z r/\((do eqGuard op t ox oy (.int k a) (.int k' b);Go.binOp op t (.int k a) (.int k' b)):Sem Value).run P w= .ok r w:=by
 have hg:eqGuard op t ox oy (.int k a) (.int k' b)=pure ():=by cases op<;>rfl
 rw[hg]
 show ∃r,LVRel E z r/\(Go.binOp op t (.int k a) (.int k' b)).run P w= .ok r w
 by_cases hs:op= .shl\/op= .shr
 ·rcases hs with rfl|rfl
  all_goals
   simp only[binOp] at he
   obtain ⟨h1,h2⟩:=chk_some he
   have h0: ¬b<0:=by have:=of_decide_eq_true h1;omega
   cases h2
   refine ⟨_,rfl,?_⟩
   simp only[Go.binOp,Op.shift,h0,if_false]
   rfl
 ·by_cases hk:k=k'
  ·subst hk
   cases op<;>first| (exfalso;exact hs (.inl rfl))| (exfalso;exact hs (.inr rfl))|skip
   all_goals simp only[binOp,decide_true,cond_true,Option.some.injEq] at he
   all_goals first
    | (subst he;exact ⟨_,rfl,by simp[Go.binOp,Op.intArith,Op.intCmp,Op.intBits,ibits]<;>rfl⟩)
    | (obtain ⟨h1,h2⟩:=chk_some he
       have hb0: ¬b=0:=by simpa using h1
       cases h2
       exact ⟨_,rfl,by simp[Go.binOp,Op.intDiv,hb0]<;>rfl⟩)
  ·exfalso
   cases op<;>first| (exact hs (.inl rfl))| (exact hs (.inr rfl))|simp[binOp,hk] at he
theorem binOp_sound {P:Program} {tt:TT} (T:TOK P tt) {op:BinOp} {x y z:LV} (he:binOp (R:=LV) op x y some=some z) (t:TypeId) (ox oy:Operand) (ht:tyOK tt t x=true) (E:Env) (u v:Value) (hu:LVRel E x u) (hv:LVRel E y v)
 (hn:y= .er true-> ∃c,oy= .const c) (w:World):
 ∃r,LVRel E z r/\((do eqGuard op t ox oy u v;Go.binOp op t u v):Sem Value).run P w= .ok r w:=by
 cases x<;>cases y<;>first| (exfalso;cases op<;>simp[binOp] at he;done)|skip
 case i.i=>cases hu;cases hv;exact binOp_ints he t ox oy E w
 case s.s a b=>
  cases hu;cases hv
  have hg:eqGuard op t ox oy (.string a) (.string b)=pure ():=by cases op<;>rfl
  rw[hg]
  show ∃r,LVRel E z r/\(Go.binOp op t (.string a) (.string b)).run P w= .ok r w
  cases op<;>first| (exfalso;simp[binOp] at he;done)|skip
  ·simp only[binOp] at he
   obtain ⟨h1,h2⟩:=chk_some he
   cases h2
   refine ⟨_,rfl,?_⟩
   have:=of_decide_eq_true h1
   simp[Go.binOp,Op.stringOp]
   simp[maxI] at this
   omega
  ·simp only[binOp,Option.some.injEq] at he;subst he;exact ⟨_,rfl,by simp[Go.binOp,Op.stringOp]<;>rfl⟩
  ·simp only[binOp,Option.some.injEq] at he;subst he;exact ⟨_,rfl,by simp[Go.binOp,Op.stringOp]<;>rfl⟩
 case b.b a b=>
  cases hu;cases hv
  have hg:eqGuard op t ox oy (.bool a) (.bool b)=pure ():=by cases op<;>rfl
  rw[hg]
  show ∃r,LVRel E z r/\(Go.binOp op t (.bool a) (.bool b)).run P w= .ok r w
  have hbt:P.underlying t=some .bool:=by
   simp only[tyOK] at ht
   split at ht
   ·rename_i sz bs hq;exact (T t _ hq).desc
   ·cases ht
  cases op<;>first| (exfalso;simp[binOp] at he;done)|skip
  ·simp only[binOp,Option.some.injEq] at he;subst he;exact ⟨_,rfl,run_eql_bool _ _ _ _ hbt⟩
  ·simp only[binOp,Option.some.injEq] at he;subst he;exact ⟨_,rfl,run_neq_bool _ _ _ _ hbt⟩
 case er.er a b=>
  cases b with
  |false=>exfalso;cases op<;>cases a<;>simp[binOp] at he
  |true=>
   cases hv
   have hit:P.isIface t=true:=by
    simp only[tyOK] at ht
    split at ht
    ·rename_i sz bs hq
     obtain ⟨ms,h⟩:=(T t _ hq).desc
     simp[Program.isIface,h]
    ·cases ht
   obtain ⟨c,rfl⟩:=hn rfl
   cases a with
   |true=>
    cases hu
    have hg:eqGuard op t ox (.const c) .nilIface .nilIface=pure ():=by cases op<;>cases ox<;>rfl
    rw[hg]
    show ∃r,LVRel E z r/\(Go.binOp op t .nilIface .nilIface).run P w= .ok r w
    cases op<;>first| (exfalso;simp[binOp] at he;done)|skip
    ·simp only[binOp,Option.some.injEq] at he;subst he;exact ⟨_,rfl,run_eql_nil_nil_at _ _ hit⟩
    ·simp only[binOp,Option.some.injEq] at he;subst he;exact ⟨_,rfl,run_neq_nil_nil_at _ _ hit⟩
   |false=>
    obtain ⟨d,q,rfl⟩:=hu
    have hg:eqGuard op t ox (.const c) (.iface d q) .nilIface=pure ():=by cases op<;>rfl
    rw[hg]
    show ∃r,LVRel E z r/\(Go.binOp op t (.iface d q) .nilIface).run P w= .ok r w
    cases op<;>first| (exfalso;simp[binOp] at he;done)|skip
    ·simp only[binOp,Option.some.injEq] at he;subst he;exact ⟨_,rfl,run_eql_iface_nil _ _ hit _ _⟩
    ·simp only[binOp,Option.some.injEq] at he;subst he;exact ⟨_,rfl,run_neq_iface_nil _ _ hit _ _⟩
theorem unOp_sound {P:Program} {op:UnOp} {x z:LV} (he:unOp (R:=LV) op x some=some z) (E:Env) (u:Value) (hu:LVRel E x u) (w:World): ∃r,LVRel E z r/\(Op.unary op u).run P w= .ok r w:=by
 cases op<;>cases x<;>simp only[unOp,Option.some.injEq] at he<;>first|cases he|skip
 ·cases hu;exact ⟨_,rfl,rfl⟩
 ·cases hu;exact ⟨_,rfl,rfl⟩
end Go.Proofs.YtbmmhdmljajcfaaGreatDoor.V
namespace Go.Proofs.YtbmmhdmljajcfaaGreatDoor.V
open Go
theorem upd_append (hp:Nat->Option Root): ∀l m:List (Nat×Option Root),upd hp (l++m)=upd (upd hp l) m:=by
 intro l
 induction l generalizing hp with
 |nil=>intro m;rfl
 |cons x l ih=>intro m;obtain ⟨i,r⟩:=x;exact ih _ m
theorem upd_one (hp:Nat->Option Root) (i:Nat) (r:Option Root) (j:Nat):upd hp [(i,r)] j=if j=i then r else hp j:=by
 simp only[upd]
 by_cases h:j=i
 ·subst h;simp
 ·have:(j==i)=false:=by simp[h]
  simp[h,this]
theorem upd_kill (hp:Nat->Option Root): ∀ks:List Nat,upd hp (killUp ks)=kill hp ks:=by
 intro ks
 induction ks generalizing hp with
 |nil=>funext j;simp[killUp,upd,kill]
 |cons k ks ih=>
  funext j
  have:=congrFun (ih (fun j=>bif j==k then none else hp j)) j
  simp only[killUp,List.map_cons,upd] at this ⊢
  rw[this]
  simp only[kill,List.elem_cons]
  cases h:(j==k)<;>cases h2:ks.elem j<;>simp[h,h2]
theorem kill_at (hp:Nat->Option Root) (ks:List Nat) (j:Nat):kill hp ks j=if j∈ks then none else hp j:=by
 unfold kill
 by_cases h:j∈ks
 ·simp[h,List.elem_iff.2 h]
 ·have:ks.elem j=false:=by rw[<- Bool.not_eq_true];exact fun h'=>h (List.elem_iff.1 h')
  simp[h,this]
theorem kill_some {hp:Nat->Option Root} {ks:List Nat} {j:Nat} {r:Root} (h:kill hp ks j=some r):j∉ks/\hp j=some r:=by
 rw[kill_at] at h
 split at h
 ·cases h
 ·exact ⟨‹_›,h⟩
def sumL (Fs:Nat->FP):List Nat->FP
 | []=>fz
 |k::ks=>fadd (Fs k) (sumL Fs ks)
def kilF (Fs:Nat->FP) (ks:List Nat):Nat->FP:=fun j=>if j∈ks then fz else Fs j
theorem kilF_nil (Fs:Nat->FP):kilF Fs [] =Fs:=by funext j;simp[kilF]
theorem kilF_cons (Fs:Nat->FP) (k:Nat) (ks:List Nat):kilF Fs (k::ks)=putF (kilF Fs ks) k fz:=by
 funext j
 simp only[kilF,putF,List.mem_cons]
 by_cases h:j=k<;>simp[h]
theorem sumTo_kil (Fs:Nat->FP) (b n:Nat): ∀ks:List Nat,ks.Nodup->(∀k∈ks,k<n)->sumTo n (kilF Fs ks) b+sumL Fs ks b=sumTo n Fs b
 | [],_,_=>by simp[kilF_nil,sumL]
 |k::ks,hd,hk=>by
  obtain ⟨h1,h2⟩:=List.nodup_cons.1 hd
  have ih:=sumTo_kil Fs b n ks h2 (fun j hj=>hk j (by simp[hj]))
  have e:=sumTo_put (kilF Fs ks) fz b (hk k (by simp))
  rw[kilF_cons]
  have e2:kilF Fs ks k=Fs k:=by simp[kilF,h1]
  rw[e2] at e
  simp[sumL] at e ⊢
  omega
theorem kilF_le (Fs:Nat->FP) (ks:List Nat) (j b:Nat):kilF Fs ks j b<=Fs j b:=by
 unfold kilF;split<;>simp
def newρ (ρ:Place) (id:Nat) (q:Option (Nat×Nat)):Place:=fun j=>if j=id then q else ρ j
theorem newρ_self (ρ:Place) (id:Nat) (q:Option (Nat×Nat)):newρ ρ id q id=q:=by simp[newρ]
theorem newρ_ne (ρ:Place) {id j:Nat} (q:Option (Nat×Nat)) (h:j≠id):newρ ρ id q j=ρ j:=by simp[newρ,h]
theorem heap_push_lt (w:World) (o:Obj) {b:Nat} (h:b<w.heap.size):(w.alloc o).heap[b]? =w.heap[b]? :=by
 show (w.heap.push o)[b]? =_
 rw[Array.getElem?_push,if_neg (Nat.ne_of_lt h)]
theorem heap_push_eq (w:World) (o:Obj):(w.alloc o).heap[w.heap.size]? =some o:=by
 show (w.heap.push o)[w.heap.size]? =_
 rw[Array.getElem?_push,if_pos rfl]
theorem heap_push_size (w:World) (o:Obj):(w.alloc o).heap.size=w.heap.size+1:=Array.size_push _
theorem live_lt {C:Cx} {hp:Nat->Option Root} {nx:Nat} {w:World} {ρ:Place} {Fs:Nat->FP} (m:MRel C hp nx w ρ Fs) {id:Nat} {r:Root} (h:hp id=some r):id<nx:=by
 rcases Nat.lt_or_ge id nx with k|k
 ·exact k
 ·rw[m.fresh id k] at h;cases h
inductive Kept (C:Cx) (hp:Nat->Option Root) (w:World) (ρ:Place) (Fs:Nat->FP) (hp':Nat->Option Root) (w':World) (Fs':Nat->FP) (E':Env) (M:Prop) (T:Nat->Prop) (j:Nat):Prop
 |same (h1:hp' j=hp j) (h2:Fs' j=Fs j) (h3: ∀b,1<=Fs j b-> ¬T b)
 |gone (h1:hp' j=none) (h2:Fs' j=fz)
 |turned (root root':Root) (h1:hp j=some root) (h2:hp' j=some root') (h3:Like w w' (ρ j) root root') (h4:M->RootRel E' j root' (Fs' j))
theorem SRel.genM {C:Cx} {S:St} {a:Act} {w:World} {ρ:Place} {Fs:Nat->FP} (h:SRel C S a w ρ Fs) (hp':Nat->Option Root) (nx':Nat) (w':World) (ρ':Place) (Fs':Nat->FP) (T:Nat->Prop)
 (hsz:w.heap.size<=w'.heap.size) (hos:w'.os=w.os) (htp:w'.tape=w.tape) (hout:w'.output=w.output)
 (hag: ∀b,b<w.heap.size-> ¬T b->w'.heap[b]? =w.heap[b]?) (hT: ∀b,T b->1<=sumTo S.nx Fs b)
 (hnx:S.nx<=nx') (hρ: ∀id,id<S.nx->(∀root,S.hp id=some root->root.real)->ρ' id=ρ id)
 (hj: ∀j,j<S.nx->Kept C S.hp w ρ Fs hp' w' Fs' (C.env w' ρ' hp' nx' Fs') (Mono (C.env w ρ S.hp S.nx Fs) (C.env w' ρ' hp' nx' Fs')) T j)
 (hn: ∀j,S.nx<=j->(hp' j=none/\Fs' j=fz)\/(j<nx' /\ ∃root,hp' j=some root/\(Mono (C.env w ρ S.hp S.nx Fs) (C.env w' ρ' hp' nx' Fs')->RootRel (C.env w' ρ' hp' nx' Fs') j root (Fs' j))))
 (hone: ∀b,sumTo nx' Fs' b<=1) (hnew: ∀b,1<=sumTo nx' Fs' b->1<=sumTo S.nx Fs b\/(w.heap.size<=b/\b<w'.heap.size)):
 SRel C ⟨S.sl,hp',nx'⟩ a w' ρ' Fs' /\Mono (C.env w ρ S.hp S.nx Fs) (C.env w' ρ' hp' nx' Fs'):=by
 have own_lt: ∀id root,S.hp id=some root-> ∀b,1<=Fs id b->b<w.heap.size:=fun id root hid b hb=>(h.mem.mine b (Nat.le_trans hb (sumTo_le Fs b (live_lt h.mem hid)))).1
 have hc:Chg C S.hp S.nx w ρ Fs hp' nx' w' ρ' Fs':=by
  refine ⟨hsz,hos,htp,hout,fun b hb h0=>hag b hb fun ht=>by have:=hT b ht;omega,hnx,hρ,?_,?_,?_,hone,hnew⟩
  ·intro id root' hid hr
   cases hj id hid with
   |same h1 h2 h3=>
    rw[h1] at hr
    refine ⟨root',hr,?_⟩
    cases root' with
    |hole e v r i f=>exact .inr ⟨rfl,e,v,r,i,f,rfl⟩
    |box t c=>exact .inl trivial
    |ghost=>exact .inl trivial
    |row e v r=>
     refine .inl (Like.refl _ _ _ _ (fun b cap hq _=> ?_) (fun e v r i f=>by simp))
     have hrr:=h.mem.roots id _ hr
     rcases hrr with ⟨k1,_⟩| ⟨b',cap',arr,ty,F',k1,k2,_,_,_,k6⟩
     ·simp only[Cx.env] at k1;rw[k1] at hq;cases hq
     ·simp only[Cx.env] at k1 k2;rw[k1] at hq;cases hq
      exact hag b (Array.getElem?_eq_some_iff.1 k2).1 (h3 b (by rw[k6];simp))
   |gone h1 h2=>rw[h1] at hr;cases hr
   |turned root root'' h1 h2 h3 h4=>rw[h2] at hr;cases hr;exact ⟨root,h1,.inl h3⟩
  ·intro id hid
   rcases hn id (by omega) with ⟨k,_⟩| ⟨k,_⟩
   ·exact k
   ·omega
  ·intro id hid
   rcases Nat.lt_or_ge id S.nx with k|k
   ·cases hj id k with
    |same h1 h2 h3=>rw[h2];exact h.mem.dead id (by rw[<- h1];exact hid)
    |gone h1 h2=>exact h2
    |turned root root' h1 h2 h3 h4=>rw[h2] at hid;cases hid
   ·rcases hn id k with ⟨_,k⟩| ⟨_,root,k,_⟩
    ·exact k
    ·rw[k] at hid;cases hid
 refine ⟨h.change hc fun id root hid=> ?_,hc.mono h.mem⟩
 have M:=hc.mono h.mem
 rcases Nat.lt_or_ge id S.nx with k|k
 ·cases hj id k with
  |same h1 h2 h3=>exact .inl ⟨h1,fun b hb=>hag b (own_lt id root (by rw[<- h1];exact hid) b hb) (h3 b hb),h2⟩
  |gone h1 h2=>rw[h1] at hid;cases hid
  |turned root0 root' h1 h2 h3 h4=>rw[h2] at hid;cases hid;exact .inr (h4 M)
 ·rcases hn id k with ⟨k,_⟩| ⟨_,root',k,hr⟩
  ·rw[k] at hid;cases hid
  ·rw[k] at hid;cases hid;exact .inr (hr M)
theorem SRel.gen {C:Cx} {S:St} {a:Act} {w:World} {ρ:Place} {Fs:Nat->FP} (h:SRel C S a w ρ Fs) (hp':Nat->Option Root) (nx':Nat) (w':World) (ρ':Place) (Fs':Nat->FP) (T:Nat->Prop)
 (hsz:w.heap.size<=w'.heap.size) (hos:w'.os=w.os) (htp:w'.tape=w.tape) (hout:w'.output=w.output)
 (hag: ∀b,b<w.heap.size-> ¬T b->w'.heap[b]? =w.heap[b]?) (hT: ∀b,T b->1<=sumTo S.nx Fs b)
 (hnx:S.nx<=nx') (hρ: ∀id,id<S.nx->(∀root,S.hp id=some root->root.real)->ρ' id=ρ id)
 (hj: ∀j,j<S.nx->Kept C S.hp w ρ Fs hp' w' Fs' (C.env w' ρ' hp' nx' Fs') (Mono (C.env w ρ S.hp S.nx Fs) (C.env w' ρ' hp' nx' Fs')) T j)
 (hn: ∀j,S.nx<=j->(hp' j=none/\Fs' j=fz)\/(j<nx' /\ ∃root,hp' j=some root/\(Mono (C.env w ρ S.hp S.nx Fs) (C.env w' ρ' hp' nx' Fs')->RootRel (C.env w' ρ' hp' nx' Fs') j root (Fs' j))))
 (hone: ∀b,sumTo nx' Fs' b<=1) (hnew: ∀b,1<=sumTo nx' Fs' b->1<=sumTo S.nx Fs b\/(w.heap.size<=b/\b<w'.heap.size)):
 SRel C ⟨S.sl,hp',nx'⟩ a w' ρ' Fs':=(h.genM hp' nx' w' ρ' Fs' T hsz hos htp hout hag hT hnx hρ hj hn hone hnew).1
theorem SRel.turn {C:Cx} {S:St} {a:Act} {w:World} {ρ:Place} {Fs:Nat->FP} (h:SRel C S a w ρ Fs) (ks:List Nat) (hks:ks.Nodup) (hlive: ∀k∈ks,S.hp k≠none) (id:Nat) (hid:id∉ks) (root root':Root) (hr0:S.hp id=some root) (Fn:FP) (w':World)
 (hsz:w'.heap.size=w.heap.size) (hos:w'.os=w.os) (htp:w'.tape=w.tape) (hout:w'.output=w.output)
 (hag: ∀b,b<w.heap.size->Fs id b=0->w'.heap[b]? =w.heap[b]?) (hF: ∀b,Fn b<=Fs id b+sumL Fs ks b) (hl:Like w w' (ρ id) root root')
 (hr:Mono (C.env w ρ S.hp S.nx Fs) (C.env w' ρ (upd S.hp (killUp ks++[(id,some root')])) S.nx (putF (kilF Fs ks) id Fn))->RootRel (C.env w' ρ (upd S.hp (killUp ks++[(id,some root')])) S.nx (putF (kilF Fs ks) id Fn)) id root' Fn):
 SRel C ⟨S.sl,upd S.hp (killUp ks++[(id,some root')]),S.nx⟩ a w' ρ (putF (kilF Fs ks) id Fn):=by
 have hk: ∀k∈ks,k<S.nx:=fun k h'=>by
  cases e:S.hp k with
  |none=>exact absurd e (hlive k h')
  |some r=>exact live_lt h.mem e
 have hidlt:=live_lt h.mem hr0
 have hat: ∀j,upd S.hp (killUp ks++[(id,some root')]) j=if j=id then some root' else if j∈ks then none else S.hp j:=fun j=>by
  rw[upd_append,upd_one,upd_kill,kill_at]
 have hsum: ∀b,sumTo S.nx (putF (kilF Fs ks) id Fn) b+Fs id b+sumL Fs ks b=sumTo S.nx Fs b+Fn b:=fun b=>by
  have h1:=sumTo_put (kilF Fs ks) Fn b hidlt
  have h2:=sumTo_kil Fs b S.nx ks hks hk
  have h3:kilF Fs ks id=Fs id:=by simp[kilF,hid]
  rw[h3] at h1
  omega
 refine h.gen _ _ w' ρ _ (fun b=>1<=Fs id b) (by omega) hos htp hout (fun b hb ht=>hag b hb (by omega)) (fun b ht=>Nat.le_trans ht (sumTo_le Fs b hidlt)) (Nat.le_refl _) (fun _ _ _=>rfl) ?_ ?_ ?_ ?_
 ·intro j hj
  by_cases e:j=id
  ·subst e
   exact .turned root root' hr0 (by rw[hat,if_pos rfl]) hl (fun M=>by rw[putF_self];exact hr M)
  ·by_cases e2:j∈ks
   ·exact .gone (by rw[hat,if_neg e,if_pos e2]) (by rw[putF_ne _ _ e];simp[kilF,e2])
   ·refine .same (by rw[hat,if_neg e,if_neg e2]) (by rw[putF_ne _ _ e];simp[kilF,e2]) (fun b h1 h2=> ?_)
    have:=sumTo_two Fs b hj hidlt e
    have:=h.mem.one b
    omega
 ·intro j hj
  refine .inl ⟨by rw[hat,if_neg (by omega)];split;rfl;exact h.mem.fresh j hj,?_⟩
  rw[putF_ne _ _ (by omega)]
  by_cases e2:j∈ks
  ·simp[kilF,e2]
  ·simp[kilF,e2];exact h.mem.dead j (h.mem.fresh j hj)
 ·intro b;have:=hsum b;have:=hF b;have:=h.mem.one b;omega
 ·intro b hb;have:=hsum b;have:=hF b;left;omega
theorem sumL_out (Fs:Nat->FP) (b n:Nat) {ks:List Nat} (hd:ks.Nodup) (hk: ∀k∈ks,k<n) {j:Nat} (hj:j<n) (hjk:j∉ks):Fs j b+sumL Fs ks b<=sumTo n Fs b:=by
 have h1:=sumTo_kil Fs b n ks hd hk
 have h2:=sumTo_le (kilF Fs ks) b hj
 have h3:kilF Fs ks j=Fs j:=by simp[kilF,hjk]
 rw[h3] at h2
 omega
theorem sumL_le (Fs:Nat->FP) (b n:Nat) {ks:List Nat} (hd:ks.Nodup) (hk: ∀k∈ks,k<n):sumL Fs ks b<=sumTo n Fs b:=by
 have h1:=sumTo_kil Fs b n ks hd hk
 omega
theorem SRel.make {C:Cx} {S:St} {a:Act} {w:World} {ρ:Place} {Fs:Nat->FP} (h:SRel C S a w ρ Fs) {id:Nat} (hg:S.hp id=some .ghost) (ks:List Nat) (hks:ks.Nodup) (hlive: ∀k∈ks,∃r,S.hp k=some r/\r.real) (root:Root) (q:Option (Nat×Nat)) (Fn:FP) (w':World)
 (hsz:w.heap.size<=w'.heap.size) (hos:w'.os=w.os) (htp:w'.tape=w.tape) (hout:w'.output=w.output)
 (hag: ∀b,b<w.heap.size->sumL Fs ks b=0->w'.heap[b]? =w.heap[b]?) (hF: ∀b,Fn b<=sumL Fs ks b+(if w.heap.size<=b/\b<w'.heap.size then 1 else 0))
 (hr:Mono (C.env w ρ S.hp S.nx Fs) (C.env w' (newρ ρ id q) (upd S.hp (killUp ks++[(id,some root)])) S.nx (putF (kilF Fs ks) id Fn))->RootRel (C.env w' (newρ ρ id q) (upd S.hp (killUp ks++[(id,some root)])) S.nx (putF (kilF Fs ks) id Fn)) id root Fn):
 SRel C ⟨S.sl,upd S.hp (killUp ks++[(id,some root)]),S.nx⟩ a w' (newρ ρ id q) (putF (kilF Fs ks) id Fn):=by
 have hid:id∉ks:=fun h'=>by
  obtain ⟨r,h1,h2⟩:=hlive id h'
  rw[hg] at h1;cases h1;exact h2
 have hk: ∀k∈ks,k<S.nx:=fun k h'=>by
  obtain ⟨r,h1,_⟩:=hlive k h'
  exact live_lt h.mem h1
 have hidlt:=live_lt h.mem hg
 have hg0:Fs id=fz:=h.mem.roots id _ hg
 have hat: ∀j,upd S.hp (killUp ks++[(id,some root)]) j=if j=id then some root else if j∈ks then none else S.hp j:=fun j=>by
  rw[upd_append,upd_one,upd_kill,kill_at]
 have hsum: ∀b,sumTo S.nx (putF (kilF Fs ks) id Fn) b+sumL Fs ks b=sumTo S.nx Fs b+Fn b:=fun b=>by
  have h1:=sumTo_put (kilF Fs ks) Fn b hidlt
  have h2:=sumTo_kil Fs b S.nx ks hks hk
  have h3:kilF Fs ks id=Fs id:=by simp[kilF,hid]
  rw[h3,hg0] at h1
  simp at h1
  omega
 have hnew: ∀b,1<=sumTo S.nx Fs b->b<w.heap.size:=fun b hb=>(h.mem.mine b hb).1
 refine h.gen _ _ w' _ _ (fun b=>1<=sumL Fs ks b) hsz hos htp hout (fun b hb ht=>hag b hb (by omega)) (fun b ht=>Nat.le_trans ht (sumL_le Fs b S.nx hks hk)) (Nat.le_refl _) (fun j hj hre=>newρ_ne _ _ ?_) ?_ ?_ ?_ ?_
 ·rintro rfl
  exact hre _ hg
 ·intro j hj
  by_cases e:j=id
  ·subst e
   exact .turned .ghost root hg (by rw[hat,if_pos rfl]) trivial (fun M=>by rw[putF_self];exact hr M)
  ·by_cases e2:j∈ks
   ·exact .gone (by rw[hat,if_neg e,if_pos e2]) (by rw[putF_ne _ _ e];simp[kilF,e2])
   ·refine .same (by rw[hat,if_neg e,if_neg e2]) (by rw[putF_ne _ _ e];simp[kilF,e2]) (fun b h1 h2=> ?_)
    have:=sumL_out Fs b S.nx hks hk hj e2
    have:=h.mem.one b
    omega
 ·intro j hj
  refine .inl ⟨by rw[hat,if_neg (by omega)];split;rfl;exact h.mem.fresh j hj,?_⟩
  rw[putF_ne _ _ (by omega)]
  by_cases e2:j∈ks
  ·simp[kilF,e2]
  ·simp[kilF,e2];exact h.mem.dead j (h.mem.fresh j hj)
 ·intro b
  have h1:=hsum b
  have h2:=hF b
  have h3:=h.mem.one b
  have h4:=sumL_le Fs b S.nx hks hk
  split at h2
  ·rename_i hb
   have: ¬1<=sumTo S.nx Fs b:=fun h'=>by have:=hnew b h';omega
   omega
  ·omega
 ·intro b hb
  have h1:=hsum b
  have h2:=hF b
  have h4:=sumL_le Fs b S.nx hks hk
  split at h2
  ·rename_i hb;exact .inr hb
  ·left;omega
def ghosts (hp:Nat->Option Root) (m N:Nat):Nat->Option Root:=fun j=>match hp j with
 |some r=>some r
 |none=>bif Nat.ble m j&&Nat.blt j N then some .ghost else none
theorem SRel.reserve {C:Cx} {S:St} {a:Act} {w:World} {ρ:Place} {Fs:Nat->FP} (h:SRel C S a w ρ Fs) {N:Nat} (hN:S.nx<=N):SRel C ⟨S.sl,ghosts S.hp S.nx N,N⟩ a w ρ Fs:=by
 have hsum: ∀b,sumTo N Fs b=sumTo S.nx Fs b:=fun b=>sumTo_more b hN fun j h1 _=>by rw[h.mem.dead j (h.mem.fresh j h1)];rfl
 refine h.gen _ _ w ρ _ (fun _=>False) (Nat.le_refl _) rfl rfl rfl (fun _ _ _=>rfl) (fun _ h=>h.elim) hN (fun _ _ _=>rfl) (fun j hj=> .same ?_ rfl (fun _ _ h=>h)) (fun j hj=> ?_) (fun b=>by rw[hsum];exact h.mem.one b) (fun b hb=> .inl (by rw[hsum] at hb;exact hb))
 ·have:Nat.ble S.nx j=false:=Bool.eq_false_iff.2 (fun h'=>by have:=Nat.le_of_ble_eq_true h';omega)
  simp only[ghosts,this,Bool.false_and,cond_false]
  cases S.hp j<;>rfl
 ·have hd:=h.mem.fresh j hj
  by_cases e:j<N
  ·refine .inr ⟨e,.ghost,?_,fun _=>h.mem.dead j hd⟩
   have h1:Nat.ble S.nx j=true:=Nat.ble_eq_true_of_le hj
   have h2:Nat.blt j N=true:=by simp[Nat.blt_eq];exact e
   simp only[ghosts,hd,h1,h2];rfl
  ·refine .inl ⟨?_,h.mem.dead j hd⟩
   have h2:Nat.blt j N=false:=Bool.eq_false_iff.2 (fun h3=>by have:=Nat.le_of_ble_eq_true h3;omega)
   simp only[ghosts,hd,h2,Bool.and_false];rfl
theorem SRel.unghost {C:Cx} {S:St} {a:Act} {w:World} {ρ:Place} {Fs:Nat->FP} (h:SRel C S a w ρ Fs) (hp':Nat->Option Root) (hh: ∀j,hp' j=S.hp j\/(S.hp j=some .ghost/\hp' j=none)):SRel C ⟨S.sl,hp',S.nx⟩ a w ρ Fs:=by
 refine h.gen _ _ w ρ _ (fun _=>False) (Nat.le_refl _) rfl rfl rfl (fun _ _ _=>rfl) (fun _ h=>h.elim) (Nat.le_refl _) (fun _ _ _=>rfl) (fun j hj=> ?_) (fun j hj=> ?_) h.mem.one (fun b hb=> .inl hb)
 ·rcases hh j with e| ⟨e1,e2⟩
  ·exact .same e rfl (fun _ _ h=>h)
  ·exact .gone e2 (h.mem.roots j _ e1)
 ·have hd:=h.mem.fresh j hj
  rcases hh j with e| ⟨e1,e2⟩
  ·exact .inl ⟨by rw[e];exact hd,h.mem.dead j hd⟩
  ·rw[hd] at e1;cases e1
end Go.Proofs.YtbmmhdmljajcfaaGreatDoor.V
namespace Go.Proofs.YtbmmhdmljajcfaaGreatDoor.V
open Go
section
variable {P:Program} {w:World}
theorem run_typeInfo' {t:TypeId} {i:TypeInfo} (h:P.info? t=some i):(typeInfo t).run P w= .ok i w:=by
 simp[typeInfo,program,h,go_sem,Sem.run,Bind.bind,Sem.bind,Pure.pure]
theorem run_sizeOf' {t:TypeId} {i:TypeInfo} (h:P.info? t=some i):(sizeOf t).run P w= .ok i.size w:=by
 unfold sizeOf
 rw[run_then (run_typeInfo' h)]
 rfl
def aggD:TypeDesc->Bool
 | .struct _=>true
 | .array _ _=>true
 |_=>false
theorem run_isAgg' {t:TypeId} {d:TypeDesc} (h:P.underlying t=some d):(isAgg t).run P w= .ok (aggD d) w:=by
 unfold isAgg
 rw[run_then (run_underlying h w)]
 cases d<;>rfl
theorem run_indexAt_sl {t e:TypeId} {i:TypeInfo} (h:P.underlying t=some (.slice e)) (hi:P.info? e=some i) (a:Addr) (len cap:Nat) (k:IntKind) (n:Int) (h0:0<=n) (h1:n<len):
 (Instr.indexAt t (.slice (some a) len cap) (.int k n)).run P w= .ok (.pointer (some (a.add (n.toNat*i.size)))) w:=by
 have he:P.elem t=e:=by simp[Program.elem,h]
 have e1:=run_indexAt_slice (P:=P) w t a len cap k n (by rw[he];exact h)
 rw[e1,if_pos ⟨h0,h1⟩,he,run_sizeOf' hi]
 rfl
theorem run_indexAt_arr {t e:TypeId} {i:TypeInfo} {m:Nat} (h:P.underlying t=some (.array m e)) (hi:P.info? e=some i) (a:Addr) (k:IntKind) (n:Int) (h0:0<=n) (h1:n<m):
 (Instr.indexAt t (.pointer (some a)) (.int k n)).run P w= .ok (.pointer (some (a.add (n.toNat*i.size)))) w:=by
 have he:P.elem t=e:=by simp[Program.elem,h]
 have hm:P.arrayLen t=m:=by simp[Program.arrayLen,h]
 have e1:=run_indexAt_array (P:=P) w t a k n (by rw[he,hm];exact h)
 rw[e1,hm,if_pos ⟨h0,h1⟩,he,run_sizeOf' hi]
 rfl
theorem run_fieldAt' {t:TypeId} {fs:Array Field} {f:Field} {j:Nat} {i:TypeInfo} (h:P.underlying t=some (.struct fs)) (hf:fs[j]? =some f) (hi:P.info? f.type=some i) (h0:i.size≠0) (a:Addr):
 (Instr.fieldAt t (.pointer (some a)) j).run P w= .ok (.pointer (some (a.add f.offset))) w:=by
 unfold Instr.fieldAt
 rw[run_then (run_underlying h w)]
 simp only[hf]
 rw[run_then (x:=a) (w':=w) rfl]
 rw[run_then (x:=a.add f.offset) (w':=w) (by
  unfold fieldPlace
  rw[run_then (run_sizeOf' hi)]
  simp only[h0,if_false]
  rfl)]
 rfl
theorem run_loadVar_one {t:TypeId} {d:TypeDesc} (h:P.underlying t=some d) (hd:aggD d=false) {a:Addr} {v:Value} (hc:w.cell? a=some v):
 (Instr.loadAt t (.pointer (some a))).run P w= .ok v w:=by
 unfold Instr.loadAt
 rw[run_then (x:=a) (w':=w) rfl]
 unfold loadVar
 rw[run_then (run_isAgg' h),hd]
 simp[load,Sem.run,hc]
theorem run_loadVar_agg {t:TypeId} {fs:Array Field} {i:TypeInfo} (h:P.underlying t=some (.struct fs)) (hi:P.info? t=some i) {a:Addr} {vs:List Value} (hl:vs.length=i.size) (hc: ∀j v,vs[j]? =some v->w.cell? (a.add j)=some v):
 (Instr.loadAt t (.pointer (some a))).run P w= .ok (.agg vs.toArray) w:=by
 unfold Instr.loadAt
 rw[run_then (x:=a) (w':=w) rfl]
 unfold loadVar
 rw[run_then (run_isAgg' h)]
 simp only[aggD,if_true]
 rw[run_then (run_sizeOf' hi),<- hl,run_then (run_loadCells_list w a vs hc)]
 rfl
theorem run_sliceBound' (k:IntKind) (i:Int) (y:Nat) (code:BoundsCode) (h0:0<=i) (h1:i<=y):(Instr.sliceBound (.int k i) y code).run P w= .ok i.toNat w:=by
 unfold Instr.sliceBound
 rw[run_then (x:=(k,i)) (w':=w) rfl]
 simp only[h0,h1,and_self,if_true]
 rfl
def boundOf (o:Option Value) (d:Nat) (n:Nat):Prop:=match o with
 |none=>n=d
 |some v=> ∃(k:IntKind) (i:Int),v= .int k i/\0<=i/\n=i.toNat
theorem run_sliceBounds' (b:Bool) (len cap:Nat) (lo hi:Option Value) (l h:Nat) (hlo:boundOf lo 0 l) (hhi:boundOf hi len h) (h1:l<=h) (h2:h<=cap):(Instr.sliceBounds b len cap lo hi none).run P w= .ok (l,h,cap) w:=by
 cases hi with
 |none=>
  cases hhi
  cases lo with
  |none=>cases hlo;rfl
  |some v=>
   obtain ⟨k,i,rfl,h0,rfl⟩:=hlo
   unfold Instr.sliceBounds
   show Sem.run P (do let l <- Instr.sliceBound (.int k i) len _;pure (l,len,cap)) w=_
   rw[run_then (run_sliceBound' k i len _ h0 (by omega))]
   rfl
 |some u=>
  obtain ⟨k',i',rfl,h0',rfl⟩:=hhi
  cases lo with
  |none=>
   cases hlo
   unfold Instr.sliceBounds
   show Sem.run P (do let h <- Instr.sliceBound (.int k' i') cap _;pure (0,h,cap)) w=_
   rw[run_then (run_sliceBound' k' i' cap _ h0' (by omega))]
   rfl
  |some v=>
   obtain ⟨k,i,rfl,h0,rfl⟩:=hlo
   unfold Instr.sliceBounds
   show Sem.run P (do let h <- Instr.sliceBound (.int k' i') cap _;let l <- Instr.sliceBound (.int k i) h _;pure (l,h,cap)) w=_
   rw[run_then (run_sliceBound' k' i' cap _ h0' (by omega)),run_then (run_sliceBound' k i _ _ h0 (by omega))]
   rfl
theorem run_slice_sl {t e:TypeId} {i:TypeInfo} (h:P.underlying t=some (.slice e)) (hi:P.info? e=some i) (a:Option Addr) (len cap:Nat) (lo hig:Option Value) (l hh:Nat) (hlo:boundOf lo 0 l) (hhi:boundOf hig len hh) (h1:l<=hh) (h2:hh<=cap):
 (Instr.sliceAt t (.slice a len cap) lo hig none).run P w= .ok (.slice (if cap=l then a else a.map (·.add (l*i.size))) (hh-l) (cap-l)) w:=by
 unfold Instr.sliceAt
 rw[run_then (run_underlying h w)]
 show (Instr.slice t (.slice a len cap) lo hig none).run P w=_
 unfold Instr.slice
 rw[run_then (run_underlying h w)]
 simp only[]
 rw[run_then (run_sliceBounds' true len cap lo hig l hh hlo hhi h1 h2)]
 rw[run_then (run_sizeOf' hi)]
 rfl
theorem run_slice_str {t:TypeId} (h:P.underlying t=some .string) (s:ByteArray) (lo hig:Option Value) (l hh:Nat) (hlo:boundOf lo 0 l) (hhi:boundOf hig s.size hh) (h1:l<=hh) (h2:hh<=s.size):
 (Instr.sliceAt t (.string s) lo hig none).run P w= .ok (.string (s.extract l hh)) w:=by
 unfold Instr.sliceAt
 rw[run_then (run_underlying h w)]
 show (Instr.slice t (.string s) lo hig none).run P w=_
 unfold Instr.slice
 rw[run_then (run_underlying h w)]
 simp only[Option.isSome_none,Bool.false_eq_true,if_false]
 rw[run_then (run_sliceBounds' false s.size s.size lo hig l hh hlo hhi h1 h2)]
 rfl
theorem run_index_str {t:TypeId} (h:P.underlying t=some .string) (s:ByteArray) (k:IntKind) (n:Int) (h0:0<=n) (h1:n<s.size):(Instr.index t (.string s) (.int k n)).run P w= .ok (.int .u8 (sb s n.toNat)) w:=by
 unfold Instr.index
 rw[run_then (x:=(k,n)) (w':=w) rfl]
 rw[run_then (run_underlying h w)]
 have hl:n.toNat<s.size:=by omega
 have e:s[n.toNat]? =some s[n.toNat]:=by simp[getElem?_pos,hl]
 simp only[h0,if_true,e]
 have e2:s.data[n.toNat]? =some s[n.toNat]:=by
  have:n.toNat<s.data.size:=hl
  rw[Array.getElem?_eq_getElem this];rfl
 show Result.ok _ _=_
 simp[sb,e2]
end
end Go.Proofs.YtbmmhdmljajcfaaGreatDoor.V
namespace Go.Proofs.YtbmmhdmljajcfaaGreatDoor.V
open Go
section
variable {P:Program} {tt:TT} {C:Cx} {S:St} {a:Act} {w:World} {ρ:Place} {Fs:Nat->FP} {n:Nat}
theorem rd_l (h:SRel C S a w ρ Fs) {x:Operand} {v:LV} (e:St.rd C.N S.sl x= .one (.l v)):LVRel (C.env w ρ S.hp S.nx Fs) v (a.eval x):=by
 have:=h.rd x
 rw[e] at this
 exact this
theorem asI_some {R:Type} {x:AV} {K:Int->Option R} {r:R} (h:asI x K=some r): ∃k n,x= .one (.l (.i k n))/\K n=some r:=by
 unfold asI at h
 split at h
 ·exact ⟨_,_,rfl,h⟩
 ·cases h
theorem and_bool {p q:Bool} (h:(p&&q)=true):p=true/\q=true:=by simpa using h
theorem bif_some {R:Type} {b:Bool} {x:Option R} {r:R} (h:(bif b then x else none)=some r):b=true/\x=some r:=by
 cases b
 ·cases h
 ·exact ⟨rfl,h⟩
theorem slice_facts (T:TOK P tt) {t e:Nat} (h:elemTy tt t=some e):P.underlying t=some (.slice e):=by
 unfold elemTy at h
 split at h
 ·rename_i q1 q2 q3 hq
  cases h
  exact (T t _ hq).desc
 ·cases h
theorem elSize_facts (T:TOK P tt) {t n:Nat} (h:elSize tt t=n) (hn:0<n): ∃e i,P.underlying t=some (.slice e)/\P.info? e=some i/\i.size=n:=by
 unfold elSize at h
 split at h
 ·rename_i e q2 q3 hq
  have hd:=(T t _ hq).desc
  unfold sizeOf' at h
  split at h
  ·rename_i te hte
   obtain ⟨i,h1,h2,_⟩:=(T e te hte).info
   exact ⟨e,i,hd,h1,by omega⟩
  ·omega
 ·omega
theorem row_pos {hp:Nat->Option Root} {id:Nat} {r:Row} (h:rowAt? hp id=some r): ∃root,hp id=some root/\root.row? =some r:=by
 unfold rowAt? at h
 split at h
 ·rename_i e v r' hq;cases h;exact ⟨_,hq,rfl⟩
 ·rename_i e v r' i f hq;cases h;exact ⟨_,hq,rfl⟩
 ·cases h
theorem rows_place (m:MRel C S.hp S.nx w ρ Fs) {id:Nat} {root:Root} {r:Row} (h:S.hp id=some root) (hr:root.row? =some r) (hl:0<r.len): ∃b cap,ρ id=some (b,cap)/\r.len<=cap:=by
 have:=m.roots id root h
 cases root with
 |row e v r'=>
  cases hr
  rcases this with ⟨_,k,_⟩| ⟨b,cap,arr,ty,F',k1,k2,k3,_⟩
  ·omega
  ·exact ⟨b,cap,k1,k3⟩
 |hole e v r' i f=>
  cases hr
  rcases this.2.2 with ⟨_,k,_⟩| ⟨b,cap,arr,ty,F',k1,k2,k3,_⟩
  ·omega
  ·exact ⟨b,cap,k1,k3⟩
 |box t c=>cases hr
 |ghost=>cases hr
theorem inner_len {hp:Nat->Option Root} {id ver i f n:Nat} {rl rc:List Nat} (h:lenOf hp (.inner id ver i f)=some (n,rl,rc)): ∃root e r,hp id=some root/\root= .row e ver r/\n=(innerOf r i f).length:=by
 simp only[lenOf] at h
 cases hq:hp id with
 |none=>rw[hq] at h;cases h
 |some root=>
  rw[hq] at h
  cases root with
  |hole e v r i' f'=>cases h
  |box t c=>cases h
  |ghost=>cases h
  |row e v r=>
   cases r with
   |ints k l=>cases h
   |bools l=>cases h
   |strs l=>cases h
   |rows o l=>
    obtain ⟨h1,h2⟩:=bif_some h
    have:=eq_of_beq h1
    subst this
    cases h2
    exact ⟨_,e,_,rfl,rfl,rfl⟩
   |recs sg o l=>
    obtain ⟨h1,h2⟩:=bif_some h
    have:=eq_of_beq h1
    subst this
    cases h2
    exact ⟨_,e,_,rfl,rfl,rfl⟩
theorem inner_cell {r:Row} {i f:Nat} (hd:r.slAt f=true) (hi:i<r.len): ∃o,r.cells[i*r.size+f]? =some (.sl o (innerOf r i f)):=by
 cases r with
 |ints k l=>cases hd
 |bools l=>cases hd
 |strs l=>cases hd
 |rows o l=>
  simp[Row.slAt] at hd
  subst hd
  simp[Row.len] at hi
  exact ⟨o,by simp[Row.cells,Row.size,innerOf,hi]⟩
 |recs sg o l=>
  have hf:=slAt_lt hd
  simp only[Row.size] at hf ⊢
  simp only[Row.len] at hi
  rw[recs_get sg o l i f hf]
  have e1:l[i]? =some l[i]:=List.getElem?_eq_getElem hi
  have e2:sg[f]? =some true:=by
   simp only[Row.slAt] at hd
   cases e:sg[f]? with
   |none=>rw[e] at hd;cases hd
   |some b=>rw[e] at hd;simp at hd;rw[hd]
  rw[e1,e2]
  exact ⟨o,by simp[innerOf,hi]⟩
theorem row_cell (m:MRel C S.hp S.nx w ρ Fs) {id e ver:Nat} {r:Row} {j:Nat} {c:Cell} (h:S.hp id=some (.row e ver r)) (hc:r.cells[j]? =some c): ∃v F1 b cap,ρ id=some (b,cap)/\w.cell? ⟨b,j,none⟩=some v/\CellRel w (C.ZL w (sumTo S.nx Fs)) c v F1/\ ∀b,F1 b<=Fs id b:=by
 rcases m.roots id _ h with ⟨_,k,_⟩| ⟨b,cap,arr,ty,F',k1,k2,k3,k4,k5,k6⟩
 ·have hl:=r.cells_length
  have:=(List.getElem?_eq_some_iff.1 hc).1
  rw[hl,k] at this
  simp at this
 ·obtain ⟨v,F1,F2,g1,g2,g3,_⟩:=k5.get hc
  refine ⟨v,F1,b,cap,k1,?_,g2,fun x=>by rw[k6,g3];simp;omega⟩
  have:=cell?_plain k2 j
  simp only[Cx.env] at this
  rw[this]
  simpa using g1
theorem szOK_facts (T:TOK P tt) {t:Nat} {r:Row} (h:szOK tt t r=true): ∃e i,P.underlying t=some (.slice e)/\P.info? e=some i/\i.size=r.size:=by
 obtain ⟨h1,h2⟩:=and_bool h
 exact elSize_facts T (eq_of_beq h1) (by simpa[Nat.blt_eq] using h2)
theorem elSize_pos (T:TOK P tt) {t n:Nat} (h:(elSize tt t==n)=true) (hn:0<n): ∃e i,P.underlying t=some (.slice e)/\P.info? e=some i/\i.size=n:=elSize_facts T (eq_of_beq h) hn
theorem inner_hdr (m:MRel C S.hp S.nx w ρ Fs) {id ver i f e:Nat} {r:Row} {v:Value} (h:S.hp id=some (.row e ver r)) (hd:r.slAt f=true) (hi:i<r.len) (hc:cellAt (C.env w ρ S.hp S.nx Fs).w ((C.env w ρ S.hp S.nx Fs).ρ id) (i*r.size+f)=some v): ∃F1 o,CellRel w (C.ZL w (sumTo S.nx Fs)) (.sl o (innerOf r i f)) v F1/\ ∀b,F1 b<=Fs id b:=by
 obtain ⟨o,ho⟩:=inner_cell hd hi
 obtain ⟨v',F1,b,cap,h1,h2,h3,h4⟩:=row_cell m h ho
 simp only[Cx.env,h1,cellAt] at hc
 rw[h2] at hc
 cases hc
 exact ⟨F1,o,h3,h4⟩
theorem sl_hdr {w:World} {Z:Zs} {o:Bool} {l:List Int} {v:Value} {F:FP} (h:CellRel w Z (.sl o l) v F): ∃A cap,v= .slice A l.length cap/\(0<l.length-> ∃ad,A=some ad/\IntsAt w ad l):=by
 cases o with
 |false=>
  obtain ⟨_,A,cap,hv,_,hl⟩:=h
  refine ⟨A,cap,hv,fun hn=> ?_⟩
  obtain ⟨ad,e,_,hi⟩:=hl (by intro hh;subst hh;simp at hn)
  exact ⟨ad,e,hi⟩
 |true=>
  rcases h with ⟨h1,h2,_⟩| ⟨b,cap,arr,ty,hv,hb,h1,h2,h3,_⟩
  ·subst h2;exact ⟨none,0,h1,fun hn=>by simp at hn⟩
  ·refine ⟨_,cap,hv,fun _=>⟨_,rfl,fun j n hj=> ?_⟩⟩
   rw[plain_add,Nat.zero_add,cell?_plain hb]
   exact h3 j n hj
theorem evIndexAddr_sound (T:TOK P tt) (h:SRel C S a w ρ Fs) {o:Oper} {t:Nat} {x ix:Operand} (ho:o.op= .indexAddr t x ix) {E:Eff} (he:evIndexAddr (R:=Eff) tt S.hp n t (St.rd C.N S.sl x) (St.rd C.N S.sl ix) some=some E): ∃u,Out P C S o E a w w ρ Fs u:=by
 unfold evIndexAddr at he
 obtain ⟨k,n,hix,he⟩:=asI_some he
 have hiv:a.eval ix= .int k n:=rd_l h hix
 have fin: ∀u,(Instr.indexAt t (a.eval x) (a.eval ix)).run P w= .ok u w->(execOp a.eval o).run P w= .ok (.value u) w:=fun u hu=>by
  simp only[execOp,ho];exact run_v hu
 split at he
 ·rename_i id hx
  have hxv:=rd_l h hx
  split at he
  ·rename_i r hr
   obtain ⟨root,hroot,hrow⟩:=row_pos hr
   obtain ⟨hs,he⟩:=bif_some he
   obtain ⟨hc,he⟩:=chk_some he
   obtain ⟨h0,h1⟩:=and_bool hc
   have h0:=of_decide_eq_true h0
   have h1:=of_decide_eq_true h1
   cases he
   obtain ⟨hlt,hx2⟩:=hxv
   obtain ⟨r',e1,hv⟩:=hx2 root hroot
   rw[hrow] at e1;cases e1
   obtain ⟨b,cap,hρ,hcap⟩:=rows_place h.mem hroot hrow (by omega)
   simp only[Cx.env] at hv
   rw[hρ] at hv
   obtain ⟨e,i,g1,g2,g3⟩:=szOK_facts T hs
   refine ⟨_,Out.pure h rfl (fin _ (by rw[hv,hiv];exact run_indexAt_sl g1 g2 _ _ _ _ _ h0 h1)) ⟨hlt,fun root' hr'=> ?_⟩⟩
   simp only[Cx.env] at hr' ⊢
   rw[hroot] at hr';cases hr'
   exact ⟨r,hrow,by omega,b,cap,hρ,by rw[plain_add,g3];simp⟩
  ·cases he
 ·rename_i id lo hi hx
  have hxv:=rd_l h hx
  split at he
  ·rename_i r hr
   obtain ⟨root,hroot,hrow⟩:=row_pos hr
   obtain ⟨hs,he⟩:=bif_some he
   obtain ⟨hc,he⟩:=chk_some he
   obtain ⟨h0,h1⟩:=and_bool hc
   have h0:=of_decide_eq_true h0
   have h1:=of_decide_eq_true h1
   cases he
   obtain ⟨hlt,hx2⟩:=hxv
   obtain ⟨r',e1,g4,g5,hv⟩:=hx2 root hroot
   rw[hrow] at e1;cases e1
   obtain ⟨b,cap,hρ,hcap⟩:=rows_place h.mem hroot hrow (by omega)
   simp only[Cx.env] at hv
   rw[hρ] at hv
   simp only[subHdr] at hv
   rw[if_neg (by omega)] at hv
   obtain ⟨e,i,g1,g2,g3⟩:=szOK_facts T hs
   refine ⟨_,Out.pure h rfl (fin _ (by rw[hv,hiv];exact run_indexAt_sl g1 g2 _ _ _ _ _ h0 h1)) ⟨hlt,fun root' hr'=> ?_⟩⟩
   simp only[Cx.env] at hr' ⊢
   rw[hroot] at hr';cases hr'
   exact ⟨r,hrow,by omega,b,cap,hρ,by rw[plain_add,g3];simp[Nat.add_mul]⟩
  ·cases he
 ·rename_i p r hx
  obtain ⟨A,cap,hv,hlc,hl⟩:=rd_l h hx
  obtain ⟨hs,he⟩:=bif_some he
  obtain ⟨hc,he⟩:=chk_some he
  obtain ⟨h0,h1⟩:=and_bool hc
  have h0:=of_decide_eq_true h0
  have h1:=of_decide_eq_true h1
  cases he
  obtain ⟨ad,rfl,hfz⟩:=hl (by omega)
  obtain ⟨e,i,g1,g2,g3⟩:=szOK_facts T hs
  refine ⟨_,Out.pure h rfl (fin _ (by rw[hv,hiv];exact run_indexAt_sl g1 g2 _ _ _ _ _ h0 h1)) ⟨by omega,ad,by rw[g3];simp,hfz⟩⟩
 ·rename_i id ver e f hx
  have hxv:=rd_l h hx
  split at he
  ·rename_i n' rl rc hr
   obtain ⟨hs,he⟩:=bif_some he
   obtain ⟨hc,he⟩:=chk_some he
   obtain ⟨h0,h1⟩:=and_bool hc
   have h0:=of_decide_eq_true h0
   have h1:=of_decide_eq_true h1
   cases he
   obtain ⟨root,e0,r,hroot,hroot2,hn'⟩:=inner_len hr
   obtain ⟨hlt,hx2⟩:=hxv
   subst hroot2
   obtain ⟨_,hver,hx3⟩:=hx2 _ hroot
   obtain ⟨k1,k2,k4⟩:=hx3 e0 r rfl
   obtain ⟨F1,ow,hcell,_⟩:=inner_hdr h.mem hroot k1 k2 k4
   obtain ⟨A,cap,hv,hA⟩:=sl_hdr hcell
   obtain ⟨A,rfl,hints⟩:=hA (by omega)
   obtain ⟨e',i,g1,g2,g3⟩:=elSize_pos T hs (by omega)
   refine ⟨_,Out.pure h rfl (fin _ (by rw[hv,hiv];exact run_indexAt_sl g1 g2 _ _ _ _ _ h0 (by omega))) ⟨hlt,fun root' hr'=> ?_⟩⟩
   simp only[Cx.env] at hr' ⊢
   rw[hroot] at hr';cases hr'
   refine ⟨trivial,hver,fun e1 r1 h1'=> ?_⟩
   cases h1'
   exact ⟨k1,k2,by omega,A,_,cap,by rw[<- hv];exact k4,by rw[g3];simp⟩
  ·cases he
 ·rename_i id m hx
  have hxv:=rd_l h hx
  split at he
  ·rename_i m' e' q1 q2 r hq hr
   obtain ⟨root,hroot,hrow⟩:=row_pos hr
   obtain ⟨hs,he⟩:=bif_some he
   obtain ⟨hc,he⟩:=chk_some he
   obtain ⟨h0,h1⟩:=and_bool hc
   have h0:=of_decide_eq_true h0
   have h1:=of_decide_eq_true h1
   cases he
   obtain ⟨hlt,hx2⟩:=hxv
   obtain ⟨r',e1,hlen,b,cap,hρ,hv⟩:=hx2 root hroot
   rw[hrow] at e1;cases e1
   simp only[Bool.and_eq_true,beq_iff_eq] at hs
   obtain ⟨⟨hs1,hs2⟩,hs3⟩:=hs
   have hs3:0<r.size:=by simpa[Nat.blt_eq] using hs3
   subst hs1
   have hd:=(T t _ hq).desc
   have hsz:sizeOf' tt e' ≠0:=by rw[hs2];omega
   unfold sizeOf' at hs2 hsz
   split at hs2
   ·rename_i te hte
    obtain ⟨i,g2,g3,_⟩:=(T e' te hte).info
    refine ⟨_,Out.pure h rfl (fin _ (by rw[hv,hiv];exact run_indexAt_arr hd g2 _ _ _ h0 h1)) ⟨hlt,fun root' hr'=> ?_⟩⟩
    simp only[Cx.env] at hr' ⊢
    rw[hroot] at hr';cases hr'
    exact ⟨r,hrow,by omega,b,cap,hρ,by rw[plain_add,g3,hs2];simp⟩
   ·rename_i hn;rw[hn] at hsz;exact absurd rfl hsz
  ·cases he
 ·cases he
theorem struct_facts (T:TOK P tt) {t sz bs:Nat} {fs:List (Nat×Nat)} (h:tt t=some ⟨.struct fs,sz,bs⟩) {f off ft:Nat} (hf:fs[f]? =some (off,ft)): ∃(fields:Array Field) (fd:Field) (i:TypeInfo),P.underlying t=some (.struct fields)/\fields[f]? =some fd/\fd.offset=off/\fd.type=ft/\P.info? ft=some i/\i.size≠0:=by
 obtain ⟨fields,h1,h2,h3⟩:=(T t _ h).desc
 have:(fields.toList.map (fun f=>(f.offset,f.type)))[f]? =some (off,ft):=by rw[h2];exact hf
 rw[List.getElem?_map] at this
 cases e:fields.toList[f]? with
 |none=>rw[e] at this;cases this
 |some fd=>
  rw[e] at this
  simp at this
  obtain ⟨g1,g2⟩:=this
  obtain ⟨i,g3,g4⟩:=h3 fd (List.mem_of_getElem? e)
  exact ⟨fields,fd,i,h1,by simpa using e,g1,g2,by rw[<- g2];exact g3,g4⟩
theorem evFieldAddr_sound (T:TOK P tt) (h:SRel C S a w ρ Fs) {o:Oper} {t f:Nat} {x:Operand} (ho:o.op= .fieldAddr t x f) {E:Eff} (he:evFieldAddr (R:=Eff) tt S.hp n t (St.rd C.N S.sl x) f some=some E): ∃u,Out P C S o E a w w ρ Fs u:=by
 unfold evFieldAddr at he
 split at he
 ·rename_i fs sz bs hq
  split at he
  ·rename_i off ft hf
   obtain ⟨fields,fd,i,g1,g2,g3,g4,g5,g6⟩:=struct_facts T hq hf
   have fin: ∀ad:Addr,a.eval x= .pointer (some ad)->(execOp a.eval o).run P w= .ok (.value (.pointer (some (ad.add off)))) w:=fun ad hx=>by
    simp only[execOp,ho,hx]
    have:=run_fieldAt' (P:=P) (w:=w) g1 g2 (by rw[g4];exact g5) g6 ad
    rw[g3] at this
    exact run_v this
   split at he
   ·rename_i id k hx
    cases he
    obtain ⟨h1,hre,b,cap,h2,hv⟩:=rd_l h hx
    exact ⟨_,Out.pure h rfl (fin _ hv) ⟨h1,hre,b,cap,h2,by rw[plain_add]⟩⟩
   ·rename_i id k g hx
    split at he
    ·rename_i r hr
     cases he
     obtain ⟨root,hroot,hrow⟩:=row_pos hr
     obtain ⟨h1,h2⟩:=rd_l h hx
     obtain ⟨r',e1,hlen,b,cap,hρ,hv⟩:=h2 root hroot
     rw[hrow] at e1;cases e1
     refine ⟨_,Out.pure h rfl (fin _ hv) ⟨h1,fun root' hr'=> ?_⟩⟩
     simp only[Cx.env] at hr' ⊢
     rw[hroot] at hr';cases hr'
     exact ⟨r,hrow,hlen,b,cap,hρ,by rw[plain_add,Nat.add_assoc]⟩
    ·cases he
   ·rename_i p r k g hx
    cases he
    obtain ⟨h1,ad,hv,h3⟩:=rd_l h hx
    exact ⟨_,Out.pure h rfl (fin _ hv) ⟨h1,ad,by rw[add_add,Nat.add_assoc],h3⟩⟩
   ·cases he
  ·cases he
 ·cases he
theorem optI_some {R:Type} {x:Option AV} {d:Int} {K:Int->Option R} {r:R} (h:optI x d K=some r):(x=none/\K d=some r)\/ ∃k n,x=some (.one (.l (.i k n)))/\K n=some r:=by
 unfold optI at h
 split at h
 ·exact .inl ⟨rfl,h⟩
 ·obtain ⟨k,n,e,h⟩:=asI_some h
  exact .inr ⟨k,n,by rw[e],h⟩
theorem bound_of (h:SRel C S a w ρ Fs) (lo:Option Operand) {d:Nat} {n:Int} (hn:(lo.map (St.rd C.N S.sl)=none/\n=d)\/ ∃k,lo.map (St.rd C.N S.sl)=some (.one (.l (.i k n)))) (h0:0<=n):boundOf (lo.map a.eval) d n.toNat:=by
 cases lo with
 |none=>
  rcases hn with ⟨_,rfl⟩| ⟨k,e⟩
  ·simp[boundOf]
  ·cases e
 |some x=>
  rcases hn with ⟨e,_⟩| ⟨k,e⟩
  ·cases e
  ·simp at e
   exact ⟨k,n,rd_l h e,h0,rfl⟩
theorem FrzAt_drop {w:World} {Z:Zs} {ad:Addr} {cs:List Cell} (h:FrzAt w Z ad cs) (n:Nat):FrzAt w Z (ad.add n) (cs.drop n):=by
 obtain ⟨h0,vs,h1,h2⟩:=h
 obtain ⟨F1,h3,h4⟩:=h2.drop n
 have e:F1=fz:=by funext b;have:=h4 b;simp at this;exact this
 subst e
 refine ⟨by rw[add_block];exact h0,vs.drop n,fun j hj=> ?_,h3⟩
 rw[add_add,List.getElem?_drop]
 exact h1 (n+j) (by simp at hj;omega)
theorem FrzAt_take {w:World} {Z:Zs} {ad:Addr} {cs:List Cell} (h:FrzAt w Z ad cs) (n:Nat):FrzAt w Z ad (cs.take n):=by
 obtain ⟨h0,vs,h1,h2⟩:=h
 obtain ⟨F1,h3,h4⟩:=h2.take n
 have e:F1=fz:=by funext b;have:=h4 b;simp at this;exact this
 subst e
 refine ⟨h0,vs.take n,fun j hj=> ?_,h3⟩
 simp at hj
 rw[List.getElem?_take,if_pos (by omega)]
 exact h1 j (by omega)
theorem FrzRow_cut {w:World} {Z:Zs} {r:Row} {A:Option Addr} {cap:Nat} (hlc:r.len<=cap) (h:r.len≠0-> ∃ad,A=some ad/\FrzAt w Z ad r.cells) (lo hi:Nat) (h1:lo<=hi) (h2:hi<=r.len):FrzRow w Z ((r.take hi).drop lo) (.slice (if cap=lo then A else A.map (·.add (lo*r.size))) (hi-lo) (cap-lo)):=by
 refine ⟨_,_,by rw[drop_len,take_len,Nat.min_eq_left h2],by rw[drop_len,take_len,Nat.min_eq_left h2];omega,fun hn=> ?_⟩
 rw[drop_len,take_len,Nat.min_eq_left h2] at hn
 obtain ⟨ad,rfl,hf⟩:=h (by omega)
 refine ⟨ad.add (lo*r.size),by rw[if_neg (by omega)];rfl,?_⟩
 rw[drop_cells,take_cells,take_size]
 exact FrzAt_drop (FrzAt_take hf _) _
theorem evSlice_sound (T:TOK P tt) (h:SRel C S a w ρ Fs) {o:Oper} {t:Nat} {x:Operand} {lo hi:Option Operand} (ho:o.op= .slice t x lo hi none) {E:Eff} (he:evSlice (R:=Eff) tt S.hp n t (St.rd C.N S.sl x) (lo.map (St.rd C.N S.sl)) (hi.map (St.rd C.N S.sl)) some=some E): ∃u,Out P C S o E a w w ρ Fs u:=by
 have fin: ∀u,(Instr.sliceAt t (a.eval x) (lo.map a.eval) (hi.map a.eval) none).run P w= .ok u w->(execOp a.eval o).run P w= .ok (.value u) w:=fun u hu=>by
  simp only[execOp,ho];exact run_v hu
 unfold evSlice at he
 split at he
 ·rename_i s hx
  split at he
  ·rename_i sz bs hq
   have hd:=(T t _ hq).desc
   have hv:a.eval x= .string s:=rd_l h hx
   have core: ∀hh:Int,((hi.map (St.rd C.N S.sl)=none/\hh=s.size)\/ ∃k,hi.map (St.rd C.N S.sl)=some (.one (.l (.i k hh))))->chk (decide (0<=hh)&&decide (hh<=s.size)) (optI (lo.map (St.rd C.N S.sl)) 0 fun l=>chk (decide (0<=l)&&decide (l<=hh)) (ret1 n (.l (.s (s.extract l.toNat hh.toNat))) some))=some E-> ∃u,Out P C S o E a w w ρ Fs u:=by
    intro hh hhi he
    obtain ⟨hc,he⟩:=chk_some he
    obtain ⟨c1,c2⟩:=and_bool hc
    have c1:=of_decide_eq_true c1
    have c2:=of_decide_eq_true c2
    have core2: ∀l:Int,((lo.map (St.rd C.N S.sl)=none/\l=(0:Nat))\/ ∃k,lo.map (St.rd C.N S.sl)=some (.one (.l (.i k l))))->chk (decide (0<=l)&&decide (l<=hh)) (ret1 n (.l (.s (s.extract l.toNat hh.toNat))) some)=some E-> ∃u,Out P C S o E a w w ρ Fs u:=by
     intro l hl he
     obtain ⟨hc,he⟩:=chk_some he
     obtain ⟨d1,d2⟩:=and_bool hc
     have d1:=of_decide_eq_true d1
     have d2:=of_decide_eq_true d2
     cases he
     refine ⟨_,Out.pure h rfl (fin _ (by rw[hv];exact run_slice_str hd s _ _ l.toNat hh.toNat (bound_of h lo hl d1) (bound_of h hi hhi c1) (by omega) (by omega))) rfl⟩
    rcases optI_some he with ⟨e,he⟩| ⟨k,l,e,he⟩
    ·exact core2 _ (.inl ⟨e,rfl⟩) he
    ·exact core2 _ (.inr ⟨k,e⟩) he
   rcases optI_some he with ⟨e,he⟩| ⟨k,l,e,he⟩
   ·exact core _ (.inl ⟨e,rfl⟩) he
   ·exact core _ (.inr ⟨k,e⟩) he
  ·cases he
 ·rename_i id hx
  split at he
  ·rename_i r hr
   obtain ⟨root,hroot,hrow⟩:=row_pos hr
   obtain ⟨hs,he⟩:=bif_some he
   obtain ⟨e,i,g1,g2,g3⟩:=szOK_facts T hs
   obtain ⟨hlt,hx2⟩:=rd_l h hx
   obtain ⟨r',e1,hv⟩:=hx2 root hroot
   rw[hrow] at e1;cases e1
   simp only[Cx.env] at hv
   have hplace: ∃A cap,hdr (ρ id) r.len= .slice A r.len cap/\r.len<=cap/\ ∀lo hi:Nat,lo<=hi->hi<=r.len->Value.slice (if cap=lo then A else A.map (·.add (lo*r.size))) (hi-lo) (cap-lo)=subHdr (ρ id) r.size lo hi:=by
    cases hρ:ρ id with
    |none=>
     have hl0:r.len=0:=by
      rcases Nat.eq_zero_or_pos r.len with k|k
      ·exact k
      ·obtain ⟨b,cap,k1,_⟩:=rows_place h.mem hroot hrow k
       rw[hρ] at k1;cases k1
     refine ⟨none,0,by simp[hdr,hl0],by omega,fun lo hi q1 q2=> ?_⟩
     have e1:lo=0:=by omega
     have e2:hi=0:=by omega
     subst e1;subst e2
     simp[subHdr]
    |some q=>
     obtain ⟨b,cap⟩:=q
     have hcap:r.len<=cap:=by
      rcases Nat.eq_zero_or_pos r.len with k|k
      ·omega
      ·obtain ⟨b',cap',k1,k2⟩:=rows_place h.mem hroot hrow k
       rw[hρ] at k1;cases k1;exact k2
     refine ⟨some ⟨b,0,none⟩,cap,rfl,hcap,fun lo hi q1 q2=> ?_⟩
     simp only[subHdr]
     by_cases e:cap=lo
     ·simp[e]
     ·simp[e,plain_add]
   obtain ⟨A,cap,hh1,hh2,hh3⟩:=hplace
   rw[hh1] at hv
   have core: ∀hq:Int,((hi.map (St.rd C.N S.sl)=none/\hq=r.len)\/ ∃k,hi.map (St.rd C.N S.sl)=some (.one (.l (.i k hq))))->chk (decide (0<=hq)&&decide (hq<=r.len)) (optI (lo.map (St.rd C.N S.sl)) 0 fun l=>chk (decide (0<=l)&&decide (l<=hq)) (some ⟨.l (.sub id l.toNat hq.toNat),[],n,[id],[]⟩))=some E-> ∃u,Out P C S o E a w w ρ Fs u:=by
    intro hq hhi he
    obtain ⟨hc,he⟩:=chk_some he
    obtain ⟨c1,c2⟩:=and_bool hc
    have c1:=of_decide_eq_true c1
    have c2:=of_decide_eq_true c2
    have core2: ∀l:Int,((lo.map (St.rd C.N S.sl)=none/\l=(0:Nat))\/ ∃k,lo.map (St.rd C.N S.sl)=some (.one (.l (.i k l))))->chk (decide (0<=l)&&decide (l<=hq)) (some (⟨.l (.sub id l.toNat hq.toNat),[],n,[id],[]⟩:Eff))=some E-> ∃u,Out P C S o E a w w ρ Fs u:=by
     intro l hl he
     obtain ⟨hc,he⟩:=chk_some he
     obtain ⟨d1,d2⟩:=and_bool hc
     have d1:=of_decide_eq_true d1
     have d2:=of_decide_eq_true d2
     cases he
     refine ⟨_,Out.pure h rfl (fin _ (by rw[hv];exact run_slice_sl g1 g2 A r.len cap _ _ l.toNat hq.toNat (bound_of h lo hl d1) (bound_of h hi hhi c1) (by omega) (by omega))) ⟨hlt,fun root' hr'=> ?_⟩⟩
     simp only[Cx.env] at hr' ⊢
     rw[hroot] at hr';cases hr'
     exact ⟨r,hrow,by omega,by omega,by rw[g3];exact hh3 _ _ (by omega) (by omega)⟩
    rcases optI_some he with ⟨e,he⟩| ⟨k,l,e,he⟩
    ·exact core2 _ (.inl ⟨e,rfl⟩) he
    ·exact core2 _ (.inr ⟨k,e⟩) he
   split at he
   ·rename_i e1 e2
    cases he
    have l0:boundOf (lo.map a.eval) 0 0:=by cases lo<;>first|rfl|cases e1
    have l1:boundOf (hi.map a.eval) r.len r.len:=by cases hi<;>first|rfl|cases e2
    refine ⟨_,Out.pure h rfl (fin _ (by rw[hv];exact run_slice_sl g1 g2 A r.len cap _ _ 0 r.len l0 l1 (by omega) hh2)) ⟨hlt,fun root' hr'=> ?_⟩⟩
    simp only[Cx.env] at hr' ⊢
    rw[hroot] at hr';cases hr'
    refine ⟨r,hrow,?_⟩
    rw[hh1]
    by_cases e:cap=0
    ·simp[e]
    ·cases A<;>simp[e,add_zero]
   ·rcases optI_some he with ⟨e,he⟩| ⟨k,l,e,he⟩
    ·exact core _ (.inl ⟨e,rfl⟩) he
    ·exact core _ (.inr ⟨k,e⟩) he
  ·cases he
 ·rename_i p r hx
  obtain ⟨hs,he⟩:=bif_some he
  obtain ⟨e,i,g1,g2,g3⟩:=szOK_facts T hs
  obtain ⟨A,cap,hv,hlc,hl⟩:=rd_l h hx
  have core: ∀l hq:Int,((lo.map (St.rd C.N S.sl)=none/\l=(0:Nat))\/ ∃k,lo.map (St.rd C.N S.sl)=some (.one (.l (.i k l))))->((hi.map (St.rd C.N S.sl)=none/\hq=r.len)\/ ∃k,hi.map (St.rd C.N S.sl)=some (.one (.l (.i k hq))))->0<=l->l<=hq->hq<=r.len-> ∃u,(execOp a.eval o).run P w= .ok (.value u) w/\FrzRow (C.env w ρ S.hp S.nx Fs).w (if p then (C.env w ρ S.hp S.nx Fs).Zf else (C.env w ρ S.hp S.nx Fs).ZL) ((r.take hq.toNat).drop l.toNat) u:=by
   intro l hq k1 k2 k3 k4 k5
   refine ⟨_,fin _ (by rw[hv];exact run_slice_sl g1 g2 A r.len cap _ _ l.toNat hq.toNat (bound_of h lo k1 k3) (bound_of h hi k2 (by omega)) (by omega) (by omega)),?_⟩
   rw[g3]
   exact FrzRow_cut hlc hl _ _ (by omega) (by omega)
  have t1:r.take r.len=r:=by cases r<;>simp[Row.take,Row.len]
  have t2: ∀r:Row,r.drop 0=r:=fun r=>by cases r<;>simp[Row.drop]
  split at he
  ·rename_i e1 e2
   cases he
   obtain ⟨u,k1,k2⟩:=core 0 r.len (.inl ⟨e1,rfl⟩) (.inl ⟨e2,rfl⟩) (by omega) (by omega) (by omega)
   refine ⟨u,Out.pure h rfl k1 ?_⟩
   have e3:(r.take ((r.len:Int)).toNat).drop (0:Int).toNat=r:=by simp[t1,t2]
   rw[e3] at k2
   exact k2
  ·rename_i hq e1 e2
   obtain ⟨k,n,e3,he⟩:=asI_some he
   obtain ⟨hc,he⟩:=chk_some he
   obtain ⟨c1,c2⟩:=and_bool hc
   have c1:=of_decide_eq_true c1
   have c2:=of_decide_eq_true c2
   cases he
   obtain ⟨u,k1,k2⟩:=core 0 n (.inl ⟨e1,rfl⟩) (.inr ⟨k,by rw[e2,e3]⟩) (by omega) (by omega) (by omega)
   refine ⟨u,Out.pure h rfl k1 ?_⟩
   have e3:(r.take n.toNat).drop (0:Int).toNat=r.take n.toNat:=by simp[t2]
   rw[e3] at k2
   exact k2
  ·rename_i lq e1 e2
   obtain ⟨k,n,e3,he⟩:=asI_some he
   obtain ⟨hc,he⟩:=chk_some he
   obtain ⟨c1,c2⟩:=and_bool hc
   have c1:=of_decide_eq_true c1
   have c2:=of_decide_eq_true c2
   cases he
   obtain ⟨u,k1,k2⟩:=core n r.len (.inr ⟨k,by rw[e1,e3]⟩) (.inl ⟨e2,rfl⟩) (by omega) (by omega) (by omega)
   refine ⟨u,Out.pure h rfl k1 ?_⟩
   have e3:(r.take ((r.len:Int)).toNat)=r:=by simp[t1]
   rw[e3] at k2
   exact k2
  ·rename_i lq hq e1 e2
   obtain ⟨k,n,e3,he⟩:=asI_some he
   obtain ⟨hc,he⟩:=chk_some he
   obtain ⟨c1,c2⟩:=and_bool hc
   have c1:=of_decide_eq_true c1
   have c2:=of_decide_eq_true c2
   obtain ⟨k',m,e4,he⟩:=asI_some he
   obtain ⟨hc,he⟩:=chk_some he
   obtain ⟨d1,d2⟩:=and_bool hc
   have d1:=of_decide_eq_true d1
   have d2:=of_decide_eq_true d2
   cases he
   obtain ⟨u,k1,k2⟩:=core m n (.inr ⟨k',by rw[e1,e4]⟩) (.inr ⟨k,by rw[e2,e3]⟩) (by omega) (by omega) (by omega)
   exact ⟨u,Out.pure h rfl k1 k2⟩
 ·cases he
end
end Go.Proofs.YtbmmhdmljajcfaaGreatDoor.V
namespace Go.Proofs.YtbmmhdmljajcfaaGreatDoor.V
open Go
section
variable {P:Program} {tt:TT} {C:Cx} {S:St} {a:Act} {w:World} {ρ:Place} {Fs:Nat->FP} {n:Nat}
theorem scalar_facts (T:TOK P tt) {t:Nat} (h:scalarTy tt t=true): ∃d,P.underlying t=some d/\aggD d=false:=by
 unfold scalarTy at h
 split at h
 all_goals first
  | (rename_i hq;have hd:=(T t _ hq).desc;first|exact ⟨_,hd,rfl⟩| (obtain ⟨ms,hd⟩:=hd;exact ⟨_,hd,rfl⟩))
  |cases h
theorem isStruct_facts (T:TOK P tt) {t:Nat} (h:isStruct tt t=true): ∃(fields:Array Field) (i:TypeInfo),P.underlying t=some (.struct fields)/\P.info? t=some i/\i.size=sizeOf' tt t:=by
 unfold isStruct at h
 split at h
 ·rename_i fs sz bs hq
  obtain ⟨fields,hd,_⟩:=(T t _ hq).desc
  obtain ⟨i,h1,h2,_⟩:=(T t _ hq).info
  exact ⟨fields,i,hd,h1,by rw[h2];simp[sizeOf',hq]⟩
 ·cases h
theorem LVsRel.get {E:Env}: ∀ {xs:List LV} {vs:List Value},LVsRel E xs vs-> ∀ {j:Nat} {x:LV},xs[j]? =some x-> ∃v,vs[j]? =some v/\LVRel E x v
 |x::xs,v::vs,h,0,y,hy=>by simp at hy;subst hy;exact ⟨v,rfl,h.1⟩
 |x::xs,v::vs,h,j+1,y,hy=>by simpa using LVsRel.get h.2 (j:=j) (by simpa using hy)
theorem LVsRel.length {E:Env}: ∀ {xs:List LV} {vs:List Value},LVsRel E xs vs->xs.length=vs.length
 | [],[],_=>rfl
 |x::xs,v::vs,h=>by simp[LVsRel.length h.2]
theorem LVsRel.take {E:Env}: ∀ {xs:List LV} {vs:List Value} (n:Nat),LVsRel E xs vs->LVsRel E (xs.take n) (vs.take n)
 | [],[],n,h=>by simp[LVsRel]
 |x::xs,v::vs,0,h=>by simp[LVsRel]
 |x::xs,v::vs,n+1,h=>⟨h.1,LVsRel.take n h.2⟩
theorem LVsRel.drop {E:Env}: ∀ {xs:List LV} {vs:List Value} (n:Nat),LVsRel E xs vs->LVsRel E (xs.drop n) (vs.drop n)
 | [],[],n,h=>by simp[LVsRel]
 |x::xs,v::vs,0,h=>h
 |x::xs,v::vs,n+1,h=>LVsRel.drop n h.2
theorem loadOwn_cell {E:Env} {id ver e i f:Nat} {r:Row} (hid:id<E.nx) (hroot:E.hp id=some (.row e ver r)) {b cap:Nat} (hρ:E.ρ id=some (b,cap)) (hi:i<r.len) (hf:f<r.size) {v:Value} {F:FP} {c:Cell} (hc:r.cells[i*r.size+f]? =some c) (hv:E.w.cell? ⟨b,i*r.size+f,none⟩=some v) (hr:CellRel E.w E.ZL c v F) (hs:r.isRecs=false\/True):AVRel E (loadOwn id ver i r f false) v:=by
 have inner:r.slAt f=true->LVRel E (.inner id ver i f) v:=fun hsl=>⟨hid,fun root hr'=>by
  rw[hroot] at hr';cases hr'
  refine ⟨trivial,Nat.le_refl _,fun e' r' he=> ?_⟩
  cases he
  exact ⟨hsl,hi,by rw[hρ];exact hv⟩⟩
 cases r with
 |ints k l=>
  simp[Row.size] at hf;subst hf
  simp[Row.len] at hi
  simp[Row.cells,Row.size,hi] at hc
  subst hc
  obtain ⟨h1,_⟩:=hr
  show v=_
  rw[h1];simp[hi]
 |bools l=>
  simp[Row.size] at hf;subst hf
  simp[Row.len] at hi
  simp[Row.cells,Row.size,hi] at hc
  subst hc
  obtain ⟨h1,_⟩:=hr
  show v=_
  rw[h1];simp[hi]
 |strs l=>
  simp[Row.size] at hf;subst hf
  simp[Row.len] at hi
  simp[Row.cells,Row.size,hi] at hc
  subst hc
  obtain ⟨h1,_⟩:=hr
  show v=_
  rw[h1];simp[hi]
 |rows o l=>
  simp[Row.size] at hf;subst hf
  exact inner rfl
 |recs sg o l=>
  have hf':=hf
  simp only[Row.size] at hf hc
  simp only[Row.len] at hi
  have e2:sg[f]? =some sg[f]:=List.getElem?_eq_getElem hf
  cases hb:sg[f] with
  |true=>
   rw[hb] at e2
   show AVRel E (match sg[f]? with|some true=>_|some false=>_|none=>_) v
   rw[e2]
   exact inner (by simp[Row.slAt,e2])
  |false=>
   rw[hb] at e2
   show AVRel E (match sg[f]? with|some true=>_|some false=>_|none=>_) v
   rw[e2]
   rw[recs_get sg o l i f hf,e2,List.getElem?_eq_getElem hi] at hc
   simp at hc
   subst hc
   obtain ⟨h1,_⟩:=hr
   show v=_
   rw[h1];simp[hi]
theorem loadVal_cell {E:Env} {p:Bool} {i f:Nat} {r:Row} (hi:i<r.len) (hf:f<r.size) {v:Value} {c:Cell} (hc:r.cells[i*r.size+f]? =some c) (hr:CellRel E.w (if p then E.Zf else E.ZL) c v fz):AVRel E (loadVal p i r f false) v:=by
 have inner: ∀o l,c= .sl o l->LVRel E (.val p (.ints .i64 l)) v:=fun o l hcc=>by
  subst hcc
  have hr':CellRel E.w (if p then E.Zf else E.ZL) (.sl false l) v fz:=by
   cases o with
   |false=>exact hr
   |true=>exact hr.frz (fun b hb=>hb) (fun b hb=>by simp at hb)
  obtain ⟨_,A,cap,h1,h2,h3⟩:=hr'
  refine ⟨A,cap,h1,h2,fun hn=> ?_⟩
  obtain ⟨ad,e1,e2,e3⟩:=h3 (by intro h;subst h;exact hn rfl)
  refine ⟨ad,e1,e2,l.map (fun n=>Value.int .i64 n),fun j hj=> ?_,?_⟩
  ·simp[Row.cells] at hj
   rw[e3 j l[j] (List.getElem?_eq_getElem hj)]
   simp[hj]
  ·simp only[Row.cells]
   clear h1 h2 h3 e3 hn hr hc
   induction l with
   |nil=>rfl
   |cons n l ih=>exact ⟨fz,fz,⟨rfl,rfl⟩,ih,(fadd_fz _).symm⟩
 cases r with
 |ints k l=>
  simp[Row.size] at hf;subst hf
  simp[Row.len] at hi
  simp[Row.cells,Row.size,hi] at hc
  subst hc
  obtain ⟨h1,_⟩:=hr
  show v=_
  rw[h1];simp[hi]
 |bools l=>
  simp[Row.size] at hf;subst hf
  simp[Row.len] at hi
  simp[Row.cells,Row.size,hi] at hc
  subst hc
  obtain ⟨h1,_⟩:=hr
  show v=_
  rw[h1];simp[hi]
 |strs l=>
  simp[Row.size] at hf;subst hf
  simp[Row.len] at hi
  simp[Row.cells,Row.size,hi] at hc
  subst hc
  obtain ⟨h1,_⟩:=hr
  show v=_
  rw[h1];simp[hi]
 |rows o l=>
  simp[Row.size] at hf;subst hf
  simp[Row.len] at hi
  simp[Row.cells,Row.size,hi] at hc
  have:=inner o l[i] hc.symm
  show LVRel E (.val p (.ints .i64 (l.getD i []))) v
  simpa[hi] using this
 |recs sg o l=>
  simp only[Row.size] at hf hc
  simp only[Row.len] at hi
  have e2:sg[f]? =some sg[f]:=List.getElem?_eq_getElem hf
  rw[recs_get sg o l i f hf,e2,List.getElem?_eq_getElem hi] at hc
  cases hb:sg[f] with
  |true=>
   rw[hb] at e2
   show AVRel E (match sg[f]? with|some true=>_|some false=>_|none=>_) v
   rw[e2]
   simp[hb] at hc
   have:=inner o (gl l[i] f) hc.symm
   show LVRel E (.val p (.ints .i64 (gl (l.getD i []) f))) v
   simpa[hi] using this
  |false=>
   rw[hb] at e2
   show AVRel E (match sg[f]? with|some true=>_|some false=>_|none=>_) v
   rw[e2]
   simp[hb] at hc
   subst hc
   obtain ⟨h1,_⟩:=hr
   show v=_
   rw[h1];simp[hi]
theorem LVsRel.of {E:Env}: ∀ {xs:List LV} {vs:List Value},xs.length=vs.length->(∀(j:Nat) (x:LV) (v:Value),xs[j]? =some x->vs[j]? =some v->LVRel E x v)->LVsRel E xs vs
 | [],[],_,_=>trivial
 | [],_::_,h,_=>by simp at h
 |_::_,[],h,_=>by simp at h
 |x::xs,v::vs,h,hh=>⟨hh 0 x v rfl rfl,LVsRel.of (by simpa using h) (fun j y u h1 h2=>hh (j+1) y u (by simpa using h1) (by simpa using h2))⟩
theorem rec_lt {n i len:Nat} (hi:i<len):i*n+n<=len*n:=by
 have:(i+1)*n<=len*n:=Nat.mul_le_mul_right _ hi
 rw[Nat.succ_mul] at this
 exact this
theorem recs_len (sg:List Bool) (o:Bool) (l:List (List Leaf)):(Row.recs sg o l).cells.length=l.length*sg.length:=Row.cells_length _
theorem agg_own {E:Env} {id ver e i:Nat} {sg:List Bool} {o:Bool} {l:List (List Leaf)} (hid:id<E.nx) (hroot:E.hp id=some (.row e ver (.recs sg o l))) {b cap:Nat} (hρ:E.ρ id=some (b,cap)) (hi:i<l.length) {arr:List Value} {F:FP} (hcs:CellsRel E.w E.ZL (Row.recs sg o l).cells arr F) (hb: ∀j v,arr[j]? =some v->E.w.cell? ⟨b,j,none⟩=some v):
 ∃vs:List Value,vs.length=sg.length/\(∀j v,vs[j]? =some v->E.w.cell? ⟨b,i*sg.length+j,none⟩=some v)/\LVsRel E (sg.zipIdx.map fun (b,f)=>bif b then .inner id ver i f else .i .i64 (gi (l.getD i []) f)) vs:=by
 have hlen:=hcs.length
 rw[recs_len] at hlen
 have hle:=rec_lt (n:=sg.length) hi
 have hvl:((arr.drop (i*sg.length)).take sg.length).length=sg.length:=by simp;omega
 have hat: ∀j v,((arr.drop (i*sg.length)).take sg.length)[j]? =some v->j<sg.length/\arr[i*sg.length+j]? =some v:=fun j v hj=>by
  rw[List.getElem?_take] at hj
  split at hj
  ·rw[List.getElem?_drop] at hj;exact ⟨‹_›,hj⟩
  ·cases hj
 refine ⟨(arr.drop (i*sg.length)).take sg.length,hvl,fun j v hj=>hb _ _ (hat j v hj).2,LVsRel.of (by simp;omega) fun j x v hx hv=> ?_⟩
 obtain ⟨hj,hv⟩:=hat j v hv
 have hjl:i*sg.length+j<(Row.recs sg o l).cells.length:=by rw[recs_len];omega
 obtain ⟨v',F1,F2,k1,k2,k3,_⟩:=hcs.get (List.getElem?_eq_getElem hjl)
 rw[hv] at k1;cases k1
 have:=loadOwn_cell (r:= .recs sg o l) (f:=j) (ver:=ver) hid hroot hρ hi hj (List.getElem?_eq_getElem hjl) (hb _ _ hv) k2 (.inr trivial)
 have e2:sg[j]? =some sg[j]:=List.getElem?_eq_getElem hj
 simp only[List.getElem?_map,List.getElem?_zipIdx,e2,Option.map_some,Option.some.injEq,Nat.zero_add] at hx
 subst hx
 simp only[loadOwn,cond_false,e2] at this
 cases hb:sg[j]<;>rw[hb] at this<;>exact this
theorem agg_val {E:Env} {p:Bool} {i:Nat} {sg:List Bool} {o:Bool} {l:List (List Leaf)} (hi:i<l.length) {arr:List Value} (hcs:CellsRel E.w (if p then E.Zf else E.ZL) (Row.recs sg o l).cells arr fz):
 LVsRel E (sg.zipIdx.map fun (b,f)=>bif b then .val p (.ints .i64 (gl (l.getD i []) f)) else .i .i64 (gi (l.getD i []) f)) ((arr.drop (i*sg.length)).take sg.length):=by
 have hlen:=hcs.length
 rw[recs_len] at hlen
 have hle:=rec_lt (n:=sg.length) hi
 have hat: ∀j v,((arr.drop (i*sg.length)).take sg.length)[j]? =some v->j<sg.length/\arr[i*sg.length+j]? =some v:=fun j v hj=>by
  rw[List.getElem?_take] at hj
  split at hj
  ·rw[List.getElem?_drop] at hj;exact ⟨‹_›,hj⟩
  ·cases hj
 refine LVsRel.of (by simp;omega) fun j x v hx hv=> ?_
 obtain ⟨hj,hv⟩:=hat j v hv
 have hjl:i*sg.length+j<(Row.recs sg o l).cells.length:=by rw[recs_len];omega
 obtain ⟨v',F1,F2,k1,k2,k3,_⟩:=hcs.get (List.getElem?_eq_getElem hjl)
 have hF1:F1=fz:=by
  funext q
  have:=congrFun k3 q
  simp at this ⊢
  omega
 subst hF1
 rw[hv] at k1;cases k1
 have:=loadVal_cell (E:=E) (p:=p) (r:= .recs sg o l) (f:=j) hi hj (List.getElem?_eq_getElem hjl) k2
 have e2:sg[j]? =some sg[j]:=List.getElem?_eq_getElem hj
 simp only[List.getElem?_map,List.getElem?_zipIdx,e2,Option.map_some,Option.some.injEq,Nat.zero_add] at hx
 subst hx
 simp only[loadVal,cond_false,e2] at this
 cases hb:sg[j]<;>rw[hb] at this<;>exact this
theorem isRecs_facts {r:Row} (h:r.isRecs=true): ∃sg o l,r= .recs sg o l:=by
 cases r<;>first|exact ⟨_,_,_,rfl⟩|cases h
theorem evLoad_sound (T:TOK P tt) (h:SRel C S a w ρ Fs) {o:Oper} {t:Nat} {x:Operand} (ho:o.op= .load t x) {E:Eff} (he:evLoad (R:=Eff) tt S.hp n t (St.rd C.N S.sl x) some=some E): ∃u,Out P C S o E a w w ρ Fs u:=by
 have fin: ∀u,(Instr.loadAt t (a.eval x)).run P w= .ok u w->(execOp a.eval o).run P w= .ok (.value u) w:=fun u hu=>by
  simp only[execOp,ho];exact run_v hu
 unfold evLoad at he
 split at he
 ·rename_i id k hx
  obtain ⟨hlt,hre,b,cap,hρ,hv⟩:=rd_l h hx
  split at he
  ·rename_i bt cells hroot
   obtain ⟨b',cap',vs,ty,g1,g2,g3,g4⟩:=h.mem.roots id _ hroot
   simp only[Cx.env] at hρ g1 g2
   rw[hρ] at g1;cases g1
   cases hst:isStruct tt t with
   |true=>
    rw[hst] at he
    obtain ⟨hle,he⟩:=bif_some he
    cases he
    have hle:=Nat.le_of_ble_eq_true hle
    obtain ⟨fields,i,d1,d2,d3⟩:=isStruct_facts T hst
    have hlen:=g3.length
    refine ⟨.agg ((vs.toList.drop k).take (sizeOf' tt t)).toArray,Out.pure h rfl (fin _ ?_) ⟨_,rfl,(g3.drop k).take _⟩⟩
    rw[hv]
    refine run_loadVar_agg d1 d2 (by rw[d3];simp at hlen ⊢;omega) fun j v hj=> ?_
    rw[plain_add,cell?_plain g2]
    rw[List.getElem?_take] at hj
    split at hj
    ·rw[List.getElem?_drop] at hj;simpa using hj
    ·cases hj
   |false=>
    rw[hst] at he
    obtain ⟨hsc,he⟩:=bif_some he
    split at he
    ·rename_i y hy
     cases he
     obtain ⟨v,k1,k2⟩:=g3.get hy
     obtain ⟨d,d1,d2⟩:=scalar_facts T hsc
     refine ⟨v,Out.pure h rfl (fin _ ?_) k2⟩
     rw[hv]
     exact run_loadVar_one d1 d2 (by rw[cell?_plain g2];simpa using k1)
    ·cases he
  ·cases he
 ·rename_i id i f hx
  obtain ⟨hlt,hx2⟩:=rd_l h hx
  split at he
  ·rename_i e ver r hroot
   obtain ⟨r',e1,hi,b,cap,hρ,hv⟩:=hx2 _ hroot
   cases e1
   obtain ⟨hc,he⟩:=bif_some he
   cases he
   cases hst:isStruct tt t with
   |true=>
    rw[hst] at hc
    obtain ⟨hc1,hc2⟩:=and_bool hc
    obtain ⟨hc3,hc4⟩:=and_bool hc1
    have hc3:=eq_of_beq hc3
    have hc4:=eq_of_beq hc4
    subst hc4
    obtain ⟨sg,o',l,rfl⟩:=isRecs_facts hc2
    obtain ⟨fields,ti,d1,d2,d3⟩:=isStruct_facts T hst
    have hrow:=h.mem.roots id _ hroot
    rcases hrow with ⟨_,h0,_⟩| ⟨b',cap',arr,ty,F',g1,g2,g3,g4,g5,g6⟩
    ·simp only[Row.len] at h0 hi;omega
    ·simp only[Cx.env] at hρ g1 g2
     rw[hρ] at g1;cases g1
     have hbl: ∀j v,arr.toList[j]? =some v->w.cell? ⟨b,j,none⟩=some v:=fun j v hj=>by rw[cell?_plain g2];simpa using hj
     obtain ⟨vs,k1,k2,k3⟩:=agg_own (E:=C.env w ρ S.hp S.nx Fs) (ver:=ver) hlt hroot hρ hi g5 hbl
     refine ⟨.agg vs.toArray,Out.pure h rfl (fin _ ?_) ⟨vs,rfl,k3⟩⟩
     rw[hv]
     refine run_loadVar_agg d1 d2 (by rw[d3,k1];exact hc3.symm) fun j v hj=> ?_
     rw[plain_add]
     exact k2 j v hj
   |false=>
    rw[hst] at hc
    obtain ⟨hsc,hf⟩:=and_bool hc
    have hf:f<r.size:=by simpa[Nat.blt_eq] using hf
    have hjl:i*r.size+f<r.cells.length:=by
     rw[Row.cells_length]
     have:(i+1)*r.size<=r.len*r.size:=Nat.mul_le_mul_right _ hi
     rw[Nat.succ_mul] at this
     omega
    obtain ⟨v,F1,b',cap',k1,k2,k3,k4⟩:=row_cell h.mem hroot (List.getElem?_eq_getElem hjl)
    simp only[Cx.env] at hρ
    rw[hρ] at k1;cases k1
    obtain ⟨d,d1,d2⟩:=scalar_facts T hsc
    refine ⟨v,Out.pure h rfl (fin _ (by rw[hv];exact run_loadVar_one d1 d2 k2)) ?_⟩
    exact loadOwn_cell (E:=C.env w ρ S.hp S.nx Fs) hlt hroot hρ hi hf (List.getElem?_eq_getElem hjl) k2 k3 (.inr trivial)
  ·cases he
 ·rename_i p r i f hx
  obtain ⟨hi,ad,hv,hfz⟩:=rd_l h hx
  obtain ⟨hc,he⟩:=bif_some he
  cases he
  obtain ⟨hz,vs,hvs,hcs⟩:=hfz
  cases hst:isStruct tt t with
  |true=>
   rw[hst] at hc
   obtain ⟨hc1,hc2⟩:=and_bool hc
   obtain ⟨hc3,hc4⟩:=and_bool hc1
   have hc3:=eq_of_beq hc3
   have hc4:=eq_of_beq hc4
   subst hc4
   obtain ⟨sg,o',l,rfl⟩:=isRecs_facts hc2
   obtain ⟨fields,ti,d1,d2,d3⟩:=isStruct_facts T hst
   have hlen:=hcs.length
   have hle:=rec_lt (n:=sg.length) hi
   refine ⟨.agg ((vs.drop (i*sg.length)).take sg.length).toArray,Out.pure h rfl (fin _ ?_) ⟨_,rfl,agg_val (E:=C.env w ρ S.hp S.nx Fs) hi hcs⟩⟩
   rw[recs_len] at hlen
   simp only[Row.len] at hi hle
   rw[hv]
   refine run_loadVar_agg d1 d2 (by rw[d3];simp[Row.size] at hc3 ⊢;omega) fun j v hj=> ?_
   rw[List.getElem?_take] at hj
   split at hj
   ·rw[List.getElem?_drop] at hj
    rw[add_add,<- hj]
    exact hvs _ (by rw[recs_len];simp only[Row.size];omega)
   ·cases hj
  |false=>
   rw[hst] at hc
   obtain ⟨hsc,hf⟩:=and_bool hc
   have hf:f<r.size:=by simpa[Nat.blt_eq] using hf
   have hjl:i*r.size+f<r.cells.length:=by
    rw[Row.cells_length]
    have:(i+1)*r.size<=r.len*r.size:=Nat.mul_le_mul_right _ hi
    rw[Nat.succ_mul] at this
    omega
   obtain ⟨v,F1,F2,k1,k2,k3,_⟩:=hcs.get (List.getElem?_eq_getElem hjl)
   have hF1:F1=fz:=by
    funext q
    have:=congrFun k3 q
    simp at this ⊢
    omega
   subst hF1
   obtain ⟨d,d1,d2⟩:=scalar_facts T hsc
   refine ⟨v,Out.pure h rfl (fin _ (by rw[hv];exact run_loadVar_one d1 d2 ((hvs _ hjl).trans k1))) ?_⟩
   exact loadVal_cell (E:=C.env w ρ S.hp S.nx Fs) hi hf (List.getElem?_eq_getElem hjl) k2
 ·rename_i id ver i f j hx
  obtain ⟨hlt,hx2⟩:=rd_l h hx
  split at he
  ·rename_i e v' r hroot
   obtain ⟨hc,he⟩:=bif_some he
   cases he
   obtain ⟨hv1,hsc⟩:=and_bool hc
   have:=eq_of_beq hv1
   subst this
   obtain ⟨_,_,hx3⟩:=hx2 _ hroot
   obtain ⟨k1,k2,k3,A,n,cap,k4,hv⟩:=hx3 e r rfl
   obtain ⟨F1,ow,hcell,_⟩:=inner_hdr h.mem hroot k1 k2 k4
   obtain ⟨A',cap',hhv,hA⟩:=sl_hdr hcell
   obtain ⟨A'',e2,hints⟩:=hA (by omega)
   subst e2
   cases hhv
   obtain ⟨d,d1,d2⟩:=scalar_facts T hsc
   have:=hints j _ (List.getElem?_eq_getElem k3)
   refine ⟨_,Out.pure h rfl (fin _ (by rw[hv];exact run_loadVar_one d1 d2 this)) ?_⟩
   show _=_
   simp[k3]
  ·cases he
 ·cases he
end
end Go.Proofs.YtbmmhdmljajcfaaGreatDoor.V
namespace Go.Proofs.YtbmmhdmljajcfaaGreatDoor.V
open Go
section
variable {P:Program} {tt:TT} {C:Cx} {S:St} {a:Act} {w:World} {ρ:Place} {Fs:Nat->FP} {n:Nat}
theorem ints_cells {w:World} {Z:Zs} {k:IntKind}: ∀l:List Int,CellsRel w Z (Row.ints k l).cells (l.map fun n=>Value.int k n) fz
 | []=>rfl
 |x::l=>⟨fz,fz,⟨rfl,rfl⟩,ints_cells l,(fadd_fz _).symm⟩
theorem row_view (m:MRel C S.hp S.nx w ρ Fs) {id e ver:Nat} {r:Row} (h:S.hp id=some (.row e ver r)): ∃A cap,hdr (ρ id) r.len= .slice A r.len cap/\r.len<=cap/\(∀b,A=some b-> ∃b' cap',ρ id=some (b',cap')/\cap' =cap/\b=⟨b',0,none⟩)/\(ρ id=none->r.len=0/\A=none/\cap=0)/\(r.len≠0-> ∃ad,A=some ad/\FrzAt w (fun b=>C.ZL w (sumTo S.nx Fs) b\/1<=Fs id b) ad r.frz.cells):=by
 rcases m.roots id _ h with ⟨h1,h2,h3⟩| ⟨b,cap,arr,ty,F',h1,h2,h3,h4,h5,h6⟩
 ·simp only[Cx.env] at h1
  refine ⟨none,0,by rw[h1,h2];rfl,by omega,fun b hb=>(by cases hb),fun _=>⟨h2,rfl,rfl⟩,fun hn=>absurd h2 hn⟩
 ·simp only[Cx.env] at h1 h2
  refine ⟨some ⟨b,0,none⟩,cap,by rw[h1];rfl,h3,fun b' hb=>(by cases hb;exact ⟨b,cap,h1,rfl,rfl⟩),fun hn=>(by rw[h1] at hn;cases hn),fun _=>⟨_,rfl,.inr (by show 1<=Fs id b;rw[h6];simp),arr.toList,fun j hj=> ?_,?_⟩⟩
  ·rw[plain_add,cell?_plain h2];simp
  ·rw[frz_cells]
   exact h5.frz (fun b hb=> .inl hb) (fun b' hb=> .inr (by rw[h6];simp;omega))
theorem viewRow_sound (m:MRel C S.hp S.nx w ρ Fs) {x:LV} {r:Row} {rc:List Nat} (he:viewRow S.hp x=some (r,rc)) {v:Value} (hv:LVRel (C.env w ρ S.hp S.nx Fs) x v):FrzRow w (fun b=>C.ZL w (sumTo S.nx Fs) b\/ ∃id∈rc,1<=Fs id b) r v:=by
 unfold viewRow at he
 split at he
 ·rename_i p r'
  cases he
  obtain ⟨A,cap,h1,h2,h3⟩:=hv
  refine ⟨A,cap,h1,h2,fun hn=> ?_⟩
  obtain ⟨ad,e,h0,vs,h4,h5⟩:=h3 hn
  have hz: ∀b,(if p then (C.env w ρ S.hp S.nx Fs).Zf else (C.env w ρ S.hp S.nx Fs).ZL) b->C.ZL w (sumTo S.nx Fs) b:=fun b hb=>by
   cases p
   ·exact hb
   ·exact .inr hb
  exact ⟨ad,e,.inl (hz _ h0),vs,h4,h5.mono (fun b hb=>⟨.inl (hz b hb),rfl⟩) (fun b _=>rfl)⟩
 ·rename_i id
  split at he
  ·rename_i e ver r' hroot
   cases he
   obtain ⟨hlt,hx⟩:=hv
   obtain ⟨r'',e1,e2⟩:=hx _ hroot
   cases e1
   obtain ⟨A,cap,k1,k2,_,_,k3⟩:=row_view m hroot
   refine ⟨A,cap,by rw[e2,frz_len];exact k1,by rw[frz_len];exact k2,fun hn=> ?_⟩
   rw[frz_len] at hn
   obtain ⟨ad,e,g0,vs,g1,g2⟩:=k3 hn
   have hz: ∀b,(C.ZL w (sumTo S.nx Fs) b\/1<=Fs id b)->C.ZL w (sumTo S.nx Fs) b\/ ∃i∈[id],1<=Fs i b:=fun b hb=>hb.imp (fun h=>h) (fun h=>⟨id,by simp,h⟩)
   exact ⟨ad,e,hz _ g0,vs,g1,g2.mono (fun b hb=>⟨hz b hb,rfl⟩) (fun b _=>rfl)⟩
  ·cases he
 ·rename_i id lo hi
  split at he
  ·rename_i e ver r' hroot
   cases he
   obtain ⟨hlt,hx⟩:=hv
   obtain ⟨r'',e1,l1,l2,e2⟩:=hx _ hroot
   cases e1
   obtain ⟨A,cap,k1,k2,kA,kn,k3⟩:=row_view m hroot
   have:=FrzRow_cut (w:=w) (Z:=fun b=>C.ZL w (sumTo S.nx Fs) b\/ ∃i∈[id],1<=Fs i b) (r:=r'.frz) (A:=A) (cap:=cap) (by rw[frz_len];exact k2) (fun hn=>by
    rw[frz_len] at hn
    obtain ⟨ad,e,g0,vs,g1,g2⟩:=k3 hn
    have hz: ∀b,(C.ZL w (sumTo S.nx Fs) b\/1<=Fs id b)->C.ZL w (sumTo S.nx Fs) b\/ ∃i∈[id],1<=Fs i b:=fun b hb=>hb.imp (fun h=>h) (fun h=>⟨id,by simp,h⟩)
    exact ⟨ad,e,hz _ g0,vs,g1,g2.mono (fun b hb=>⟨hz b hb,rfl⟩) (fun b _=>rfl)⟩) lo hi l1 (by rw[frz_len];exact l2)
   rw[e2]
   simp only[Cx.env]
   cases hρ:ρ id with
   |none=>
    obtain ⟨z1,z2,z3⟩:=kn hρ
    have:lo=0:=by omega
    have:hi=0:=by omega
    subst lo hi z2 z3
    simpa[subHdr] using this
   |some q=>
    obtain ⟨b,cap'⟩:=q
    rw[hρ] at k1
    simp only[hdr,Value.slice.injEq] at k1
    obtain ⟨rfl,_,rfl⟩:=k1
    simp only[subHdr]
    rw[frz_size] at this
    have e3:(if cap' =lo then some (⟨b,0,none⟩:Addr) else (some (⟨b,0,none⟩:Addr)).map (·.add (lo*r'.size)))=some (if cap' =lo then ⟨b,0,none⟩ else ⟨b,lo*r'.size,none⟩):=by
     split
     ·rfl
     ·simp[plain_add]
    rw[e3] at this
    exact this
  ·cases he
 ·rename_i id ver i f
  have fin: ∀e r',S.hp id=some (.row e ver r')->r'.deep=true->r= .ints .i64 (innerOf r' i f)->rc=[id]->FrzRow w (fun b=>C.ZL w (sumTo S.nx Fs) b\/ ∃id∈rc,1<=Fs id b) r v:=fun e r' hroot _ hr hrc=>by
   subst hr hrc
   obtain ⟨hlt,hx⟩:=hv
   obtain ⟨_,_,hx3⟩:=hx _ hroot
   obtain ⟨k1,k2,k4⟩:=hx3 e r' rfl
   obtain ⟨F1,ow,hcell,hle⟩:=inner_hdr m hroot k1 k2 k4
   have hcell:CellRel w (fun b=>C.ZL w (sumTo S.nx Fs) b\/ ∃i∈[id],1<=Fs i b) (.sl false (innerOf r' i f)) v fz:=hcell.frz (fun b hb=> .inl hb) (fun b hb=> .inr ⟨id,by simp,Nat.le_trans hb (hle b)⟩)
   obtain ⟨_,A,cap,h1,h2,h3⟩:=hcell
   refine ⟨A,cap,h1,h2,fun hn=> ?_⟩
   obtain ⟨ad,e1,e2,e3⟩:=h3 (by intro h;rw[h] at hn;exact hn rfl)
   refine ⟨ad,e1,e2,(innerOf r' i f).map (fun n=>Value.int .i64 n),fun j hj=> ?_,ints_cells _⟩
   simp only[Row.cells,List.length_map] at hj
   rw[e3 j _ (List.getElem?_eq_getElem hj)]
   simp[hj]
  split at he
  ·rename_i e v' o l hroot
   obtain ⟨h1,h2⟩:=bif_some he
   have:=eq_of_beq h1
   subst this
   cases h2
   exact fin _ _ hroot rfl rfl rfl
  ·rename_i e v' sg o l hroot
   obtain ⟨h1,h2⟩:=bif_some he
   have:=eq_of_beq h1
   subst this
   cases h2
   exact fin _ _ hroot rfl rfl rfl
  ·cases he
 ·cases he
theorem lenOf_sound (m:MRel C S.hp S.nx w ρ Fs) {x:LV} {k:Nat} {rl rc:List Nat} (he:lenOf S.hp x=some (k,rl,rc)) {v:Value} (hv:LVRel (C.env w ρ S.hp S.nx Fs) x v): ∃A cap,v= .slice A k cap:=by
 unfold lenOf at he
 split at he
 ·cases he;exact ⟨_,_,hv⟩
 ·cases he;obtain ⟨A,cap,h,_⟩:=hv;exact ⟨A,cap,h⟩
 ·rename_i id
  split at he
  ·rename_i r hr
   cases he
   obtain ⟨root,h1,h2⟩:=row_pos hr
   obtain ⟨_,hx⟩:=hv
   obtain ⟨r',e1,e2⟩:=hx _ h1
   rw[h2] at e1;cases e1
   rw[e2]
   simp only[Cx.env]
   cases hρ:ρ id with
   |none=>
    rcases Nat.eq_zero_or_pos r.len with h0|h0
    ·rw[h0];exact ⟨_,_,rfl⟩
    ·obtain ⟨b,cap,k1,_⟩:=rows_place m h1 h2 h0
     rw[hρ] at k1;cases k1
   |some q=>exact ⟨_,_,rfl⟩
  ·cases he
 ·rename_i id lo hi
  split at he
  ·rename_i r hr
   cases he
   obtain ⟨root,h1,h2⟩:=row_pos hr
   obtain ⟨_,hx⟩:=hv
   obtain ⟨r',e1,l1,l2,e2⟩:=hx _ h1
   rw[h2] at e1;cases e1
   rw[e2]
   simp only[Cx.env]
   cases hρ:ρ id with
   |none=>
    rcases Nat.eq_zero_or_pos r.len with h0|h0
    ·have:hi-lo=0:=by omega
     rw[this];exact ⟨_,_,rfl⟩
    ·obtain ⟨b,cap,k1,_⟩:=rows_place m h1 h2 h0
     rw[hρ] at k1;cases k1
   |some q=>exact ⟨_,_,rfl⟩
  ·cases he
 ·rename_i id ver i f
  have he':lenOf S.hp (.inner id ver i f)=some (k,rl,rc):=he
  obtain ⟨root,e,r,h1,h2,h3⟩:=inner_len he'
  subst h2
  obtain ⟨_,hx⟩:=hv
  obtain ⟨_,_,hx3⟩:=hx _ h1
  obtain ⟨k1,k2,k4⟩:=hx3 e r rfl
  obtain ⟨F1,ow,hcell,hle⟩:=inner_hdr m h1 k1 k2 k4
  obtain ⟨A,cap,h,_⟩:=sl_hdr hcell
  exact ⟨A,cap,by rw[h3];exact h⟩
 ·cases he
theorem evIndex_sound (T:TOK P tt) (h:SRel C S a w ρ Fs) {o:Oper} {t:Nat} {x ix:Operand} (ho:o.op= .index t x ix) {E:Eff} (he:evIndex (R:=Eff) tt n t (St.rd C.N S.sl x) (St.rd C.N S.sl ix) some=some E): ∃u,Out P C S o E a w w ρ Fs u:=by
 unfold evIndex at he
 split at he
 ·rename_i s hx
  split at he
  ·rename_i sz bs hq
   obtain ⟨k,i,hix,he⟩:=asI_some he
   obtain ⟨hc,he⟩:=chk_some he
   obtain ⟨h0,h1⟩:=and_bool hc
   have h0:=of_decide_eq_true h0
   have h1:=of_decide_eq_true h1
   cases he
   have hv:a.eval x= .string s:=rd_l h hx
   have hi:a.eval ix= .int k i:=rd_l h hix
   refine ⟨_,Out.pure h rfl ?_ rfl⟩
   simp only[execOp,ho]
   refine run_v ?_
   rw[hv,hi]
   exact run_index_str (T t _ hq).desc s k i h0 h1
  ·cases he
 ·cases he
theorem scalar_some (T:TOK P tt) {t:Nat} (h:scalarTy tt t=true):(P.underlying t).isSome=true:=by
 obtain ⟨d,h1,_⟩:=scalar_facts T h
 rw[h1];rfl
theorem strOf_eq (l:List Int):l.foldl (fun r n=>r.push (UInt8.ofNat n.toNat)) ByteArray.empty=strOf l:=by
 have: ∀(l:List Int) (s:ByteArray),l.foldl (fun r n=>r.push (UInt8.ofNat n.toNat)) s=⟨s.data++(l.map fun n=>UInt8.ofNat n.toNat).toArray⟩:=by
  intro l
  induction l with
  |nil=>intro s;simp
  |cons x l ih=>
   intro s
   rw[List.foldl_cons,ih]
   congr 1
   show (s.data.push _)++_=_
   apply Array.ext'
   simp
 rw[this l ByteArray.empty]
 unfold strOf
 congr 1
 apply Array.ext'
 simp
theorem evConvert_sound (T:TOK P tt) (h:SRel C S a w ρ Fs) {o:Oper} {src dst:Nat} {x:Operand} (ho:o.op= .convert src dst x) {E:Eff} (he:evConvert (R:=Eff) tt S.hp n src dst (St.rd C.N S.sl x) some=some E): ∃u,Out P C S o E a w w ρ Fs u:=by
 unfold evConvert at he
 obtain ⟨hs,he⟩:=bif_some he
 have hsome:=scalar_some T hs
 have fin: ∀u,(convert src dst (a.eval x)).run P w= .ok u w->(execOp a.eval o).run P w= .ok (.value u) w:=fun u hu=>by
  simp only[execOp,ho];exact run_v hu
 split at he
 ·rename_i k n' hx
  have hv:a.eval x= .int k n':=rd_l h hx
  split at he
  ·rename_i k' sz bs hq
   cases he
   have hd:P.underlying dst=some (.int k'):=(T dst _ hq).desc
   refine ⟨_,Out.pure h rfl (fin _ ?_) rfl⟩
   rw[hv]
   have hk:P.intKind dst=k':=by simp[Program.intKind,hd]
   have:=run_convert_int (P:=P) w src dst k n' hsome (by rw[hk];exact hd)
   rw[this,hk]
  ·cases he
 ·rename_i s hx
  have hv:a.eval x= .string s:=rd_l h hx
  split at he
  ·rename_i sz bs hq
   cases he
   have hd:P.underlying dst=some .string:=(T dst _ hq).desc
   obtain ⟨d,hd'⟩:=Option.isSome_iff_exists.mp hsome
   refine ⟨_,Out.pure h rfl (fin _ ?_) rfl⟩
   rw[hv]
   simp[convert,run_underlying hd',run_underlying hd]
  ·cases he
 ·rename_i x' _ _ hx
  split at he
  ·rename_i sz bs l rc hq hvr
   split at he
   ·rename_i sz' bs' hb
    cases he
    obtain ⟨e,he1,he2⟩:=Option.bind_eq_some_iff.1 hb
    have hd:P.underlying dst=some .string:=(T dst _ hq).desc
    have hsl:=slice_facts T he1
    have hel:P.underlying e=some (.int .u8):=(T e _ he2).desc
    obtain ⟨A,cap,k1,k2,k3⟩:=viewRow_sound h.mem hvr (rd_l h hx)
    refine ⟨_,Out.pure h rfl (fin (.string (strOf l)) ?_) rfl⟩
    rw[k1,run_convert_bytes_string w src dst e A _ cap hsl hel hd]
    simp only[Row.len] at k3 ⊢
    rcases Nat.eq_zero_or_pos l.length with h0|h0
    ·have hl0:l=[]:=List.eq_nil_of_length_eq_zero h0
     subst hl0
     cases A with
     |none=>rfl
     |some ad=>
      have:=run_bytesToString (P:=P) w ad 0 cap [] (run_loadCells_list w ad [] (fun j v hj=>by simp at hj))
      exact this
    ·obtain ⟨ad,rfl,hz,vs,g1,g2⟩:=k3 (by omega)
     have hcell: ∀(j:Nat) (v:Value),(l.map (Value.int .u8))[j]? =some v->w.cell? (ad.add j)=some v:=fun j v hj=>by
      rw[List.getElem?_map] at hj
      cases hlj:l[j]? with
      |none=>rw[hlj] at hj;cases hj
      |some z=>
       rw[hlj] at hj
       have hjl:j<l.length:=(List.getElem?_eq_some_iff.1 hlj).1
       obtain ⟨v',F1,F2,q1,q2,_⟩:=g2.get (j:=j) (c:= .sc (.int .u8 z)) (by simp[Row.cells,hlj])
       rw[g1 j (by simpa[Row.cells] using hjl),q1]
       obtain ⟨rfl,_⟩:=q2
       exact hj
     have:=run_bytesToString (P:=P) w ad l.length cap l (by
      have:=run_loadCells_list (P:=P) w ad (l.map (Value.int .u8)) hcell
      simpa using this)
     rw[this,strOf_eq]
   ·cases he
  ·cases he
 ·cases he
end
end Go.Proofs.YtbmmhdmljajcfaaGreatDoor.V
namespace Go.Proofs.YtbmmhdmljajcfaaGreatDoor.V
open Go
section
variable {P:Program} {tt:TT} {C:Cx} {S:St} {a:Act} {w:World} {ρ:Place} {Fs:Nat->FP} {n:Nat}
theorem live_row {hp:Nat->Option Root} {id:Nat} (h:(rowAt? hp id).isSome=true): ∃root r,hp id=some root/\root.row? =some r:=by
 obtain ⟨r,hr⟩:=Option.isSome_iff_exists.1 h
 obtain ⟨root,h1,h2⟩:=row_pos hr
 exact ⟨root,r,h1,h2⟩
theorem hdr_one (q:Option (Nat×Nat)) (n:Nat):(hdr q n).oneCell' =true:=by cases q<;>rfl
theorem subHdr_one (q:Option (Nat×Nat)) (s lo hi:Nat):(subHdr q s lo hi).oneCell' =true:=by cases q<;>rfl
theorem one_cells {v:Value} (h:v.oneCell' =true):v.cells= #[v]:=by cases v<;>first|rfl|cases h
theorem storable_one (m:MRel C S.hp S.nx w ρ Fs) {x:LV} (hs:storable S.hp x=true) {v:Value} (hv:LVRel (C.env w ρ S.hp S.nx Fs) x v):v.oneCell' =true:=by
 cases x with
 |any=>cases hs
 |undef=>cases hs
 |i k n=>rw[hv];rfl
 |b x=>rw[hv];rfl
 |s x=>rw[hv];rfl
 |nil=>rw[hv];rfl
 |val p r=>obtain ⟨A,cap,h,_⟩:=hv;rw[h];rfl
 |own id=>
  obtain ⟨root,r,h1,h2⟩:=live_row hs
  obtain ⟨_,hx⟩:=hv
  obtain ⟨r',_,e⟩:=hx _ h1
  rw[e];exact hdr_one _ _
 |sub id lo hi=>
  obtain ⟨root,r,h1,h2⟩:=live_row hs
  obtain ⟨_,hx⟩:=hv
  obtain ⟨r',_,_,_,e⟩:=hx _ h1
  rw[e];exact subHdr_one _ _ _ _
 |inner id ver i f=>
  obtain ⟨_,hx⟩:=hv
  simp only[storable] at hs
  split at hs
  ·rename_i e v' r hroot
   have:=eq_of_beq hs
   subst this
   obtain ⟨_,_,hx3⟩:=hx _ hroot
   obtain ⟨k1,k2,k4⟩:=hx3 e r rfl
   obtain ⟨F1,ow,hcell,hle⟩:=inner_hdr m hroot k1 k2 k4
   obtain ⟨A,cap,h,_⟩:=sl_hdr hcell
   rw[h];rfl
  ·cases hs
 |bptr id k=>obtain ⟨_,_,b,cap,_,h⟩:=hv;rw[h];rfl
 |arr id k=>
  obtain ⟨root,r,h1,h2⟩:=live_row hs
  obtain ⟨_,hx⟩:=hv
  obtain ⟨r',_,_,b,cap,_,e⟩:=hx _ h1
  rw[e];rfl
 |eptr id i f=>
  obtain ⟨root,r,h1,h2⟩:=live_row hs
  obtain ⟨_,hx⟩:=hv
  obtain ⟨r',_,_,b,cap,_,e⟩:=hx _ h1
  rw[e];rfl
 |vptr p r i f=>obtain ⟨_,ad,h,_⟩:=hv;rw[h];rfl
 |iptr id ver i f j=>
  obtain ⟨_,hx⟩:=hv
  simp only[storable] at hs
  split at hs
  ·rename_i e v' r hroot
   have:=eq_of_beq hs
   subst this
   obtain ⟨_,_,hx3⟩:=hx _ hroot
   obtain ⟨_,_,_,A,_,_,_,h⟩:=hx3 e r rfl
   rw[h];rfl
  ·cases hs
 |er b=>cases b<;>first| (obtain ⟨t,x,h⟩:=hv;rw[h];rfl)| (rw[hv];rfl)
 |fn f=>rw[hv];rfl
theorem LVsRel.mem {E:Env}: ∀ {xs:List LV} {vs:List Value},LVsRel E xs vs-> ∀u∈vs,∃x∈xs,LVRel E x u
 | [],[],_,u,hu=>by cases hu
 |x::xs,v::vs,h,u,hu=>by
  rcases List.mem_cons.1 hu with rfl|hu
  ·exact ⟨x,by simp,h.1⟩
  ·obtain ⟨y,h1,h2⟩:=LVsRel.mem h.2 u hu
   exact ⟨y,by simp[h1],h2⟩
theorem aggCells_sound (m:MRel C S.hp S.nx w ρ Fs) {x:AV} {xs:List LV} (he:aggCells S.hp x=some xs) {v:Value} (hv:AVRel (C.env w ρ S.hp S.nx Fs) x v):LVsRel (C.env w ρ S.hp S.nx Fs) xs v.cells.toList/\ ∀u∈v.cells.toList,u.oneCell' =true:=by
 unfold aggCells at he
 split at he
 ·obtain ⟨h1,h2⟩:=bif_some he
  cases h2
  have ho:=storable_one m h1 hv
  rw[one_cells ho]
  exact ⟨⟨hv,trivial⟩,fun u hu=>by simp at hu;subst hu;exact ho⟩
 ·obtain ⟨h1,h2⟩:=bif_some he
  cases h2
  obtain ⟨vs,rfl,hr⟩:=hv
  refine ⟨hr,fun u hu=> ?_⟩
  obtain ⟨y,k1,k2⟩:=hr.mem u hu
  exact storable_one m (List.all_eq_true.1 h1 y k1) k2
 ·cases he
theorem zeroLV_rel (E:Env) (tt:TT) (t:Nat):LVRel E (zeroLV tt t) (zeroV tt t):=by
 unfold zeroLV zeroV
 cases tt t with
 |none=>trivial
 |some e=>
  obtain ⟨k,sz,bs⟩:=e
  cases k<;>first|rfl|trivial
theorem zeros_rel (E:Env) (tt:TT): ∀l:List Nat,LVsRel E (l.map (zeroLV tt)) (l.map (zeroV tt))
 | []=>trivial
 |t::l=>⟨zeroLV_rel E tt t,zeros_rel E tt l⟩
theorem zero_facts (T:TOK P tt) {t:Nat} {e:TE} (h:tt t=some e) (hk: ∀n x,e.k≠ .array n x): ∃i z,P.info? t=some i/\i.zero=some z/\z.cells.toList=(leafTypes tt depth t).map (zeroV tt)/\i.size=e.size/\i.bytes=e.bytes/\e.size=(leafTypes tt depth t).length:=by
 obtain ⟨i,h1,h2,h3,z,h4,h5⟩:=(T t e h).info
 refine ⟨i,z,h1,h4,?_,h2,h3,(T t e h).cells hk⟩
 obtain ⟨k,sz,bs⟩:=e
 cases k<;>first|exact h5|exact absurd rfl (hk _ _)
theorem scalar_leaf {t:Nat} (h:scalarTy tt t=true):leafTypes tt depth t=[t]:=by
 unfold scalarTy at h
 show leafTypes tt (5+1) t=[t]
 unfold leafTypes
 split at h<;>first|cases h|skip
 all_goals (rename_i hq;rw[hq])
theorem SRel.newBox (h:SRel C S a w ρ Fs) (hg:S.hp n=some .ghost) (t:Nat) (cells:List LV) (vs:Array Value) (ty:TypeId) (hc:LVsRel (C.env w ρ S.hp S.nx Fs) cells vs.toList):
 SRel C ⟨S.sl,upd S.hp [(n,some (.box t cells))],S.nx⟩ a (w.alloc (.cells vs ty)) (newρ ρ n (some (w.heap.size,1))) (putF (kilF Fs []) n (f1 w.heap.size)):=by
 have:=h.make hg [] (by simp) (by simp) (.box t cells) (some (w.heap.size,1)) (f1 w.heap.size) (w.alloc (.cells vs ty)) (by rw[heap_push_size];omega) rfl rfl rfl (fun b hb _=>heap_push_lt w _ hb) (fun b=>by
  rw[heap_push_size,f1_at];simp[sumL];split<;>split<;>omega) (fun M=>⟨w.heap.size,1,vs,ty,newρ_self ..,heap_push_eq w _,hc.mono M,rfl⟩)
 exact this
theorem run_alloc_any {t:TypeId} {i:TypeInfo} {z:Value} (hi:P.info? t=some i) (hz:i.zero=some z) (w:World):(Instr.alloc t true (.tuple #[])).run P w= .ok (.pointer (some ⟨w.heap.size,0,none⟩)) (w.alloc (.cells z.cells t)):=by
 simp[Instr.alloc,zeroValue,typeInfo,hi,hz,newVar,newRow]
theorem run_box_any (t:TypeId) (v:Value) (w:World):(Instr.box t v).run P w= .ok (.pointer (some ⟨w.heap.size,0,none⟩)) (w.alloc (.cells v.cells t)):=by
 simp[Instr.box,newVar,newRow]
theorem evBox_sound (T:TOK P tt) (h:SRel C S a w ρ Fs) {o:Oper} {t:Nat} {x:Operand} (ho:o.op= .box t x) {E:Eff} (he:evBox (R:=Eff) tt S.hp n t (St.rd C.N S.sl x) some=some E) (hg:S.hp n=some .ghost): ∃w' ρ' Fs' u,Out P C S o E a w w' ρ' Fs' u:=by
 unfold evBox at he
 split at he
 ·cases he
 ·split at he
  ·rename_i xs hxs
   cases he
   obtain ⟨h1,h2⟩:=aggCells_sound h.mem hxs (h.rd x)
   refine ⟨_,_,_,.pointer (some ⟨w.heap.size,0,none⟩),.inl ?_,SRel.newBox h hg t xs (a.eval x).cells t h1,?_⟩
   ·simp only[execOp,ho];exact run_v (run_box_any t _ w)
   ·exact ⟨live_lt h.mem hg,fun root hr=>by simp[Cx.env,upd] at hr;subst hr;trivial,w.heap.size,1,newρ_self ..,rfl⟩
  ·cases he
 ·cases he
def Zu (C:Cx) (w:World) (nx:Nat) (Fs:Nat->FP) (ks:List Nat) (F:FP):Zs:=fun b=>C.ZL w (sumTo nx Fs) b\/(1<=sumL Fs ks b/\F b=0)
theorem SRel.newRow (h:SRel C S a w ρ Fs) (hg:S.hp n=some .ghost) (ks:List Nat) (hks:ks.Nodup) (hlive: ∀k∈ks,∃r,S.hp k=some r/\r.real) (e:Nat) (r:Row) (arr:Array Value) (ty:TypeId) (cap:Nat) (F:FP)
 (hc:CellsRel w (Zu C w S.nx Fs ks F) r.cells arr.toList F) (hF: ∀b,F b<=sumL Fs ks b) (h1:r.len<=cap) (h2:cap*r.size<=arr.size) (w':World) (hw:w'.heap=w.heap.push (.cells arr ty (0,0))) (hos:w'.os=w.os) (htp:w'.tape=w.tape) (hout:w'.output=w.output):
 SRel C ⟨S.sl,upd S.hp (killUp ks++[(n,some (.row e 0 r))]),S.nx⟩ a w' (newρ ρ n (some (w.heap.size,cap))) (putF (kilF Fs ks) n (fadd (f1 w.heap.size) F)):=by
 have hlt: ∀b,b<w.heap.size->w'.heap[b]? =w.heap[b]? :=fun b hb=>by rw[hw,Array.getElem?_push,if_neg (Nat.ne_of_lt hb)]
 have hsz:w'.heap.size=w.heap.size+1:=by rw[hw,Array.size_push]
 have hk: ∀k∈ks,k<S.nx:=fun k h'=>by
  obtain ⟨r,k1,_⟩:=hlive k h'
  exact live_lt h.mem k1
 have own: ∀b,1<=sumL Fs ks b->b<w.heap.size/\(C.w0.heap.size<=b\/1<=C.F0 b):=fun b hb=>h.mem.mine b (Nat.le_trans hb (sumL_le Fs b S.nx hks hk))
 refine h.make hg ks hks hlive (.row e 0 r) (some (w.heap.size,cap)) _ w' (by omega) hos htp hout (fun b hb _=>hlt b hb) (fun b=> ?_) (fun M=> ?_)
 ·have:=hF b
  by_cases e:b=w.heap.size
  ·subst e
   have:F w.heap.size=0:=by
    rcases Nat.eq_zero_or_pos (F w.heap.size) with h0|h0
    ·exact h0
    ·have:=(own _ (Nat.le_trans h0 (hF _))).1;omega
   rw[if_pos (by omega)]
   simp;omega
  ·simp[f1_at,e];omega
 ·refine .inr ⟨w.heap.size,cap,arr,ty,F,newρ_self ..,?_,h1,h2,hc.mono (fun b hb=> ?_) (fun b hb=>hlt b (own b (Nat.le_trans hb (hF b))).1),rfl⟩
  ·show w'.heap[w.heap.size]? =_
   rw[hw,Array.getElem?_push,if_pos rfl]
  ·rcases hb with hb| ⟨hb1,hb2⟩
   ·exact M.zl b hb
   ·obtain ⟨o1,o2⟩:=own b hb1
    refine ⟨.inr (.inr ⟨o2,by show b<w'.heap.size;omega,?_⟩),hlt b o1⟩
    have g1:=sumTo_put (kilF Fs ks) (fadd (f1 w.heap.size) F) b (live_lt h.mem hg)
    have g2:=sumTo_kil Fs b S.nx ks hks hk
    have g3:=h.mem.one b
    have g4:f1 w.heap.size b=0:=by rw[f1_at,if_neg (by omega)]
    have g5:=sumTo_le (kilF Fs ks) b (live_lt h.mem hg)
    simp[g4] at g1
    omega
theorem CellsRel.ofFz {w:World} {Z:Zs}: ∀ {cs:List Cell} {vs:List Value},(∀(j:Nat) (c:Cell),cs[j]? =some c-> ∃v,vs[j]? =some v/\CellRel w Z c v fz)->CellsRel w Z cs vs fz
 | [],_,_=>rfl
 |c::cs,[],h=>by obtain ⟨v,hv,_⟩:=h 0 c rfl;cases hv
 |c::cs,v::vs,h=>by
  obtain ⟨v',hv,hr⟩:=h 0 c rfl
  cases hv
  exact ⟨fz,fz,hr,CellsRel.ofFz (fun j c hc=>by simpa using h (j+1) c (by simpa using hc)),(fadd_fz _).symm⟩
theorem emptyRow_size {e:Nat} {r:Row} (T:TOK P tt) (h:emptyRow tt e=some r): ∃te,tt e=some te/\te.size=r.size/\(∀n x,te.k≠ .array n x)/\0<te.size:=by
 unfold emptyRow at h
 split at h
 all_goals try (cases h;done)
 ·rename_i k sz bs hq
  cases h
  refine ⟨_,hq,?_,by simp,(T e _ hq).some.1⟩
  have:=(T e _ hq).cells (by simp)
  rw[scalar_leaf (by simp[scalarTy,hq])] at this
  simpa[Row.size] using this
 ·rename_i sz bs hq
  cases h
  refine ⟨_,hq,?_,by simp,(T e _ hq).some.1⟩
  have:=(T e _ hq).cells (by simp)
  rw[scalar_leaf (by simp[scalarTy,hq])] at this
  simpa[Row.size] using this
 ·rename_i sz bs hq
  cases h
  refine ⟨_,hq,?_,by simp,(T e _ hq).some.1⟩
  have:=(T e _ hq).cells (by simp)
  rw[scalar_leaf (by simp[scalarTy,hq])] at this
  simpa[Row.size] using this
 ·rename_i e' sz bs hq
  cases h
  refine ⟨_,hq,?_,by simp,(T e _ hq).some.1⟩
  have:=(T e _ hq).cells (by simp)
  rw[scalar_leaf (by simp[scalarTy,hq])] at this
  simpa[Row.size] using this
 ·rename_i fs sz bs hq
  obtain ⟨_,h⟩:=bif_some h
  cases h
  refine ⟨_,hq,?_,by simp,(T e _ hq).some.1⟩
  have:=(T e _ hq).cells (by simp)
  simpa[Row.size] using this
theorem zeroLeaf_gi (sg:List Bool) (f:Nat):gi (sg.map zeroLeaf) f=0:=by
 unfold gi
 rw[List.getElem?_map]
 cases sg[f]? with
 |none=>rfl
 |some b=>cases b<;>rfl
theorem zeroLeaf_gl (sg:List Bool) (f:Nat):gl (sg.map zeroLeaf) f=[]:=by
 unfold gl
 rw[List.getElem?_map]
 cases sg[f]? with
 |none=>rfl
 |some b=>cases b<;>rfl
theorem zeroRow_len (m:Nat) (r:Row):(zeroRow m r).len=m:=by cases r<;>simp[zeroRow,Row.len]
theorem zeroRow_size (m:Nat) (r:Row):(zeroRow m r).size=r.size:=by cases r<;>rfl
theorem zero_cell {e:Nat} {r:Row} (T:TOK P tt) (h:emptyRow tt e=some r) {w:World} {Z:Zs} (m i f:Nat) (hi:i<m) (hf:f<r.size): ∃c v,(zeroRow m r).cells[i*r.size+f]? =some c/\((leafTypes tt depth e).map (zeroV tt))[f]? =some v/\CellRel w Z c v fz:=by
 unfold emptyRow at h
 split at h
 all_goals try (cases h;done)
 ·rename_i k sz bs hq
  cases h
  have:f=0:=by simp[Row.size] at hf;exact hf
  subst this
  rw[scalar_leaf (by simp[scalarTy,hq])]
  exact ⟨.sc (.int k 0),.int k 0,by simp[zeroRow,Row.cells,Row.size,hi],by simp[zeroV,hq],rfl,rfl⟩
 ·rename_i sz bs hq
  cases h
  have:f=0:=by simp[Row.size] at hf;exact hf
  subst this
  rw[scalar_leaf (by simp[scalarTy,hq])]
  exact ⟨.sc (.bool false),.bool false,by simp[zeroRow,Row.cells,Row.size,hi],by simp[zeroV,hq],rfl,rfl⟩
 ·rename_i sz bs hq
  cases h
  have:f=0:=by simp[Row.size] at hf;exact hf
  subst this
  rw[scalar_leaf (by simp[scalarTy,hq])]
  exact ⟨.sc (.string ByteArray.empty),.string ByteArray.empty,by simp[zeroRow,Row.cells,Row.size,hi],by simp[zeroV,hq],rfl,rfl⟩
 ·rename_i e' sz bs hq
  cases h
  have:f=0:=by simp[Row.size] at hf;exact hf
  subst this
  rw[scalar_leaf (by simp[scalarTy,hq])]
  exact ⟨.sl true [],.slice none 0 0,by simp[zeroRow,Row.cells,Row.size,hi],by simp[zeroV,hq],.inl ⟨rfl,rfl,rfl⟩⟩
 ·rename_i fs sz bs hq
  obtain ⟨hall,h⟩:=bif_some h
  cases h
  simp only[Row.size,List.length_map] at hf
  have hfl:((leafTypes tt depth e).map (zeroV tt))[f]? =some (zeroV tt (leafTypes tt depth e)[f]):=by simp[hf]
  have hck:=List.all_eq_true.1 hall _ (List.getElem_mem hf)
  simp only[zeroRow]
  have hget:=recs_get ((leafTypes tt depth e).map (isSl tt)) true (List.replicate m (((leafTypes tt depth e).map (isSl tt)).map zeroLeaf)) i f (by simpa using hf)
  simp only[Row.size] at hget ⊢
  rw[hget,hfl]
  simp only[List.getElem?_replicate,hi,if_true,Option.bind_some,zeroLeaf_gi,zeroLeaf_gl,List.getElem?_map,List.getElem?_eq_getElem hf,Option.map_some]
  refine ⟨_,_,rfl,rfl,?_⟩
  generalize (leafTypes tt depth e)[f] =t at hck
  unfold leafOK at hck
  split at hck
  ·rename_i e' sz' bs' hq'
   simp only[isSl,hq',if_true,zeroV]
   exact .inl ⟨rfl,rfl,rfl⟩
  ·rename_i k sz' bs' hq'
   have:=of_decide_eq_true hck
   subst this
   simp only[isSl,hq',zeroV]
   exact ⟨rfl,rfl⟩
  ·cases hck
theorem made_get (z:Array Value) (m j:Nat) (hj:j<m) (hz:0<z.size):(madeCells z m).toList[j]? =z.toList[j%z.size]? :=by
 have hm:j%z.size<z.size:=Nat.mod_lt _ hz
 simp[madeCells,hj,hm,getElem!_pos]
theorem made_rel {e:Nat} {r:Row} (T:TOK P tt) (h:emptyRow tt e=some r) {w:World} {Z:Zs} (z:Array Value) (hz:z.toList=(leafTypes tt depth e).map (zeroV tt)) (hs:z.size=r.size) (hp:0<r.size) (m:Nat):CellsRel w Z (zeroRow m r).cells (madeCells z (m*r.size)).toList fz:=by
 refine CellsRel.ofFz fun j c hc=> ?_
 have hj:j<m*r.size:=by
  have:=(List.getElem?_eq_some_iff.1 hc).1
  rwa [Row.cells_length,zeroRow_len,zeroRow_size] at this
 have hi:j/r.size<m:=(Nat.div_lt_iff_lt_mul hp).2 hj
 have hf:j%r.size<r.size:=Nat.mod_lt _ hp
 obtain ⟨c',v,h1,h2,h3⟩:=zero_cell T h (w:=w) (Z:=Z) m _ _ hi hf
 rw[Nat.mul_comm,Nat.div_add_mod] at h1
 rw[hc] at h1;cases h1
 exact ⟨v,by rw[made_get z _ _ hj (by omega),hs,hz];exact h2,h3⟩
theorem own_rel {C:Cx} {w':World} {ρ':Place} {hp':Nat->Option Root} {nx:Nat} {Fs':Nat->FP} {id b cap:Nat} (hlt:id<nx) (hρ:ρ' id=some (b,cap)) {e v:Nat} {r:Row} (hroot:hp' id=some (.row e v r)):AVRel (C.env w' ρ' hp' nx Fs') (.l (.own id)) (.slice (some ⟨b,0,none⟩) r.len cap):=
 ⟨hlt,fun root hr=>by
  simp only[Cx.env] at hr ⊢
  rw[hroot] at hr;cases hr
  exact ⟨r,rfl,by rw[hρ];rfl⟩⟩
theorem evMakeSlice_sound (T:TOK P tt) (h:SRel C S a w ρ Fs) {o:Oper} {t:Nat} {l c:Operand} (ho:o.op= .makeSlice t l c) {E:Eff} (he:evMakeSlice (R:=Eff) tt n t l c (St.rd C.N S.sl l) some=some E) (hg:S.hp n=some .ghost): ∃w' ρ' Fs' u,Out P C S o E a w w' ρ' Fs' u:=by
 unfold evMakeSlice at he
 obtain ⟨hsame,he⟩:=bif_some he
 split at he
 ·rename_i e hel
  split at he
  ·rename_i r hr
   obtain ⟨k,m,hl,he⟩:=asI_some he
   obtain ⟨hc,he⟩:=chk_some he
   obtain ⟨h0,h1⟩:=and_bool hc
   have h0:=of_decide_eq_true h0
   have h1:=of_decide_eq_true h1
   cases he
   have hv:a.eval l= .int k m:=rd_l h hl
   have hv2: ∃k',a.eval c= .int k' m:=by
    cases l with
    |tmp x=>cases c with
     |tmp y=>simp only[sameOperand] at hsame;have:=eq_of_beq hsame;subst this;exact ⟨k,hv⟩
     |_=>cases hsame
    |const x=>cases x with
     |int k1 a1=>cases c with
      |const y=>cases y with
       |int k2 a2=>
        simp only[sameOperand] at hsame
        have:=eq_of_beq hsame
        subst this
        have hv':Value.int k1 a1= .int k m:=hv
        cases hv'
        exact ⟨k2,rfl⟩
       |_=>cases hsame
      |_=>cases hsame
     |_=>cases c<;>cases hsame
    |_=>cases c<;>cases hsame
   obtain ⟨k',hv2⟩:=hv2
   obtain ⟨te,q1,q2,q3,q4⟩:=emptyRow_size T hr
   obtain ⟨i,z,z1,z2,z3,z4,z5,z6⟩:=zero_facts T q1 q3
   have hb:bytesOf tt e=i.bytes:=by simp[bytesOf,q1,z5]
   have hzs:z.cells.size=r.size:=by
    have:=congrArg List.length z3
    simp only[Array.length_toList,List.length_map] at this
    omega
   rw[hb] at h1
   have hbp:0<i.bytes:=by rw[z5];exact (T e te q1).some.2
   have hm:m.toNat<=room:=Nat.le_trans (Nat.le_mul_of_pos_right _ hbp) h1
   simp only[room] at hm h1
   have hrun:=run_make (P:=P) w t e i z (slice_facts T hel) z1 z2 k k' m m h0 (Int.le_refl _) (by
    have:((i.bytes*m.toNat:Nat):Int)<=281474976710656:=by rw[Nat.mul_comm];omega
    rw[Int.natCast_mul] at this
    rwa [Int.toNat_of_nonneg h0] at this) (by omega)
   have hlen:(zeroRow m.toNat r).len=m.toNat:=zeroRow_len _ _
   have hsz:(zeroRow m.toNat r).size=r.size:=zeroRow_size _ _
   refine ⟨_,_,_,.slice (some ⟨w.heap.size,0,none⟩) m.toNat m.toNat,.inl ?_,SRel.newRow h hg [] (by simp) (by simp) e (zeroRow m.toNat r) (madeCells z.cells (m.toNat*i.size)) e m.toNat fz ?_ (by simp) (by rw[hlen];exact Nat.le_refl _) (by rw[hsz,size_madeCells];rw[z4,q2];exact Nat.le_refl _) (w.alloc (.cells (madeCells z.cells (m.toNat*i.size)) e)) rfl rfl rfl rfl,?_⟩
   ·simp only[execOp,ho]
    refine run_v ?_
    rw[hv,hv2]
    exact hrun
   ·rw[z4,q2]
    exact made_rel T hr z.cells z3 hzs (by omega) _
   ·have:=own_rel (C:=C) (w':=w.alloc (.cells (madeCells z.cells (m.toNat*i.size)) e)) (ρ':=newρ ρ n (some (w.heap.size,m.toNat))) (hp':=upd S.hp [(n,some (.row e 0 (zeroRow m.toNat r)))]) (nx:=S.nx) (Fs':=putF (kilF Fs []) n (fadd (f1 w.heap.size) fz)) (live_lt h.mem hg) (newρ_self ..) (e:=e) (v:=0) (r:=zeroRow m.toNat r) (by simp[upd])
    rw[hlen] at this
    exact this
  ·cases he
 ·cases he
end
end Go.Proofs.YtbmmhdmljajcfaaGreatDoor.V
namespace Go.Proofs.YtbmmhdmljajcfaaGreatDoor.V
open Go
section
variable {P:Program} {tt:TT} {C:Cx} {S:St} {a:Act} {w:World} {ρ:Place} {Fs:Nat->FP} {n:Nat}
theorem bptr_new {C:Cx} {w':World} {ρ':Place} {hp':Nat->Option Root} {nx:Nat} {Fs':Nat->FP} {id b cap:Nat} (hlt:id<nx) (hρ:ρ' id=some (b,cap)) {root:Root} (hroot:hp' id=some root) (hre:root.real):AVRel (C.env w' ρ' hp' nx Fs') (.l (.bptr id 0)) (.pointer (some ⟨b,0,none⟩)):=
 ⟨hlt,fun r hr=>by simp only[Cx.env] at hr;rw[hroot] at hr;cases hr;exact hre,b,cap,hρ,rfl⟩
theorem evAlloc_sound (T:TOK P tt) (h:SRel C S a w ρ Fs) {o:Oper} {t:Nat} (ho:o.op= .alloc t) {E:Eff} (he:evAlloc (R:=Eff) tt n t some=some E) (hg:S.hp n=some .ghost): ∃w' ρ' Fs' u,Out P C S o E a w w' ρ' Fs' u:=by
 have box: ∀(e:TE),tt t=some e->(∀n x,e.k≠ .array n x)-> ∃w' ρ' Fs' u,Out P C S o ⟨.l (.bptr n 0),[(n,some (.box t ((leafTypes tt depth t).map (zeroLV tt))))],n+1,[],[]⟩ a w w' ρ' Fs' u:=fun e hq hk=>by
  obtain ⟨i,z,z1,z2,z3,z4,z5,z6⟩:=zero_facts T hq hk
  refine ⟨_,_,_,.pointer (some ⟨w.heap.size,0,none⟩),.inl ?_,SRel.newBox h hg t _ z.cells t (by rw[z3];exact zeros_rel _ tt _),bptr_new (root:= .box t ((leafTypes tt depth t).map (zeroLV tt))) (live_lt h.mem hg) (newρ_self ..) (by simp[upd]) trivial⟩
  simp only[execOp,ho]
  exact run_v (run_alloc_any z1 z2 w)
 unfold evAlloc at he
 split at he
 ·rename_i fs sz bs hq
  cases he
  exact box _ hq (by simp)
 ·rename_i m e sz bs hq
  split at he
  ·rename_i r hr
   obtain ⟨hc,he⟩:=bif_some he
   obtain ⟨hc,h3⟩:=and_bool hc
   obtain ⟨h1,h2⟩:=and_bool hc
   cases he
   obtain ⟨i,i1,i2,i3,z,z1,z2⟩:=(T t _ hq).info
   have h2:=eq_of_beq h2
   have hzl:z.cells.toList=List.replicate m (zeroV tt e):=z2
   obtain ⟨te,q1,q2,q3,q4⟩:=emptyRow_size T hr
   have hlf:leafTypes tt depth e=[e]/\(∀j,j<m-> ∃c,(zeroRow m r).cells[j]? =some c/\CellRel w (Zu C w S.nx Fs [] fz) c (zeroV tt e) fz):=by
    have hl:=(T e te q1).cells q3
    obtain ⟨i',z',_,_,_,_,_,y6⟩:=zero_facts T q1 q3
    have:(leafTypes tt depth e).length=1:=by omega
    have hone:leafTypes tt depth e=[e]:=by
     unfold emptyRow at hr
     split at hr
     all_goals try (cases hr;done)
     all_goals first
      | (obtain ⟨_,hr⟩:=bif_some hr;cases hr;simp[Row.deep] at h3;done)
      | (rename_i hq';exact scalar_leaf (by simp[scalarTy,hq']))
    refine ⟨hone,fun j hj=> ?_⟩
    obtain ⟨c,v,k1,k2,k3⟩:=zero_cell T hr (w:=w) (Z:=Zu C w S.nx Fs [] fz) m j 0 hj (by omega)
    rw[hone] at k2
    simp at k2
    subst k2
    rw[h2,Nat.mul_one,Nat.add_zero] at k1
    exact ⟨c,k1,k3⟩
   have hlen:(zeroRow m r).len=m:=zeroRow_len _ _
   have hsz:(zeroRow m r).size=1:=by rw[zeroRow_size];exact h2
   have hzs:z.cells.size=m:=by
    have:=congrArg List.length hzl
    simpa using this
   refine ⟨_,_,_,.pointer (some ⟨w.heap.size,0,none⟩),.inl ?_,SRel.newRow h hg [] (by simp) (by simp) t (zeroRow m r) z.cells t m fz ?_ (by simp) (by rw[hlen];exact Nat.le_refl _) (by rw[hsz,hzs];omega) (w.alloc (.cells z.cells t)) rfl rfl rfl rfl,?_⟩
   ·simp only[execOp,ho]
    exact run_v (run_alloc_any i1 z1 w)
   ·refine CellsRel.ofFz fun j c hc=> ?_
    have hj:j<m:=by
     have:=(List.getElem?_eq_some_iff.1 hc).1
     rw[Row.cells_length,hlen,hsz] at this
     omega
    obtain ⟨c',k1,k2⟩:=hlf.2 j hj
    rw[hc] at k1;cases k1
    exact ⟨_,by rw[hzl];simp[hj],k2⟩
   ·refine ⟨live_lt h.mem hg,fun root hr'=> ?_⟩
    simp only[Cx.env] at hr' ⊢
    have:upd S.hp [(n,some (.row t 0 (zeroRow m r)))] n=some (.row t 0 (zeroRow m r)):=by simp[upd]
    rw[this] at hr'
    cases hr'
    exact ⟨_,rfl,hlen,w.heap.size,m,newρ_self ..,rfl⟩
  ·cases he
 ·rename_i e hk1 hk2 hq
  obtain ⟨hs,he⟩:=bif_some he
  cases he
  rw[show [zeroLV tt t] =(leafTypes tt depth t).map (zeroLV tt) by rw[scalar_leaf hs];rfl]
  refine box e hq fun n x hx=> ?_
  obtain ⟨k,sz,bs⟩:=e
  simp only at hx
  subst hx
  simp[scalarTy,hq] at hs
 ·cases he
theorem setMany_rel {E:Env}: ∀(xs:List LV) (us:List Value),LVsRel E xs us-> ∀(zs:List LV) (vs:List Value) (k:Nat),LVsRel E zs vs->LVsRel E (setMany zs k xs) ((us.zipIdx 0).foldl (fun cs (x:Value×Nat)=>cs.set (k+x.2) x.1) vs):=by
 have gen: ∀(xs:List LV) (us:List Value) (s:Nat),LVsRel E xs us-> ∀(zs:List LV) (vs:List Value) (k:Nat),LVsRel E zs vs->LVsRel E (setMany zs (k+s) xs) ((us.zipIdx s).foldl (fun cs (x:Value×Nat)=>cs.set (k+x.2) x.1) vs):=by
  intro xs
  induction xs with
  |nil=>intro us s h zs vs k hz;cases us with
   |nil=>exact hz
   |cons u us=>exact absurd h id
  |cons x xs ih=>intro us s h zs vs k hz;cases us with
   |nil=>exact absurd h id
   |cons u us=>
    simp only[List.zipIdx_cons,List.foldl_cons,setMany]
    refine ih us (s+1) h.2 _ _ k ?_
    have: ∀(zs:List LV) (vs:List Value) (k:Nat),LVsRel E zs vs->LVsRel E (zs.set k x) (vs.set k u):=by
     intro zs
     induction zs with
     |nil=>intro vs k hz;cases vs with
      |nil=>exact hz
      |cons v vs=>exact absurd hz id
     |cons z zs ih2=>intro vs k hz;cases vs with
      |nil=>exact absurd hz id
      |cons v vs=>cases k with
       |zero=>exact ⟨h.1,hz.2⟩
       |succ k=>exact ⟨hz.1,ih2 vs k hz.2⟩
    exact this zs vs _ hz
 intro xs us h zs vs k hz
 exact gen xs us 0 h zs vs k hz
theorem foldl_arr (k:Nat): ∀(us:List Value) (s:Nat) (cs:Array Value),((us.zipIdx s).foldl (fun cs (x:Value×Nat)=>cs.setIfInBounds (k+x.2) x.1) cs).toList=(us.zipIdx s).foldl (fun cs (x:Value×Nat)=>cs.set (k+x.2) x.1) cs.toList
 | [],s,cs=>rfl
 |u::us,s,cs=>by
  simp only[List.zipIdx_cons,List.foldl_cons]
  rw[foldl_arr k us (s+1)]
  simp
theorem fill_sound (T:TOK P tt) (m:MRel C S.hp S.nx w ρ Fs) {fs:List (Nat×Nat)} {fields:Array Field} (hf:fields.toList.map (fun f=>(f.offset,f.type))=fs) (places:List (Nat×Nat)) (hpl:fields.toList.mapM (fun f=>(P.info? f.type).map fun i=>(f.offset,i.size))=some places) (env:Operand->Value) (hrd: ∀x,AVRel (C.env w ρ S.hp S.nx Fs) (St.rd C.N S.sl x) (env x)):
 ∀(ps:List (Nat×Operand)) (zero:List LV) (zs:Array Value) (xs:List LV),LVsRel (C.env w ρ S.hp S.nx Fs) zero zs.toList->fillParts tt S.hp fs zero (ps.map fun p=>(p.1,St.rd C.N S.sl p.2))=some xs->
 ∃cells,Instr.fill (places.toArray[·]?) zs (ps.map fun p=>(p.1,env p.2))=some cells/\LVsRel (C.env w ρ S.hp S.nx Fs) xs cells.toList:=by
 have hlook: ∀(i off ft:Nat) (e:TE),fs[i]? =some (off,ft)->tt ft=some e->places.toArray[i]? =some (off,e.size):=by
  intro i off ft e h1 h2
  subst hf
  rw[List.getElem?_map] at h1
  cases hfi:fields.toList[i]? with
  |none=>rw[hfi] at h1;cases h1
  |some f=>
   rw[hfi] at h1
   simp only[Option.map_some,Option.some.injEq,Prod.mk.injEq] at h1
   obtain ⟨rfl,rfl⟩:=h1
   obtain ⟨ti,t1,t2,_⟩:=(T _ _ h2).info
   have: ∀(l:List Field) (ps:List (Nat×Nat)),l.mapM (fun f=>(P.info? f.type).map fun i=>(f.offset,i.size))=some ps-> ∀j:Nat,l[j]? =some f->ps[j]? =some (f.offset,ti.size):=by
    intro l
    induction l with
    |nil=>intro ps _ j hj;simp at hj
    |cons g l ih=>
     intro ps hps j hj
     simp only[List.mapM_cons,Option.bind_eq_bind,Option.pure_def] at hps
     cases hi:P.info? g.type with
     |none=>simp[hi] at hps
     |some gi=>
      cases hr:l.mapM (fun f=>(P.info? f.type).map fun i=>(f.offset,i.size)) with
      |none=>simp[hi,hr] at hps
      |some rest=>
       simp[hi,hr] at hps
       subst hps
       cases j with
       |zero=>
        simp at hj
        subst hj
        rw[t1] at hi;cases hi
        rfl
       |succ j=>simpa using ih rest hr j (by simpa using hj)
   rw[List.getElem?_toArray,this _ _ hpl i hfi,t2]
 intro ps
 induction ps with
 |nil=>intro zero zs xs hz he;simp only[List.map_nil,fillParts,Option.some.injEq] at he;subst he;exact ⟨zs,rfl,hz⟩
 |cons p ps ih=>
  intro zero zs xs hz he
  obtain ⟨i,x⟩:=p
  simp only[List.map_cons,fillParts] at he
  split at he
  ·rename_i off ft ys h1 h2
   split at he
   ·rename_i e h3
    obtain ⟨h4,he⟩:=bif_some he
    obtain ⟨h5,h6⟩:=and_bool h4
    have h5:=eq_of_beq h5
    have h6:=Nat.le_of_ble_eq_true h6
    obtain ⟨hr,_⟩:=aggCells_sound m h2 (hrd x)
    have hl:=hr.length
    have hzl:=hz.length
    simp only[Array.length_toList] at hl hzl
    have hstep:=setMany_rel ys _ hr zero zs.toList off hz
    rw[<- foldl_arr] at hstep
    obtain ⟨cells,g1,g2⟩:=ih _ _ xs hstep he
    refine ⟨cells,?_,g2⟩
    simp only[List.map_cons]
    unfold Instr.fill
    rw[hlook i off ft e h1 h3]
    simp only[]
    rw[if_neg (by simp;omega)]
    rw[<- g1]
    congr 1
    rw[<- Array.foldl_toList,Array.toList_zipIdx]
   ·cases he
  ·cases he
theorem evBuild_sound (T:TOK P tt) (h:SRel C S a w ρ Fs) {o:Oper} {t:Nat} {ps:Array (Nat×Operand)} (ho:o.op= .build t ps) {E:Eff} (he:evBuild (R:=Eff) tt S.hp n t (ps.toList.map fun p=>(p.1,St.rd C.N S.sl p.2)) some=some E): ∃u,Out P C S o E a w w ρ Fs u:=by
 unfold evBuild at he
 split at he
 ·rename_i fs sz bs hq
  split at he
  ·rename_i xs hxs
   cases he
   obtain ⟨fields,f1,f2,f3⟩:=(T t _ hq).desc
   obtain ⟨i,z,z1,z2,z3,z4,z5,z6⟩:=zero_facts T hq (by simp)
   have hpl: ∃places,fields.toList.mapM (fun f=>(P.info? f.type).map fun i=>(f.offset,i.size))=some places:=by
    have: ∀l:List Field,(∀f∈l,∃i,P.info? f.type=some i/\i.size≠0)-> ∃places,l.mapM (fun f=>(P.info? f.type).map fun i=>(f.offset,i.size))=some places:=by
     intro l
     induction l with
     |nil=>intro _;exact ⟨[],rfl⟩
     |cons f l ih=>
      intro hl
      obtain ⟨i,hi,_⟩:=hl f (by simp)
      obtain ⟨ps,hps⟩:=ih (fun g hg=>hl g (by simp[hg]))
      exact ⟨(f.offset,i.size)::ps,by simp[List.mapM_cons,hi,hps]⟩
    exact this _ f3
   obtain ⟨places,hpl⟩:=hpl
   obtain ⟨cells,c1,c2⟩:=fill_sound T h.mem f2 places hpl a.eval h.rd ps.toList _ z.cells xs (by rw[z3];exact zeros_rel _ tt _) hxs
   refine ⟨.agg cells,Out.pure h rfl ?_ ⟨cells.toList,by simp,c2⟩⟩
   simp only[execOp,ho]
   refine run_v (run_build w t _ cells ?_)
   simp only[Program.built,z1,f1,z2,hpl]
   simpa using c1
  ·cases he
 ·rename_i m e sz bs hq
  split at he
  ·rename_i te hps hte
   cases he
   obtain ⟨i,i1,i2,i3,z,z1,z2⟩:=(T t _ hq).info
   have hzl:z.cells.toList=List.replicate m (zeroV tt e):=z2
   obtain ⟨ie,e1,_⟩:=(T e _ hte).info
   have hd:P.underlying t=some (.array m e):=(T t _ hq).desc
   have hps0:ps.toList=[]:=by simpa using hps
   refine ⟨.agg z.cells,Out.pure h rfl ?_ ⟨z.cells.toList,by simp,?_⟩⟩
   ·simp only[execOp,ho]
    refine run_v (run_build w t _ z.cells ?_)
    simp only[Program.built,i1,hd,z1,e1]
    simp[hps0,Instr.fill]
   ·rw[hzl]
    have: ∀k,LVsRel (C.env w ρ S.hp S.nx Fs) (List.replicate k (zeroLV tt e)) (List.replicate k (zeroV tt e)):=by
     intro k
     induction k with
     |zero=>trivial
     |succ k ih=>exact ⟨zeroLV_rel _ tt e,ih⟩
    exact this m
  ·cases he
 ·cases he
end
end Go.Proofs.YtbmmhdmljajcfaaGreatDoor.V
namespace Go.Proofs.YtbmmhdmljajcfaaGreatDoor.V
open Go
section
variable {P:Program} {tt:TT} {C:Cx} {S:St} {a:Act} {w:World} {ρ:Place} {Fs:Nat->FP} {n:Nat}
def Took (hp':Nat->Option Root) (ks:List Nat):Prop:=ks.Nodup/\ ∀k∈ks,∃e v r,hp' k=some (.row e v r)
def Sub (hp' hp:Nat->Option Root):Prop:= ∀j r,hp' j=some r->hp j=some r
theorem Sub.refl (hp:Nat->Option Root):Sub hp hp:=fun _ _ h=>h
theorem Sub.kill {hp' hp:Nat->Option Root} (h:Sub hp' hp) (ks:List Nat):Sub (kill hp' ks) hp:=fun j r hj=>h j r (kill_some hj).2
theorem Took.nil (hp':Nat->Option Root):Took hp' []:=⟨by simp,by simp⟩
theorem Took.join {hp':Nat->Option Root} {ks ks':List Nat} (h:Took hp' ks) (h':Took (kill hp' ks) ks'):Took hp' (ks++ks'):=by
 refine ⟨List.nodup_append.2 ⟨h.1,h'.1,fun a ha b hb=> ?_⟩,fun k hk=> ?_⟩
 ·rintro rfl
  obtain ⟨e,v,r,h2⟩:=h'.2 a hb
  exact (kill_some h2).1 ha
 ·rcases List.mem_append.1 hk with hk|hk
  ·exact h.2 k hk
  ·obtain ⟨e,v,r,h2⟩:=h'.2 k hk
   exact ⟨e,v,r,(kill_some h2).2⟩
theorem Took.live {hp' hp:Nat->Option Root} {ks:List Nat} (h:Took hp' ks) (hs:Sub hp' hp): ∀k∈ks,∃r,hp k=some r/\r.real:=fun k hk=>by
 obtain ⟨e,v,r,h2⟩:=h.2 k hk
 exact ⟨_,hs _ _ h2,trivial⟩
theorem Took.lt (m:MRel C S.hp S.nx w ρ Fs) {hp':Nat->Option Root} {ks:List Nat} (h:Took hp' ks) (hs:Sub hp' S.hp): ∀k∈ks,k<S.nx:=fun k hk=>by
 obtain ⟨r,h2,_⟩:=h.live hs k hk
 exact live_lt m h2
theorem sumL_append (Fs:Nat->FP) (b:Nat): ∀ks ks':List Nat,sumL Fs (ks++ks') b=sumL Fs ks b+sumL Fs ks' b
 | [],ks'=>by simp[sumL]
 |k::ks,ks'=>by simp[sumL,sumL_append Fs b ks ks',Nat.add_assoc]
theorem scalars_fz {w:World} {Z:Zs}: ∀ {cs:List Cell} {vs:List Value} {F:FP},(∀c∈cs,∃v,c= .sc v)->CellsRel w Z cs vs F->F=fz
 | [],_,_,_,h=>h
 |c::cs,v::vs,F,hc,⟨F1,F2,h1,h2,hF⟩=>by
  obtain ⟨u,rfl⟩:=hc c (by simp)
  have:=scalars_fz (fun c' hc'=>hc c' (by simp[hc'])) h2
  rw[hF,h1.2,this,fadd_fz]
theorem own_cell (m:MRel C S.hp S.nx w ρ Fs) {id e ver:Nat} {l:List Int} (hroot:S.hp id=some (.row e ver (.ints .i64 l))) (hi:Nat) (hhi:hi<=l.length) {v:Value} (hv:v=hdr (ρ id) hi) {Z:Zs}: ∃F,CellRel w Z (.sl true (l.take hi)) v F/\ ∀b,F b<=Fs id b:=by
 rcases m.roots id _ hroot with ⟨h1,h2,h3⟩| ⟨b,cap,arr,ty,F',h1,h2,h3,h4,h5,h6⟩
 ·simp only[Cx.env] at h1
  simp only[Row.len] at h2
  have hl:l=[]:=List.eq_nil_of_length_eq_zero h2
  subst hl
  exact ⟨fz,.inl ⟨by rw[hv,h1];rfl,by simp,rfl⟩,fun b=>by simp⟩
 ·simp only[Cx.env] at h1 h2
  have hF':F' =fz:=scalars_fz (fun c hc=>by simp only[Row.cells,List.mem_map] at hc;obtain ⟨x,_,rfl⟩:=hc;exact ⟨_,rfl⟩) h5
  simp only[Row.len,Row.size,Nat.mul_one] at h3 h4
  refine ⟨f1 b,.inr ⟨b,cap,arr,ty,?_,h2,by simp;omega,h4,fun j z hj=> ?_,rfl⟩,fun b'=>by rw[h6,hF',fadd_fz];exact Nat.le_refl _⟩
  ·rw[hv,h1]
   simp only[hdr,List.length_take]
   rw[Nat.min_eq_left hhi]
  ·rw[List.getElem?_take] at hj
   split at hj
   ·obtain ⟨v',F1,F2,q1,q2,_⟩:=h5.get (j:=j) (c:= .sc (.int .i64 z)) (by simp[Row.cells,hj])
    obtain ⟨rfl,_⟩:=q2
    simpa using q1
   ·cases hj
theorem elemSl_sound (m:MRel C S.hp S.nx w ρ Fs) {hp':Nat->Option Root} (hs:Sub hp' S.hp) {x:LV} {o:Bool} {l:List Int} {ks:List Nat} (he:elemSl hp' x=some (o,l,ks)) {v:Value} (hv:LVRel (C.env w ρ S.hp S.nx Fs) x v): ∃F,CellRel w (C.ZL w (sumTo S.nx Fs)) (.sl o l) v F/\(∀b,F b<=sumL Fs ks b)/\Took hp' ks/\(F≠fz->o=true)/\v.oneCell' =true:=by
 unfold elemSl at he
 split at he
 ·cases he
  exact ⟨fz,.inl ⟨hv,rfl,rfl⟩,fun b=>by simp,Took.nil _,fun h=>absurd rfl h,by rw[hv];rfl⟩
 ·rename_i p l'
  cases he
  obtain ⟨A,cap,h1,h2,h3⟩:=hv
  refine ⟨fz,⟨rfl,A,cap,h1,h2,fun hne=> ?_⟩,fun b=>by simp,Took.nil _,fun h=>absurd rfl h,by rw[h1];rfl⟩
  obtain ⟨ad,e,h0,vs,h4,h5⟩:=h3 (by simp only[Row.len];intro h;exact hne (List.eq_nil_of_length_eq_zero h))
  refine ⟨ad,e,?_,fun j z hj=> ?_⟩
  ·cases p
   ·exact h0
   ·exact .inr h0
  ·obtain ⟨v',F1,F2,q1,q2,_⟩:=h5.get (j:=j) (c:= .sc (.int .i64 z)) (by simp[Row.cells,hj])
   obtain ⟨rfl,_⟩:=q2
   have:=h4 j (by simp[Row.cells];exact (List.getElem?_eq_some_iff.1 hj).1)
   rw[q1] at this
   exact this
 ·rename_i id
  split at he
  ·rename_i e ver l' hroot
   cases he
   obtain ⟨_,hx⟩:=hv
   obtain ⟨r',e1,e2⟩:=hx _ (hs _ _ hroot)
   cases e1
   obtain ⟨F,h1,h2⟩:=own_cell m (hs _ _ hroot) l.length (Nat.le_refl _) e2 (Z:=C.ZL w (sumTo S.nx Fs))
   rw[List.take_length] at h1
   exact ⟨F,h1,fun b=>by have:=h2 b;simp[sumL];exact this,⟨by simp,fun k hk=>by simp at hk;subst hk;exact ⟨_,_,_,hroot⟩⟩,fun _=>rfl,by rw[e2];exact hdr_one _ _⟩
  ·cases he
 ·rename_i id hi
  split at he
  ·rename_i e ver l' hroot
   cases he
   obtain ⟨_,hx⟩:=hv
   obtain ⟨r',e1,_,e3,e2⟩:=hx _ (hs _ _ hroot)
   cases e1
   have e4:v=hdr (ρ id) hi:=by
    rw[e2]
    simp only[Cx.env]
    cases hρ:ρ id with
    |none=>rfl
    |some q=>
     obtain ⟨b,cap⟩:=q
     simp only[subHdr,hdr,Row.size,Nat.zero_mul,Nat.sub_zero]
     split<;>rfl
   obtain ⟨F,h1,h2⟩:=own_cell m (hs _ _ hroot) hi e3 e4 (Z:=C.ZL w (sumTo S.nx Fs))
   exact ⟨F,h1,fun b=>by have:=h2 b;simp[sumL];exact this,⟨by simp,fun k hk=>by simp at hk;subst hk;exact ⟨_,_,_,hroot⟩⟩,fun _=>rfl,by rw[e4];exact hdr_one _ _⟩
  ·cases he
 ·cases he
theorem join_le (m:MRel C S.hp S.nx w ρ Fs) {hp':Nat->Option Root} (hs:Sub hp' S.hp) {ks ks':List Nat} (h:Took hp' (ks++ks')) (b:Nat):sumL Fs ks b+sumL Fs ks' b<=1:=by
 have h1:=sumL_le Fs b S.nx h.1 (h.lt m hs)
 have h2:=m.one b
 rw[sumL_append] at h1
 omega
theorem cells_join (m:MRel C S.hp S.nx w ρ Fs) {hp':Nat->Option Root} (hs:Sub hp' S.hp) {ks ks':List Nat} (ht:Took hp' (ks++ks')) {cs cs':List Cell} {vs vs':List Value} {F F':FP}
 (h:CellsRel w (Zu C w S.nx Fs ks F) cs vs F) (hl:vs.length=cs.length) (h':CellsRel w (Zu C w S.nx Fs ks' F') cs' vs' F') (hF: ∀b,F b<=sumL Fs ks b) (hF': ∀b,F' b<=sumL Fs ks' b):
 CellsRel w (Zu C w S.nx Fs (ks++ks') (fadd F F')) (cs++cs') (vs++vs') (fadd F F')/\ ∀b,fadd F F' b<=sumL Fs (ks++ks') b:=by
 refine ⟨CellsRel.append (h.mono (fun b hb=>⟨?_,rfl⟩) (fun b _=>rfl)) hl (h'.mono (fun b hb=>⟨?_,rfl⟩) (fun b _=>rfl)),fun b=> ?_⟩
 ·rcases hb with hb| ⟨h1,h2⟩
  ·exact .inl hb
  ·have:=join_le m hs ht b
   have:=hF' b
   exact .inr ⟨by rw[sumL_append];omega,by simp;omega⟩
 ·rcases hb with hb| ⟨h1,h2⟩
  ·exact .inl hb
  ·have:=join_le m hs ht b
   have:=hF b
   exact .inr ⟨by rw[sumL_append];omega,by simp;omega⟩
 ·have:=hF b
  have:=hF' b
  rw[sumL_append];simp;omega
theorem cells_freeze {ks:List Nat} {cs:List Cell} {vs:List Value} {F:FP} (h:CellsRel w (Zu C w S.nx Fs ks F) cs vs F) (hF: ∀b,F b<=sumL Fs ks b):CellsRel w (Zu C w S.nx Fs ks fz) (cs.map Cell.frz) vs fz:=
 h.frz (fun b hb=>hb.imp (fun h=>h) (fun h=>⟨h.1,rfl⟩)) (fun b hb=> .inr ⟨Nat.le_trans hb (hF b),rfl⟩)
theorem cells_seal {ks:List Nat} {cs ct cf:List Cell} {vs:List Value} {F:FP} (h:CellsRel w (Zu C w S.nx Fs ks F) cs vs F) (hF: ∀b,F b<=sumL Fs ks b) (o:Bool) (h1:o=true->ct=cs) (h2:o=false->cf=cs.map Cell.frz): ∃F',CellsRel w (Zu C w S.nx Fs ks F') (if o then ct else cf) vs F' /\ ∀b,F' b<=sumL Fs ks b:=by
 cases o with
 |true=>rw[h1 rfl];exact ⟨F,h,hF⟩
 |false=>rw[h2 rfl];exact ⟨fz,cells_freeze h hF,fun b=>by simp⟩
theorem cell_one {c:Cell} {v:Value} {F:FP} {ks:List Nat} (h:CellRel w (C.ZL w (sumTo S.nx Fs)) c v F):CellsRel w (Zu C w S.nx Fs ks F) [c] [v] F:=
 ⟨F,fz,h.mono (fun b hb=>⟨.inl hb,rfl⟩) (fun b _=>rfl),rfl,(fadd_fz _).symm⟩
theorem recCells_cons (o:Bool) (x:Leaf) (r:List Leaf): ∀(sg:List Bool) (f:Nat),recCells o (x::r) (f+1) sg=recCells o r f sg
 | [],_=>rfl
 |true::sg,f=>by simp only[recCells,recCells_cons o x r sg];simp[gl]
 |false::sg,f=>by simp only[recCells,recCells_cons o x r sg];simp[gi]
theorem recCells_frz (o:Bool) (r:List Leaf): ∀(sg:List Bool) (f:Nat),(recCells o r f sg).map Cell.frz=recCells false r f sg
 | [],_=>rfl
 |true::sg,f=>by simp[recCells,recCells_frz o r sg,Cell.frz]
 |false::sg,f=>by simp[recCells,recCells_frz o r sg,Cell.frz]
theorem recCells_own (o o':Bool) (r:List Leaf) (sg:List Bool) (f:Nat):(if o then recCells true r f sg else recCells false r f sg)=recCells o r f sg:=by cases o<;>rfl
theorem elemRec_sound (m:MRel C S.hp S.nx w ρ Fs): ∀(sg:List Bool) (hp':Nat->Option Root) (xs:List LV) (vs:List Value) (o:Bool) (r:List Leaf) (ks:List Nat),Sub hp' S.hp->elemRec hp' sg xs=some (o,r,ks)->LVsRel (C.env w ρ S.hp S.nx Fs) xs vs->
 ∃F,CellsRel w (Zu C w S.nx Fs ks F) (recCells o r 0 sg) vs F/\(∀b,F b<=sumL Fs ks b)/\Took hp' ks/\vs.length=sg.length/\ ∀u∈vs,u.oneCell' =true:=by
 intro sg
 induction sg with
 |nil=>
  intro hp' xs vs o r ks hs he hv
  cases xs with
  |nil=>
   cases vs with
   |nil=>simp only[elemRec,Option.some.injEq,Prod.mk.injEq] at he;obtain ⟨rfl,rfl,rfl⟩:=he;exact ⟨fz,rfl,fun b=>by simp,Took.nil _,rfl,by simp⟩
   |cons v vs=>exact absurd hv id
  |cons x xs=>simp[elemRec] at he
 |cons b sg ih=>
  intro hp' xs vs o r ks hs he hv
  cases xs with
  |nil=>cases b<;>simp[elemRec] at he
  |cons x xs=>
   cases vs with
   |nil=>exact absurd hv id
   |cons v vs=>
    cases b with
    |false=>
     cases x with
     |i k z=>
      cases k with
      |i64=>
       simp only[elemRec] at he
       split at he
       ·rename_i o' r' ks' hq
        cases he
        obtain ⟨F,h1,h2,h3,h4,h5⟩:=ih hp' xs vs _ _ _ hs hq hv.2
        have hv1:v= .int .i64 z:=hv.1
        refine ⟨F,?_,h2,h3,by simp[h4],fun u hu=> ?_⟩
        ·simp only[recCells,recCells_cons,gi,Nat.zero_add]
         exact ⟨fz,F,⟨hv1,rfl⟩,h1,(fz_fadd F).symm⟩
        ·rcases List.mem_cons.1 hu with rfl|hu
         ·rw[hv1];rfl
         ·exact h5 u hu
       ·cases he
      |_=>simp[elemRec] at he
     |_=>simp[elemRec] at he
    |true=>
     simp only[elemRec] at he
     split at he
     ·rename_i o1 l ks1 hq1
      split at he
      ·rename_i o2 r' ks2 hq2
       cases he
       obtain ⟨F1,a1,a2,a3,a4,a5⟩:=elemSl_sound m hs hq1 hv.1
       obtain ⟨F2,b1,b2,b3,b4,b5⟩:=ih _ xs vs _ _ _ (hs.kill ks1) hq2 hv.2
       have ht:=a3.join b3
       obtain ⟨j1,j2⟩:=cells_join m hs ht (cell_one a1) rfl b1 a2 b2
       obtain ⟨F',s1,s2⟩:=cells_seal j1 j2 (o1&&o2) (ct:=recCells true (.ints l::r') 0 (true::sg)) (cf:=recCells false (.ints l::r') 0 (true::sg))
        (fun ho=>by obtain ⟨rfl,rfl⟩:=and_bool ho;simp[recCells,recCells_cons,gl])
        (fun _=>by simp[recCells,recCells_cons,gl,recCells_frz,Cell.frz])
       refine ⟨F',?_,s2,ht,by simp[b4],fun u hu=> ?_⟩
       ·rw[recCells_own _ true] at s1;exact s1
       ·rcases List.mem_cons.1 hu with rfl|hu
        ·exact a5
        ·exact b5 u hu
      ·cases he
     ·cases he
def AVsRel (E:Env):List AV->List Value->Prop
 | [],[]=>True
 |x::xs,v::vs=>AVRel E x v/\AVsRel E xs vs
 |_,_=>False
abbrev flat (vs:List Value):List Value:=vs.flatMap fun v=>v.cells.toList
theorem flat_cons (v:Value) (vs:List Value):flat (v::vs)=v.cells.toList++flat vs:=by simp[flat]
theorem row_nil {r:Row} (h:r.len=0):r.cells=[]:=List.eq_nil_of_length_eq_zero (by rw[Row.cells_length,h,Nat.zero_mul])
theorem rowOf_ints {hp:Nat->Option Root} {k:IntKind} {xs:List AV} {r:Row} {ks:List Nat} (h:rowOf hp (.ints k []) xs=some (r,ks)): ∃l,r= .ints k l:=by
 cases xs with
 |nil=>simp only[rowOf,Option.some.injEq,Prod.mk.injEq] at h;exact ⟨_,h.1.symm⟩
 |cons x xs=>
  cases x with
  |tup _=>simp[rowOf] at h
  |one x=>cases x with
   |agg _=>simp[rowOf] at h
   |l x=>cases x with
    |i k' z=>
     simp only[rowOf] at h
     obtain ⟨_,h⟩:=bif_some h
     split at h
     ·simp only[Option.some.injEq,Prod.mk.injEq] at h;exact ⟨_,h.1.symm⟩
     ·cases h
    |_=>simp[rowOf] at h
theorem rowOf_recs {hp:Nat->Option Root} {sg:List Bool} {xs:List AV} {r:Row} {ks:List Nat} (h:rowOf hp (.recs sg true []) xs=some (r,ks)): ∃o l,r= .recs sg o l:=by
 cases xs with
 |nil=>simp only[rowOf,Option.some.injEq,Prod.mk.injEq] at h;exact ⟨_,_,h.1.symm⟩
 |cons x xs=>
  cases x with
  |tup _=>simp[rowOf] at h
  |one x=>cases x with
   |l _=>simp[rowOf] at h
   |agg x=>
    simp only[rowOf] at h
    split at h
    ·split at h
     ·simp only[Option.some.injEq,Prod.mk.injEq] at h;exact ⟨_,_,h.1.symm⟩
     ·cases h
    ·cases h
theorem rowOf_sound (m:MRel C S.hp S.nx w ρ Fs): ∀(xs:List AV) (vs:List Value) (hp':Nat->Option Root) (r0 r:Row) (ks:List Nat),Sub hp' S.hp->r0.len=0->rowOf hp' r0 xs=some (r,ks)->AVsRel (C.env w ρ S.hp S.nx Fs) xs vs->
 ∃F,CellsRel w (Zu C w S.nx Fs ks F) r.cells (flat vs) F/\(∀b,F b<=sumL Fs ks b)/\Took hp' ks/\r.len=xs.length/\r.size=r0.size/\(∀v∈vs,v.cells.size=r0.size)/\vs.length=xs.length/\(∀u∈flat vs,u.oneCell' =true)/\r.deep=r0.deep/\(r0.isRecs=false-> ∀v∈vs,v.oneCell' =true):=by
 intro xs
 induction xs with
 |nil=>
  intro vs hp' r0 r ks hs h0 he hv
  cases vs with
  |cons v vs=>exact absurd hv id
  |nil=>
   have:r0=r/\ks=[]:=by
    cases r0<;>simp only[rowOf,Option.some.injEq,Prod.mk.injEq] at he<;>exact ⟨he.1,he.2.symm⟩
   obtain ⟨rfl,rfl⟩:=this
   rw[row_nil h0]
   exact ⟨fz,rfl,fun b=>by simp,Took.nil _,h0,rfl,by simp,rfl,by simp[flat],rfl,by simp⟩
 |cons x xs ih=>
  intro vs hp' r0 r ks hs h0 he hv
  cases vs with
  |nil=>exact absurd hv id
  |cons v vs=>
   obtain ⟨hv1,hv2⟩:=hv
   have plain: ∀(c:Cell) (r1 r2:Row) (ks':List Nat) (u:Value),v=u->u.oneCell' =true->(∀Z,CellRel w Z c u fz)->r1.len=0->r1.size=1->r0.size=1->r1.isRecs=false->r.deep=r0.deep->rowOf hp' r1 xs=some (r2,ks')->r.cells=c::r2.cells->ks=ks'->r.len=r2.len+1->r.size=1->
    ∃F,CellsRel w (Zu C w S.nx Fs ks F) r.cells (flat (v::vs)) F/\(∀b,F b<=sumL Fs ks b)/\Took hp' ks/\r.len=(x::xs).length/\r.size=r0.size/\(∀v' ∈v::vs,v'.cells.size=r0.size)/\(v::vs).length=(x::xs).length/\(∀u∈flat (v::vs),u.oneCell' =true)/\r.deep=r0.deep/\(r0.isRecs=false-> ∀u∈v::vs,u.oneCell' =true):=by
    intro c r1 r2 ks' u hvu hone hc hr1 hs1 hs0 hir hde hq hcells hks hlen hsize
    obtain ⟨F,h1,h2,h3,h4,h5,h6,h7,h8,h9,h10⟩:=ih vs hp' r1 r2 ks' hs hr1 hq hv2
    subst hks hvu
    have hcl:v.cells= #[v]:=one_cells hone
    refine ⟨F,?_,h2,h3,by simp[hlen,h4],by rw[hsize,hs0],fun v' hv'=> ?_,by simp[h7],fun u hu=> ?_,hde,fun _ u hu=> ?_⟩
    ·rw[hcells,flat_cons,hcl]
     exact ⟨fz,F,hc _,h1,(fz_fadd F).symm⟩
    ·rcases List.mem_cons.1 hv' with rfl|hv'
     ·rw[hcl,hs0];rfl
     ·rw[h6 v' hv',hs1,hs0]
    ·rw[flat_cons,hcl] at hu
     rcases List.mem_append.1 hu with hu|hu
     ·simp at hu;subst hu;exact hone
     ·exact h8 u hu
    ·rcases List.mem_cons.1 hu with rfl|hu
     ·exact hone
     ·exact h10 hir u hu
   unfold rowOf at he
   split at he
   ·rename_i heq;cases heq
   ·rename_i k _ k' z xs' heq
    cases heq
    by_cases hk:k=k'
    ·subst hk
     simp only[decide_true,cond_true] at he
     split at he
     ·rename_i k2 l ks' hq
      simp only[Option.some.injEq,Prod.mk.injEq] at he
      obtain ⟨rfl,rfl⟩:=he
      obtain ⟨_,e⟩:=rowOf_ints hq
      cases e
      exact plain (.sc (.int k z)) (.ints k []) (.ints k l) _ (.int k z) hv1 rfl (fun Z=>⟨rfl,rfl⟩) rfl rfl rfl rfl rfl hq rfl rfl rfl rfl
     ·cases he
    ·simp[hk] at he
   ·rename_i z xs' heq
    cases heq
    split at he
    ·rename_i l ks' hq
     cases he
     exact plain (.sc (.bool z)) (.bools []) (.bools l) _ (.bool z) hv1 rfl (fun Z=>⟨rfl,rfl⟩) rfl rfl rfl rfl rfl hq rfl rfl rfl rfl
    ·cases he
   ·rename_i z xs' heq
    cases heq
    split at he
    ·rename_i l ks' hq
     cases he
     exact plain (.sc (.string z)) (.strs []) (.strs l) _ (.string z) hv1 rfl (fun Z=>⟨rfl,rfl⟩) rfl rfl rfl rfl rfl hq rfl rfl rfl rfl
    ·cases he
   ·rename_i z xs' heq
    cases heq
    split at he
    ·rename_i o1 y ks1 hq1
     split at he
     ·rename_i o2 l ks2 hq2
      cases he
      obtain ⟨F1,a1,a2,a3,a4,a5⟩:=elemSl_sound m hs hq1 hv1
      obtain ⟨F2,b1,b2,b3,b4,b5,b6,b7,b8,b9,b10⟩:=ih vs _ _ _ _ (hs.kill ks1) rfl hq2 hv2
      have ht:=a3.join b3
      have hcl:v.cells= #[v]:=one_cells a5
      obtain ⟨j1,j2⟩:=cells_join m hs ht (cell_one a1) rfl b1 a2 b2
      obtain ⟨F',s1,s2⟩:=cells_seal j1 j2 (o1&&o2) (ct:=(Row.rows true (y::l)).cells) (cf:=(Row.rows false (y::l)).cells)
       (fun ho=>by obtain ⟨rfl,rfl⟩:=and_bool ho;simp[Row.cells])
       (fun _=>by simp[Row.cells,Cell.frz,Function.comp_def])
      refine ⟨F',?_,s2,ht,by simp only[Row.len] at b4 ⊢;simp[b4],rfl,fun v' hv'=> ?_,by simp[b7],fun u hu=> ?_,rfl,fun _ u hu=> ?_⟩
      ·rw[flat_cons,hcl]
       have:(if (o1&&o2)=true then (Row.rows true (y::l)).cells else (Row.rows false (y::l)).cells)=(Row.rows (o1&&o2) (y::l)).cells:=by cases (o1&&o2)<;>rfl
       rw[this] at s1
       exact s1
      ·rcases List.mem_cons.1 hv' with rfl|hv'
       ·rw[hcl];rfl
       ·rw[b6 v' hv'];rfl
      ·rw[flat_cons,hcl] at hu
       rcases List.mem_append.1 hu with hu|hu
       ·simp at hu;subst hu;exact a5
       ·exact b8 u hu
      ·rcases List.mem_cons.1 hu with rfl|hu
       ·exact a5
       ·exact b10 rfl u hu
     ·cases he
    ·cases he
   ·rename_i sg _ _ z xs' heq
    cases heq
    split at he
    ·rename_i o1 y ks1 hq1
     split at he
     ·rename_i _ o2 l ks2 hq2
      cases he
      obtain ⟨us,rfl,hus⟩:=hv1
      obtain ⟨F1,a1,a2,a3,a4,a5⟩:=elemRec_sound m _ _ _ _ _ _ _ hs hq1 hus
      obtain ⟨F2,b1,b2,b3,b4,b5,b6,b7,b8,b9,b10⟩:=ih vs _ _ _ _ (hs.kill ks1) rfl hq2 hv2
      have ht:=a3.join b3
      obtain ⟨_,_,e⟩:=rowOf_recs hq2
      cases e
      obtain ⟨j1,j2⟩:=cells_join m hs ht a1 (by rw[recCells_length,a4]) b1 a2 b2
      obtain ⟨F',s1,s2⟩:=cells_seal j1 j2 (o1&&o2) (ct:=(Row.recs sg true (y::l)).cells) (cf:=(Row.recs sg false (y::l)).cells)
       (fun ho=>by obtain ⟨rfl,rfl⟩:=and_bool ho;simp[Row.cells])
       (fun _=>by
         have:=frz_cells (Row.recs sg o2 l)
         simp only[Row.frz] at this
         simp only[Row.cells,List.flatMap_cons,List.map_append,recCells_frz] at this ⊢
         rw[<- this])
      refine ⟨F',?_,s2,ht,by simp only[Row.len] at b4 ⊢;simp[b4],rfl,fun v' hv'=> ?_,by simp[b7],fun u hu=> ?_,rfl,fun hh=>by cases hh⟩
      ·rw[flat_cons]
       have:(if (o1&&o2)=true then (Row.recs sg true (y::l)).cells else (Row.recs sg false (y::l)).cells)=(Row.recs sg (o1&&o2) (y::l)).cells:=by cases (o1&&o2)<;>rfl
       rw[this] at s1
       exact s1
      ·rcases List.mem_cons.1 hv' with rfl|hv'
       ·simp[Value.cells,Row.size,a4]
       ·rw[b6 v' hv'];rfl
      ·rw[flat_cons] at hu
       rcases List.mem_append.1 hu with hu|hu
       ·exact a5 u (by simpa[Value.cells] using hu)
       ·exact b8 u hu
     ·cases he
    ·cases he
   ·cases he
end
end Go.Proofs.YtbmmhdmljajcfaaGreatDoor.V
