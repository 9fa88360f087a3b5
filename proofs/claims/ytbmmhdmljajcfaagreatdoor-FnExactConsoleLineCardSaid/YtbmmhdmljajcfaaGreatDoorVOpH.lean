/- The abstract evaluator and its soundness: part VOpH. Conditions: as each section says. -/
import Derived.Test.YtbmmhdmljajcfaaGreatDoorVEval
import Derived.WalkLawsBesides
import Derived.Stop.IfaceNil
import Derived.Great.BuildSlice
set_option linter.unusedVariables false
set_option linter.unusedSimpArgs false
namespace Go.Proofs.YtbmmhdmljajcfaaGreatDoor.V
open Go
abbrev FP:=Nat->Nat
def fz:FP:=fun _=>0
def f1 (b:Nat):FP:=fun x=>if x=b then 1 else 0
def ez (F G:FP):FP:=fun x=>F x+G x
theorem dw (F:FP):ez F fz=F:=by funext x;simp[ez,fz]
theorem lU (F:FP):ez fz F=F:=by funext x;simp[ez,fz]
theorem vX (F G H:FP):ez (ez F G) H=ez F (ez G H):=by funext x;simp[ez,Nat.add_assoc]
theorem xW (F G H:FP):ez F (ez G H)=ez G (ez F H):=by funext x;simp[ez];omega
@[simp] theorem aep (b:Nat):fz b=0:=rfl
@[simp] theorem Kc (F G:FP) (b:Nat):ez F G b=F b+G b:=rfl
@[simp] theorem abE (b:Nat):f1 b b=1:=by simp[f1]
theorem Dv (b x:Nat):f1 b x=if x=b then 1 else 0:=rfl
abbrev Zs:=Nat->Prop
def Ng (w:World) (ad:Addr) (l:LI):Prop:= ∀(j:Nat) (n:Int),l[j]? =some n->w.cell? (ad.add j)=some (.int .i64 n)
def ik (w:World) (Z:Zs):Cell->Value->FP->Prop
 | .free,_,F=>F=fz
 | .sc u,v,F=>v=u/\F=fz
 | .sl false l,v,F=>F=fz/\ ∃A cap,v= .slice A l.length cap/\l.length<=cap/\(l≠[]-> ∃ad,A=some ad/\Z ad.block/\Ng w ad l)
 | .sl true l,v,F=>(v= .slice none 0 0/\l=[]/\F=fz)\/ ∃b cap arr ty,v= .slice (some ⟨b,0,none⟩) l.length cap/\w.heap[b]? =some (.cells arr ty (0,0))/\l.length<=cap/\cap<=arr.size/\(∀(j:Nat) (n:Int),l[j]? =some n->arr[j]? =some (Value.int .i64 n))/\F=f1 b
def aG (w:World) (Z:Zs):List Cell->List Value->FP->Prop
 | [],_,F=>F=fz
 |c::cs,v::vs,F=> ∃F1 F2,ik w Z c v F1/\aG w Z cs vs F2/\F=ez F1 F2
 |_::_,[],_=>False
theorem qL {w w':World} {a:Addr} (h:w'.heap[a.block]? =w.heap[a.block]?):w'.cell? a=w.cell? a:=by
 unfold World.cell?;rw[h]
theorem rR (a:Addr) (n:Nat):(a.add n).block=a.block:=by unfold Addr.add;split<;>rfl
theorem add_add (a:Addr) (m n:Nat):(a.add m).add n=a.add (m+n):=by
 unfold Addr.add
 by_cases hm:m=0
 ·subst hm;simp
 ·by_cases hn:n=0
  ·subst hn;simp[hm]
  ·simp[hm,hn,Nat.add_assoc]
theorem add_zero (a:Addr):a.add 0=a:=by simp[Addr.add]
theorem fS (b m n:Nat):(⟨b,m,none⟩:Addr).add n=⟨b,m+n,none⟩:=by unfold Addr.add;split<;>simp_all
theorem cY {w:World} {b:Nat} {arr:Array Value} {ty:TypeId} {fr:Nat×Nat} (h:w.heap[b]? =some (.cells arr ty fr)) (j:Nat):w.cell? ⟨b,j,none⟩=arr[j]? :=by
 simp[World.cell?,h]
theorem ik.mono {w w':World} {Z Z':Zs} {c:Cell} {v:Value} {F:FP} (h:ik w Z c v F) (hz: ∀b,Z b->Z' b/\w'.heap[b]? =w.heap[b]?) (hf: ∀b,1<=F b->w'.heap[b]? =w.heap[b]?):ik w' Z' c v F:=by
 match c,h with
 | .free,h=>exact h
 | .sc u,h=>exact h
 | .sl false l,⟨h0,A,cap,hv,GO,hl⟩=>
   refine ⟨h0,A,cap,hv,GO,fun nL=> ?_⟩
   obtain ⟨ad,e,hZ,hi⟩:=hl nL
   refine ⟨ad,e,(hz _ hZ).1,fun j n hj=> ?_⟩
   rw[qL (w:=w) (by rw[rR];exact (hz _ hZ).2)]
   exact hi j n hj
 | .sl true l,.inl h=>exact .inl h
 | .sl true l,.inr ⟨b,cap,arr,ty,hv,hb,h1,h2,h3,hF⟩=>
   exact .inr ⟨b,cap,arr,ty,hv,by rw[hf b (by rw[hF];simp)];exact hb,h1,h2,h3,hF⟩
theorem aG.mono {w w':World} {Z Z':Zs} (hz: ∀b,Z b->Z' b/\w'.heap[b]? =w.heap[b]?): ∀ {cs:List Cell} {vs:List Value} {F:FP},aG w Z cs vs F->(∀b,1<=F b->w'.heap[b]? =w.heap[b]?)->aG w' Z' cs vs F
 | [],_,_,h,_=>h
 |c::cs,v::vs,F,⟨F1,F2,h1,h2,hF⟩,hf=>⟨F1,F2,h1.mono hz (fun b hb=>hf b (by rw[hF];simp;omega)),aG.mono hz h2 (fun b hb=>hf b (by rw[hF];simp;omega)),hF⟩
theorem aG.get {w:World} {Z:Zs}: ∀ {cs:List Cell} {vs:List Value} {F:FP},aG w Z cs vs F-> ∀ {j:Nat} {c:Cell},cs[j]? =some c-> ∃v F1 F2,vs[j]? =some v/\ik w Z c v F1/\F=ez F1 F2/\
 ∀(c':Cell) (v':Value) (F':FP),ik w Z c' v' F'->aG w Z (cs.set j c') (vs.set j v') (ez F' F2)
 |c0::cs,v::vs,F,⟨F1,F2,h1,h2,hF⟩,0,c,hc=>by
  simp at hc;subst hc
  exact ⟨v,F1,F2,rfl,h1,hF,fun c' v' F' h'=>⟨F',F2,h',h2,rfl⟩⟩
 |c0::cs,v::vs,F,⟨F1,F2,h1,h2,hF⟩,j+1,c,hc=>by
  obtain ⟨v',G1,G2,e,hr,hG,wT⟩:=aG.get h2 (j:=j) (c:=c) (by simpa using hc)
  refine ⟨v',G1,ez F1 G2,by simpa using e,hr,by rw[hF,hG,xW],fun c' v'' F' h'=> ?_⟩
  exact ⟨F1,ez F' G2,h1,wT c' v'' F' h',xW ..⟩
theorem aG.length {w:World} {Z:Zs}: ∀ {cs:List Cell} {vs:List Value} {F:FP},aG w Z cs vs F->cs.length<=vs.length
 | [],_,_,_=>by simp
 |c::cs,v::vs,F,⟨F1,F2,h1,h2,hF⟩=>by have:=aG.length h2;simp;omega
theorem aG.append {w:World} {Z:Zs}: ∀ {cs ds:List Cell} {vs us:List Value} {F G:FP},aG w Z cs vs F->vs.length=cs.length->aG w Z ds us G->aG w Z (cs++ds) (vs++us) (ez F G)
 | [],ds,[],us,F,G,h,_,h'=>by cases h;rw[lU];exact h'
 |c::cs,ds,v::vs,us,F,G,⟨F1,F2,h1,h2,hF⟩,hl,h'=>⟨F1,ez F2 G,h1,aG.append h2 (by simpa using hl) h',by rw[hF,vX]⟩
theorem aG.more {w:World} {Z:Zs}: ∀ {cs:List Cell} {vs:List Value} {F:FP} (us:List Value),aG w Z cs vs F->aG w Z cs (vs++us) F
 | [],_,_,_,h=>h
 |c::cs,v::vs,F,us,⟨F1,F2,h1,h2,hF⟩=>⟨F1,F2,h1,aG.more us h2,hF⟩
theorem aG.take {w:World} {Z:Zs}: ∀ {cs:List Cell} {vs:List Value} {F:FP} (n:Nat),aG w Z cs vs F-> ∃F1,aG w Z (cs.take n) (vs.take n) F1/\ ∀b,F1 b<=F b
 | [],vs,F,n,h=>⟨fz,by simp[aG],fun b=>by simp⟩
 |c::cs,v::vs,F,0,h=>⟨fz,by simp[aG],fun b=>by simp⟩
 |c::cs,v::vs,F,n+1,⟨F1,F2,h1,h2,hF⟩=>by
  obtain ⟨G,hG,hle⟩:=aG.take n h2
  exact ⟨ez F1 G,⟨F1,G,h1,by simpa using hG,rfl⟩,fun b=>by have:=hle b;rw[hF];simp;omega⟩
theorem aG.drop {w:World} {Z:Zs}: ∀ {cs:List Cell} {vs:List Value} {F:FP} (n:Nat),aG w Z cs vs F-> ∃F1,aG w Z (cs.drop n) (vs.drop n) F1/\ ∀b,F1 b<=F b
 | [],vs,F,n,h=>⟨fz,by simp[aG],fun b=>by simp⟩
 |c::cs,v::vs,F,0,h=>⟨F,by simpa using h,fun b=>ai _⟩
 |c::cs,v::vs,F,n+1,⟨F1,F2,h1,h2,hF⟩=>by
  obtain ⟨G,hG,hle⟩:=aG.drop n h2
  exact ⟨G,by simpa using hG,fun b=>by have:=hle b;rw[hF];simp;omega⟩
theorem aG.shrink {w:World} {Z:Zs}: ∀ {cs:List Cell} {vs:List Value} {F:FP},aG w Z cs vs F->aG w Z cs (vs.take cs.length) F
 | [],vs,F,h=>h
 |c::cs,v::vs,F,⟨F1,F2,h1,h2,hF⟩=>⟨F1,F2,h1,by simpa using aG.shrink h2,hF⟩
def Cell.jw:Cell->Cell
 | .sl _ l=> .sl false l
 |c=>c
theorem ik.jw {w:World} {Z Z':Zs} {c:Cell} {v:Value} {F:FP} (h:ik w Z c v F) (hz: ∀b,Z b->Z' b) (hf: ∀b,1<=F b->Z' b):ik w Z' c.jw v fz:=by
 match c,h with
 | .free,h=>rfl
 | .sc u,h=>exact ⟨h.1,rfl⟩
 | .sl false l,⟨h0,A,cap,hv,GO,hl⟩=>
   refine ⟨rfl,A,cap,hv,GO,fun nL=> ?_⟩
   obtain ⟨ad,e,hZ,hi⟩:=hl nL
   exact ⟨ad,e,hz _ hZ,hi⟩
 | .sl true l,.inl ⟨h1,h2,h3⟩=>subst h2;exact ⟨rfl,none,0,h1,ai _,fun h=>absurd rfl h⟩
 | .sl true l,.inr ⟨b,cap,arr,ty,hv,hb,h1,h2,h3,hF⟩=>
   refine ⟨rfl,_,cap,hv,h1,fun _=>⟨⟨b,0,none⟩,rfl,hf b (by rw[hF];simp),fun j n hj=> ?_⟩⟩
   rw[fS,Nat.zero_add,cY hb]
   exact h3 j n hj
theorem aG.jw {w:World} {Z Z':Zs} (hz: ∀b,Z b->Z' b): ∀ {cs:List Cell} {vs:List Value} {F:FP},aG w Z cs vs F->(∀b,1<=F b->Z' b)->aG w Z' (cs.map Cell.jw) vs fz
 | [],_,_,h,_=>rfl
 |c::cs,v::vs,F,⟨F1,F2,h1,h2,hF⟩,hf=>⟨fz,fz,h1.jw hz (fun b hb=>hf b (by rw[hF];simp;omega)),aG.jw hz h2 (fun b hb=>hf b (by rw[hF];simp;omega)),(dw _).symm⟩
theorem dV (o:Bool) (r:List iQ): ∀(sg:List Bool) (f:Nat),(cR o r f sg).length=sg.length
 | [],_=>rfl
 |true::sg,f=>by simp[cR,dV o r sg]
 |false::sg,f=>by simp[cR,dV o r sg]
theorem sX {α β:Type} (g:α->List β) (n:Nat) (h: ∀x,(g x).length=n): ∀l:List α,(l.flatMap g).length=l.length*n
 | []=>by simp
 |x::l=>by simp[sX g n h l,h,Nat.succ_mul,Nat.add_comm]
theorem DN {α β:Type} (g:α->List β) (n:Nat) (h: ∀x,(g x).length=n): ∀(l:List α) (i f:Nat),f<n->(l.flatMap g)[i*n+f]? =(l[i]?).bind (fun x=>(g x)[f]?)
 | [],i,f,_=>by simp
 |x::l,0,f,hf=>by simp[List.getElem?_append,h,hf]
 |x::l,i+1,f,hf=>by
  have e:(i+1)*n+f=n+(i*n+f):=by rw[Nat.succ_mul];omega
  simp only[List.flatMap_cons,e]
  rw[List.getElem?_append_right (by rw[h];omega),h,Nat.add_sub_cancel_left,DN g n h l i f hf]
  simp
theorem Row.gm (r:Row):r.cells.length=r.len*r.size:=by
 cases r<;>simp[Row.cells,Row.len,Row.size]
 rename_i sg o l
 have:=sX (fun r=>cR o r 0 sg) sg.length (fun x=>dV ..) l
 simpa using this
theorem kw (o:Bool) (r:List iQ): ∀(sg:List Bool) (f j:Nat),(cR o r f sg)[j]? =(sg[j]?).map fun b=>if b then Cell.sl o (gl r (f+j)) else .sc (.int .i64 (gi r (f+j)))
 | [],f,j=>by simp[cR]
 |true::sg,f,0=>by simp[cR]
 |false::sg,f,0=>by simp[cR]
 |true::sg,f,j+1=>by simp only[cR,List.getElem?_cons_succ,kw o r sg];congr 1;funext b;rw[show f+1+j=f+(j+1) by omega]
 |false::sg,f,j+1=>by simp only[cR,List.getElem?_cons_succ,kw o r sg];congr 1;funext b;rw[show f+1+j=f+(j+1) by omega]
theorem u2 (sg:List Bool) (o:Bool) (l:List (List iQ)) (i f:Nat) (hf:f<sg.length):(Row.ek sg o l).cells[i*sg.length+f]? =(l[i]?).bind fun r=>(sg[f]?).map fun b=>if b then Cell.sl o (gl r f) else .sc (.int .i64 (gi r f)):=by
 simp only[Row.cells]
 rw[DN (fun r=>cR o r 0 sg) sg.length (fun x=>dV ..) l i f hf]
 congr 1;funext r
 rw[kw];simp
theorem CI (r:Row):r.jw.cells=r.cells.map Cell.jw:=by
 cases r<;>simp[Row.jw,Row.cells,Function.comp_def,Cell.jw]
 rename_i sg o l
 rw[List.map_flatMap]
 congr 1;funext r
 apply List.ext_getElem?
 intro j
 rw[List.getElem?_map,kw,kw]
 cases sg[j]? with
 |none=>rfl
 |some b=>cases b<;>simp[Cell.jw]
theorem nr (r:Row):r.jw.len=r.len:=by cases r<;>rfl
theorem Ma (r:Row):r.jw.size=r.size:=by cases r<;>rfl
theorem take_size (r:Row) (n:Nat):(r.take n).size=r.size:=by cases r<;>rfl
theorem I8 (r:Row) (n:Nat):(r.drop n).size=r.size:=by cases r<;>rfl
theorem take_len (r:Row) (n:Nat):(r.take n).len=min n r.len:=by cases r<;>simp[Row.take,Row.len]
theorem sO (r:Row) (n:Nat):(r.drop n).len=r.len-n:=by cases r<;>simp[Row.drop,Row.len]
theorem BK {α β:Type} (g:α->List β) (n:Nat) (h: ∀x,(g x).length=n): ∀(l:List α) (k:Nat),(l.take k).flatMap g=(l.flatMap g).take (k*n)
 | [],k=>by simp
 |x::l,0=>by simp
 |x::l,k+1=>by
  simp only[List.take_succ_cons,List.flatMap_cons,BK g n h l k]
  have e:(k+1)*n=n+k*n:=by rw[Nat.succ_mul];omega
  rw[List.take_append,h,e,Nat.add_sub_cancel_left,List.take_of_length_le (l:=g x) (by rw[h];omega)]
theorem BL {α β:Type} (g:α->List β) (n:Nat) (h: ∀x,(g x).length=n): ∀(l:List α) (k:Nat),(l.drop k).flatMap g=(l.flatMap g).drop (k*n)
 | [],k=>by simp
 |x::l,0=>by simp
 |x::l,k+1=>by
  simp only[List.drop_succ_cons,List.flatMap_cons,BL g n h l k]
  have e:(k+1)*n=n+k*n:=by rw[Nat.succ_mul];omega
  rw[List.drop_append,h,e,Nat.add_sub_cancel_left,List.drop_of_length_le (l:=g x) (by rw[h];omega),aM]
theorem vV (r:Row) (n:Nat):(r.take n).cells=r.cells.take (n*r.size):=by
 cases r<;>simp[Row.take,Row.cells,Row.size,List.map_take]
 exact BK _ _ (fun x=>dV ..) _ _
theorem Gi (r:Row) (n:Nat):(r.drop n).cells=r.cells.drop (n*r.size):=by
 cases r<;>simp[Row.drop,Row.cells,Row.size,List.map_drop]
 exact BL _ _ (fun x=>dV ..) _ _
def tr (w:World) (Z:Zs) (ad:Addr) (cs:List Cell):Prop:=Z ad.block/\ ∃vs:List Value,(∀j,j<cs.length->w.cell? (ad.add j)=vs[j]?)/\aG w Z cs vs fz
def iq (w:World) (Z:Zs) (r:Row) (v:Value):Prop:= ∃A cap,v= .slice A r.len cap/\r.len<=cap/\(r.len≠0-> ∃ad,A=some ad/\tr w Z ad r.cells)
abbrev Place:=Nat->Option (Nat×Nat)
def hdr (q:Option (Nat×Nat)) (n:Nat):Value:=match q with
 |none=> .slice none 0 0
 |some (b,cap)=> .slice (some ⟨b,0,none⟩) n cap
def oN (q:Option (Nat×Nat)) (size lo hi:Nat):Value:=match q with
 |none=> .slice none 0 0
 |some (b,cap)=> .slice (some (if cap=lo then ⟨b,0,none⟩ else ⟨b,lo*size,none⟩)) (hi-lo) (cap-lo)
theorem CT {r:Row} {f:Nat} (h:r.oh f=true):r.deep=true:=by cases r<;>first|rfl|cases h
theorem J2 {r:Row} {f:Nat} (h:r.oh f=true):f<r.size:=by
 cases r with
 |rows o l=>simp[Row.oh] at h;subst h;simp[Row.size]
 |ek sg o l=>
  simp only[Row.oh] at h
  cases e:sg[f]? with
  |none=>rw[e] at h;cases h
  |some b=>exact (List.getElem?_eq_some_iff.1 e).1
 |_=>cases h
def aQ.row? :aQ->Option Row
 | .row _ _ r=>some r
 | .hole _ _ r _ _=>some r
 | .box _ _=>none
 | .gW=>none
def aQ.ver:aQ->Nat
 | .row _ v _=>v
 | .hole _ v _ _ _=>v
 | .box _ _=>0
 | .gW=>0
def aQ.real:aQ->Prop
 | .gW=>False
 |_=>True
def cellAt (w:World) (q:Option (Nat×Nat)) (j:Nat):Option Value:=match q with
 |none=>none
 |some (b,_)=>w.cell? ⟨b,j,none⟩
structure Env where
 w:World
 Zf:Zs
 ZL:Zs
 ρ:Place
 hp:Nat->Option aQ
 nx:Nat
def gJ (E:Env):LV->Value->Prop
 | .any,_=>True
 | .undef,v=>v=undef
 | .i k n,v=>v= .int k n
 | .b x,v=>v= .bool x
 | .s x,v=>v= .string x
 | .er true,v=>v= .nilIface
 | .er false,v=> ∃t x,v= .iface t x
 | .fn f,v=>v= .func (.func f) #[] #[]
 | .nil,v=>v= .slice none 0 0
 | .val p r,v=>iq E.w (if p then E.Zf else E.ZL) r v
 | .own id,v=>id<E.nx/\ ∀root,E.hp id=some root-> ∃r,root.row? =some r/\v=hdr (E.ρ id) r.len
 | .sub id lo hi,v=>id<E.nx/\ ∀root,E.hp id=some root-> ∃r,root.row? =some r/\lo<=hi/\hi<=r.len/\v=oN (E.ρ id) r.size lo hi
 | .inner id ver i f,v=>id<E.nx/\ ∀root,E.hp id=some root->root.real/\ver<=root.ver/\ ∀e r,root= .row e ver r->r.oh f=true/\i<r.len/\cellAt E.w (E.ρ id) (i*r.size+f)=some v
 | .je id k,v=>id<E.nx/\(∀root,E.hp id=some root->root.real)/\ ∃b cap,E.ρ id=some (b,cap)/\v= .pointer (some ⟨b,k,none⟩)
 | .arr id n,v=>id<E.nx/\ ∀root,E.hp id=some root-> ∃r,root.row? =some r/\r.len=n/\ ∃b cap,E.ρ id=some (b,cap)/\v= .pointer (some ⟨b,0,none⟩)
 | .vc id i f,v=>id<E.nx/\ ∀root,E.hp id=some root-> ∃r,root.row? =some r/\i<r.len/\ ∃b cap,E.ρ id=some (b,cap)/\v= .pointer (some ⟨b,i*r.size+f,none⟩)
 | .Kh p r i f,v=>i<r.len/\ ∃ad,v= .pointer (some (ad.add (i*r.size+f)))/\tr E.w (if p then E.Zf else E.ZL) ad r.cells
 | .CO id ver i f j,v=>id<E.nx/\ ∀root,E.hp id=some root->root.real/\ver<=root.ver/\ ∀e r,root= .row e ver r->r.oh f=true/\i<r.len/\j<(gj r i f).length/\ ∃A n cap,cellAt E.w (E.ρ id) (i*r.size+f)=some (.slice (some A) n cap)/\v= .pointer (some (A.add j))
def cw (E:Env):List LV->List Value->Prop
 | [],[]=>True
 |x::xs,v::vs=>gJ E x v/\cw E xs vs
 |_,_=>False
def BG (E:Env):A1->Value->Prop
 | .l x,v=>gJ E x v
 | .agg xs,v=> ∃vs:List Value,v= .agg vs.toArray/\cw E xs vs
def pt (E:Env):List A1->List Value->Prop
 | [],[]=>True
 |x::xs,v::vs=>BG E x v/\pt E xs vs
 |_,_=>False
def jC (E:Env):AV->Value->Prop
 | .one x,v=>BG E x v
 | .KY xs,v=> ∃vs:List Value,v= .tuple vs.toArray/\pt E xs vs
def kh (w:World) (Z:Zs) (q:Option (Nat×Nat)) (cs:List Cell) (len size:Nat) (F:FP):Prop:=
 (q=none/\len=0/\F=fz)\/ ∃b cap arr ty F',q=some (b,cap)/\w.heap[b]? =some (.cells arr ty (0,0))/\len<=cap/\cap*size<=arr.size/\aG w Z cs arr.toList F' /\F=ez (f1 b) F'
def Ky (E:Env) (q:Option (Nat×Nat)) (cells:List LV) (F:FP):Prop:=
 ∃b cap vs ty,q=some (b,cap)/\E.w.heap[b]? =some (.cells vs ty (0,0))/\cw E cells vs.toList/\F=f1 b
def lJ (E:Env) (id:Nat):aQ->FP->Prop
 | .row _ _ r,F=>kh E.w E.ZL (E.ρ id) r.cells r.len r.size F
 | .hole _ _ r i f,F=>i<r.len/\f<r.size/\kh E.w E.ZL (E.ρ id) (r.cells.set (i*r.size+f) .free) r.len r.size F
 | .box _ cells,F=>Ky E (E.ρ id) cells F
 | .gW,F=>F=fz
def BM (w w':World) (q:Option (Nat×Nat)):aQ->aQ->Prop
 | .box _ _,.box _ _=>True
 | .row _ v r,.row _ v' r'=>r'.len=r.len/\r'.size=r.size/\v<=v' /\(∀f,r'.oh f=r.oh f)/\(v' =v->r.deep=true->(∀i f,(gj r' i f).length=(gj r i f).length)/\ ∀b cap,q=some (b,cap)->w'.heap[b]? =w.heap[b]?)
 | .row _ v r,.hole _ v' r' _ _=>r'.len=r.len/\r'.size=r.size/\v<=v'
 | .hole _ v r _ _,.row _ v' r'=>r'.len=r.len/\r'.size=r.size/\v<v'
 | .gW,_=>True
 |_,_=>False
theorem BM.refl (w w':World) (q:Option (Nat×Nat)): ∀root:aQ,(∀b cap,q=some (b,cap)->root.row?.any Row.deep=true->w'.heap[b]? =w.heap[b]?)->(∀e v r i f,root≠ .hole e v r i f)->BM w w' q root root
 | .box _ _,_,_=>trivial
 | .gW,_,_=>trivial
 | .row _ v r,h,_=>⟨rfl,rfl,ai _,fun _=>rfl,fun _ hd=>⟨fun _ _=>rfl,fun b cap hq=>h b cap hq (by simp[aQ.row?,hd])⟩⟩
 | .hole e v r i f,_,h=>absurd rfl (h e v r i f)
structure u7 (E E':Env):Prop where
 zf: ∀b,E.Zf b->E'.Zf b/\E'.w.heap[b]? =E.w.heap[b]?
 zl: ∀b,E.ZL b->E'.ZL b/\E'.w.heap[b]? =E.w.heap[b]?
 nx:E.nx<=E'.nx
 ρ: ∀id,id<E.nx->(∀root,E.hp id=some root->root.real)->E'.ρ id=E.ρ id
 Yp: ∀id cD,id<E.nx->E'.hp id=some cD-> ∃root,E.hp id=some root/\(BM E.w E'.w (E.ρ id) root cD\/cD=root/\ ∃e v r i f,root= .hole e v r i f)
theorem tr.mono {w w':World} {Z Z':Zs} {ad:Addr} {cs:List Cell} (h:tr w Z ad cs) (hz: ∀b,Z b->Z' b/\w'.heap[b]? =w.heap[b]?):tr w' Z' ad cs:=by
 obtain ⟨h0,vs,h1,h2⟩:=h
 refine ⟨(hz _ h0).1,vs,fun j hj=> ?_,h2.mono hz (fun b hb=>by simp at hb)⟩
 rw[<- h1 j hj]
 exact qL (by rw[rR];exact (hz _ h0).2)
theorem iq.mono {w w':World} {Z Z':Zs} {r:Row} {v:Value} (h:iq w Z r v) (hz: ∀b,Z b->Z' b/\w'.heap[b]? =w.heap[b]?):iq w' Z' r v:=by
 obtain ⟨A,cap,hv,GO,h1⟩:=h
 refine ⟨A,cap,hv,GO,fun hn=> ?_⟩
 obtain ⟨ad,e,h2⟩:=h1 hn
 exact ⟨ad,e,h2.mono hz⟩
theorem u7.row {E E':Env} (M:u7 E E') {id:Nat} (h:id<E.nx) {cD:aQ} (h':E'.hp id=some cD): ∃root,E.hp id=some root/\(root.real->cD.real/\root.ver<=cD.ver/\(∀r,root.row? =some r-> ∃r',cD.row? =some r' /\r'.len=r.len/\r'.size=r.size)/\
 ∀e r',cD= .row e root.ver r'-> ∃e0 r,root= .row e0 root.ver r/\(∀f,r'.oh f=r.oh f)/\(r.deep=true->(∀i f,(gj r' i f).length=(gj r i f).length)/\ ∀b cap,E.ρ id=some (b,cap)->E'.w.heap[b]? =E.w.heap[b]?)):=by
 obtain ⟨root,h0,hl⟩:=M.Yp id cD h h'
 refine ⟨root,h0,fun WE=> ?_⟩
 rcases hl with hl| ⟨rfl,e,v,r,i,f,rfl⟩
 ·cases root<;>cases cD<;>simp only[BM,aQ.real] at hl WE
  ·obtain ⟨h1,h2,h3,h5,h4⟩:=hl
   refine ⟨trivial,h3,fun r hr=>⟨_,rfl,by simp[aQ.row?] at hr;subst hr;exact ⟨h1,h2⟩⟩,fun e r' he=> ?_⟩
   simp only[aQ.row.injEq] at he
   obtain ⟨rfl,hv,rfl⟩:=he
   exact ⟨_,_,rfl,h5,fun hd=>h4 hv hd⟩
  ·exact ⟨trivial,hl.2.2,fun r hr=>⟨_,rfl,by simp[aQ.row?] at hr;subst hr;exact ⟨hl.1,hl.2.1⟩⟩,fun e r' he=>by cases he⟩
  ·refine ⟨trivial,Nat.le_of_lt hl.2.2,fun r hr=>⟨_,rfl,by simp[aQ.row?] at hr;subst hr;exact ⟨hl.1,hl.2.1⟩⟩,fun e r' he=> ?_⟩
   simp only[aQ.row.injEq] at he
   have h1:=hl.2.2
   have h2:=he.2.1
   simp only[aQ.ver] at h2
   omega
  ·exact ⟨trivial,ai _,fun r hr=>by simp[aQ.row?] at hr,fun e r' he=>by cases he⟩
 ·exact ⟨WE,ai _,fun r hr=>⟨r,hr,rfl,rfl⟩,fun e r' he=>by cases he⟩
theorem m_ {root:aQ} {r:Row} (h:root.row? =some r):root.real:=by cases root<;>first|trivial|cases h
theorem DO {w w':World} {q:Option (Nat×Nat)} {j:Nat} {v:Value} (h:cellAt w q j=some v) (hb: ∀b cap,q=some (b,cap)->w'.heap[b]? =w.heap[b]?):cellAt w' q j=some v:=by
 cases q with
 |none=>exact h
 |some q=>obtain ⟨b,cap⟩:=q;simp only[cellAt] at h ⊢;rw[qL (w:=w) (hb b cap rfl)];exact h
theorem gJ.mono {E E':Env} (M:u7 E E') {x:LV} {v:Value} (h:gJ E x v):gJ E' x v:=by
 match x,h with
 | .any,h=>exact h
 | .undef,h=>exact h
 | .i _ _,h=>exact h
 | .b _,h=>exact h
 | .s _,h=>exact h
 | .er true,h=>exact h
 | .er false,h=>exact h
 | .fn _,h=>exact h
 | .nil,h=>exact h
 | .val p r,h=>cases p<;>exact iq.mono h (by first|exact M.zf|exact M.zl)
 | .own id,⟨h1,h2⟩=>
   refine ⟨bR h1 M.nx,fun cD h'=> ?_⟩
   obtain ⟨root,h0,hg⟩:=M.row h1 h'
   obtain ⟨r,e,hv⟩:=h2 root h0
   obtain ⟨_,_,hr,_⟩:=hg (m_ e)
   obtain ⟨r',e',hl,hs⟩:=hr r e
   exact ⟨r',e',by rw[M.ρ id h1 (fun x hx=>by rw[h0] at hx;cases hx;exact m_ e),hl];exact hv⟩
 | .sub id lo hi,⟨h1,h2⟩=>
   refine ⟨bR h1 M.nx,fun cD h'=> ?_⟩
   obtain ⟨root,h0,hg⟩:=M.row h1 h'
   obtain ⟨r,e,g1,g2,hv⟩:=h2 root h0
   obtain ⟨_,_,hr,_⟩:=hg (m_ e)
   obtain ⟨r',e',hl,hs⟩:=hr r e
   exact ⟨r',e',g1,by omega,by rw[M.ρ id h1 (fun x hx=>by rw[h0] at hx;cases hx;exact m_ e),hs];exact hv⟩
 | .inner id ver i f,⟨h1,h2⟩=>
   refine ⟨bR h1 M.nx,fun cD h'=> ?_⟩
   obtain ⟨root,h0,hg⟩:=M.row h1 h'
   obtain ⟨g0,g1,g2⟩:=h2 root h0
   obtain ⟨yT,hv,hr,hd⟩:=hg g0
   refine ⟨yT,bx g1 hv,fun e r' he=> ?_⟩
   have J3:root.ver=ver:=by have:cD.ver=ver:=by rw[he];rfl
                            omega
   subst J3
   obtain ⟨e0,r,aJ,hdd,hk⟩:=hd e r' he
   obtain ⟨m1,m2,m4⟩:=g2 e0 r aJ
   obtain ⟨k2,k3⟩:=hk (CT m1)
   obtain ⟨r'',q1,q2,q3⟩:=hr r (by rw[aJ];rfl)
   have e2:r'' =r':=by rw[he] at q1;exact (Option.some.inj q1).symm
   rw[e2] at q2 q3
   refine ⟨by rw[hdd];exact m1,by omega,?_⟩
   rw[M.ρ id h1 (fun x hx=>by rw[h0] at hx;cases hx;exact g0),q3]
   exact DO m4 k3
 | .je id k,⟨h1,yT,b,cap,h2,h3⟩=>
   refine ⟨bR h1 M.nx,fun cD h'=> ?_,b,cap,by rw[M.ρ id h1 yT];exact h2,h3⟩
   obtain ⟨root,h0,hg⟩:=M.row h1 h'
   exact (hg (yT root h0)).1
 | .arr id n,⟨h1,h2⟩=>
   refine ⟨bR h1 M.nx,fun cD h'=> ?_⟩
   obtain ⟨root,h0,hg⟩:=M.row h1 h'
   obtain ⟨r,e,g1,b,cap,g2,hv⟩:=h2 root h0
   obtain ⟨_,_,hr,_⟩:=hg (m_ e)
   obtain ⟨r',e',hl,hs⟩:=hr r e
   exact ⟨r',e',by omega,b,cap,by rw[M.ρ id h1 (fun x hx=>by rw[h0] at hx;cases hx;exact m_ e)];exact g2,hv⟩
 | .vc id i f,⟨h1,h2⟩=>
   refine ⟨bR h1 M.nx,fun cD h'=> ?_⟩
   obtain ⟨root,h0,hg⟩:=M.row h1 h'
   obtain ⟨r,e,g1,b,cap,g2,hv⟩:=h2 root h0
   obtain ⟨_,_,hr,_⟩:=hg (m_ e)
   obtain ⟨r',e',hl,hs⟩:=hr r e
   exact ⟨r',e',by omega,b,cap,by rw[M.ρ id h1 (fun x hx=>by rw[h0] at hx;cases hx;exact m_ e)];exact g2,by rw[hs];exact hv⟩
 | .Kh p r i f,⟨h1,ad,h2,h3⟩=>exact ⟨h1,ad,h2,by cases p<;>exact h3.mono (by first|exact M.zf|exact M.zl)⟩
 | .CO id ver i f j,⟨h1,h2⟩=>
   refine ⟨bR h1 M.nx,fun cD h'=> ?_⟩
   obtain ⟨root,h0,hg⟩:=M.row h1 h'
   obtain ⟨g0,g1,g2⟩:=h2 root h0
   obtain ⟨yT,hv,hr,hd⟩:=hg g0
   refine ⟨yT,bx g1 hv,fun e r' he=> ?_⟩
   have J3:root.ver=ver:=by have:cD.ver=ver:=by rw[he];rfl
                            omega
   subst J3
   obtain ⟨e0,r,aJ,hdd,hk⟩:=hd e r' he
   obtain ⟨m1,m2,m5,A,n,cap,m4,m6⟩:=g2 e0 r aJ
   obtain ⟨k2,k3⟩:=hk (CT m1)
   obtain ⟨r'',q1,q2,q3⟩:=hr r (by rw[aJ];rfl)
   have e2:r'' =r':=by rw[he] at q1;exact (Option.some.inj q1).symm
   rw[e2] at q2 q3
   refine ⟨by rw[hdd];exact m1,by omega,by rw[k2];exact m5,A,n,cap,?_,m6⟩
   rw[M.ρ id h1 (fun x hx=>by rw[h0] at hx;cases hx;exact g0),q3]
   exact DO m4 k3
theorem cw.mono {E E':Env} (M:u7 E E'): ∀ {xs:List LV} {vs:List Value},cw E xs vs->cw E' xs vs
 | [],[],h=>h
 |x::xs,v::vs,h=>⟨h.1.mono M,cw.mono M h.2⟩
theorem BG.mono {E E':Env} (M:u7 E E') {x:A1} {v:Value} (h:BG E x v):BG E' x v:=by
 cases x with
 |l x=>exact gJ.mono M h
 |agg xs=>obtain ⟨vs,e,h⟩:=h;exact ⟨vs,e,h.mono M⟩
theorem pt.mono {E E':Env} (M:u7 E E'): ∀ {xs:List A1} {vs:List Value},pt E xs vs->pt E' xs vs
 | [],[],h=>h
 |x::xs,v::vs,h=>⟨h.1.mono M,pt.mono M h.2⟩
theorem jC.mono {E E':Env} (M:u7 E E') {x:AV} {v:Value} (h:jC E x v):jC E' x v:=by
 cases x with
 |one x=>exact BG.mono M h
 |KY xs=>obtain ⟨vs,e,h⟩:=h;exact ⟨vs,e,h.mono M⟩
theorem kh.mono {w w':World} {Z Z':Zs} {q:Option (Nat×Nat)} {cs:List Cell} {len size:Nat} {F:FP} (h:kh w Z q cs len size F) (hz: ∀b,Z b->Z' b/\w'.heap[b]? =w.heap[b]?) (hf: ∀b,1<=F b->w'.heap[b]? =w.heap[b]?):kh w' Z' q cs len size F:=by
 rcases h with h| ⟨b,cap,arr,ty,F',h1,h2,h3,h4,h5,h6⟩
 ·exact .inl h
 ·exact .inr ⟨b,cap,arr,ty,F',h1,by rw[hf b (by rw[h6];simp)];exact h2,h3,h4,h5.mono hz (fun b hb=>hf b (by rw[h6];simp;omega)),h6⟩
theorem Ky.mono {E E':Env} (M:u7 E E') {q:Option (Nat×Nat)} {cells:List LV} {F:FP} (h:Ky E q cells F) (hf: ∀b,1<=F b->E'.w.heap[b]? =E.w.heap[b]?):Ky E' q cells F:=by
 obtain ⟨b,cap,vs,ty,h1,h2,h3,h4⟩:=h
 exact ⟨b,cap,vs,ty,h1,by rw[hf b (by rw[h4];simp)];exact h2,h3.mono M,h4⟩
theorem lJ.mono {E E':Env} (M:u7 E E') {id:Nat} (hid:id<E.nx) {root:aQ} {F:FP} (hhp:E.hp id=some root) (h:lJ E id root F) (hf: ∀b,1<=F b->E'.w.heap[b]? =E.w.heap[b]?):lJ E' id root F:=by
 by_cases hg:root= .gW
 ·subst hg;exact h
 have yT: ∀x,E.hp id=some x->x.real:=fun x hx=>by rw[hhp] at hx;cases hx;cases root<;>first|trivial|exact absurd rfl hg
 cases root with
 |row e v r=>simp only[lJ,M.ρ id hid yT] at h ⊢;exact h.mono M.zl hf
 |hole e v r i f=>simp only[lJ,M.ρ id hid yT] at h ⊢;exact ⟨h.1,h.2.1,h.2.2.mono M.zl hf⟩
 |box t c=>simp only[lJ,M.ρ id hid yT] at h ⊢;exact h.mono M hf
 |gW=>exact h
def aR:Nat->(Nat->FP)->FP
 |0,_=>fz
 |n+1,Fs=>ez (aR n Fs) (Fs n)
theorem mP (Fs:Nat->FP) (b:Nat): ∀ {n id:Nat},id<n->Fs id b<=aR n Fs b
 |n+1,id,h=>by
  by_cases e:id=n
  ·subst e;simp[aR]
  ·have:=mP Fs b (n:=n) (id:=id) (by omega);simp[aR];omega
theorem I9 (Fs:Nat->FP) (b:Nat): ∀ {n i j:Nat},i<n->j<n->i≠j->Fs i b+Fs j b<=aR n Fs b
 |n+1,i,j,hi,hj,nL=>by
  by_cases ei:i=n
  ·subst ei;have:=mP Fs b (n:=i) (id:=j) (by omega);simp[aR];omega
  ·by_cases ej:j=n
   ·subst ej;have:=mP Fs b (n:=j) (id:=i) (by omega);simp[aR];omega
   ·have:=I9 Fs b (n:=n) (i:=i) (j:=j) (by omega) (by omega) nL;simp[aR];omega
theorem aar {Fs Gs:Nat->FP} (b:Nat): ∀ {n:Nat},(∀j,j<n->Fs j b=Gs j b)->aR n Fs b=aR n Gs b
 |0,_=>rfl
 |n+1,h=>by simp[aR,aar b (n:=n) (fun j hj=>h j (by omega)),h n (by omega)]
theorem vS {Fs:Nat->FP} (b:Nat): ∀ {m n:Nat},n<=m->(∀j,n<=j->j<m->Fs j b=0)->aR m Fs b=aR n Fs b
 |0,n,h,_=>by have:n=0:=by omega
              subst this;rfl
 |m+1,n,h,hz=>by
  by_cases e:n=m+1
  ·subst e;rfl
  ·simp[aR,vS b (m:=m) (n:=n) (by omega) (fun j h1 h2=>hz j h1 (by omega)),hz m (by omega) (by omega)]
def jH (Fs:Nat->FP) (id:Nat) (F:FP):Nat->FP:=fun j=>if j=id then F else Fs j
@[simp] theorem kK (Fs:Nat->FP) (id:Nat) (F:FP):jH Fs id F id=F:=by simp[jH]
theorem fq (Fs:Nat->FP) {id j:Nat} (F:FP) (h:j≠id):jH Fs id F j=Fs j:=by simp[jH,h]
theorem iT (Fs:Nat->FP) (F:FP) (b:Nat): ∀ {n id:Nat},id<n->aR n (jH Fs id F) b+Fs id b=aR n Fs b+F b
 |n+1,id,h=>by
  by_cases e:id=n
  ·subst e
   have:=aar (Fs:=jH Fs id F) (Gs:=Fs) b (n:=id) (fun j hj=>by rw[fq _ _ (by omega)])
   simp[aR];omega
  ·have:=iT Fs F b (n:=n) (id:=id) (by omega)
   simp[aR,fq Fs F (show n≠id by omega)];omega
theorem HG (Fs:Nat->FP) (F:FP) (b:Nat) (n:Nat):aR (n+1) (jH Fs n F) b=aR n Fs b+F b:=by
 have:=aar (Fs:=jH Fs n F) (Gs:=Fs) b (n:=n) (fun j hj=>by rw[fq _ _ (by omega)])
 simp[aR,this]
def ye:String:= "internal/strconv.uint64pow10"
def Yq:LI:=(List.range 20).map fun i=>((10^i:Nat):Int)
def En:String:= "strconv.ErrSyntax"
def Ground (P:Program) (w:World) (Z:Zs):Prop:=(∀b,P.globalNamed ye=some b->Z b/\w.var? P ye=some (Yq.map fun z=>Value.int .u64 z).toArray)/\ ∀b,P.globalNamed En=some b->Z b/\ ∃t x,w.var? P En=some #[.iface t x]
theorem Mv {P:Program} {w w':World} {n:String} {b:Nat} (hb:P.globalNamed n=some b) (h:w'.heap[b]? =w.heap[b]?):w'.var? P n=w.var? P n:=by
 unfold World.var?
 rw[hb]
 simp only[aO]
 rw[h]
theorem Ground.mono {P:Program} {w w':World} {Z Z':Zs} (h:Ground P w Z) (hz: ∀b,Z b->Z' b/\w'.heap[b]? =w.heap[b]?):Ground P w' Z':=by
 refine ⟨fun b hb=> ?_,fun b hb=> ?_⟩
 ·obtain ⟨h1,h2⟩:=h.1 b hb
  obtain ⟨h3,h4⟩:=hz b h1
  exact ⟨h3,by rw[Mv hb h4];exact h2⟩
 ·obtain ⟨h1,h2⟩:=h.2 b hb
  obtain ⟨h3,h4⟩:=hz b h1
  exact ⟨h3,by rw[Mv hb h4];exact h2⟩
structure Cx where
 P0:Program
 w0:World
 F0:FP
 Zl:Zs
 Zf0:Zs
 N:Nat
 kv:List Value
 good: ∀b,Zl b\/Zf0 b->b<w0.heap.size/\F0 b=0
 gnd:Ground P0 w0 Zf0
def Cx.Zf (C:Cx) (w:World) (F:FP):Zs:=fun b=>C.Zf0 b\/((C.w0.heap.size<=b\/1<=C.F0 b)/\b<w.heap.size/\F b=0)
def Cx.ZL (C:Cx) (w:World) (F:FP):Zs:=fun b=>C.Zl b\/C.Zf w F b
def Cx.env (C:Cx) (w:World) (ρ:Place) (hp:Nat->Option aQ) (nx:Nat) (Fs:Nat->FP):Env:={w,Zf:=C.Zf w (aR nx Fs),ZL:=C.ZL w (aR nx Fs),ρ,hp,nx}
def Cx.val (C:Cx) (a:Act) (t:Nat):Value:=if t<C.N then a.tmps.getD t undef else C.kv.getD (t-C.N) undef
structure Frame (C:Cx) (w:World):Prop where
 size:C.w0.heap.size<=w.heap.size
 os:w.os=C.w0.os
 tape:w.tape=C.w0.tape
 output:w.output=C.w0.output
 block: ∀b,b<C.w0.heap.size->C.F0 b=0->w.heap[b]? =C.w0.heap[b]?
structure kU (C:Cx) (hp:Nat->Option aQ) (nx:Nat) (w:World) (ρ:Place) (Fs:Nat->FP):Prop where
 fresh: ∀id,nx<=id->hp id=none
 roots: ∀id root,hp id=some root->lJ (C.env w ρ hp nx Fs) id root (Fs id)
 dead: ∀id,hp id=none->Fs id=fz
 one: ∀b,aR nx Fs b<=1
 uj: ∀b,1<=aR nx Fs b->b<w.heap.size/\(C.w0.heap.size<=b\/1<=C.F0 b)
 frame:Frame C w
structure cn (C:Cx) (S:St) (a:Act) (w:World) (ρ:Place) (Fs:Nat->FP):Prop where
 mem:kU C S.hp S.nx w ρ Fs
 defers:a.defers=[]
 size:a.tmps.size=C.N
 u6: ∀t,jC (C.env w ρ S.hp S.nx Fs) (S.sl t) (C.val a t)
theorem kU.ground {C:Cx} {hp:Nat->Option aQ} {nx:Nat} {w:World} {ρ:Place} {Fs:Nat->FP} (m:kU C hp nx w ρ Fs) (F:FP):Ground C.P0 w (C.Zf w F):=
 C.gnd.mono fun b hb=>⟨.inl hb,by obtain ⟨g1,g2⟩:=C.good b (.inr hb);exact m.frame.block b g1 g2⟩
structure Za (P:Program) (nt:Nat) (C:Cx):Prop where
 nt:nt=C.N
 p:C.P0=P
structure NF (C:Cx) (hp:Nat->Option aQ) (nx:Nat) (w:World) (ρ:Place) (Fs:Nat->FP) (hp':Nat->Option aQ) (tO:Nat) (w':World) (ρ':Place) (Fs':Nat->FP):Prop where
 size:w.heap.size<=w'.heap.size
 os:w'.os=w.os
 tape:w'.tape=w.tape
 output:w'.output=w.output
 agree: ∀b,b<w.heap.size->aR nx Fs b=0->w'.heap[b]? =w.heap[b]?
 ac2:nx<=tO
 same: ∀id,id<nx->(∀root,hp id=some root->root.real)->ρ' id=ρ id
 Yp: ∀id cD,id<nx->hp' id=some cD-> ∃root,hp id=some root/\(BM w w' (ρ id) root cD\/cD=root/\ ∃e v r i f,root= .hole e v r i f)
 fresh: ∀id,tO<=id->hp' id=none
 dead: ∀id,hp' id=none->Fs' id=fz
 one: ∀b,aR tO Fs' b<=1
 new: ∀b,1<=aR tO Fs' b->1<=aR nx Fs b\/(w.heap.size<=b/\b<w'.heap.size)
theorem NF.mono {C:Cx} {hp:Nat->Option aQ} {nx:Nat} {w:World} {ρ:Place} {Fs:Nat->FP} {hp':Nat->Option aQ} {tO:Nat} {w':World} {ρ':Place} {Fs':Nat->FP} (h:NF C hp nx w ρ Fs hp' tO w' ρ' Fs') (m:kU C hp nx w ρ Fs):u7 (C.env w ρ hp nx Fs) (C.env w' ρ' hp' tO Fs'):=by
 have N3: ∀b,C.Zf w (aR nx Fs) b->C.Zf w' (aR tO Fs') b/\w'.heap[b]? =w.heap[b]? :=by
  rintro b (h0| ⟨h1,h2,h3⟩)
  ·refine ⟨.inl h0,?_⟩
   obtain ⟨g1,g2⟩:=C.good b (.inr h0)
   refine h.agree b (bR g1 m.frame.size) ?_
   rcases bf (aR nx Fs b) with e|e
   ·exact e
   ·obtain ⟨_,k⟩:=m.uj b e;omega
  ·refine ⟨.inr ⟨h1,bR h2 h.size,?_⟩,h.agree b h2 h3⟩
   rcases bf (aR tO Fs' b) with e|e
   ·exact e
   ·rcases h.new b e with k|k<;>omega
 refine ⟨N3,?_,h.ac2,h.same,h.Yp⟩
 rintro b (h0|h0)
 ·refine ⟨.inl h0,?_⟩
  obtain ⟨g1,g2⟩:=C.good b (.inl h0)
  refine h.agree b (bR g1 m.frame.size) ?_
  rcases bf (aR nx Fs b) with e|e
  ·exact e
  ·obtain ⟨_,k⟩:=m.uj b e;omega
 ·exact ⟨.inr (N3 b h0).1,(N3 b h0).2⟩
theorem NF.ac3 {C:Cx} {hp:Nat->Option aQ} {nx:Nat} {w:World} {ρ:Place} {Fs:Nat->FP} {hp':Nat->Option aQ} {tO:Nat} {w':World} {ρ':Place} {Fs':Nat->FP} (h:NF C hp nx w ρ Fs hp' tO w' ρ' Fs') (m:kU C hp nx w ρ Fs)
 (hr: ∀id root,hp' id=some root->(hp' id=hp id/\(∀b,1<=Fs id b->w'.heap[b]? =w.heap[b]?)/\Fs' id=Fs id)\/lJ (C.env w' ρ' hp' tO Fs') id root (Fs' id)):kU C hp' tO w' ρ' Fs':=by
 refine ⟨h.fresh,fun id root hid=> ?_,h.dead,h.one,fun b hb=> ?_,?_⟩
 ·rcases hr id root hid with ⟨h1,h2,h3⟩|h1
  ·have iS:id<nx:=by
    rcases Nat.lt_or_ge id nx with k|k
    ·exact k
    ·rw[h1,m.fresh id k] at hid;cases hid
   rw[h3]
   exact (m.roots id root (by rw[<- h1];exact hid)).mono (h.mono m) iS (show hp id=some root by rw[<- h1];exact hid) h2
  ·exact h1
 ·rcases h.new b hb with k|k
  ·exact ⟨bR (m.uj b k).1 h.size,(m.uj b k).2⟩
  ·exact ⟨k.2,.inl (bx m.frame.size k.1)⟩
 ·refine ⟨bx m.frame.size h.size,by rw[h.os,m.frame.os],by rw[h.tape,m.frame.tape],by rw[h.output,m.frame.output],fun b h1 h2=> ?_⟩
  rw[<- m.frame.block b h1 h2]
  refine h.agree b (bR h1 m.frame.size) ?_
  rcases bf (aR nx Fs b) with e|e
  ·exact e
  ·obtain ⟨_,k⟩:=m.uj b e;omega
theorem TL (l:Array Value) (t d:Nat) (v u:Value):(l.setIfInBounds d v).getD t u=if t=d then (if d<l.size then v else l.getD t u) else l.getD t u:=by
 by_cases h:t=d
 ·subst h
  by_cases k:t<l.size
  ·simp[k,Array.getD_eq_getD_getElem?]
  ·simp[k,Array.getD_eq_getD_getElem?]
 ·simp[h,Array.getD_eq_getD_getElem?,Ne.symm h]
theorem cn.put {C:Cx} {S:St} {a:Act} {w:World} {ρ:Place} {Fs:Nat->FP} (h:cn C S a w ρ Fs) (dst:Option Tmp) (v:AV) (u:Value) (hv: ∀d,dst=some d->jC (C.env w ρ S.hp S.nx Fs) v u) (hd: ∀d,dst=some d->d<C.N):cn C (S.put dst v) (a.put dst u) w ρ Fs:=by
 cases dst with
 |none=>exact h
 |some d=>
  refine ⟨h.mem,h.defers,by simp[Act.put,h.size],fun t=> ?_⟩
  have hdN:=hd d rfl
  have hs:=h.u6 t
  simp only[St.put,Act.put,Cx.val,TL,h.size] at hs ⊢
  by_cases e:t=d
  ·subst e;simp[hdN];exact hv t rfl
  ·have:(d==t)=false:=by simp;exact fun h=>e h.symm
   have e2:(t==d)=false:=by simp[e]
   simp only[e,e2,if_false,an];exact hs
theorem cn.change {C:Cx} {S:St} {a:Act} {w:World} {ρ:Place} {Fs:Nat->FP} (h:cn C S a w ρ Fs) {hp':Nat->Option aQ} {tO:Nat} {w':World} {ρ':Place} {Fs':Nat->FP} (hc:NF C S.hp S.nx w ρ Fs hp' tO w' ρ' Fs')
 (hr: ∀id root,hp' id=some root->(hp' id=S.hp id/\(∀b,1<=Fs id b->w'.heap[b]? =w.heap[b]?)/\Fs' id=Fs id)\/lJ (C.env w' ρ' hp' tO Fs') id root (Fs' id)):cn C ⟨S.sl,hp',tO⟩ a w' ρ' Fs':=
 ⟨hc.ac3 h.mem hr,h.defers,h.size,fun t=>(h.u6 t).mono (hc.mono h.mem)⟩
theorem jC.const (E:Env) (v:Value):jC E (.l (Ks v)) v:=by
 unfold Ks
 split<;>first|exact rfl|exact trivial
theorem cn.rd {C:Cx} {S:St} {a:Act} {w:World} {ρ:Place} {Fs:Nat->FP} (h:cn C S a w ρ Fs) (x:Operand):jC (C.env w ρ S.hp S.nx Fs) (St.rd C.N S.sl x) (a.eval x):=by
 cases x with
 |tmp t=>
  simp only[St.rd]
  cases hb:Nat.blt t C.N with
  |false=>exact trivial
  |true=>
   have iS:t<C.N:=by simpa[Nat.blt_eq] using hb
   have:=h.u6 t
   simp only[Cx.val,aS iS] at this
   exact this
 |const v=>exact jC.const _ v
 |global g=>exact trivial
 |func f=>exact rfl
def zeroV (tt:TT) (t:Nat):Value:=match tt t with
 |some ⟨.int k,_,_⟩=> .int k 0
 |some ⟨.bool,_,_⟩=> .bool false
 |some ⟨.str,_,_⟩=> .string bE
 |some ⟨.slice _,_,_⟩=> .slice none 0 0
 |some ⟨.err,_,_⟩=> .nilIface
 |_=> .pointer none
def Yr (P:Program) (t:Nat):TK->Prop
 | .int k=>P.underlying t=some (.int k)
 | .bool=>P.underlying t=some .bool
 | .str=>P.underlying t=some .string
 | .slice e=>P.underlying t=some (.slice e)
 | .array n e=>P.underlying t=some (.array n e)
 | .ptr e=>P.underlying t=some (.pointer e)
 | .struct fs=> ∃fields:Array Field,P.underlying t=some (.struct fields)/\fields.toList.map (fun f=>(f.offset,f.type))=fs/\ ∀f∈fields.toList,∃i,P.info? f.type=some i/\i.size≠0
 | .err=> ∃ms,P.underlying t=some (.interface ms)
 | .other=>True
def Ys (tt:TT) (t:Nat) (z:Value):TK->Prop
 | .array n e=>z.cells.toList=List.replicate n (zeroV tt e)
 |_=>z.cells.toList=(bn tt depth t).map (zeroV tt)
structure pE (P:Program) (tt:TT) (t:Nat) (e:TE):Prop where
 desc:Yr P t e.k
 Gg: ∃i,P.info? t=some i/\i.size=e.size/\i.bytes=e.bytes/\ ∃z,i.zero=some z/\Ys tt t z e.k
 cells:(∀n x,e.k≠ .array n x)->e.size=(bn tt depth t).length
 some:0<e.size/\0<e.bytes
def qc (P:Program) (tt:TT):Prop:= ∀t e,tt t=some e->pE P tt t e
structure Out (P:Program) (C:Cx) (S:St) (o:Oper) (E:kG) (a:Act) (w:World) (w':World) (ρ':Place) (Fs':Nat->FP) (u:Value):Prop where
 run:(execOp a.eval o).run P w= .ok (.value u) w' \/((execOp a.eval o).run P w= .ok .skip w' /\u=undef)
 rel:cn C ⟨S.sl,jh S.hp E.up,S.nx⟩ a w' ρ' Fs'
 val:jC (C.env w' ρ' (jh S.hp E.up) S.nx Fs') E.v u
theorem Out.pure {P:Program} {C:Cx} {S:St} {o:Oper} {E:kG} {a:Act} {w:World} {ρ:Place} {Fs:Nat->FP} {u:Value} (h:cn C S a w ρ Fs) (hu:E.up=[]) (hr:(execOp a.eval o).run P w= .ok (.value u) w) (hv:jC (C.env w ρ S.hp S.nx Fs) E.v u):Out P C S o E a w w ρ Fs u:=by
 refine ⟨.inl hr,?_,?_⟩
 ·rw[hu];exact h
 ·rw[hu];exact hv
theorem sY {P:Program} {s:Sem Value} {v:Value} {w w':World} (h:s.run P w= .ok v w'):((do pure (.value (<- s))):Sem Next).run P w= .ok (.value v) w':=by
 have e:=Sem.run_bind' P s (fun v=>Sem.pure (Next.value v)) w
 rw[h] at e
 exact e
theorem aaH {P:Program} {s:Sem Unit} {x:Unit} {w w':World} (h:s.run P w= .ok x w'):((do s;pure .skip):Sem Next).run P w= .ok .skip w':=by
 have e:=Sem.run_bind' P s (fun _=>Sem.pure Next.skip) w
 rw[h] at e
 exact e
theorem fy {P:Program} {α β:Type} {s:Sem α} {f:α->Sem β} {x:α} {w w':World} (h:s.run P w= .ok x w'):((do let y <- s;f y):Sem β).run P w=(f x).run P w':=by
 have e:=Sem.run_bind' P s f w
 rw[h] at e
 exact e
theorem run_move {P:Program} {ρ:Operand->Value} {o:Oper} {x:Operand} (h:o.op= .move x\/o.op= .assign x) (w:World):(execOp ρ o).run P w= .ok (.value (ρ x)) w:=by
 rcases h with h|h<;>simp[execOp,h,go_sem]<;>rfl
theorem Mw {P:Program} {ρ:Operand->Value} {o:Oper} {c x y:Operand} {b:Bool} (h:o.op= .pick c x y) (hc:ρ c= .bool b) (w:World):(execOp ρ o).run P w= .ok (.value (if b then ρ x else ρ y)) w:=by
 simp[execOp,h,hc,go_sem,asBool]
theorem Mx {P:Program} {ρ:Operand->Value} {o:Oper} {x:Operand} {j:Nat} {vs:Array Value} {v:Value} (h:o.op= .extract x j) (hx:ρ x= .tuple vs) (hv:vs[j]? =some v) (w:World):(execOp ρ o).run P w= .ok (.value v) w:=by
 simp[execOp,h,hx,go_sem,Instr.extract,hv]
theorem Kz {P:Program} {ρ:Operand->Value} {o:Oper} {x:Operand} {a:Addr} (h:o.op= .nilCheck x) (hx:ρ x= .pointer (some a)) (w:World):(execOp ρ o).run P w= .ok (.value (.pointer (some a))) w:=by
 simp[execOp,h,hx,go_sem]
theorem QV {P:Program} {ρ:Operand->Value} {o:Oper} {op:BinOp} {t u:TypeId} {x y:Operand} {v:Value} {w:World} (h:o.op= .binOp op t x y u) (hv:((do eqGuard op t x y (ρ x) (ρ y);Go.binOp op t (ρ x) (ρ y)):Sem Value).run P w= .ok v w):(execOp ρ o).run P w= .ok (.value v) w:=by
 simp only[execOp,h]
 exact sY hv
theorem TM {P:Program} {ρ:Operand->Value} {o:Oper} {op:UnOp} {t:TypeId} {x:Operand} {v:Value} {w:World} (h:o.op= .unOp op t x) (hv:(Op.unary op (ρ x)).run P w= .ok v w):(execOp ρ o).run P w= .ok (.value v) w:=by
 simp only[execOp,h]
 exact sY hv
theorem ij {α:Type} {p:Bool} {x:Option α} {y:α} (h:bY p x=some y):p=true/\x=some y:=by
 cases p
 ·simp[bY] at h
 ·exact ⟨rfl,h⟩
theorem Oq {P:Program} {op:BinOp} {k k':IntKind} {a b:Int} {z:LV} (he:binOp (R:=LV) op (.i k a) (.i k' b) some=some z) (t:TypeId) (ox oy:Operand) (E:Env) (w:World):
 ∃r,gJ E z r/\((do eqGuard op t ox oy (.int k a) (.int k' b);Go.binOp op t (.int k a) (.int k' b)):Sem Value).run P w= .ok r w:=by
 have hg:eqGuard op t ox oy (.int k a) (.int k' b)=pure ():=by cases op<;>rfl
 rw[hg]
 show ∃r,gJ E z r/\(Go.binOp op t (.int k a) (.int k' b)).run P w= .ok r w
 by_cases hs:op= .shl\/op= .shr
 ·rcases hs with rfl|rfl
  all_goals
   simp only[binOp] at he
   obtain ⟨h1,h2⟩:=ij he
   have h0: ¬b<0:=by have:=ao h1;omega
   cases h2
   refine ⟨_,rfl,?_⟩
   simp only[Go.binOp,Op.shift,h0,if_false]
   rfl
 ·by_cases hk:k=k'
  ·subst hk
   cases op<;>first| (exfalso;exact hs (.inl rfl))| (exfalso;exact hs (.inr rfl))|skip
   all_goals simp only[binOp,decide_true,ak,af] at he
   all_goals first
    | (subst he;exact ⟨_,rfl,by simp[Go.binOp,Op.intArith,Op.intCmp,Op.intBits,OS]<;>rfl⟩)
    | (obtain ⟨h1,h2⟩:=ij he
       have K4: ¬b=0:=by simpa using h1
       cases h2
       exact ⟨_,rfl,by simp[Go.binOp,Op.intDiv,K4]<;>rfl⟩)
  ·exfalso
   cases op<;>first| (exact hs (.inl rfl))| (exact hs (.inr rfl))|simp[binOp,hk] at he
theorem My {P:Program} {tt:TT} (T:qc P tt) {op:BinOp} {x y z:LV} (he:binOp (R:=LV) op x y some=some z) (t:TypeId) (ox oy:Operand) (ht:VM tt t x=true) (E:Env) (u v:Value) (hu:gJ E x u) (hv:gJ E y v)
 (hn:y= .er true-> ∃c,oy= .const c) (w:World):
 ∃r,gJ E z r/\((do eqGuard op t ox oy u v;Go.binOp op t u v):Sem Value).run P w= .ok r w:=by
 cases x<;>cases y<;>first| (exfalso;cases op<;>simp[binOp] at he;done)|skip
 case i.i=>cases hu;cases hv;exact Oq he t ox oy E w
 case s.s a b=>
  cases hu;cases hv
  have hg:eqGuard op t ox oy (.string a) (.string b)=pure ():=by cases op<;>rfl
  rw[hg]
  show ∃r,gJ E z r/\(Go.binOp op t (.string a) (.string b)).run P w= .ok r w
  cases op<;>first| (exfalso;simp[binOp] at he;done)|skip
  ·simp only[binOp] at he
   obtain ⟨h1,h2⟩:=ij he
   cases h2
   refine ⟨_,rfl,?_⟩
   have:=ao h1
   simp[Go.binOp,Op.stringOp]
   simp[ia] at this
   omega
  ·simp only[binOp,af] at he;subst he;exact ⟨_,rfl,by simp[Go.binOp,Op.stringOp]<;>rfl⟩
  ·simp only[binOp,af] at he;subst he;exact ⟨_,rfl,by simp[Go.binOp,Op.stringOp]<;>rfl⟩
 case b.b a b=>
  cases hu;cases hv
  have hg:eqGuard op t ox oy (.bool a) (.bool b)=pure ():=by cases op<;>rfl
  rw[hg]
  show ∃r,gJ E z r/\(Go.binOp op t (.bool a) (.bool b)).run P w= .ok r w
  have hbt:P.underlying t=some .bool:=by
   simp only[VM] at ht
   split at ht
   ·rename_i sz bs hq;exact (T t _ hq).desc
   ·cases ht
  cases op<;>first| (exfalso;simp[binOp] at he;done)|skip
  ·simp only[binOp,af] at he;subst he;exact ⟨_,rfl,run_eql_bool _ _ _ _ hbt⟩
  ·simp only[binOp,af] at he;subst he;exact ⟨_,rfl,run_neq_bool _ _ _ _ hbt⟩
 case er.er a b=>
  cases b with
  |false=>exfalso;cases op<;>cases a<;>simp[binOp] at he
  |true=>
   cases hv
   have Zd:P.isIface t=true:=by
    simp only[VM] at ht
    split at ht
    ·rename_i sz bs hq
     obtain ⟨ms,h⟩:=(T t _ hq).desc
     simp[Program.isIface,h]
    ·cases ht
   obtain ⟨c,rfl⟩:=hn rfl
   cases a with
   |true=>
    cases hu
    have hg:eqGuard op t ox (.const c) .nilIface .nilIface=pure ():=by cases op<;>cases ox<;>rfl
    rw[hg]
    show ∃r,gJ E z r/\(Go.binOp op t .nilIface .nilIface).run P w= .ok r w
    cases op<;>first| (exfalso;simp[binOp] at he;done)|skip
    ·simp only[binOp,af] at he;subst he;exact ⟨_,rfl,run_eql_nil_nil_at _ _ Zd⟩
    ·simp only[binOp,af] at he;subst he;exact ⟨_,rfl,run_neq_nil_nil_at _ _ Zd⟩
   |false=>
    obtain ⟨d,q,rfl⟩:=hu
    have hg:eqGuard op t ox (.const c) (.iface d q) .nilIface=pure ():=by cases op<;>rfl
    rw[hg]
    show ∃r,gJ E z r/\(Go.binOp op t (.iface d q) .nilIface).run P w= .ok r w
    cases op<;>first| (exfalso;simp[binOp] at he;done)|skip
    ·simp only[binOp,af] at he;subst he;exact ⟨_,rfl,run_eql_iface_nil _ _ Zd _ _⟩
    ·simp only[binOp,af] at he;subst he;exact ⟨_,rfl,run_neq_iface_nil _ _ Zd _ _⟩
theorem Ot {P:Program} {op:UnOp} {x z:LV} (he:unOp (R:=LV) op x some=some z) (E:Env) (u:Value) (hu:gJ E x u) (w:World): ∃r,gJ E z r/\(Op.unary op u).run P w= .ok r w:=by
 cases op<;>cases x<;>simp only[unOp,af] at he<;>first|cases he|skip
 ·cases hu;exact ⟨_,rfl,rfl⟩
 ·cases hu;exact ⟨_,rfl,rfl⟩
theorem dn (hp:Nat->Option aQ): ∀l m:List (Nat×Option aQ),jh hp (l++m)=jh (jh hp l) m:=by
 intro l
 induction l generalizing hp with
 |nil=>intro m;rfl
 |cons x l ih=>intro m;obtain ⟨i,r⟩:=x;exact ih _ m
theorem jG (hp:Nat->Option aQ) (i:Nat) (r:Option aQ) (j:Nat):jh hp [(i,r)] j=if j=i then r else hp j:=by
 simp only[jh]
 by_cases h:j=i
 ·subst h;simp
 ·have:(j==i)=false:=by simp[h]
  simp[h,this]
theorem q_ (hp:Nat->Option aQ): ∀ks:List Nat,jh hp (fi ks)=kill hp ks:=by
 intro ks
 induction ks generalizing hp with
 |nil=>funext j;simp[fi,jh,kill]
 |cons k ks ih=>
  funext j
  have:=congrFun (ih (fun j=>bif j==k then none else hp j)) j
  simp only[fi,bM,jh] at this ⊢
  rw[this]
  simp only[kill,List.elem_cons]
  cases h:(j==k)<;>cases h2:ks.elem j<;>simp[h,h2]
theorem nv (hp:Nat->Option aQ) (ks:List Nat) (j:Nat):kill hp ks j=if j∈ks then none else hp j:=by
 unfold kill
 by_cases h:j∈ks
 ·simp[h,List.elem_iff.2 h]
 ·have:ks.elem j=false:=by rw[<- Bool.not_eq_true];exact fun h'=>h (List.elem_iff.1 h')
  simp[h,this]
theorem yE {hp:Nat->Option aQ} {ks:List Nat} {j:Nat} {r:aQ} (h:kill hp ks j=some r):j∉ks/\hp j=some r:=by
 rw[nv] at h
 split at h
 ·cases h
 ·exact ⟨‹_›,h⟩
def fh (Fs:Nat->FP):List Nat->FP
 | []=>fz
 |k::ks=>ez (Fs k) (fh Fs ks)
def fD (Fs:Nat->FP) (ks:List Nat):Nat->FP:=fun j=>if j∈ks then fz else Fs j
theorem TN (Fs:Nat->FP):fD Fs [] =Fs:=by funext j;simp[fD]
theorem QW (Fs:Nat->FP) (k:Nat) (ks:List Nat):fD Fs (k::ks)=jH (fD Fs ks) k fz:=by
 funext j
 simp only[fD,jH,cL]
 by_cases h:j=k<;>simp[h]
theorem oD (Fs:Nat->FP) (b n:Nat): ∀ks:List Nat,ks.Nodup->(∀k∈ks,k<n)->aR n (fD Fs ks) b+fh Fs ks b=aR n Fs b
 | [],_,_=>by simp[TN,fh]
 |k::ks,hd,hk=>by
  obtain ⟨h1,h2⟩:=List.nodup_cons.1 hd
  have ih:=oD Fs b n ks h2 (fun j hj=>hk j (by simp[hj]))
  have e:=iT (fD Fs ks) fz b (hk k (by simp))
  rw[QW]
  have e2:fD Fs ks k=Fs k:=by simp[fD,h1]
  rw[e2] at e
  simp[fh] at e ⊢
  omega
theorem Vx (Fs:Nat->FP) (ks:List Nat) (j b:Nat):fD Fs ks j b<=Fs j b:=by
 unfold fD;split<;>simp
def k_ (ρ:Place) (id:Nat) (q:Option (Nat×Nat)):Place:=fun j=>if j=id then q else ρ j
theorem h_ (ρ:Place) (id:Nat) (q:Option (Nat×Nat)):k_ ρ id q id=q:=by simp[k_]
theorem aat (ρ:Place) {id j:Nat} (q:Option (Nat×Nat)) (h:j≠id):k_ ρ id q j=ρ j:=by simp[k_,h]
theorem BN (w:World) (o:Obj) {b:Nat} (h:b<w.heap.size):(w.alloc o).heap[b]? =w.heap[b]? :=by
 show (w.heap.push o)[b]? =_
 rw[Array.getElem?_push,aD (Nat.ne_of_lt h)]
theorem BO (w:World) (o:Obj):(w.alloc o).heap[w.heap.size]? =some o:=by
 show (w.heap.push o)[w.heap.size]? =_
 rw[Array.getElem?_push,aS rfl]
theorem sZ (w:World) (o:Obj):(w.alloc o).heap.size=w.heap.size+1:=Array.size_push _
theorem eR {C:Cx} {hp:Nat->Option aQ} {nx:Nat} {w:World} {ρ:Place} {Fs:Nat->FP} (m:kU C hp nx w ρ Fs) {id:Nat} {r:aQ} (h:hp id=some r):id<nx:=by
 rcases Nat.lt_or_ge id nx with k|k
 ·exact k
 ·rw[m.fresh id k] at h;cases h
inductive Kept (C:Cx) (hp:Nat->Option aQ) (w:World) (ρ:Place) (Fs:Nat->FP) (hp':Nat->Option aQ) (w':World) (Fs':Nat->FP) (E':Env) (M:Prop) (T:Nat->Prop) (j:Nat):Prop
 |same (h1:hp' j=hp j) (h2:Fs' j=Fs j) (h3: ∀b,1<=Fs j b-> ¬T b)
 |gone (h1:hp' j=none) (h2:Fs' j=fz)
 |pr (root cD:aQ) (h1:hp j=some root) (h2:hp' j=some cD) (h3:BM w w' (ρ j) root cD) (h4:M->lJ E' j cD (Fs' j))
theorem cn.X0 {C:Cx} {S:St} {a:Act} {w:World} {ρ:Place} {Fs:Nat->FP} (h:cn C S a w ρ Fs) (hp':Nat->Option aQ) (tO:Nat) (w':World) (ρ':Place) (Fs':Nat->FP) (T:Nat->Prop)
 (oX:w.heap.size<=w'.heap.size) (QX:w'.os=w.os) (QY:w'.tape=w.tape) (CU:w'.output=w.output)
 (Ou: ∀b,b<w.heap.size-> ¬T b->w'.heap[b]? =w.heap[b]?) (hT: ∀b,T b->1<=aR S.nx Fs b)
 (QO:S.nx<=tO) (hρ: ∀id,id<S.nx->(∀root,S.hp id=some root->root.real)->ρ' id=ρ id)
 (hj: ∀j,j<S.nx->Kept C S.hp w ρ Fs hp' w' Fs' (C.env w' ρ' hp' tO Fs') (u7 (C.env w ρ S.hp S.nx Fs) (C.env w' ρ' hp' tO Fs')) T j)
 (hn: ∀j,S.nx<=j->(hp' j=none/\Fs' j=fz)\/(j<tO/\ ∃root,hp' j=some root/\(u7 (C.env w ρ S.hp S.nx Fs) (C.env w' ρ' hp' tO Fs')->lJ (C.env w' ρ' hp' tO Fs') j root (Fs' j))))
 (o9: ∀b,aR tO Fs' b<=1) (wO: ∀b,1<=aR tO Fs' b->1<=aR S.nx Fs b\/(w.heap.size<=b/\b<w'.heap.size)):
 cn C ⟨S.sl,hp',tO⟩ a w' ρ' Fs' /\u7 (C.env w ρ S.hp S.nx Fs) (C.env w' ρ' hp' tO Fs'):=by
 have Yt: ∀id root,S.hp id=some root-> ∀b,1<=Fs id b->b<w.heap.size:=fun id root hid b hb=>(h.mem.uj b (bx hb (mP Fs b (eR h.mem hid)))).1
 have hc:NF C S.hp S.nx w ρ Fs hp' tO w' ρ' Fs':=by
  refine ⟨oX,QX,QY,CU,fun b hb h0=>Ou b hb fun ht=>by have:=hT b ht;omega,QO,hρ,?_,?_,?_,o9,wO⟩
  ·intro id cD hid hr
   cases hj id hid with
   |same h1 h2 h3=>
    rw[h1] at hr
    refine ⟨cD,hr,?_⟩
    cases cD with
    |hole e v r i f=>exact .inr ⟨rfl,e,v,r,i,f,rfl⟩
    |box t c=>exact .inl trivial
    |gW=>exact .inl trivial
    |row e v r=>
     refine .inl (BM.refl _ _ _ _ (fun b cap hq _=> ?_) (fun e v r i f=>by simp))
     have QJ:=h.mem.roots id _ hr
     rcases QJ with ⟨k1,_⟩| ⟨b',th,arr,ty,F',k1,k2,_,_,_,k6⟩
     ·simp only[Cx.env] at k1;rw[k1] at hq;cases hq
     ·simp only[Cx.env] at k1 k2;rw[k1] at hq;cases hq
      exact Ou b (Array.getElem?_eq_some_iff.1 k2).1 (h3 b (by rw[k6];simp))
   |gone h1 h2=>rw[h1] at hr;cases hr
   |pr root ac4 h1 h2 h3 h4=>rw[h2] at hr;cases hr;exact ⟨root,h1,.inl h3⟩
  ·intro id hid
   rcases hn id (by omega) with ⟨k,_⟩| ⟨k,_⟩
   ·exact k
   ·omega
  ·intro id hid
   rcases Nat.lt_or_ge id S.nx with k|k
   ·cases hj id k with
    |same h1 h2 h3=>rw[h2];exact h.mem.dead id (by rw[<- h1];exact hid)
    |gone h1 h2=>exact h2
    |pr root cD h1 h2 h3 h4=>rw[h2] at hid;cases hid
   ·rcases hn id k with ⟨_,k⟩| ⟨_,root,k,_⟩
    ·exact k
    ·rw[k] at hid;cases hid
 refine ⟨h.change hc fun id root hid=> ?_,hc.mono h.mem⟩
 have M:=hc.mono h.mem
 rcases Nat.lt_or_ge id S.nx with k|k
 ·cases hj id k with
  |same h1 h2 h3=>exact .inl ⟨h1,fun b hb=>Ou b (Yt id root (by rw[<- h1];exact hid) b hb) (h3 b hb),h2⟩
  |gone h1 h2=>rw[h1] at hid;cases hid
  |pr aer cD h1 h2 h3 h4=>rw[h2] at hid;cases hid;exact .inr (h4 M)
 ·rcases hn id k with ⟨k,_⟩| ⟨_,cD,k,hr⟩
  ·rw[k] at hid;cases hid
  ·rw[k] at hid;cases hid;exact .inr (hr M)
theorem cn.gen {C:Cx} {S:St} {a:Act} {w:World} {ρ:Place} {Fs:Nat->FP} (h:cn C S a w ρ Fs) (hp':Nat->Option aQ) (tO:Nat) (w':World) (ρ':Place) (Fs':Nat->FP) (T:Nat->Prop)
 (oX:w.heap.size<=w'.heap.size) (QX:w'.os=w.os) (QY:w'.tape=w.tape) (CU:w'.output=w.output)
 (Ou: ∀b,b<w.heap.size-> ¬T b->w'.heap[b]? =w.heap[b]?) (hT: ∀b,T b->1<=aR S.nx Fs b)
 (QO:S.nx<=tO) (hρ: ∀id,id<S.nx->(∀root,S.hp id=some root->root.real)->ρ' id=ρ id)
 (hj: ∀j,j<S.nx->Kept C S.hp w ρ Fs hp' w' Fs' (C.env w' ρ' hp' tO Fs') (u7 (C.env w ρ S.hp S.nx Fs) (C.env w' ρ' hp' tO Fs')) T j)
 (hn: ∀j,S.nx<=j->(hp' j=none/\Fs' j=fz)\/(j<tO/\ ∃root,hp' j=some root/\(u7 (C.env w ρ S.hp S.nx Fs) (C.env w' ρ' hp' tO Fs')->lJ (C.env w' ρ' hp' tO Fs') j root (Fs' j))))
 (o9: ∀b,aR tO Fs' b<=1) (wO: ∀b,1<=aR tO Fs' b->1<=aR S.nx Fs b\/(w.heap.size<=b/\b<w'.heap.size)):
 cn C ⟨S.sl,hp',tO⟩ a w' ρ' Fs':=(h.X0 hp' tO w' ρ' Fs' T oX QX QY CU Ou hT QO hρ hj hn o9 wO).1
theorem cn.VP {C:Cx} {S:St} {a:Act} {w:World} {ρ:Place} {Fs:Nat->FP} (h:cn C S a w ρ Fs) (ks:List Nat) (yU:ks.Nodup) (oL: ∀k∈ks,S.hp k≠none) (id:Nat) (hid:id∉ks) (root cD:aQ) (K1:S.hp id=some root) (Fn:FP) (w':World)
 (oX:w'.heap.size=w.heap.size) (QX:w'.os=w.os) (QY:w'.tape=w.tape) (CU:w'.output=w.output)
 (Ou: ∀b,b<w.heap.size->Fs id b=0->w'.heap[b]? =w.heap[b]?) (hF: ∀b,Fn b<=Fs id b+fh Fs ks b) (hl:BM w w' (ρ id) root cD)
 (hr:u7 (C.env w ρ S.hp S.nx Fs) (C.env w' ρ (jh S.hp (fi ks++[(id,some cD)])) S.nx (jH (fD Fs ks) id Fn))->lJ (C.env w' ρ (jh S.hp (fi ks++[(id,some cD)])) S.nx (jH (fD Fs ks) id Fn)) id cD Fn):
 cn C ⟨S.sl,jh S.hp (fi ks++[(id,some cD)]),S.nx⟩ a w' ρ (jH (fD Fs ks) id Fn):=by
 have hk: ∀k∈ks,k<S.nx:=fun k h'=>by
  cases e:S.hp k with
  |none=>exact absurd e (oL k h')
  |some r=>exact eR h.mem e
 have pF:=eR h.mem K1
 have rF: ∀j,jh S.hp (fi ks++[(id,some cD)]) j=if j=id then some cD else if j∈ks then none else S.hp j:=fun j=>by
  rw[dn,jG,q_,nv]
 have mH: ∀b,aR S.nx (jH (fD Fs ks) id Fn) b+Fs id b+fh Fs ks b=aR S.nx Fs b+Fn b:=fun b=>by
  have h1:=iT (fD Fs ks) Fn b pF
  have h2:=oD Fs b S.nx ks yU hk
  have h3:fD Fs ks id=Fs id:=by simp[fD,hid]
  rw[h3] at h1
  omega
 refine h.gen _ _ w' ρ _ (fun b=>1<=Fs id b) (by omega) QX QY CU (fun b hb ht=>Ou b hb (by omega)) (fun b ht=>bx ht (mP Fs b pF)) (ai _) (fun _ _ _=>rfl) ?_ ?_ ?_ ?_
 ·intro j hj
  by_cases e:j=id
  ·subst e
   exact .pr root cD K1 (by rw[rF,aS rfl]) hl (fun M=>by rw[kK];exact hr M)
  ·by_cases e2:j∈ks
   ·exact .gone (by rw[rF,aD e,aS e2]) (by rw[fq _ _ e];simp[fD,e2])
   ·refine .same (by rw[rF,aD e,aD e2]) (by rw[fq _ _ e];simp[fD,e2]) (fun b h1 h2=> ?_)
    have:=I9 Fs b hj pF e
    have:=h.mem.one b
    omega
 ·intro j hj
  refine .inl ⟨by rw[rF,aD (by omega)];split;rfl;exact h.mem.fresh j hj,?_⟩
  rw[fq _ _ (by omega)]
  by_cases e2:j∈ks
  ·simp[fD,e2]
  ·simp[fD,e2];exact h.mem.dead j (h.mem.fresh j hj)
 ·intro b;have:=mH b;have:=hF b;have:=h.mem.one b;omega
 ·intro b hb;have:=mH b;have:=hF b;left;omega
theorem vb (Fs:Nat->FP) (b n:Nat) {ks:List Nat} (hd:ks.Nodup) (hk: ∀k∈ks,k<n) {j:Nat} (hj:j<n) (VA:j∉ks):Fs j b+fh Fs ks b<=aR n Fs b:=by
 have h1:=oD Fs b n ks hd hk
 have h2:=mP (fD Fs ks) b hj
 have h3:fD Fs ks j=Fs j:=by simp[fD,VA]
 rw[h3] at h2
 omega
theorem oC (Fs:Nat->FP) (b n:Nat) {ks:List Nat} (hd:ks.Nodup) (hk: ∀k∈ks,k<n):fh Fs ks b<=aR n Fs b:=by
 have h1:=oD Fs b n ks hd hk
 omega
theorem cn.make {C:Cx} {S:St} {a:Act} {w:World} {ρ:Place} {Fs:Nat->FP} (h:cn C S a w ρ Fs) {id:Nat} (hg:S.hp id=some .gW) (ks:List Nat) (yU:ks.Nodup) (oL: ∀k∈ks,∃r,S.hp k=some r/\r.real) (root:aQ) (q:Option (Nat×Nat)) (Fn:FP) (w':World)
 (oX:w.heap.size<=w'.heap.size) (QX:w'.os=w.os) (QY:w'.tape=w.tape) (CU:w'.output=w.output)
 (Ou: ∀b,b<w.heap.size->fh Fs ks b=0->w'.heap[b]? =w.heap[b]?) (hF: ∀b,Fn b<=fh Fs ks b+(if w.heap.size<=b/\b<w'.heap.size then 1 else 0))
 (hr:u7 (C.env w ρ S.hp S.nx Fs) (C.env w' (k_ ρ id q) (jh S.hp (fi ks++[(id,some root)])) S.nx (jH (fD Fs ks) id Fn))->lJ (C.env w' (k_ ρ id q) (jh S.hp (fi ks++[(id,some root)])) S.nx (jH (fD Fs ks) id Fn)) id root Fn):
 cn C ⟨S.sl,jh S.hp (fi ks++[(id,some root)]),S.nx⟩ a w' (k_ ρ id q) (jH (fD Fs ks) id Fn):=by
 have hid:id∉ks:=fun h'=>by
  obtain ⟨r,h1,h2⟩:=oL id h'
  rw[hg] at h1;cases h1;exact h2
 have hk: ∀k∈ks,k<S.nx:=fun k h'=>by
  obtain ⟨r,h1,_⟩:=oL k h'
  exact eR h.mem h1
 have pF:=eR h.mem hg
 have YZ:Fs id=fz:=h.mem.roots id _ hg
 have rF: ∀j,jh S.hp (fi ks++[(id,some root)]) j=if j=id then some root else if j∈ks then none else S.hp j:=fun j=>by
  rw[dn,jG,q_,nv]
 have mH: ∀b,aR S.nx (jH (fD Fs ks) id Fn) b+fh Fs ks b=aR S.nx Fs b+Fn b:=fun b=>by
  have h1:=iT (fD Fs ks) Fn b pF
  have h2:=oD Fs b S.nx ks yU hk
  have h3:fD Fs ks id=Fs id:=by simp[fD,hid]
  rw[h3,YZ] at h1
  simp at h1
  omega
 have wO: ∀b,1<=aR S.nx Fs b->b<w.heap.size:=fun b hb=>(h.mem.uj b hb).1
 refine h.gen _ _ w' _ _ (fun b=>1<=fh Fs ks b) oX QX QY CU (fun b hb ht=>Ou b hb (by omega)) (fun b ht=>bx ht (oC Fs b S.nx yU hk)) (ai _) (fun j hj yT=>aat _ _ ?_) ?_ ?_ ?_ ?_
 ·rintro rfl
  exact yT _ hg
 ·intro j hj
  by_cases e:j=id
  ·subst e
   exact .pr .gW root hg (by rw[rF,aS rfl]) trivial (fun M=>by rw[kK];exact hr M)
  ·by_cases e2:j∈ks
   ·exact .gone (by rw[rF,aD e,aS e2]) (by rw[fq _ _ e];simp[fD,e2])
   ·refine .same (by rw[rF,aD e,aD e2]) (by rw[fq _ _ e];simp[fD,e2]) (fun b h1 h2=> ?_)
    have:=vb Fs b S.nx yU hk hj e2
    have:=h.mem.one b
    omega
 ·intro j hj
  refine .inl ⟨by rw[rF,aD (by omega)];split;rfl;exact h.mem.fresh j hj,?_⟩
  rw[fq _ _ (by omega)]
  by_cases e2:j∈ks
  ·simp[fD,e2]
  ·simp[fD,e2];exact h.mem.dead j (h.mem.fresh j hj)
 ·intro b
  have h1:=mH b
  have h2:=hF b
  have h3:=h.mem.one b
  have h4:=oC Fs b S.nx yU hk
  split at h2
  ·rename_i hb
   have: ¬1<=aR S.nx Fs b:=fun h'=>by have:=wO b h';omega
   omega
  ·omega
 ·intro b hb
  have h1:=mH b
  have h2:=hF b
  have h4:=oC Fs b S.nx yU hk
  split at h2
  ·rename_i hb;exact .inr hb
  ·left;omega
def xR (hp:Nat->Option aQ) (m N:Nat):Nat->Option aQ:=fun j=>match hp j with
 |some r=>some r
 |none=>bif Nat.ble m j&&Nat.blt j N then some .gW else none
theorem cn.VI {C:Cx} {S:St} {a:Act} {w:World} {ρ:Place} {Fs:Nat->FP} (h:cn C S a w ρ Fs) {N:Nat} (hN:S.nx<=N):cn C ⟨S.sl,xR S.hp S.nx N,N⟩ a w ρ Fs:=by
 have mH: ∀b,aR N Fs b=aR S.nx Fs b:=fun b=>vS b hN fun j h1 _=>by rw[h.mem.dead j (h.mem.fresh j h1)];rfl
 refine h.gen _ _ w ρ _ (fun _=>False) (ai _) rfl rfl rfl (fun _ _ _=>rfl) (fun _ h=>h.elim) hN (fun _ _ _=>rfl) (fun j hj=> .same ?_ rfl (fun _ _ h=>h)) (fun j hj=> ?_) (fun b=>by rw[mH];exact h.mem.one b) (fun b hb=> .inl (by rw[mH] at hb;exact hb))
 ·have:Nat.ble S.nx j=false:=Bool.eq_false_iff.2 (fun h'=>by have:=bD h';omega)
  simp only[xR,this,Bool.false_and,an]
  cases S.hp j<;>rfl
 ·have hd:=h.mem.fresh j hj
  by_cases e:j<N
  ·refine .inr ⟨e,.gW,?_,fun _=>h.mem.dead j hd⟩
   have h1:Nat.ble S.nx j=true:=Nat.ble_eq_true_of_le hj
   have h2:Nat.blt j N=true:=by simp[Nat.blt_eq];exact e
   simp only[xR,hd,h1,h2];rfl
  ·refine .inl ⟨?_,h.mem.dead j hd⟩
   have h2:Nat.blt j N=false:=Bool.eq_false_iff.2 (fun h3=>by have:=bD h3;omega)
   simp only[xR,hd,h2,Bool.and_false];rfl
theorem cn.VJ {C:Cx} {S:St} {a:Act} {w:World} {ρ:Place} {Fs:Nat->FP} (h:cn C S a w ρ Fs) (hp':Nat->Option aQ) (hh: ∀j,hp' j=S.hp j\/(S.hp j=some .gW/\hp' j=none)):cn C ⟨S.sl,hp',S.nx⟩ a w ρ Fs:=by
 refine h.gen _ _ w ρ _ (fun _=>False) (ai _) rfl rfl rfl (fun _ _ _=>rfl) (fun _ h=>h.elim) (ai _) (fun _ _ _=>rfl) (fun j hj=> ?_) (fun j hj=> ?_) h.mem.one (fun b hb=> .inl hb)
 ·rcases hh j with e| ⟨e1,e2⟩
  ·exact .same e rfl (fun _ _ h=>h)
  ·exact .gone e2 (h.mem.roots j _ e1)
 ·have hd:=h.mem.fresh j hj
  rcases hh j with e| ⟨e1,e2⟩
  ·exact .inl ⟨by rw[e];exact hd,h.mem.dead j hd⟩
  ·rw[hd] at e1;cases e1
section
variable {P:Program} {w:World}
theorem HP {t:TypeId} {i:TypeInfo} (h:P.info? t=some i):(typeInfo t).run P w= .ok i w:=by
 simp[typeInfo,program,h,go_sem,Sem.run,Bind.bind,Sem.bind,Pure.pure]
theorem pI {t:TypeId} {i:TypeInfo} (h:P.info? t=some i):(sizeOf t).run P w= .ok i.size w:=by
 unfold sizeOf
 rw[fy (HP h)]
 rfl
def VQ:TypeDesc->Bool
 | .struct _=>true
 | .array _ _=>true
 |_=>false
theorem Gj {t:TypeId} {d:TypeDesc} (h:P.underlying t=some d):(isAgg t).run P w= .ok (VQ d) w:=by
 unfold isAgg
 rw[fy (run_underlying h w)]
 cases d<;>rfl
theorem ql {t e:TypeId} {i:TypeInfo} (h:P.underlying t=some (.slice e)) (hi:P.info? e=some i) (a:Addr) (len cap:Nat) (k:IntKind) (n:Int) (h0:0<=n) (h1:n<len):
 (Instr.indexAt t (.slice (some a) len cap) (.int k n)).run P w= .ok (.pointer (some (a.add (n.toNat*i.size)))) w:=by
 have he:P.elem t=e:=by simp[Program.elem,h]
 have e1:=run_indexAt_slice (P:=P) w t a len cap k n (by rw[he];exact h)
 rw[e1,aS ⟨h0,h1⟩,he,pI hi]
 rfl
theorem Ef {t e:TypeId} {i:TypeInfo} {m:Nat} (h:P.underlying t=some (.array m e)) (hi:P.info? e=some i) (a:Addr) (k:IntKind) (n:Int) (h0:0<=n) (h1:n<m):
 (Instr.indexAt t (.pointer (some a)) (.int k n)).run P w= .ok (.pointer (some (a.add (n.toNat*i.size)))) w:=by
 have he:P.elem t=e:=by simp[Program.elem,h]
 have hm:P.arrayLen t=m:=by simp[Program.arrayLen,h]
 have e1:=run_indexAt_array (P:=P) w t a k n (by rw[he,hm];exact h)
 rw[e1,hm,aS ⟨h0,h1⟩,he,pI hi]
 rfl
theorem KA {t:TypeId} {fs:Array Field} {f:Field} {j:Nat} {i:TypeInfo} (h:P.underlying t=some (.struct fs)) (hf:fs[j]? =some f) (hi:P.info? f.type=some i) (h0:i.size≠0) (a:Addr):
 (Instr.fieldAt t (.pointer (some a)) j).run P w= .ok (.pointer (some (a.add f.offset))) w:=by
 unfold Instr.fieldAt
 rw[fy (run_underlying h w)]
 simp only[hf]
 rw[fy (x:=a) (w':=w) rfl]
 rw[fy (x:=a.add f.offset) (w':=w) (by
  unfold fieldPlace
  rw[fy (pI hi)]
  simp only[h0,if_false]
  rfl)]
 rfl
theorem pi {t:TypeId} {d:TypeDesc} (h:P.underlying t=some d) (hd:VQ d=false) {a:Addr} {v:Value} (hc:w.cell? a=some v):
 (Instr.loadAt t (.pointer (some a))).run P w= .ok v w:=by
 unfold Instr.loadAt
 rw[fy (x:=a) (w':=w) rfl]
 unfold loadVar
 rw[fy (Gj h),hd]
 simp[load,Sem.run,hc]
theorem ph {t:TypeId} {fs:Array Field} {i:TypeInfo} (h:P.underlying t=some (.struct fs)) (hi:P.info? t=some i) {a:Addr} {vs:List Value} (hl:vs.length=i.size) (hc: ∀j v,vs[j]? =some v->w.cell? (a.add j)=some v):
 (Instr.loadAt t (.pointer (some a))).run P w= .ok (.agg vs.toArray) w:=by
 unfold Instr.loadAt
 rw[fy (x:=a) (w':=w) rfl]
 unfold loadVar
 rw[fy (Gj h)]
 simp only[VQ,if_true]
 rw[fy (pI hi),<- hl,fy (run_loadCells_list w a vs hc)]
 rfl
theorem pj (k:IntKind) (i:Int) (y:Nat) (code:BoundsCode) (h0:0<=i) (h1:i<=y):(Instr.sliceBound (.int k i) y code).run P w= .ok i.toNat w:=by
 unfold Instr.sliceBound
 rw[fy (x:=(k,i)) (w':=w) rfl]
 simp only[h0,h1,and_self,if_true]
 rfl
def qR (o:Option Value) (d:Nat) (n:Nat):Prop:=match o with
 |none=>n=d
 |some v=> ∃(k:IntKind) (i:Int),v= .int k i/\0<=i/\n=i.toNat
theorem vf (b:Bool) (len cap:Nat) (lo hi:Option Value) (l h:Nat) (Ex:qR lo 0 l) (IN:qR hi len h) (h1:l<=h) (h2:h<=cap):(Instr.sliceBounds b len cap lo hi none).run P w= .ok (l,h,cap) w:=by
 cases hi with
 |none=>
  cases IN
  cases lo with
  |none=>cases Ex;rfl
  |some v=>
   obtain ⟨k,i,rfl,h0,rfl⟩:=Ex
   unfold Instr.sliceBounds
   show Sem.run P (do let l <- Instr.sliceBound (.int k i) len _;pure (l,len,cap)) w=_
   rw[fy (pj k i len _ h0 (by omega))]
   rfl
 |some u=>
  obtain ⟨k',i',rfl,Y9,rfl⟩:=IN
  cases lo with
  |none=>
   cases Ex
   unfold Instr.sliceBounds
   show Sem.run P (do let h <- Instr.sliceBound (.int k' i') cap _;pure (0,h,cap)) w=_
   rw[fy (pj k' i' cap _ Y9 (by omega))]
   rfl
  |some v=>
   obtain ⟨k,i,rfl,h0,rfl⟩:=Ex
   unfold Instr.sliceBounds
   show Sem.run P (do let h <- Instr.sliceBound (.int k' i') cap _;let l <- Instr.sliceBound (.int k i) h _;pure (l,h,cap)) w=_
   rw[fy (pj k' i' cap _ Y9 (by omega)),fy (pj k i _ _ h0 (by omega))]
   rfl
theorem wm {t e:TypeId} {i:TypeInfo} (h:P.underlying t=some (.slice e)) (hi:P.info? e=some i) (a:Option Addr) (len cap:Nat) (lo VR:Option Value) (l hh:Nat) (Ex:qR lo 0 l) (IN:qR VR len hh) (h1:l<=hh) (h2:hh<=cap):
 (Instr.sliceAt t (.slice a len cap) lo VR none).run P w= .ok (.slice (if cap=l then a else a.map (·.add (l*i.size))) (hh-l) (cap-l)) w:=by
 unfold Instr.sliceAt
 rw[fy (run_underlying h w)]
 show (Instr.slice t (.slice a len cap) lo VR none).run P w=_
 unfold Instr.slice
 rw[fy (run_underlying h w)]
 simp only[]
 rw[fy (vf true len cap lo VR l hh Ex IN h1 h2)]
 rw[fy (pI hi)]
 rfl
theorem HQ {t:TypeId} (h:P.underlying t=some .string) (s:BA) (lo VR:Option Value) (l hh:Nat) (Ex:qR lo 0 l) (IN:qR VR s.size hh) (h1:l<=hh) (h2:hh<=s.size):
 (Instr.sliceAt t (.string s) lo VR none).run P w= .ok (.string (s.extract l hh)) w:=by
 unfold Instr.sliceAt
 rw[fy (run_underlying h w)]
 show (Instr.slice t (.string s) lo VR none).run P w=_
 unfold Instr.slice
 rw[fy (run_underlying h w)]
 simp only[Option.isSome_none,Bool.false_eq_true,if_false]
 rw[fy (vf false s.size s.size lo VR l hh Ex IN h1 h2)]
 rfl
theorem HR {t:TypeId} (h:P.underlying t=some .string) (s:BA) (k:IntKind) (n:Int) (h0:0<=n) (h1:n<s.size):(Instr.index t (.string s) (.int k n)).run P w= .ok (.int .u8 (sb s n.toNat)) w:=by
 unfold Instr.index
 rw[fy (x:=(k,n)) (w':=w) rfl]
 rw[fy (run_underlying h w)]
 have hl:n.toNat<s.size:=by omega
 have e:s[n.toNat]? =some s[n.toNat]:=by simp[getElem?_pos,hl]
 simp only[h0,if_true,e]
 have e2:s.data[n.toNat]? =some s[n.toNat]:=by
  have:n.toNat<s.data.size:=hl
  rw[Array.getElem?_eq_getElem this];rfl
 show Result.ok _ _=_
 simp[sb,e2]
end
section
variable {P:Program} {tt:TT} {C:Cx} {S:St} {a:Act} {w:World} {ρ:Place} {Fs:Nat->FP} {n:Nat}
theorem kE (h:cn C S a w ρ Fs) {x:Operand} {v:LV} (e:St.rd C.N S.sl x= .one (.l v)):gJ (C.env w ρ S.hp S.nx Fs) v (a.eval x):=by
 have:=h.rd x
 rw[e] at this
 exact this
theorem pb {R:Type} {x:AV} {K:Int->Option R} {r:R} (h:Ok x K=some r): ∃k n,x= .one (.l (.i k n))/\K n=some r:=by
 unfold Ok at h
 split at h
 ·exact ⟨_,_,rfl,h⟩
 ·cases h
theorem ba {p q:Bool} (h:(p&&q)=true):p=true/\q=true:=by simpa using h
theorem aH {R:Type} {b:Bool} {x:Option R} {r:R} (h:(bif b then x else none)=some r):b=true/\x=some r:=by
 cases b
 ·cases h
 ·exact ⟨rfl,h⟩
theorem oo (T:qc P tt) {t e:Nat} (h:nu tt t=some e):P.underlying t=some (.slice e):=by
 unfold nu at h
 split at h
 ·rename_i q1 q2 q3 hq
  cases h
  exact (T t _ hq).desc
 ·cases h
theorem BP (T:qc P tt) {t n:Nat} (h:Gd tt t=n) (hn:0<n): ∃e i,P.underlying t=some (.slice e)/\P.info? e=some i/\i.size=n:=by
 unfold Gd at h
 split at h
 ·rename_i e q2 q3 hq
  have hd:=(T t _ hq).desc
  unfold cJ at h
  split at h
  ·rename_i te K0
   obtain ⟨i,h1,h2,_⟩:=(T e te K0).Gg
   exact ⟨e,i,hd,h1,by omega⟩
  ·omega
 ·omega
theorem tP {hp:Nat->Option aQ} {id:Nat} {r:Row} (h:ny hp id=some r): ∃root,hp id=some root/\root.row? =some r:=by
 unfold ny at h
 split at h
 ·rename_i e v r' hq;cases h;exact ⟨_,hq,rfl⟩
 ·rename_i e v r' i f hq;cases h;exact ⟨_,hq,rfl⟩
 ·cases h
theorem oq (m:kU C S.hp S.nx w ρ Fs) {id:Nat} {root:aQ} {r:Row} (h:S.hp id=some root) (hr:root.row? =some r) (hl:0<r.len): ∃b cap,ρ id=some (b,cap)/\r.len<=cap:=by
 have:=m.roots id root h
 cases root with
 |row e v r'=>
  cases hr
  rcases this with ⟨_,k,_⟩| ⟨b,cap,arr,ty,F',k1,k2,k3,_⟩
  ·omega
  ·exact ⟨b,cap,k1,k3⟩
 |hole e v r' i f=>
  cases hr
  rcases this.2.2 with ⟨_,k,_⟩| ⟨b,cap,arr,ty,F',k1,k2,k3,_⟩
  ·omega
  ·exact ⟨b,cap,k1,k3⟩
 |box t c=>cases hr
 |gW=>cases hr
theorem I_ {hp:Nat->Option aQ} {id ver i f n:Nat} {rl rc:List Nat} (h:lenOf hp (.inner id ver i f)=some (n,rl,rc)): ∃root e r,hp id=some root/\root= .row e ver r/\n=(gj r i f).length:=by
 simp only[lenOf] at h
 cases hq:hp id with
 |none=>rw[hq] at h;cases h
 |some root=>
  rw[hq] at h
  cases root with
  |hole e v r i' f'=>cases h
  |box t c=>cases h
  |gW=>cases h
  |row e v r=>
   cases r with
   |ints k l=>cases h
   |eQ l=>cases h
   |strs l=>cases h
   |rows o l=>
    obtain ⟨h1,h2⟩:=aH h
    have:=aE h1
    subst this
    cases h2
    exact ⟨_,e,_,rfl,rfl,rfl⟩
   |ek sg o l=>
    obtain ⟨h1,h2⟩:=aH h
    have:=aE h1
    subst this
    cases h2
    exact ⟨_,e,_,rfl,rfl,rfl⟩
theorem Ov {r:Row} {i f:Nat} (hd:r.oh f=true) (hi:i<r.len): ∃o,r.cells[i*r.size+f]? =some (.sl o (gj r i f)):=by
 cases r with
 |ints k l=>cases hd
 |eQ l=>cases hd
 |strs l=>cases hd
 |rows o l=>
  simp[Row.oh] at hd
  subst hd
  simp[Row.len] at hi
  exact ⟨o,by simp[Row.cells,Row.size,gj,hi]⟩
 |ek sg o l=>
  have hf:=J2 hd
  simp only[Row.size] at hf ⊢
  simp only[Row.len] at hi
  rw[u2 sg o l i f hf]
  have e1:l[i]? =some l[i]:=aw hi
  have e2:sg[f]? =some true:=by
   simp only[Row.oh] at hd
   cases e:sg[f]? with
   |none=>rw[e] at hd;cases hd
   |some b=>rw[e] at hd;simp at hd;rw[hd]
  rw[e1,e2]
  exact ⟨o,by simp[gj,hi]⟩
theorem FO (m:kU C S.hp S.nx w ρ Fs) {id e ver:Nat} {r:Row} {j:Nat} {c:Cell} (h:S.hp id=some (.row e ver r)) (hc:r.cells[j]? =some c): ∃v F1 b cap,ρ id=some (b,cap)/\w.cell? ⟨b,j,none⟩=some v/\ik w (C.ZL w (aR S.nx Fs)) c v F1/\ ∀b,F1 b<=Fs id b:=by
 rcases m.roots id _ h with ⟨_,k,_⟩| ⟨b,cap,arr,ty,F',k1,k2,k3,k4,k5,k6⟩
 ·have hl:=r.gm
  have:=(List.getElem?_eq_some_iff.1 hc).1
  rw[hl,k] at this
  simp at this
 ·obtain ⟨v,F1,F2,g1,g2,g3,_⟩:=k5.get hc
  refine ⟨v,F1,b,cap,k1,?_,g2,fun x=>by rw[k6,g3];simp;omega⟩
  have:=cY k2 j
  simp only[Cx.env] at this
  rw[this]
  simpa using g1
theorem s_ (T:qc P tt) {t:Nat} {r:Row} (h:QS tt t r=true): ∃e i,P.underlying t=some (.slice e)/\P.info? e=some i/\i.size=r.size:=by
 obtain ⟨h1,h2⟩:=ba h
 exact BP T (aE h1) (by simpa[Nat.blt_eq] using h2)
theorem Ow (T:qc P tt) {t n:Nat} (h:(Gd tt t==n)=true) (hn:0<n): ∃e i,P.underlying t=some (.slice e)/\P.info? e=some i/\i.size=n:=BP T (aE h) hn
theorem vg (m:kU C S.hp S.nx w ρ Fs) {id ver i f e:Nat} {r:Row} {v:Value} (h:S.hp id=some (.row e ver r)) (hd:r.oh f=true) (hi:i<r.len) (hc:cellAt (C.env w ρ S.hp S.nx Fs).w ((C.env w ρ S.hp S.nx Fs).ρ id) (i*r.size+f)=some v): ∃F1 o,ik w (C.ZL w (aR S.nx Fs)) (.sl o (gj r i f)) v F1/\ ∀b,F1 b<=Fs id b:=by
 obtain ⟨o,ho⟩:=Ov hd hi
 obtain ⟨v',F1,b,cap,h1,h2,h3,h4⟩:=FO m h ho
 simp only[Cx.env,h1,cellAt] at hc
 rw[h2] at hc
 cases hc
 exact ⟨F1,o,h3,h4⟩
theorem Gl {w:World} {Z:Zs} {o:Bool} {l:LI} {v:Value} {F:FP} (h:ik w Z (.sl o l) v F): ∃A cap,v= .slice A l.length cap/\(0<l.length-> ∃ad,A=some ad/\Ng w ad l):=by
 cases o with
 |false=>
  obtain ⟨_,A,cap,hv,_,hl⟩:=h
  refine ⟨A,cap,hv,fun hn=> ?_⟩
  obtain ⟨ad,e,_,hi⟩:=hl (by intro hh;subst hh;simp at hn)
  exact ⟨ad,e,hi⟩
 |true=>
  rcases h with ⟨h1,h2,_⟩| ⟨b,cap,arr,ty,hv,hb,h1,h2,h3,_⟩
  ·subst h2;exact ⟨none,0,h1,fun hn=>by simp at hn⟩
  ·refine ⟨_,cap,hv,fun _=>⟨_,rfl,fun j n hj=> ?_⟩⟩
   rw[fS,Nat.zero_add,cY hb]
   exact h3 j n hj
theorem BQ (T:qc P tt) (h:cn C S a w ρ Fs) {o:Oper} {t:Nat} {x ix:Operand} (ho:o.op= .indexAddr t x ix) {E:kG} (he:lX (R:=kG) tt S.hp n t (St.rd C.N S.sl x) (St.rd C.N S.sl ix) some=some E): ∃u,Out P C S o E a w w ρ Fs u:=by
 unfold lX at he
 obtain ⟨k,n,LM,he⟩:=pb he
 have hiv:a.eval ix= .int k n:=kE h LM
 have fin: ∀u,(Instr.indexAt t (a.eval x) (a.eval ix)).run P w= .ok u w->(execOp a.eval o).run P w= .ok (.value u) w:=fun u hu=>by
  simp only[execOp,ho];exact sY hu
 split at he
 ·rename_i id hx
  have Mo:=kE h hx
  split at he
  ·rename_i r hr
   obtain ⟨root,aJ,qd⟩:=tP hr
   obtain ⟨hs,he⟩:=aH he
   obtain ⟨hc,he⟩:=ij he
   obtain ⟨h0,h1⟩:=ba hc
   have h0:=ao h0
   have h1:=ao h1
   cases he
   obtain ⟨iS,yF⟩:=Mo
   obtain ⟨r',e1,hv⟩:=yF root aJ
   rw[qd] at e1;cases e1
   obtain ⟨b,cap,hρ,D7⟩:=oq h.mem aJ qd (by omega)
   simp only[Cx.env] at hv
   rw[hρ] at hv
   obtain ⟨e,i,g1,g2,g3⟩:=s_ T hs
   refine ⟨_,Out.pure h rfl (fin _ (by rw[hv,hiv];exact ql g1 g2 _ _ _ _ _ h0 h1)) ⟨iS,fun cD ru=> ?_⟩⟩
   simp only[Cx.env] at ru ⊢
   rw[aJ] at ru;cases ru
   exact ⟨r,qd,by omega,b,cap,hρ,by rw[fS,g3];simp⟩
  ·cases he
 ·rename_i id lo hi hx
  have Mo:=kE h hx
  split at he
  ·rename_i r hr
   obtain ⟨root,aJ,qd⟩:=tP hr
   obtain ⟨hs,he⟩:=aH he
   obtain ⟨hc,he⟩:=ij he
   obtain ⟨h0,h1⟩:=ba hc
   have h0:=ao h0
   have h1:=ao h1
   cases he
   obtain ⟨iS,yF⟩:=Mo
   obtain ⟨r',e1,g4,g5,hv⟩:=yF root aJ
   rw[qd] at e1;cases e1
   obtain ⟨b,cap,hρ,D7⟩:=oq h.mem aJ qd (by omega)
   simp only[Cx.env] at hv
   rw[hρ] at hv
   simp only[oN] at hv
   rw[aD (by omega)] at hv
   obtain ⟨e,i,g1,g2,g3⟩:=s_ T hs
   refine ⟨_,Out.pure h rfl (fin _ (by rw[hv,hiv];exact ql g1 g2 _ _ _ _ _ h0 h1)) ⟨iS,fun cD ru=> ?_⟩⟩
   simp only[Cx.env] at ru ⊢
   rw[aJ] at ru;cases ru
   exact ⟨r,qd,by omega,b,cap,hρ,by rw[fS,g3];simp[Nat.add_mul]⟩
  ·cases he
 ·rename_i p r hx
  obtain ⟨A,cap,hv,GO,hl⟩:=kE h hx
  obtain ⟨hs,he⟩:=aH he
  obtain ⟨hc,he⟩:=ij he
  obtain ⟨h0,h1⟩:=ba hc
  have h0:=ao h0
  have h1:=ao h1
  cases he
  obtain ⟨ad,rfl,Y0⟩:=hl (by omega)
  obtain ⟨e,i,g1,g2,g3⟩:=s_ T hs
  refine ⟨_,Out.pure h rfl (fin _ (by rw[hv,hiv];exact ql g1 g2 _ _ _ _ _ h0 h1)) ⟨by omega,ad,by rw[g3];simp,Y0⟩⟩
 ·rename_i id ver e f hx
  have Mo:=kE h hx
  split at he
  ·rename_i n' rl rc hr
   obtain ⟨hs,he⟩:=aH he
   obtain ⟨hc,he⟩:=ij he
   obtain ⟨h0,h1⟩:=ba hc
   have h0:=ao h0
   have h1:=ao h1
   cases he
   obtain ⟨root,e0,r,aJ,Yu,hn'⟩:=I_ hr
   obtain ⟨iS,yF⟩:=Mo
   subst Yu
   obtain ⟨_,J3,L8⟩:=yF _ aJ
   obtain ⟨k1,k2,k4⟩:=L8 e0 r rfl
   obtain ⟨F1,ow,lV,_⟩:=vg h.mem aJ k1 k2 k4
   obtain ⟨A,cap,hv,hA⟩:=Gl lV
   obtain ⟨A,rfl,WG⟩:=hA (by omega)
   obtain ⟨e',i,g1,g2,g3⟩:=Ow T hs (by omega)
   refine ⟨_,Out.pure h rfl (fin _ (by rw[hv,hiv];exact ql g1 g2 _ _ _ _ _ h0 (by omega))) ⟨iS,fun cD ru=> ?_⟩⟩
   simp only[Cx.env] at ru ⊢
   rw[aJ] at ru;cases ru
   refine ⟨trivial,J3,fun e1 r1 Y1=> ?_⟩
   cases Y1
   exact ⟨k1,k2,by omega,A,_,cap,by rw[<- hv];exact k4,by rw[g3];simp⟩
  ·cases he
 ·rename_i id m hx
  have Mo:=kE h hx
  split at he
  ·rename_i m' e' q1 q2 r hq hr
   obtain ⟨root,aJ,qd⟩:=tP hr
   obtain ⟨hs,he⟩:=aH he
   obtain ⟨hc,he⟩:=ij he
   obtain ⟨h0,h1⟩:=ba hc
   have h0:=ao h0
   have h1:=ao h1
   cases he
   obtain ⟨iS,yF⟩:=Mo
   obtain ⟨r',e1,hlen,b,cap,hρ,hv⟩:=yF root aJ
   rw[qd] at e1;cases e1
   simp only[ay,cG] at hs
   obtain ⟨⟨UE,M8⟩,hs3⟩:=hs
   have hs3:0<r.size:=by simpa[Nat.blt_eq] using hs3
   subst UE
   have hd:=(T t _ hq).desc
   have oX:cJ tt e' ≠0:=by rw[M8];omega
   unfold cJ at M8 oX
   split at M8
   ·rename_i te K0
    obtain ⟨i,g2,g3,_⟩:=(T e' te K0).Gg
    refine ⟨_,Out.pure h rfl (fin _ (by rw[hv,hiv];exact Ef hd g2 _ _ _ h0 h1)) ⟨iS,fun cD ru=> ?_⟩⟩
    simp only[Cx.env] at ru ⊢
    rw[aJ] at ru;cases ru
    exact ⟨r,qd,by omega,b,cap,hρ,by rw[fS,g3,M8];simp⟩
   ·rename_i hn;rw[hn] at oX;exact absurd rfl oX
  ·cases he
 ·cases he
theorem KB (T:qc P tt) {t sz bs:Nat} {fs:List (Nat×Nat)} (h:tt t=some ⟨.struct fs,sz,bs⟩) {f off ft:Nat} (hf:fs[f]? =some (off,ft)): ∃(fields:Array Field) (fd:Field) (i:TypeInfo),P.underlying t=some (.struct fields)/\fields[f]? =some fd/\fd.offset=off/\fd.type=ft/\P.info? ft=some i/\i.size≠0:=by
 obtain ⟨fields,h1,h2,h3⟩:=(T t _ h).desc
 have:(fields.toList.map (fun f=>(f.offset,f.type)))[f]? =some (off,ft):=by rw[h2];exact hf
 rw[List.getElem?_map] at this
 cases e:fields.toList[f]? with
 |none=>rw[e] at this;cases this
 |some fd=>
  rw[e] at this
  simp at this
  obtain ⟨g1,g2⟩:=this
  obtain ⟨i,g3,g4⟩:=h3 fd (List.mem_of_getElem? e)
  exact ⟨fields,fd,i,h1,by simpa using e,g1,g2,by rw[<- g2];exact g3,g4⟩
theorem BR (T:qc P tt) (h:cn C S a w ρ Fs) {o:Oper} {t f:Nat} {x:Operand} (ho:o.op= .fieldAddr t x f) {E:kG} (he:lY (R:=kG) tt S.hp n t (St.rd C.N S.sl x) f some=some E): ∃u,Out P C S o E a w w ρ Fs u:=by
 unfold lY at he
 split at he
 ·rename_i fs sz bs hq
  split at he
  ·rename_i off ft hf
   obtain ⟨fields,fd,i,g1,g2,g3,g4,g5,g6⟩:=KB T hq hf
   have fin: ∀ad:Addr,a.eval x= .pointer (some ad)->(execOp a.eval o).run P w= .ok (.value (.pointer (some (ad.add off)))) w:=fun ad hx=>by
    simp only[execOp,ho,hx]
    have:=KA (P:=P) (w:=w) g1 g2 (by rw[g4];exact g5) g6 ad
    rw[g3] at this
    exact sY this
   split at he
   ·rename_i id k hx
    cases he
    obtain ⟨h1,yT,b,cap,h2,hv⟩:=kE h hx
    exact ⟨_,Out.pure h rfl (fin _ hv) ⟨h1,yT,b,cap,h2,by rw[fS]⟩⟩
   ·rename_i id k g hx
    split at he
    ·rename_i r hr
     cases he
     obtain ⟨root,aJ,qd⟩:=tP hr
     obtain ⟨h1,h2⟩:=kE h hx
     obtain ⟨r',e1,hlen,b,cap,hρ,hv⟩:=h2 root aJ
     rw[qd] at e1;cases e1
     refine ⟨_,Out.pure h rfl (fin _ hv) ⟨h1,fun cD ru=> ?_⟩⟩
     simp only[Cx.env] at ru ⊢
     rw[aJ] at ru;cases ru
     exact ⟨r,qd,hlen,b,cap,hρ,by rw[fS,Nat.add_assoc]⟩
    ·cases he
   ·rename_i p r k g hx
    cases he
    obtain ⟨h1,ad,hv,h3⟩:=kE h hx
    exact ⟨_,Out.pure h rfl (fin _ hv) ⟨h1,ad,by rw[add_add,Nat.add_assoc],h3⟩⟩
   ·cases he
  ·cases he
 ·cases he
theorem yG {R:Type} {x:Option AV} {d:Int} {K:Int->Option R} {r:R} (h:Ge x d K=some r):(x=none/\K d=some r)\/ ∃k n,x=some (.one (.l (.i k n)))/\K n=some r:=by
 unfold Ge at h
 split at h
 ·exact .inl ⟨rfl,h⟩
 ·obtain ⟨k,n,e,h⟩:=pb h
  exact .inr ⟨k,n,by rw[e],h⟩
theorem vh (h:cn C S a w ρ Fs) (lo:Option Operand) {d:Nat} {n:Int} (hn:(lo.map (St.rd C.N S.sl)=none/\n=d)\/ ∃k,lo.map (St.rd C.N S.sl)=some (.one (.l (.i k n)))) (h0:0<=n):qR (lo.map a.eval) d n.toNat:=by
 cases lo with
 |none=>
  rcases hn with ⟨_,rfl⟩| ⟨k,e⟩
  ·simp[qR]
  ·cases e
 |some x=>
  rcases hn with ⟨e,_⟩| ⟨k,e⟩
  ·cases e
  ·simp at e
   exact ⟨k,n,kE h e,h0,rfl⟩
theorem Ox {w:World} {Z:Zs} {ad:Addr} {cs:List Cell} (h:tr w Z ad cs) (n:Nat):tr w Z (ad.add n) (cs.drop n):=by
 obtain ⟨h0,vs,h1,h2⟩:=h
 obtain ⟨F1,h3,h4⟩:=h2.drop n
 have e:F1=fz:=by funext b;have:=h4 b;simp at this;exact this
 subst e
 refine ⟨by rw[rR];exact h0,vs.drop n,fun j hj=> ?_,h3⟩
 rw[add_add,List.getElem?_drop]
 exact h1 (n+j) (by simp at hj;omega)
theorem Oy {w:World} {Z:Zs} {ad:Addr} {cs:List Cell} (h:tr w Z ad cs) (n:Nat):tr w Z ad (cs.take n):=by
 obtain ⟨h0,vs,h1,h2⟩:=h
 obtain ⟨F1,h3,h4⟩:=h2.take n
 have e:F1=fz:=by funext b;have:=h4 b;simp at this;exact this
 subst e
 refine ⟨h0,vs.take n,fun j hj=> ?_,h3⟩
 simp at hj
 rw[List.getElem?_take,aS (by omega)]
 exact h1 j (by omega)
theorem Ac {w:World} {Z:Zs} {r:Row} {A:Option Addr} {cap:Nat} (GO:r.len<=cap) (h:r.len≠0-> ∃ad,A=some ad/\tr w Z ad r.cells) (lo hi:Nat) (h1:lo<=hi) (h2:hi<=r.len):iq w Z ((r.take hi).drop lo) (.slice (if cap=lo then A else A.map (·.add (lo*r.size))) (hi-lo) (cap-lo)):=by
 refine ⟨_,_,by rw[sO,take_len,Nat.min_eq_left h2],by rw[sO,take_len,Nat.min_eq_left h2];omega,fun hn=> ?_⟩
 rw[sO,take_len,Nat.min_eq_left h2] at hn
 obtain ⟨ad,rfl,hf⟩:=h (by omega)
 refine ⟨ad.add (lo*r.size),by rw[aD (by omega)];rfl,?_⟩
 rw[Gi,vV,take_size]
 exact Ox (Oy hf _) _
theorem HS (T:qc P tt) (h:cn C S a w ρ Fs) {o:Oper} {t:Nat} {x:Operand} {lo hi:Option Operand} (ho:o.op= .slice t x lo hi none) {E:kG} (he:rP (R:=kG) tt S.hp n t (St.rd C.N S.sl x) (lo.map (St.rd C.N S.sl)) (hi.map (St.rd C.N S.sl)) some=some E): ∃u,Out P C S o E a w w ρ Fs u:=by
 have fin: ∀u,(Instr.sliceAt t (a.eval x) (lo.map a.eval) (hi.map a.eval) none).run P w= .ok u w->(execOp a.eval o).run P w= .ok (.value u) w:=fun u hu=>by
  simp only[execOp,ho];exact sY hu
 unfold rP at he
 split at he
 ·rename_i s hx
  split at he
  ·rename_i sz bs hq
   have hd:=(T t _ hq).desc
   have hv:a.eval x= .string s:=kE h hx
   have core: ∀hh:Int,((hi.map (St.rd C.N S.sl)=none/\hh=s.size)\/ ∃k,hi.map (St.rd C.N S.sl)=some (.one (.l (.i k hh))))->bY (decide (0<=hh)&&decide (hh<=s.size)) (Ge (lo.map (St.rd C.N S.sl)) 0 fun l=>bY (decide (0<=l)&&decide (l<=hh)) (pN n (.l (.s (s.extract l.toNat hh.toNat))) some))=some E-> ∃u,Out P C S o E a w w ρ Fs u:=by
    intro hh IN he
    obtain ⟨hc,he⟩:=ij he
    obtain ⟨c1,c2⟩:=ba hc
    have c1:=ao c1
    have c2:=ao c2
    have Mz: ∀l:Int,((lo.map (St.rd C.N S.sl)=none/\l=(0:Nat))\/ ∃k,lo.map (St.rd C.N S.sl)=some (.one (.l (.i k l))))->bY (decide (0<=l)&&decide (l<=hh)) (pN n (.l (.s (s.extract l.toNat hh.toNat))) some)=some E-> ∃u,Out P C S o E a w w ρ Fs u:=by
     intro l hl he
     obtain ⟨hc,he⟩:=ij he
     obtain ⟨d1,d2⟩:=ba hc
     have d1:=ao d1
     have d2:=ao d2
     cases he
     refine ⟨_,Out.pure h rfl (fin _ (by rw[hv];exact HQ hd s _ _ l.toNat hh.toNat (vh h lo hl d1) (vh h hi IN c1) (by omega) (by omega))) rfl⟩
    rcases yG he with ⟨e,he⟩| ⟨k,l,e,he⟩
    ·exact Mz _ (.inl ⟨e,rfl⟩) he
    ·exact Mz _ (.inr ⟨k,e⟩) he
   rcases yG he with ⟨e,he⟩| ⟨k,l,e,he⟩
   ·exact core _ (.inl ⟨e,rfl⟩) he
   ·exact core _ (.inr ⟨k,e⟩) he
  ·cases he
 ·rename_i id hx
  split at he
  ·rename_i r hr
   obtain ⟨root,aJ,qd⟩:=tP hr
   obtain ⟨hs,he⟩:=aH he
   obtain ⟨e,i,g1,g2,g3⟩:=s_ T hs
   obtain ⟨iS,yF⟩:=kE h hx
   obtain ⟨r',e1,hv⟩:=yF root aJ
   rw[qd] at e1;cases e1
   simp only[Cx.env] at hv
   have Yv: ∃A cap,hdr (ρ id) r.len= .slice A r.len cap/\r.len<=cap/\ ∀lo hi:Nat,lo<=hi->hi<=r.len->Value.slice (if cap=lo then A else A.map (·.add (lo*r.size))) (hi-lo) (cap-lo)=oN (ρ id) r.size lo hi:=by
    cases hρ:ρ id with
    |none=>
     have hl0:r.len=0:=by
      rcases bf r.len with k|k
      ·exact k
      ·obtain ⟨b,cap,k1,_⟩:=oq h.mem aJ qd k
       rw[hρ] at k1;cases k1
     refine ⟨none,0,by simp[hdr,hl0],by omega,fun lo hi q1 q2=> ?_⟩
     have e1:lo=0:=by omega
     have e2:hi=0:=by omega
     subst e1;subst e2
     simp[oN]
    |some q=>
     obtain ⟨b,cap⟩:=q
     have D7:r.len<=cap:=by
      rcases bf r.len with k|k
      ·omega
      ·obtain ⟨b',th,k1,k2⟩:=oq h.mem aJ qd k
       rw[hρ] at k1;cases k1;exact k2
     refine ⟨some ⟨b,0,none⟩,cap,rfl,D7,fun lo hi q1 q2=> ?_⟩
     simp only[oN]
     by_cases e:cap=lo
     ·simp[e]
     ·simp[e,fS]
   obtain ⟨A,cap,hh1,X6,hh3⟩:=Yv
   rw[hh1] at hv
   have core: ∀hq:Int,((hi.map (St.rd C.N S.sl)=none/\hq=r.len)\/ ∃k,hi.map (St.rd C.N S.sl)=some (.one (.l (.i k hq))))->bY (decide (0<=hq)&&decide (hq<=r.len)) (Ge (lo.map (St.rd C.N S.sl)) 0 fun l=>bY (decide (0<=l)&&decide (l<=hq)) (some ⟨.l (.sub id l.toNat hq.toNat),[],n,[id],[]⟩))=some E-> ∃u,Out P C S o E a w w ρ Fs u:=by
    intro hq IN he
    obtain ⟨hc,he⟩:=ij he
    obtain ⟨c1,c2⟩:=ba hc
    have c1:=ao c1
    have c2:=ao c2
    have Mz: ∀l:Int,((lo.map (St.rd C.N S.sl)=none/\l=(0:Nat))\/ ∃k,lo.map (St.rd C.N S.sl)=some (.one (.l (.i k l))))->bY (decide (0<=l)&&decide (l<=hq)) (some (⟨.l (.sub id l.toNat hq.toNat),[],n,[id],[]⟩:kG))=some E-> ∃u,Out P C S o E a w w ρ Fs u:=by
     intro l hl he
     obtain ⟨hc,he⟩:=ij he
     obtain ⟨d1,d2⟩:=ba hc
     have d1:=ao d1
     have d2:=ao d2
     cases he
     refine ⟨_,Out.pure h rfl (fin _ (by rw[hv];exact wm g1 g2 A r.len cap _ _ l.toNat hq.toNat (vh h lo hl d1) (vh h hi IN c1) (by omega) (by omega))) ⟨iS,fun cD ru=> ?_⟩⟩
     simp only[Cx.env] at ru ⊢
     rw[aJ] at ru;cases ru
     exact ⟨r,qd,by omega,by omega,by rw[g3];exact hh3 _ _ (by omega) (by omega)⟩
    rcases yG he with ⟨e,he⟩| ⟨k,l,e,he⟩
    ·exact Mz _ (.inl ⟨e,rfl⟩) he
    ·exact Mz _ (.inr ⟨k,e⟩) he
   split at he
   ·rename_i e1 e2
    cases he
    have l0:qR (lo.map a.eval) 0 0:=by cases lo<;>first|rfl|cases e1
    have l1:qR (hi.map a.eval) r.len r.len:=by cases hi<;>first|rfl|cases e2
    refine ⟨_,Out.pure h rfl (fin _ (by rw[hv];exact wm g1 g2 A r.len cap _ _ 0 r.len l0 l1 (by omega) X6)) ⟨iS,fun cD ru=> ?_⟩⟩
    simp only[Cx.env] at ru ⊢
    rw[aJ] at ru;cases ru
    refine ⟨r,qd,?_⟩
    rw[hh1]
    by_cases e:cap=0
    ·simp[e]
    ·cases A<;>simp[e,add_zero]
   ·rcases yG he with ⟨e,he⟩| ⟨k,l,e,he⟩
    ·exact core _ (.inl ⟨e,rfl⟩) he
    ·exact core _ (.inr ⟨k,e⟩) he
  ·cases he
 ·rename_i p r hx
  obtain ⟨hs,he⟩:=aH he
  obtain ⟨e,i,g1,g2,g3⟩:=s_ T hs
  obtain ⟨A,cap,hv,GO,hl⟩:=kE h hx
  have core: ∀l hq:Int,((lo.map (St.rd C.N S.sl)=none/\l=(0:Nat))\/ ∃k,lo.map (St.rd C.N S.sl)=some (.one (.l (.i k l))))->((hi.map (St.rd C.N S.sl)=none/\hq=r.len)\/ ∃k,hi.map (St.rd C.N S.sl)=some (.one (.l (.i k hq))))->0<=l->l<=hq->hq<=r.len-> ∃u,(execOp a.eval o).run P w= .ok (.value u) w/\iq (C.env w ρ S.hp S.nx Fs).w (if p then (C.env w ρ S.hp S.nx Fs).Zf else (C.env w ρ S.hp S.nx Fs).ZL) ((r.take hq.toNat).drop l.toNat) u:=by
   intro l hq k1 k2 k3 k4 k5
   refine ⟨_,fin _ (by rw[hv];exact wm g1 g2 A r.len cap _ _ l.toNat hq.toNat (vh h lo k1 k3) (vh h hi k2 (by omega)) (by omega) (by omega)),?_⟩
   rw[g3]
   exact Ac GO hl _ _ (by omega) (by omega)
  have t1:r.take r.len=r:=by cases r<;>simp[Row.take,Row.len]
  have t2: ∀r:Row,r.drop 0=r:=fun r=>by cases r<;>simp[Row.drop]
  split at he
  ·rename_i e1 e2
   cases he
   obtain ⟨u,k1,k2⟩:=core 0 r.len (.inl ⟨e1,rfl⟩) (.inl ⟨e2,rfl⟩) (by omega) (by omega) (by omega)
   refine ⟨u,Out.pure h rfl k1 ?_⟩
   have e3:(r.take ((r.len:Int)).toNat).drop (0:Int).toNat=r:=by simp[t1,t2]
   rw[e3] at k2
   exact k2
  ·rename_i hq e1 e2
   obtain ⟨k,n,e3,he⟩:=pb he
   obtain ⟨hc,he⟩:=ij he
   obtain ⟨c1,c2⟩:=ba hc
   have c1:=ao c1
   have c2:=ao c2
   cases he
   obtain ⟨u,k1,k2⟩:=core 0 n (.inl ⟨e1,rfl⟩) (.inr ⟨k,by rw[e2,e3]⟩) (by omega) (by omega) (by omega)
   refine ⟨u,Out.pure h rfl k1 ?_⟩
   have e3:(r.take n.toNat).drop (0:Int).toNat=r.take n.toNat:=by simp[t2]
   rw[e3] at k2
   exact k2
  ·rename_i lq e1 e2
   obtain ⟨k,n,e3,he⟩:=pb he
   obtain ⟨hc,he⟩:=ij he
   obtain ⟨c1,c2⟩:=ba hc
   have c1:=ao c1
   have c2:=ao c2
   cases he
   obtain ⟨u,k1,k2⟩:=core n r.len (.inr ⟨k,by rw[e1,e3]⟩) (.inl ⟨e2,rfl⟩) (by omega) (by omega) (by omega)
   refine ⟨u,Out.pure h rfl k1 ?_⟩
   have e3:(r.take ((r.len:Int)).toNat)=r:=by simp[t1]
   rw[e3] at k2
   exact k2
  ·rename_i lq hq e1 e2
   obtain ⟨k,n,e3,he⟩:=pb he
   obtain ⟨hc,he⟩:=ij he
   obtain ⟨c1,c2⟩:=ba hc
   have c1:=ao c1
   have c2:=ao c2
   obtain ⟨k',m,e4,he⟩:=pb he
   obtain ⟨hc,he⟩:=ij he
   obtain ⟨d1,d2⟩:=ba hc
   have d1:=ao d1
   have d2:=ao d2
   cases he
   obtain ⟨u,k1,k2⟩:=core m n (.inr ⟨k',by rw[e1,e4]⟩) (.inr ⟨k,by rw[e2,e3]⟩) (by omega) (by omega) (by omega)
   exact ⟨u,Out.pure h rfl k1 k2⟩
 ·cases he
end
section
variable {P:Program} {tt:TT} {C:Cx} {S:St} {a:Act} {w:World} {ρ:Place} {Fs:Nat->FP} {n:Nat}
theorem qm (T:qc P tt) {t:Nat} (h:fA tt t=true): ∃d,P.underlying t=some d/\VQ d=false:=by
 unfold fA at h
 split at h
 all_goals first
  | (rename_i hq;have hd:=(T t _ hq).desc;first|exact ⟨_,hd,rfl⟩| (obtain ⟨ms,hd⟩:=hd;exact ⟨_,hd,rfl⟩))
  |cases h
theorem qf (T:qc P tt) {t:Nat} (h:fT tt t=true): ∃(fields:Array Field) (i:TypeInfo),P.underlying t=some (.struct fields)/\P.info? t=some i/\i.size=cJ tt t:=by
 unfold fT at h
 split at h
 ·rename_i fs sz bs hq
  obtain ⟨fields,hd,_⟩:=(T t _ hq).desc
  obtain ⟨i,h1,h2,_⟩:=(T t _ hq).Gg
  exact ⟨fields,i,hd,h1,by rw[h2];simp[cJ,hq]⟩
 ·cases h
theorem cw.get {E:Env}: ∀ {xs:List LV} {vs:List Value},cw E xs vs-> ∀ {j:Nat} {x:LV},xs[j]? =some x-> ∃v,vs[j]? =some v/\gJ E x v
 |x::xs,v::vs,h,0,y,hy=>by simp at hy;subst hy;exact ⟨v,rfl,h.1⟩
 |x::xs,v::vs,h,j+1,y,hy=>by simpa using cw.get h.2 (j:=j) (by simpa using hy)
theorem cw.length {E:Env}: ∀ {xs:List LV} {vs:List Value},cw E xs vs->xs.length=vs.length
 | [],[],_=>rfl
 |x::xs,v::vs,h=>by simp[cw.length h.2]
theorem cw.take {E:Env}: ∀ {xs:List LV} {vs:List Value} (n:Nat),cw E xs vs->cw E (xs.take n) (vs.take n)
 | [],[],n,h=>by simp[cw]
 |x::xs,v::vs,0,h=>by simp[cw]
 |x::xs,v::vs,n+1,h=>⟨h.1,cw.take n h.2⟩
theorem cw.drop {E:Env}: ∀ {xs:List LV} {vs:List Value} (n:Nat),cw E xs vs->cw E (xs.drop n) (vs.drop n)
 | [],[],n,h=>by simp[cw]
 |x::xs,v::vs,0,h=>h
 |x::xs,v::vs,n+1,h=>cw.drop n h.2
theorem BS {E:Env} {id ver e i f:Nat} {r:Row} (hid:id<E.nx) (aJ:E.hp id=some (.row e ver r)) {b cap:Nat} (hρ:E.ρ id=some (b,cap)) (hi:i<r.len) (hf:f<r.size) {v:Value} {F:FP} {c:Cell} (hc:r.cells[i*r.size+f]? =some c) (hv:E.w.cell? ⟨b,i*r.size+f,none⟩=some v) (hr:ik E.w E.ZL c v F) (hs:r.ur=false\/True):jC E (Ku id ver i r f false) v:=by
 have inner:r.oh f=true->gJ E (.inner id ver i f) v:=fun Bb=>⟨hid,fun root ru=>by
  rw[aJ] at ru;cases ru
  refine ⟨trivial,ai _,fun e' r' he=> ?_⟩
  cases he
  exact ⟨Bb,hi,by rw[hρ];exact hv⟩⟩
 cases r with
 |ints k l=>
  simp[Row.size] at hf;subst hf
  simp[Row.len] at hi
  simp[Row.cells,Row.size,hi] at hc
  subst hc
  obtain ⟨h1,_⟩:=hr
  show v=_
  rw[h1];simp[hi]
 |eQ l=>
  simp[Row.size] at hf;subst hf
  simp[Row.len] at hi
  simp[Row.cells,Row.size,hi] at hc
  subst hc
  obtain ⟨h1,_⟩:=hr
  show v=_
  rw[h1];simp[hi]
 |strs l=>
  simp[Row.size] at hf;subst hf
  simp[Row.len] at hi
  simp[Row.cells,Row.size,hi] at hc
  subst hc
  obtain ⟨h1,_⟩:=hr
  show v=_
  rw[h1];simp[hi]
 |rows o l=>
  simp[Row.size] at hf;subst hf
  exact inner rfl
 |ek sg o l=>
  have hf':=hf
  simp only[Row.size] at hf hc
  simp only[Row.len] at hi
  have e2:sg[f]? =some sg[f]:=aw hf
  cases hb:sg[f] with
  |true=>
   rw[hb] at e2
   show jC E (match sg[f]? with|some true=>_|some false=>_|none=>_) v
   rw[e2]
   exact inner (by simp[Row.oh,e2])
  |false=>
   rw[hb] at e2
   show jC E (match sg[f]? with|some true=>_|some false=>_|none=>_) v
   rw[e2]
   rw[u2 sg o l i f hf,e2,aw hi] at hc
   simp at hc
   subst hc
   obtain ⟨h1,_⟩:=hr
   show v=_
   rw[h1];simp[hi]
theorem BT {E:Env} {p:Bool} {i f:Nat} {r:Row} (hi:i<r.len) (hf:f<r.size) {v:Value} {c:Cell} (hc:r.cells[i*r.size+f]? =some c) (hr:ik E.w (if p then E.Zf else E.ZL) c v fz):jC E (Kv p i r f false) v:=by
 have inner: ∀o l,c= .sl o l->gJ E (.val p (.ints .i64 l)) v:=fun o l hcc=>by
  subst hcc
  have ru:ik E.w (if p then E.Zf else E.ZL) (.sl false l) v fz:=by
   cases o with
   |false=>exact hr
   |true=>exact hr.jw (fun b hb=>hb) (fun b hb=>by simp at hb)
  obtain ⟨_,A,cap,h1,h2,h3⟩:=ru
  refine ⟨A,cap,h1,h2,fun hn=> ?_⟩
  obtain ⟨ad,e1,e2,e3⟩:=h3 (by intro h;subst h;exact hn rfl)
  refine ⟨ad,e1,e2,l.map (fun n=>Value.int .i64 n),fun j hj=> ?_,?_⟩
  ·simp[Row.cells] at hj
   rw[e3 j l[j] (aw hj)]
   simp[hj]
  ·simp only[Row.cells]
   clear h1 h2 h3 e3 hn hr hc
   induction l with
   |nil=>rfl
   |cons n l ih=>exact ⟨fz,fz,⟨rfl,rfl⟩,ih,(dw _).symm⟩
 cases r with
 |ints k l=>
  simp[Row.size] at hf;subst hf
  simp[Row.len] at hi
  simp[Row.cells,Row.size,hi] at hc
  subst hc
  obtain ⟨h1,_⟩:=hr
  show v=_
  rw[h1];simp[hi]
 |eQ l=>
  simp[Row.size] at hf;subst hf
  simp[Row.len] at hi
  simp[Row.cells,Row.size,hi] at hc
  subst hc
  obtain ⟨h1,_⟩:=hr
  show v=_
  rw[h1];simp[hi]
 |strs l=>
  simp[Row.size] at hf;subst hf
  simp[Row.len] at hi
  simp[Row.cells,Row.size,hi] at hc
  subst hc
  obtain ⟨h1,_⟩:=hr
  show v=_
  rw[h1];simp[hi]
 |rows o l=>
  simp[Row.size] at hf;subst hf
  simp[Row.len] at hi
  simp[Row.cells,Row.size,hi] at hc
  have:=inner o l[i] hc.symm
  show gJ E (.val p (.ints .i64 (l.getD i []))) v
  simpa[hi] using this
 |ek sg o l=>
  simp only[Row.size] at hf hc
  simp only[Row.len] at hi
  have e2:sg[f]? =some sg[f]:=aw hf
  rw[u2 sg o l i f hf,e2,aw hi] at hc
  cases hb:sg[f] with
  |true=>
   rw[hb] at e2
   show jC E (match sg[f]? with|some true=>_|some false=>_|none=>_) v
   rw[e2]
   simp[hb] at hc
   have:=inner o (gl l[i] f) hc.symm
   show gJ E (.val p (.ints .i64 (gl (l.getD i []) f))) v
   simpa[hi] using this
  |false=>
   rw[hb] at e2
   show jC E (match sg[f]? with|some true=>_|some false=>_|none=>_) v
   rw[e2]
   simp[hb] at hc
   subst hc
   obtain ⟨h1,_⟩:=hr
   show v=_
   rw[h1];simp[hi]
theorem cw.of {E:Env}: ∀ {xs:List LV} {vs:List Value},xs.length=vs.length->(∀(j:Nat) (x:LV) (v:Value),xs[j]? =some x->vs[j]? =some v->gJ E x v)->cw E xs vs
 | [],[],_,_=>trivial
 | [],_::_,h,_=>by simp at h
 |_::_,[],h,_=>by simp at h
 |x::xs,v::vs,h,hh=>⟨hh 0 x v rfl rfl,cw.of (by simpa using h) (fun j y u h1 h2=>hh (j+1) y u (by simpa using h1) (by simpa using h2))⟩
theorem KC {n i len:Nat} (hi:i<len):i*n+n<=len*n:=by
 have:(i+1)*n<=len*n:=Nat.mul_le_mul_right _ hi
 rw[Nat.succ_mul] at this
 exact this
theorem vi (sg:List Bool) (o:Bool) (l:List (List iQ)):(Row.ek sg o l).cells.length=l.length*sg.length:=Row.gm _
theorem VS {E:Env} {id ver e i:Nat} {sg:List Bool} {o:Bool} {l:List (List iQ)} (hid:id<E.nx) (aJ:E.hp id=some (.row e ver (.ek sg o l))) {b cap:Nat} (hρ:E.ρ id=some (b,cap)) (hi:i<l.length) {arr:List Value} {F:FP} (sf:aG E.w E.ZL (Row.ek sg o l).cells arr F) (hb: ∀j v,arr[j]? =some v->E.w.cell? ⟨b,j,none⟩=some v):
 ∃vs:List Value,vs.length=sg.length/\(∀j v,vs[j]? =some v->E.w.cell? ⟨b,i*sg.length+j,none⟩=some v)/\cw E (sg.zipIdx.map fun (b,f)=>bif b then .inner id ver i f else .i .i64 (gi (l.getD i []) f)) vs:=by
 have hlen:=sf.length
 rw[vi] at hlen
 have hle:=KC (n:=sg.length) hi
 have Vf:((arr.drop (i*sg.length)).take sg.length).length=sg.length:=by simp;omega
 have rF: ∀j v,((arr.drop (i*sg.length)).take sg.length)[j]? =some v->j<sg.length/\arr[i*sg.length+j]? =some v:=fun j v hj=>by
  rw[List.getElem?_take] at hj
  split at hj
  ·rw[List.getElem?_drop] at hj;exact ⟨‹_›,hj⟩
  ·cases hj
 refine ⟨(arr.drop (i*sg.length)).take sg.length,Vf,fun j v hj=>hb _ _ (rF j v hj).2,cw.of (by simp;omega) fun j x v hx hv=> ?_⟩
 obtain ⟨hj,hv⟩:=rF j v hv
 have Jk:i*sg.length+j<(Row.ek sg o l).cells.length:=by rw[vi];omega
 obtain ⟨v',F1,F2,k1,k2,k3,_⟩:=sf.get (aw Jk)
 rw[hv] at k1;cases k1
 have:=BS (r:= .ek sg o l) (f:=j) (ver:=ver) hid aJ hρ hi hj (aw Jk) (hb _ _ hv) k2 (.inr trivial)
 have e2:sg[j]? =some sg[j]:=aw hj
 simp only[List.getElem?_map,List.getElem?_zipIdx,e2,Option.map_some,af,Nat.zero_add] at hx
 subst hx
 simp only[Ku,an,e2] at this
 cases hb:sg[j]<;>rw[hb] at this<;>exact this
theorem VT {E:Env} {p:Bool} {i:Nat} {sg:List Bool} {o:Bool} {l:List (List iQ)} (hi:i<l.length) {arr:List Value} (sf:aG E.w (if p then E.Zf else E.ZL) (Row.ek sg o l).cells arr fz):
 cw E (sg.zipIdx.map fun (b,f)=>bif b then .val p (.ints .i64 (gl (l.getD i []) f)) else .i .i64 (gi (l.getD i []) f)) ((arr.drop (i*sg.length)).take sg.length):=by
 have hlen:=sf.length
 rw[vi] at hlen
 have hle:=KC (n:=sg.length) hi
 have rF: ∀j v,((arr.drop (i*sg.length)).take sg.length)[j]? =some v->j<sg.length/\arr[i*sg.length+j]? =some v:=fun j v hj=>by
  rw[List.getElem?_take] at hj
  split at hj
  ·rw[List.getElem?_drop] at hj;exact ⟨‹_›,hj⟩
  ·cases hj
 refine cw.of (by simp;omega) fun j x v hx hv=> ?_
 obtain ⟨hj,hv⟩:=rF j v hv
 have Jk:i*sg.length+j<(Row.ek sg o l).cells.length:=by rw[vi];omega
 obtain ⟨v',F1,F2,k1,k2,k3,_⟩:=sf.get (aw Jk)
 have RI:F1=fz:=by
  funext q
  have:=congrFun k3 q
  simp at this ⊢
  omega
 subst RI
 rw[hv] at k1;cases k1
 have:=BT (E:=E) (p:=p) (r:= .ek sg o l) (f:=j) hi hj (aw Jk) k2
 have e2:sg[j]? =some sg[j]:=aw hj
 simp only[List.getElem?_map,List.getElem?_zipIdx,e2,Option.map_some,af,Nat.zero_add] at hx
 subst hx
 simp only[Kv,an,e2] at this
 cases hb:sg[j]<;>rw[hb] at this<;>exact this
theorem BU {r:Row} (h:r.ur=true): ∃sg o l,r= .ek sg o l:=by
 cases r<;>first|exact ⟨_,_,_,rfl⟩|cases h
theorem KD (T:qc P tt) (h:cn C S a w ρ Fs) {o:Oper} {t:Nat} {x:Operand} (ho:o.op= .load t x) {E:kG} (he:wg (R:=kG) tt S.hp n t (St.rd C.N S.sl x) some=some E): ∃u,Out P C S o E a w w ρ Fs u:=by
 have fin: ∀u,(Instr.loadAt t (a.eval x)).run P w= .ok u w->(execOp a.eval o).run P w= .ok (.value u) w:=fun u hu=>by
  simp only[execOp,ho];exact sY hu
 unfold wg at he
 split at he
 ·rename_i id k hx
  obtain ⟨iS,yT,b,cap,hρ,hv⟩:=kE h hx
  split at he
  ·rename_i bt cells aJ
   obtain ⟨b',th,vs,ty,g1,g2,g3,g4⟩:=h.mem.roots id _ aJ
   simp only[Cx.env] at hρ g1 g2
   rw[hρ] at g1;cases g1
   cases lN:fT tt t with
   |true=>
    rw[lN] at he
    obtain ⟨hle,he⟩:=aH he
    cases he
    have hle:=bD hle
    obtain ⟨fields,i,d1,d2,d3⟩:=qf T lN
    have hlen:=g3.length
    refine ⟨.agg ((vs.toList.drop k).take (cJ tt t)).toArray,Out.pure h rfl (fin _ ?_) ⟨_,rfl,(g3.drop k).take _⟩⟩
    rw[hv]
    refine ph d1 d2 (by rw[d3];simp at hlen ⊢;omega) fun j v hj=> ?_
    rw[fS,cY g2]
    rw[List.getElem?_take] at hj
    split at hj
    ·rw[List.getElem?_drop] at hj;simpa using hj
    ·cases hj
   |false=>
    rw[lN] at he
    obtain ⟨hsc,he⟩:=aH he
    split at he
    ·rename_i y hy
     cases he
     obtain ⟨v,k1,k2⟩:=g3.get hy
     obtain ⟨d,d1,d2⟩:=qm T hsc
     refine ⟨v,Out.pure h rfl (fin _ ?_) k2⟩
     rw[hv]
     exact pi d1 d2 (by rw[cY g2];simpa using k1)
    ·cases he
  ·cases he
 ·rename_i id i f hx
  obtain ⟨iS,yF⟩:=kE h hx
  split at he
  ·rename_i e ver r aJ
   obtain ⟨r',e1,hi,b,cap,hρ,hv⟩:=yF _ aJ
   cases e1
   obtain ⟨hc,he⟩:=aH he
   cases he
   cases lN:fT tt t with
   |true=>
    rw[lN] at hc
    obtain ⟨Xy,Ry⟩:=ba hc
    obtain ⟨P5,Yw⟩:=ba Xy
    have P5:=aE P5
    have Yw:=aE Yw
    subst Yw
    obtain ⟨sg,o',l,rfl⟩:=BU Ry
    obtain ⟨fields,ti,d1,d2,d3⟩:=qf T lN
    have qd:=h.mem.roots id _ aJ
    rcases qd with ⟨_,h0,_⟩| ⟨b',th,arr,ty,F',g1,g2,g3,g4,g5,g6⟩
    ·simp only[Row.len] at h0 hi;omega
    ·simp only[Cx.env] at hρ g1 g2
     rw[hρ] at g1;cases g1
     have PZ: ∀j v,arr.toList[j]? =some v->w.cell? ⟨b,j,none⟩=some v:=fun j v hj=>by rw[cY g2];simpa using hj
     obtain ⟨vs,k1,k2,k3⟩:=VS (E:=C.env w ρ S.hp S.nx Fs) (ver:=ver) iS aJ hρ hi g5 PZ
     refine ⟨.agg vs.toArray,Out.pure h rfl (fin _ ?_) ⟨vs,rfl,k3⟩⟩
     rw[hv]
     refine ph d1 d2 (by rw[d3,k1];exact P5.symm) fun j v hj=> ?_
     rw[fS]
     exact k2 j v hj
   |false=>
    rw[lN] at hc
    obtain ⟨hsc,hf⟩:=ba hc
    have hf:f<r.size:=by simpa[Nat.blt_eq] using hf
    have Jk:i*r.size+f<r.cells.length:=by
     rw[Row.gm]
     have:(i+1)*r.size<=r.len*r.size:=Nat.mul_le_mul_right _ hi
     rw[Nat.succ_mul] at this
     omega
    obtain ⟨v,F1,b',th,k1,k2,k3,k4⟩:=FO h.mem aJ (aw Jk)
    simp only[Cx.env] at hρ
    rw[hρ] at k1;cases k1
    obtain ⟨d,d1,d2⟩:=qm T hsc
    refine ⟨v,Out.pure h rfl (fin _ (by rw[hv];exact pi d1 d2 k2)) ?_⟩
    exact BS (E:=C.env w ρ S.hp S.nx Fs) iS aJ hρ hi hf (aw Jk) k2 k3 (.inr trivial)
  ·cases he
 ·rename_i p r i f hx
  obtain ⟨hi,ad,hv,Y0⟩:=kE h hx
  obtain ⟨hc,he⟩:=aH he
  cases he
  obtain ⟨hz,vs,VL,sf⟩:=Y0
  cases lN:fT tt t with
  |true=>
   rw[lN] at hc
   obtain ⟨Xy,Ry⟩:=ba hc
   obtain ⟨P5,Yw⟩:=ba Xy
   have P5:=aE P5
   have Yw:=aE Yw
   subst Yw
   obtain ⟨sg,o',l,rfl⟩:=BU Ry
   obtain ⟨fields,ti,d1,d2,d3⟩:=qf T lN
   have hlen:=sf.length
   have hle:=KC (n:=sg.length) hi
   refine ⟨.agg ((vs.drop (i*sg.length)).take sg.length).toArray,Out.pure h rfl (fin _ ?_) ⟨_,rfl,VT (E:=C.env w ρ S.hp S.nx Fs) hi sf⟩⟩
   rw[vi] at hlen
   simp only[Row.len] at hi hle
   rw[hv]
   refine ph d1 d2 (by rw[d3];simp[Row.size] at P5 ⊢;omega) fun j v hj=> ?_
   rw[List.getElem?_take] at hj
   split at hj
   ·rw[List.getElem?_drop] at hj
    rw[add_add,<- hj]
    exact VL _ (by rw[vi];simp only[Row.size];omega)
   ·cases hj
  |false=>
   rw[lN] at hc
   obtain ⟨hsc,hf⟩:=ba hc
   have hf:f<r.size:=by simpa[Nat.blt_eq] using hf
   have Jk:i*r.size+f<r.cells.length:=by
    rw[Row.gm]
    have:(i+1)*r.size<=r.len*r.size:=Nat.mul_le_mul_right _ hi
    rw[Nat.succ_mul] at this
    omega
   obtain ⟨v,F1,F2,k1,k2,k3,_⟩:=sf.get (aw Jk)
   have RI:F1=fz:=by
    funext q
    have:=congrFun k3 q
    simp at this ⊢
    omega
   subst RI
   obtain ⟨d,d1,d2⟩:=qm T hsc
   refine ⟨v,Out.pure h rfl (fin _ (by rw[hv];exact pi d1 d2 ((VL _ Jk).trans k1))) ?_⟩
   exact BT (E:=C.env w ρ S.hp S.nx Fs) hi hf (aw Jk) k2
 ·rename_i id ver i f j hx
  obtain ⟨iS,yF⟩:=kE h hx
  split at he
  ·rename_i e v' r aJ
   obtain ⟨hc,he⟩:=aH he
   cases he
   obtain ⟨Jm,hsc⟩:=ba hc
   have:=aE Jm
   subst this
   obtain ⟨_,_,L8⟩:=yF _ aJ
   obtain ⟨k1,k2,k3,A,n,cap,k4,hv⟩:=L8 e r rfl
   obtain ⟨F1,ow,lV,_⟩:=vg h.mem aJ k1 k2 k4
   obtain ⟨A',th,hhv,hA⟩:=Gl lV
   obtain ⟨A'',e2,WG⟩:=hA (by omega)
   subst e2
   cases hhv
   obtain ⟨d,d1,d2⟩:=qm T hsc
   have:=WG j _ (aw k3)
   refine ⟨_,Out.pure h rfl (fin _ (by rw[hv];exact pi d1 d2 this)) ?_⟩
   show _=_
   simp[k3]
  ·cases he
 ·cases he
end
section
variable {P:Program} {tt:TT} {C:Cx} {S:St} {a:Act} {w:World} {ρ:Place} {Fs:Nat->FP} {n:Nat}
theorem si {w:World} {Z:Zs} {k:IntKind}: ∀l:LI,aG w Z (Row.ints k l).cells (l.map fun n=>Value.int k n) fz
 | []=>rfl
 |x::l=>⟨fz,fz,⟨rfl,rfl⟩,si l,(dw _).symm⟩
theorem MA (m:kU C S.hp S.nx w ρ Fs) {id e ver:Nat} {r:Row} (h:S.hp id=some (.row e ver r)): ∃A cap,hdr (ρ id) r.len= .slice A r.len cap/\r.len<=cap/\(∀b,A=some b-> ∃b' th,ρ id=some (b',th)/\th=cap/\b=⟨b',0,none⟩)/\(ρ id=none->r.len=0/\A=none/\cap=0)/\(r.len≠0-> ∃ad,A=some ad/\tr w (fun b=>C.ZL w (aR S.nx Fs) b\/1<=Fs id b) ad r.jw.cells):=by
 rcases m.roots id _ h with ⟨h1,h2,h3⟩| ⟨b,cap,arr,ty,F',h1,h2,h3,h4,h5,h6⟩
 ·simp only[Cx.env] at h1
  refine ⟨none,0,by rw[h1,h2];rfl,by omega,fun b hb=>(by cases hb),fun _=>⟨h2,rfl,rfl⟩,fun hn=>absurd h2 hn⟩
 ·simp only[Cx.env] at h1 h2
  refine ⟨some ⟨b,0,none⟩,cap,by rw[h1];rfl,h3,fun b' hb=>(by cases hb;exact ⟨b,cap,h1,rfl,rfl⟩),fun hn=>(by rw[h1] at hn;cases hn),fun _=>⟨_,rfl,.inr (by show 1<=Fs id b;rw[h6];simp),arr.toList,fun j hj=> ?_,?_⟩⟩
  ·rw[fS,cY h2];simp
  ·rw[CI]
   exact h5.jw (fun b hb=> .inl hb) (fun b' hb=> .inr (by rw[h6];simp;omega))
theorem qO (m:kU C S.hp S.nx w ρ Fs) {x:LV} {r:Row} {rc:List Nat} (he:ku S.hp x=some (r,rc)) {v:Value} (hv:gJ (C.env w ρ S.hp S.nx Fs) x v):iq w (fun b=>C.ZL w (aR S.nx Fs) b\/ ∃id∈rc,1<=Fs id b) r v:=by
 unfold ku at he
 split at he
 ·rename_i p r'
  cases he
  obtain ⟨A,cap,h1,h2,h3⟩:=hv
  refine ⟨A,cap,h1,h2,fun hn=> ?_⟩
  obtain ⟨ad,e,h0,vs,h4,h5⟩:=h3 hn
  have hz: ∀b,(if p then (C.env w ρ S.hp S.nx Fs).Zf else (C.env w ρ S.hp S.nx Fs).ZL) b->C.ZL w (aR S.nx Fs) b:=fun b hb=>by
   cases p
   ·exact hb
   ·exact .inr hb
  exact ⟨ad,e,.inl (hz _ h0),vs,h4,h5.mono (fun b hb=>⟨.inl (hz b hb),rfl⟩) (fun b _=>rfl)⟩
 ·rename_i id
  split at he
  ·rename_i e ver r' aJ
   cases he
   obtain ⟨iS,hx⟩:=hv
   obtain ⟨r'',e1,e2⟩:=hx _ aJ
   cases e1
   obtain ⟨A,cap,k1,k2,_,_,k3⟩:=MA m aJ
   refine ⟨A,cap,by rw[e2,nr];exact k1,by rw[nr];exact k2,fun hn=> ?_⟩
   rw[nr] at hn
   obtain ⟨ad,e,g0,vs,g1,g2⟩:=k3 hn
   have hz: ∀b,(C.ZL w (aR S.nx Fs) b\/1<=Fs id b)->C.ZL w (aR S.nx Fs) b\/ ∃i∈[id],1<=Fs i b:=fun b hb=>hb.imp (fun h=>h) (fun h=>⟨id,by simp,h⟩)
   exact ⟨ad,e,hz _ g0,vs,g1,g2.mono (fun b hb=>⟨hz b hb,rfl⟩) (fun b _=>rfl)⟩
  ·cases he
 ·rename_i id lo hi
  split at he
  ·rename_i e ver r' aJ
   cases he
   obtain ⟨iS,hx⟩:=hv
   obtain ⟨r'',e1,l1,l2,e2⟩:=hx _ aJ
   cases e1
   obtain ⟨A,cap,k1,k2,kA,kn,k3⟩:=MA m aJ
   have:=Ac (w:=w) (Z:=fun b=>C.ZL w (aR S.nx Fs) b\/ ∃i∈[id],1<=Fs i b) (r:=r'.jw) (A:=A) (cap:=cap) (by rw[nr];exact k2) (fun hn=>by
    rw[nr] at hn
    obtain ⟨ad,e,g0,vs,g1,g2⟩:=k3 hn
    have hz: ∀b,(C.ZL w (aR S.nx Fs) b\/1<=Fs id b)->C.ZL w (aR S.nx Fs) b\/ ∃i∈[id],1<=Fs i b:=fun b hb=>hb.imp (fun h=>h) (fun h=>⟨id,by simp,h⟩)
    exact ⟨ad,e,hz _ g0,vs,g1,g2.mono (fun b hb=>⟨hz b hb,rfl⟩) (fun b _=>rfl)⟩) lo hi l1 (by rw[nr];exact l2)
   rw[e2]
   simp only[Cx.env]
   cases hρ:ρ id with
   |none=>
    obtain ⟨z1,z2,z3⟩:=kn hρ
    have:lo=0:=by omega
    have:hi=0:=by omega
    subst lo hi z2 z3
    simpa[oN] using this
   |some q=>
    obtain ⟨b,th⟩:=q
    rw[hρ] at k1
    simp only[hdr,Value.slice.injEq] at k1
    obtain ⟨rfl,_,rfl⟩:=k1
    simp only[oN]
    rw[Ma] at this
    have e3:(if th=lo then some (⟨b,0,none⟩:Addr) else (some (⟨b,0,none⟩:Addr)).map (·.add (lo*r'.size)))=some (if th=lo then ⟨b,0,none⟩ else ⟨b,lo*r'.size,none⟩):=by
     split
     ·rfl
     ·simp[fS]
    rw[e3] at this
    exact this
  ·cases he
 ·rename_i id ver i f
  have fin: ∀e r',S.hp id=some (.row e ver r')->r'.deep=true->r= .ints .i64 (gj r' i f)->rc=[id]->iq w (fun b=>C.ZL w (aR S.nx Fs) b\/ ∃id∈rc,1<=Fs id b) r v:=fun e r' aJ _ hr WH=>by
   subst hr WH
   obtain ⟨iS,hx⟩:=hv
   obtain ⟨_,_,L8⟩:=hx _ aJ
   obtain ⟨k1,k2,k4⟩:=L8 e r' rfl
   obtain ⟨F1,ow,lV,hle⟩:=vg m aJ k1 k2 k4
   have lV:ik w (fun b=>C.ZL w (aR S.nx Fs) b\/ ∃i∈[id],1<=Fs i b) (.sl false (gj r' i f)) v fz:=lV.jw (fun b hb=> .inl hb) (fun b hb=> .inr ⟨id,by simp,bx hb (hle b)⟩)
   obtain ⟨_,A,cap,h1,h2,h3⟩:=lV
   refine ⟨A,cap,h1,h2,fun hn=> ?_⟩
   obtain ⟨ad,e1,e2,e3⟩:=h3 (by intro h;rw[h] at hn;exact hn rfl)
   refine ⟨ad,e1,e2,(gj r' i f).map (fun n=>Value.int .i64 n),fun j hj=> ?_,si _⟩
   simp only[Row.cells,ca] at hj
   rw[e3 j _ (aw hj)]
   simp[hj]
  split at he
  ·rename_i e v' o l aJ
   obtain ⟨h1,h2⟩:=aH he
   have:=aE h1
   subst this
   cases h2
   exact fin _ _ aJ rfl rfl rfl
  ·rename_i e v' sg o l aJ
   obtain ⟨h1,h2⟩:=aH he
   have:=aE h1
   subst this
   cases h2
   exact fin _ _ aJ rfl rfl rfl
  ·cases he
 ·cases he
theorem MB (m:kU C S.hp S.nx w ρ Fs) {x:LV} {k:Nat} {rl rc:List Nat} (he:lenOf S.hp x=some (k,rl,rc)) {v:Value} (hv:gJ (C.env w ρ S.hp S.nx Fs) x v): ∃A cap,v= .slice A k cap:=by
 unfold lenOf at he
 split at he
 ·cases he;exact ⟨_,_,hv⟩
 ·cases he;obtain ⟨A,cap,h,_⟩:=hv;exact ⟨A,cap,h⟩
 ·rename_i id
  split at he
  ·rename_i r hr
   cases he
   obtain ⟨root,h1,h2⟩:=tP hr
   obtain ⟨_,hx⟩:=hv
   obtain ⟨r',e1,e2⟩:=hx _ h1
   rw[h2] at e1;cases e1
   rw[e2]
   simp only[Cx.env]
   cases hρ:ρ id with
   |none=>
    rcases bf r.len with h0|h0
    ·rw[h0];exact ⟨_,_,rfl⟩
    ·obtain ⟨b,cap,k1,_⟩:=oq m h1 h2 h0
     rw[hρ] at k1;cases k1
   |some q=>exact ⟨_,_,rfl⟩
  ·cases he
 ·rename_i id lo hi
  split at he
  ·rename_i r hr
   cases he
   obtain ⟨root,h1,h2⟩:=tP hr
   obtain ⟨_,hx⟩:=hv
   obtain ⟨r',e1,l1,l2,e2⟩:=hx _ h1
   rw[h2] at e1;cases e1
   rw[e2]
   simp only[Cx.env]
   cases hρ:ρ id with
   |none=>
    rcases bf r.len with h0|h0
    ·have:hi-lo=0:=by omega
     rw[this];exact ⟨_,_,rfl⟩
    ·obtain ⟨b,cap,k1,_⟩:=oq m h1 h2 h0
     rw[hρ] at k1;cases k1
   |some q=>exact ⟨_,_,rfl⟩
  ·cases he
 ·rename_i id ver i f
  have he':lenOf S.hp (.inner id ver i f)=some (k,rl,rc):=he
  obtain ⟨root,e,r,h1,h2,h3⟩:=I_ he'
  subst h2
  obtain ⟨_,hx⟩:=hv
  obtain ⟨_,_,L8⟩:=hx _ h1
  obtain ⟨k1,k2,k4⟩:=L8 e r rfl
  obtain ⟨F1,ow,lV,hle⟩:=vg m h1 k1 k2 k4
  obtain ⟨A,cap,h,_⟩:=Gl lV
  exact ⟨A,cap,by rw[h3];exact h⟩
 ·cases he
theorem HT (T:qc P tt) (h:cn C S a w ρ Fs) {o:Oper} {t:Nat} {x ix:Operand} (ho:o.op= .index t x ix) {E:kG} (he:yD (R:=kG) tt n t (St.rd C.N S.sl x) (St.rd C.N S.sl ix) some=some E): ∃u,Out P C S o E a w w ρ Fs u:=by
 unfold yD at he
 split at he
 ·rename_i s hx
  split at he
  ·rename_i sz bs hq
   obtain ⟨k,i,LM,he⟩:=pb he
   obtain ⟨hc,he⟩:=ij he
   obtain ⟨h0,h1⟩:=ba hc
   have h0:=ao h0
   have h1:=ao h1
   cases he
   have hv:a.eval x= .string s:=kE h hx
   have hi:a.eval ix= .int k i:=kE h LM
   refine ⟨_,Out.pure h rfl ?_ rfl⟩
   simp only[execOp,ho]
   refine sY ?_
   rw[hv,hi]
   exact HR (T t _ hq).desc s k i h0 h1
  ·cases he
 ·cases he
theorem MC (T:qc P tt) {t:Nat} (h:fA tt t=true):(P.underlying t).isSome=true:=by
 obtain ⟨d,h1,_⟩:=qm T h
 rw[h1];rfl
theorem TO (l:LI):l.foldl (fun r n=>r.push (UInt8.ofNat n.toNat)) bE=strOf l:=by
 have: ∀(l:LI) (s:BA),l.foldl (fun r n=>r.push (UInt8.ofNat n.toNat)) s=⟨s.data++(l.map fun n=>UInt8.ofNat n.toNat).toArray⟩:=by
  intro l
  induction l with
  |nil=>intro s;simp
  |cons x l ih=>
   intro s
   rw[aY,ih]
   congr 1
   show (s.data.push _)++_=_
   apply Array.ext'
   simp
 rw[this l bE]
 unfold strOf
 congr 1
 apply Array.ext'
 simp
theorem Eg (T:qc P tt) (h:cn C S a w ρ Fs) {o:Oper} {src dst:Nat} {x:Operand} (ho:o.op= .convert src dst x) {E:kG} (he:oF (R:=kG) tt S.hp n src dst (St.rd C.N S.sl x) some=some E): ∃u,Out P C S o E a w w ρ Fs u:=by
 unfold oF at he
 obtain ⟨hs,he⟩:=aH he
 have WI:=MC T hs
 have fin: ∀u,(convert src dst (a.eval x)).run P w= .ok u w->(execOp a.eval o).run P w= .ok (.value u) w:=fun u hu=>by
  simp only[execOp,ho];exact sY hu
 split at he
 ·rename_i k n' hx
  have hv:a.eval x= .int k n':=kE h hx
  split at he
  ·rename_i k' sz bs hq
   cases he
   have hd:P.underlying dst=some (.int k'):=(T dst _ hq).desc
   refine ⟨_,Out.pure h rfl (fin _ ?_) rfl⟩
   rw[hv]
   have hk:P.intKind dst=k':=by simp[Program.intKind,hd]
   have:=run_convert_int (P:=P) w src dst k n' WI (by rw[hk];exact hd)
   rw[this,hk]
  ·cases he
 ·rename_i s hx
  have hv:a.eval x= .string s:=kE h hx
  split at he
  ·rename_i sz bs hq
   cases he
   have hd:P.underlying dst=some .string:=(T dst _ hq).desc
   obtain ⟨d,hd'⟩:=Option.isSome_iff_exists.mp WI
   refine ⟨_,Out.pure h rfl (fin _ ?_) rfl⟩
   rw[hv]
   simp[convert,run_underlying hd',run_underlying hd]
  ·cases he
 ·rename_i x' _ _ hx
  split at he
  ·rename_i sz bs l rc hq Jn
   split at he
   ·rename_i sz' bs' hb
    cases he
    obtain ⟨e,he1,IR⟩:=Option.bind_eq_some_iff.1 hb
    have hd:P.underlying dst=some .string:=(T dst _ hq).desc
    have Bb:=oo T he1
    have rK:P.underlying e=some (.int .u8):=(T e _ IR).desc
    obtain ⟨A,cap,k1,k2,k3⟩:=qO h.mem Jn (kE h hx)
    refine ⟨_,Out.pure h rfl (fin (.string (strOf l)) ?_) rfl⟩
    rw[k1,run_convert_bytes_string w src dst e A _ cap Bb rK hd]
    simp only[Row.len] at k3 ⊢
    rcases bf l.length with h0|h0
    ·have hl0:l=[]:=bG h0
     subst hl0
     cases A with
     |none=>rfl
     |some ad=>
      have:=run_bytesToString (P:=P) w ad 0 cap [] (run_loadCells_list w ad [] (fun j v hj=>by simp at hj))
      exact this
    ·obtain ⟨ad,rfl,hz,vs,g1,g2⟩:=k3 (by omega)
     have lV: ∀(j:Nat) (v:Value),(l.map (Value.int .u8))[j]? =some v->w.cell? (ad.add j)=some v:=fun j v hj=>by
      rw[List.getElem?_map] at hj
      cases Eb:l[j]? with
      |none=>rw[Eb] at hj;cases hj
      |some z=>
       rw[Eb] at hj
       have Jk:j<l.length:=(List.getElem?_eq_some_iff.1 Eb).1
       obtain ⟨v',F1,F2,q1,q2,_⟩:=g2.get (j:=j) (c:= .sc (.int .u8 z)) (by simp[Row.cells,Eb])
       rw[g1 j (by simpa[Row.cells] using Jk),q1]
       obtain ⟨rfl,_⟩:=q2
       exact hj
     have:=run_bytesToString (P:=P) w ad l.length cap l (by
      have:=run_loadCells_list (P:=P) w ad (l.map (Value.int .u8)) lV
      simpa using this)
     rw[this,TO]
   ·cases he
  ·cases he
 ·cases he
end
section
variable {P:Program} {tt:TT} {C:Cx} {S:St} {a:Act} {w:World} {ρ:Place} {Fs:Nat->FP} {n:Nat}
theorem BV {hp:Nat->Option aQ} {id:Nat} (h:(ny hp id).isSome=true): ∃root r,hp id=some root/\root.row? =some r:=by
 obtain ⟨r,hr⟩:=Option.isSome_iff_exists.1 h
 obtain ⟨root,h1,h2⟩:=tP hr
 exact ⟨root,r,h1,h2⟩
theorem KE (q:Option (Nat×Nat)) (n:Nat):(hdr q n).oneCell' =true:=by cases q<;>rfl
theorem Oz (q:Option (Nat×Nat)) (s lo hi:Nat):(oN q s lo hi).oneCell' =true:=by cases q<;>rfl
theorem rZ {v:Value} (h:v.oneCell' =true):v.cells= #[v]:=by cases v<;>first|rfl|cases h
theorem BW (m:kU C S.hp S.nx w ρ Fs) {x:LV} (hs:storable S.hp x=true) {v:Value} (hv:gJ (C.env w ρ S.hp S.nx Fs) x v):v.oneCell' =true:=by
 cases x with
 |any=>cases hs
 |undef=>cases hs
 |i k n=>rw[hv];rfl
 |b x=>rw[hv];rfl
 |s x=>rw[hv];rfl
 |nil=>rw[hv];rfl
 |val p r=>obtain ⟨A,cap,h,_⟩:=hv;rw[h];rfl
 |own id=>
  obtain ⟨root,r,h1,h2⟩:=BV hs
  obtain ⟨_,hx⟩:=hv
  obtain ⟨r',_,e⟩:=hx _ h1
  rw[e];exact KE _ _
 |sub id lo hi=>
  obtain ⟨root,r,h1,h2⟩:=BV hs
  obtain ⟨_,hx⟩:=hv
  obtain ⟨r',_,_,_,e⟩:=hx _ h1
  rw[e];exact Oz _ _ _ _
 |inner id ver i f=>
  obtain ⟨_,hx⟩:=hv
  simp only[storable] at hs
  split at hs
  ·rename_i e v' r aJ
   have:=aE hs
   subst this
   obtain ⟨_,_,L8⟩:=hx _ aJ
   obtain ⟨k1,k2,k4⟩:=L8 e r rfl
   obtain ⟨F1,ow,lV,hle⟩:=vg m aJ k1 k2 k4
   obtain ⟨A,cap,h,_⟩:=Gl lV
   rw[h];rfl
  ·cases hs
 |je id k=>obtain ⟨_,_,b,cap,_,h⟩:=hv;rw[h];rfl
 |arr id k=>
  obtain ⟨root,r,h1,h2⟩:=BV hs
  obtain ⟨_,hx⟩:=hv
  obtain ⟨r',_,_,b,cap,_,e⟩:=hx _ h1
  rw[e];rfl
 |vc id i f=>
  obtain ⟨root,r,h1,h2⟩:=BV hs
  obtain ⟨_,hx⟩:=hv
  obtain ⟨r',_,_,b,cap,_,e⟩:=hx _ h1
  rw[e];rfl
 |Kh p r i f=>obtain ⟨_,ad,h,_⟩:=hv;rw[h];rfl
 |CO id ver i f j=>
  obtain ⟨_,hx⟩:=hv
  simp only[storable] at hs
  split at hs
  ·rename_i e v' r aJ
   have:=aE hs
   subst this
   obtain ⟨_,_,L8⟩:=hx _ aJ
   obtain ⟨_,_,_,A,_,_,_,h⟩:=L8 e r rfl
   rw[h];rfl
  ·cases hs
 |er b=>cases b<;>first| (obtain ⟨t,x,h⟩:=hv;rw[h];rfl)| (rw[hv];rfl)
 |fn f=>rw[hv];rfl
theorem cw.mem {E:Env}: ∀ {xs:List LV} {vs:List Value},cw E xs vs-> ∀u∈vs,∃x∈xs,gJ E x u
 | [],[],_,u,hu=>by cases hu
 |x::xs,v::vs,h,u,hu=>by
  rcases List.mem_cons.1 hu with rfl|hu
  ·exact ⟨x,by simp,h.1⟩
  ·obtain ⟨y,h1,h2⟩:=cw.mem h.2 u hu
   exact ⟨y,by simp[h1],h2⟩
theorem ta (m:kU C S.hp S.nx w ρ Fs) {x:AV} {xs:List LV} (he:qj S.hp x=some xs) {v:Value} (hv:jC (C.env w ρ S.hp S.nx Fs) x v):cw (C.env w ρ S.hp S.nx Fs) xs v.cells.toList/\ ∀u∈v.cells.toList,u.oneCell' =true:=by
 unfold qj at he
 split at he
 ·obtain ⟨h1,h2⟩:=aH he
  cases h2
  have ho:=BW m h1 hv
  rw[rZ ho]
  exact ⟨⟨hv,trivial⟩,fun u hu=>by simp at hu;subst hu;exact ho⟩
 ·obtain ⟨h1,h2⟩:=aH he
  cases h2
  obtain ⟨vs,rfl,hr⟩:=hv
  refine ⟨hr,fun u hu=> ?_⟩
  obtain ⟨y,k1,k2⟩:=hr.mem u hu
  exact BW m (List.all_eq_true.1 h1 y k1) k2
 ·cases he
theorem Gn (E:Env) (tt:TT) (t:Nat):gJ E (ry tt t) (zeroV tt t):=by
 unfold ry zeroV
 cases tt t with
 |none=>trivial
 |some e=>
  obtain ⟨k,sz,bs⟩:=e
  cases k<;>first|rfl|trivial
theorem CV (E:Env) (tt:TT): ∀l:List Nat,cw E (l.map (ry tt)) (l.map (zeroV tt))
 | []=>trivial
 |t::l=>⟨Gn E tt t,CV E tt l⟩
theorem pu (T:qc P tt) {t:Nat} {e:TE} (h:tt t=some e) (hk: ∀n x,e.k≠ .array n x): ∃i z,P.info? t=some i/\i.zero=some z/\z.cells.toList=(bn tt depth t).map (zeroV tt)/\i.size=e.size/\i.bytes=e.bytes/\e.size=(bn tt depth t).length:=by
 obtain ⟨i,h1,h2,h3,z,h4,h5⟩:=(T t e h).Gg
 refine ⟨i,z,h1,h4,?_,h2,h3,(T t e h).cells hk⟩
 obtain ⟨k,sz,bs⟩:=e
 cases k<;>first|exact h5|exact absurd rfl (hk _ _)
theorem kF {t:Nat} (h:fA tt t=true):bn tt depth t=[t]:=by
 unfold fA at h
 show bn tt (5+1) t=[t]
 unfold bn
 split at h<;>first|cases h|skip
 all_goals (rename_i hq;rw[hq])
theorem cn.TP (h:cn C S a w ρ Fs) (hg:S.hp n=some .gW) (t:Nat) (cells:List LV) (vs:Array Value) (ty:TypeId) (hc:cw (C.env w ρ S.hp S.nx Fs) cells vs.toList):
 cn C ⟨S.sl,jh S.hp [(n,some (.box t cells))],S.nx⟩ a (w.alloc (.cells vs ty)) (k_ ρ n (some (w.heap.size,1))) (jH (fD Fs []) n (f1 w.heap.size)):=by
 have:=h.make hg [] (by simp) (by simp) (.box t cells) (some (w.heap.size,1)) (f1 w.heap.size) (w.alloc (.cells vs ty)) (by rw[sZ];omega) rfl rfl rfl (fun b hb _=>BN w _ hb) (fun b=>by
  rw[sZ,Dv];simp[fh];split<;>split<;>omega) (fun M=>⟨w.heap.size,1,vs,ty,h_ ..,BO w _,hc.mono M,rfl⟩)
 exact this
theorem zE {t:TypeId} {i:TypeInfo} {z:Value} (hi:P.info? t=some i) (hz:i.zero=some z) (w:World):(Instr.alloc t true (.tuple #[])).run P w= .ok (.pointer (some ⟨w.heap.size,0,none⟩)) (w.alloc (.cells z.cells t)):=by
 simp[Instr.alloc,zeroValue,typeInfo,hi,hz,newVar,newRow]
theorem MD (t:TypeId) (v:Value) (w:World):(Instr.box t v).run P w= .ok (.pointer (some ⟨w.heap.size,0,none⟩)) (w.alloc (.cells v.cells t)):=by
 simp[Instr.box,newVar,newRow]
theorem ME (T:qc P tt) (h:cn C S a w ρ Fs) {o:Oper} {t:Nat} {x:Operand} (ho:o.op= .box t x) {E:kG} (he:xU (R:=kG) tt S.hp n t (St.rd C.N S.sl x) some=some E) (hg:S.hp n=some .gW): ∃w' ρ' Fs' u,Out P C S o E a w w' ρ' Fs' u:=by
 unfold xU at he
 split at he
 ·cases he
 ·split at he
  ·rename_i xs EB
   cases he
   obtain ⟨h1,h2⟩:=ta h.mem EB (h.rd x)
   refine ⟨_,_,_,.pointer (some ⟨w.heap.size,0,none⟩),.inl ?_,cn.TP h hg t xs (a.eval x).cells t h1,?_⟩
   ·simp only[execOp,ho];exact sY (MD t _ w)
   ·exact ⟨eR h.mem hg,fun root hr=>by simp[Cx.env,jh] at hr;subst hr;trivial,w.heap.size,1,h_ ..,rfl⟩
  ·cases he
 ·cases he
def Zu (C:Cx) (w:World) (nx:Nat) (Fs:Nat->FP) (ks:List Nat) (F:FP):Zs:=fun b=>C.ZL w (aR nx Fs) b\/(1<=fh Fs ks b/\F b=0)
theorem cn.newRow (h:cn C S a w ρ Fs) (hg:S.hp n=some .gW) (ks:List Nat) (yU:ks.Nodup) (oL: ∀k∈ks,∃r,S.hp k=some r/\r.real) (e:Nat) (r:Row) (arr:Array Value) (ty:TypeId) (cap:Nat) (F:FP)
 (hc:aG w (Zu C w S.nx Fs ks F) r.cells arr.toList F) (hF: ∀b,F b<=fh Fs ks b) (h1:r.len<=cap) (h2:cap*r.size<=arr.size) (w':World) (hw:w'.heap=w.heap.push (.cells arr ty (0,0))) (QX:w'.os=w.os) (QY:w'.tape=w.tape) (CU:w'.output=w.output):
 cn C ⟨S.sl,jh S.hp (fi ks++[(n,some (.row e 0 r))]),S.nx⟩ a w' (k_ ρ n (some (w.heap.size,cap))) (jH (fD Fs ks) n (ez (f1 w.heap.size) F)):=by
 have iS: ∀b,b<w.heap.size->w'.heap[b]? =w.heap[b]? :=fun b hb=>by rw[hw,Array.getElem?_push,aD (Nat.ne_of_lt hb)]
 have oX:w'.heap.size=w.heap.size+1:=by rw[hw,Array.size_push]
 have hk: ∀k∈ks,k<S.nx:=fun k h'=>by
  obtain ⟨r,k1,_⟩:=oL k h'
  exact eR h.mem k1
 have own: ∀b,1<=fh Fs ks b->b<w.heap.size/\(C.w0.heap.size<=b\/1<=C.F0 b):=fun b hb=>h.mem.uj b (bx hb (oC Fs b S.nx yU hk))
 refine h.make hg ks yU oL (.row e 0 r) (some (w.heap.size,cap)) _ w' (by omega) QX QY CU (fun b hb _=>iS b hb) (fun b=> ?_) (fun M=> ?_)
 ·have:=hF b
  by_cases e:b=w.heap.size
  ·subst e
   have:F w.heap.size=0:=by
    rcases bf (F w.heap.size) with h0|h0
    ·exact h0
    ·have:=(own _ (bx h0 (hF _))).1;omega
   rw[aS (by omega)]
   simp;omega
  ·simp[Dv,e];omega
 ·refine .inr ⟨w.heap.size,cap,arr,ty,F,h_ ..,?_,h1,h2,hc.mono (fun b hb=> ?_) (fun b hb=>iS b (own b (bx hb (hF b))).1),rfl⟩
  ·show w'.heap[w.heap.size]? =_
   rw[hw,Array.getElem?_push,aS rfl]
  ·rcases hb with hb| ⟨wD,Cd⟩
   ·exact M.zl b hb
   ·obtain ⟨o1,o2⟩:=own b wD
    refine ⟨.inr (.inr ⟨o2,by show b<w'.heap.size;omega,?_⟩),iS b o1⟩
    have g1:=iT (fD Fs ks) (ez (f1 w.heap.size) F) b (eR h.mem hg)
    have g2:=oD Fs b S.nx ks yU hk
    have g3:=h.mem.one b
    have g4:f1 w.heap.size b=0:=by rw[Dv,aD (by omega)]
    have g5:=mP (fD Fs ks) b (eR h.mem hg)
    simp[g4] at g1
    omega
theorem aG.N1 {w:World} {Z:Zs}: ∀ {cs:List Cell} {vs:List Value},(∀(j:Nat) (c:Cell),cs[j]? =some c-> ∃v,vs[j]? =some v/\ik w Z c v fz)->aG w Z cs vs fz
 | [],_,_=>rfl
 |c::cs,[],h=>by obtain ⟨v,hv,_⟩:=h 0 c rfl;cases hv
 |c::cs,v::vs,h=>by
  obtain ⟨v',hv,hr⟩:=h 0 c rfl
  cases hv
  exact ⟨fz,fz,hr,aG.N1 (fun j c hc=>by simpa using h (j+1) c (by simpa using hc)),(dw _).symm⟩
theorem qS {e:Nat} {r:Row} (T:qc P tt) (h:eT tt e=some r): ∃te,tt e=some te/\te.size=r.size/\(∀n x,te.k≠ .array n x)/\0<te.size:=by
 unfold eT at h
 split at h
 all_goals try (cases h;done)
 ·rename_i k sz bs hq
  cases h
  refine ⟨_,hq,?_,by simp,(T e _ hq).some.1⟩
  have:=(T e _ hq).cells (by simp)
  rw[kF (by simp[fA,hq])] at this
  simpa[Row.size] using this
 ·rename_i sz bs hq
  cases h
  refine ⟨_,hq,?_,by simp,(T e _ hq).some.1⟩
  have:=(T e _ hq).cells (by simp)
  rw[kF (by simp[fA,hq])] at this
  simpa[Row.size] using this
 ·rename_i sz bs hq
  cases h
  refine ⟨_,hq,?_,by simp,(T e _ hq).some.1⟩
  have:=(T e _ hq).cells (by simp)
  rw[kF (by simp[fA,hq])] at this
  simpa[Row.size] using this
 ·rename_i e' sz bs hq
  cases h
  refine ⟨_,hq,?_,by simp,(T e _ hq).some.1⟩
  have:=(T e _ hq).cells (by simp)
  rw[kF (by simp[fA,hq])] at this
  simpa[Row.size] using this
 ·rename_i fs sz bs hq
  obtain ⟨_,h⟩:=aH h
  cases h
  refine ⟨_,hq,?_,by simp,(T e _ hq).some.1⟩
  have:=(T e _ hq).cells (by simp)
  simpa[Row.size] using this
theorem MF (sg:List Bool) (f:Nat):gi (sg.map BH) f=0:=by
 unfold gi
 rw[List.getElem?_map]
 cases sg[f]? with
 |none=>rfl
 |some b=>cases b<;>rfl
theorem MG (sg:List Bool) (f:Nat):gl (sg.map BH) f=[]:=by
 unfold gl
 rw[List.getElem?_map]
 cases sg[f]? with
 |none=>rfl
 |some b=>cases b<;>rfl
theorem xX (m:Nat) (r:Row):(jR m r).len=m:=by cases r<;>simp[jR,Row.len]
theorem wo (m:Nat) (r:Row):(jR m r).size=r.size:=by cases r<;>rfl
theorem Ja {e:Nat} {r:Row} (T:qc P tt) (h:eT tt e=some r) {w:World} {Z:Zs} (m i f:Nat) (hi:i<m) (hf:f<r.size): ∃c v,(jR m r).cells[i*r.size+f]? =some c/\((bn tt depth e).map (zeroV tt))[f]? =some v/\ik w Z c v fz:=by
 unfold eT at h
 split at h
 all_goals try (cases h;done)
 ·rename_i k sz bs hq
  cases h
  have:f=0:=by simp[Row.size] at hf;exact hf
  subst this
  rw[kF (by simp[fA,hq])]
  exact ⟨.sc (.int k 0),.int k 0,by simp[jR,Row.cells,Row.size,hi],by simp[zeroV,hq],rfl,rfl⟩
 ·rename_i sz bs hq
  cases h
  have:f=0:=by simp[Row.size] at hf;exact hf
  subst this
  rw[kF (by simp[fA,hq])]
  exact ⟨.sc (.bool false),.bool false,by simp[jR,Row.cells,Row.size,hi],by simp[zeroV,hq],rfl,rfl⟩
 ·rename_i sz bs hq
  cases h
  have:f=0:=by simp[Row.size] at hf;exact hf
  subst this
  rw[kF (by simp[fA,hq])]
  exact ⟨.sc (.string bE),.string bE,by simp[jR,Row.cells,Row.size,hi],by simp[zeroV,hq],rfl,rfl⟩
 ·rename_i e' sz bs hq
  cases h
  have:f=0:=by simp[Row.size] at hf;exact hf
  subst this
  rw[kF (by simp[fA,hq])]
  exact ⟨.sl true [],.slice none 0 0,by simp[jR,Row.cells,Row.size,hi],by simp[zeroV,hq],.inl ⟨rfl,rfl,rfl⟩⟩
 ·rename_i fs sz bs hq
  obtain ⟨w9,h⟩:=aH h
  cases h
  simp only[Row.size,ca] at hf
  have ZP:((bn tt depth e).map (zeroV tt))[f]? =some (zeroV tt (bn tt depth e)[f]):=by simp[hf]
  have Ee:=List.all_eq_true.1 w9 _ (aj hf)
  simp only[jR]
  have QZ:=u2 ((bn tt depth e).map (CR tt)) true (List.replicate m (((bn tt depth e).map (CR tt)).map BH)) i f (by simpa using hf)
  simp only[Row.size] at QZ ⊢
  rw[QZ,ZP]
  simp only[List.getElem?_replicate,hi,if_true,aO,MF,MG,List.getElem?_map,aw hf,Option.map_some]
  refine ⟨_,_,rfl,rfl,?_⟩
  generalize (bn tt depth e)[f] =t at Ee
  unfold xT at Ee
  split at Ee
  ·rename_i e' sz' bs' hq'
   simp only[CR,hq',if_true,zeroV]
   exact .inl ⟨rfl,rfl,rfl⟩
  ·rename_i k sz' bs' hq'
   have:=ao Ee
   subst this
   simp only[CR,hq',zeroV]
   exact ⟨rfl,rfl⟩
  ·cases Ee
theorem TQ (z:Array Value) (m j:Nat) (hj:j<m) (hz:0<z.size):(madeCells z m).toList[j]? =z.toList[j%z.size]? :=by
 have hm:j%z.size<z.size:=Nat.mod_lt _ hz
 simp[madeCells,hj,hm,getElem!_pos]
theorem TR {e:Nat} {r:Row} (T:qc P tt) (h:eT tt e=some r) {w:World} {Z:Zs} (z:Array Value) (hz:z.toList=(bn tt depth e).map (zeroV tt)) (hs:z.size=r.size) (hp:0<r.size) (m:Nat):aG w Z (jR m r).cells (madeCells z (m*r.size)).toList fz:=by
 refine aG.N1 fun j c hc=> ?_
 have hj:j<m*r.size:=by
  have:=(List.getElem?_eq_some_iff.1 hc).1
  rwa [Row.gm,xX,wo] at this
 have hi:j/r.size<m:=(Nat.div_lt_iff_lt_mul hp).2 hj
 have hf:j%r.size<r.size:=Nat.mod_lt _ hp
 obtain ⟨c',v,h1,h2,h3⟩:=Ja T h (w:=w) (Z:=Z) m _ _ hi hf
 rw[Nat.mul_comm,Nat.div_add_mod] at h1
 rw[hc] at h1;cases h1
 exact ⟨v,by rw[TQ z _ _ hj (by omega),hs,hz];exact h2,h3⟩
theorem PL {C:Cx} {w':World} {ρ':Place} {hp':Nat->Option aQ} {nx:Nat} {Fs':Nat->FP} {id b cap:Nat} (iS:id<nx) (hρ:ρ' id=some (b,cap)) {e v:Nat} {r:Row} (aJ:hp' id=some (.row e v r)):jC (C.env w' ρ' hp' nx Fs') (.l (.own id)) (.slice (some ⟨b,0,none⟩) r.len cap):=
 ⟨iS,fun root hr=>by
  simp only[Cx.env] at hr ⊢
  rw[aJ] at hr;cases hr
  exact ⟨r,rfl,by rw[hρ];rfl⟩⟩
theorem BY (T:qc P tt) (h:cn C S a w ρ Fs) {o:Oper} {t:Nat} {l c:Operand} (ho:o.op= .makeSlice t l c) {E:kG} (he:mZ (R:=kG) tt n t l c (St.rd C.N S.sl l) some=some E) (hg:S.hp n=some .gW): ∃w' ρ' Fs' u,Out P C S o E a w w' ρ' Fs' u:=by
 unfold mZ at he
 obtain ⟨vj,he⟩:=aH he
 split at he
 ·rename_i e rK
  split at he
  ·rename_i r hr
   obtain ⟨k,m,hl,he⟩:=pb he
   obtain ⟨hc,he⟩:=ij he
   obtain ⟨h0,h1⟩:=ba hc
   have h0:=ao h0
   have h1:=ao h1
   cases he
   have hv:a.eval l= .int k m:=kE h hl
   have zc: ∃k',a.eval c= .int k' m:=by
    cases l with
    |tmp x=>cases c with
     |tmp y=>simp only[xV] at vj;have:=aE vj;subst this;exact ⟨k,hv⟩
     |_=>cases vj
    |const x=>cases x with
     |int k1 a1=>cases c with
      |const y=>cases y with
       |int k2 a2=>
        simp only[xV] at vj
        have:=aE vj
        subst this
        have Ed:Value.int k1 a1= .int k m:=hv
        cases Ed
        exact ⟨k2,rfl⟩
       |_=>cases vj
      |_=>cases vj
     |_=>cases c<;>cases vj
    |_=>cases c<;>cases vj
   obtain ⟨k',zc⟩:=zc
   obtain ⟨te,q1,q2,q3,q4⟩:=qS T hr
   obtain ⟨i,z,z1,z2,z3,z4,z5,z6⟩:=pu T q1 q3
   have hb:bytesOf tt e=i.bytes:=by simp[bytesOf,q1,z5]
   have WJ:z.cells.size=r.size:=by
    have:=congrArg List.length z3
    simp only[bC,ca] at this
    omega
   rw[hb] at h1
   have Ze:0<i.bytes:=by rw[z5];exact (T e te q1).some.2
   have hm:m.toNat<=room:=bx (Nat.le_mul_of_pos_right _ Ze) h1
   simp only[room] at hm h1
   have pc:=run_make (P:=P) w t e i z (oo T rK) z1 z2 k k' m m h0 (Int.le_refl _) (by
    have:((i.bytes*m.toNat:Nat):Int)<=281474976710656:=by rw[Nat.mul_comm];omega
    rw[Int.natCast_mul] at this
    rwa [Int.toNat_of_nonneg h0] at this) (by omega)
   have hlen:(jR m.toNat r).len=m.toNat:=xX _ _
   have oX:(jR m.toNat r).size=r.size:=wo _ _
   refine ⟨_,_,_,.slice (some ⟨w.heap.size,0,none⟩) m.toNat m.toNat,.inl ?_,cn.newRow h hg [] (by simp) (by simp) e (jR m.toNat r) (madeCells z.cells (m.toNat*i.size)) e m.toNat fz ?_ (by simp) (by rw[hlen];exact ai _) (by rw[oX,size_madeCells];rw[z4,q2];exact ai _) (w.alloc (.cells (madeCells z.cells (m.toNat*i.size)) e)) rfl rfl rfl rfl,?_⟩
   ·simp only[execOp,ho]
    refine sY ?_
    rw[hv,zc]
    exact pc
   ·rw[z4,q2]
    exact TR T hr z.cells z3 WJ (by omega) _
   ·have:=PL (C:=C) (w':=w.alloc (.cells (madeCells z.cells (m.toNat*i.size)) e)) (ρ':=k_ ρ n (some (w.heap.size,m.toNat))) (hp':=jh S.hp [(n,some (.row e 0 (jR m.toNat r)))]) (nx:=S.nx) (Fs':=jH (fD Fs []) n (ez (f1 w.heap.size) fz)) (eR h.mem hg) (h_ ..) (e:=e) (v:=0) (r:=jR m.toNat r) (by simp[jh])
    rw[hlen] at this
    exact this
  ·cases he
 ·cases he
end
section
variable {P:Program} {tt:TT} {C:Cx} {S:St} {a:Act} {w:World} {ρ:Place} {Fs:Nat->FP} {n:Nat}
theorem TS {C:Cx} {w':World} {ρ':Place} {hp':Nat->Option aQ} {nx:Nat} {Fs':Nat->FP} {id b cap:Nat} (iS:id<nx) (hρ:ρ' id=some (b,cap)) {root:aQ} (aJ:hp' id=some root) (yT:root.real):jC (C.env w' ρ' hp' nx Fs') (.l (.je id 0)) (.pointer (some ⟨b,0,none⟩)):=
 ⟨iS,fun r hr=>by simp only[Cx.env] at hr;rw[aJ] at hr;cases hr;exact yT,b,cap,hρ,rfl⟩
theorem HU (T:qc P tt) (h:cn C S a w ρ Fs) {o:Oper} {t:Nat} (ho:o.op= .alloc t) {E:kG} (he:tN (R:=kG) tt n t some=some E) (hg:S.hp n=some .gW): ∃w' ρ' Fs' u,Out P C S o E a w w' ρ' Fs' u:=by
 have box: ∀(e:TE),tt t=some e->(∀n x,e.k≠ .array n x)-> ∃w' ρ' Fs' u,Out P C S o ⟨.l (.je n 0),[(n,some (.box t ((bn tt depth t).map (ry tt))))],n+1,[],[]⟩ a w w' ρ' Fs' u:=fun e hq hk=>by
  obtain ⟨i,z,z1,z2,z3,z4,z5,z6⟩:=pu T hq hk
  refine ⟨_,_,_,.pointer (some ⟨w.heap.size,0,none⟩),.inl ?_,cn.TP h hg t _ z.cells t (by rw[z3];exact CV _ tt _),TS (root:= .box t ((bn tt depth t).map (ry tt))) (eR h.mem hg) (h_ ..) (by simp[jh]) trivial⟩
  simp only[execOp,ho]
  exact sY (zE z1 z2 w)
 unfold tN at he
 split at he
 ·rename_i fs sz bs hq
  cases he
  exact box _ hq (by simp)
 ·rename_i m e sz bs hq
  split at he
  ·rename_i r hr
   obtain ⟨hc,he⟩:=aH he
   obtain ⟨hc,h3⟩:=ba hc
   obtain ⟨h1,h2⟩:=ba hc
   cases he
   obtain ⟨i,i1,i2,i3,z,z1,z2⟩:=(T t _ hq).Gg
   have h2:=aE h2
   have UB:z.cells.toList=List.replicate m (zeroV tt e):=z2
   obtain ⟨te,q1,q2,q3,q4⟩:=qS T hr
   have hlf:bn tt depth e=[e]/\(∀j,j<m-> ∃c,(jR m r).cells[j]? =some c/\ik w (Zu C w S.nx Fs [] fz) c (zeroV tt e) fz):=by
    have hl:=(T e te q1).cells q3
    obtain ⟨i',z',_,_,_,_,_,y6⟩:=pu T q1 q3
    have:(bn tt depth e).length=1:=by omega
    have o9:bn tt depth e=[e]:=by
     unfold eT at hr
     split at hr
     all_goals try (cases hr;done)
     all_goals first
      | (obtain ⟨_,hr⟩:=aH hr;cases hr;simp[Row.deep] at h3;done)
      | (rename_i hq';exact kF (by simp[fA,hq']))
    refine ⟨o9,fun j hj=> ?_⟩
    obtain ⟨c,v,k1,k2,k3⟩:=Ja T hr (w:=w) (Z:=Zu C w S.nx Fs [] fz) m j 0 hj (by omega)
    rw[o9] at k2
    simp at k2
    subst k2
    rw[h2,Nat.mul_one,Nat.add_zero] at k1
    exact ⟨c,k1,k3⟩
   have hlen:(jR m r).len=m:=xX _ _
   have oX:(jR m r).size=1:=by rw[wo];exact h2
   have WJ:z.cells.size=m:=by
    have:=congrArg List.length UB
    simpa using this
   refine ⟨_,_,_,.pointer (some ⟨w.heap.size,0,none⟩),.inl ?_,cn.newRow h hg [] (by simp) (by simp) t (jR m r) z.cells t m fz ?_ (by simp) (by rw[hlen];exact ai _) (by rw[oX,WJ];omega) (w.alloc (.cells z.cells t)) rfl rfl rfl rfl,?_⟩
   ·simp only[execOp,ho]
    exact sY (zE i1 z1 w)
   ·refine aG.N1 fun j c hc=> ?_
    have hj:j<m:=by
     have:=(List.getElem?_eq_some_iff.1 hc).1
     rw[Row.gm,hlen,oX] at this
     omega
    obtain ⟨c',k1,k2⟩:=hlf.2 j hj
    rw[hc] at k1;cases k1
    exact ⟨_,by rw[UB];simp[hj],k2⟩
   ·refine ⟨eR h.mem hg,fun root ru=> ?_⟩
    simp only[Cx.env] at ru ⊢
    have:jh S.hp [(n,some (.row t 0 (jR m r)))] n=some (.row t 0 (jR m r)):=by simp[jh]
    rw[this] at ru
    cases ru
    exact ⟨_,rfl,hlen,w.heap.size,m,h_ ..,rfl⟩
  ·cases he
 ·rename_i e hk1 hk2 hq
  obtain ⟨hs,he⟩:=aH he
  cases he
  rw[show [ry tt t] =(bn tt depth t).map (ry tt) by rw[kF hs];rfl]
  refine box e hq fun n x hx=> ?_
  obtain ⟨k,sz,bs⟩:=e
  simp only at hx
  subst hx
  simp[fA,hq] at hs
 ·cases he
theorem MH {E:Env}: ∀(xs:List LV) (us:List Value),cw E xs us-> ∀(zs:List LV) (vs:List Value) (k:Nat),cw E zs vs->cw E (oE zs k xs) ((us.zipIdx 0).foldl (fun cs (x:Value×Nat)=>cs.set (k+x.2) x.1) vs):=by
 have gen: ∀(xs:List LV) (us:List Value) (s:Nat),cw E xs us-> ∀(zs:List LV) (vs:List Value) (k:Nat),cw E zs vs->cw E (oE zs (k+s) xs) ((us.zipIdx s).foldl (fun cs (x:Value×Nat)=>cs.set (k+x.2) x.1) vs):=by
  intro xs
  induction xs with
  |nil=>intro us s h zs vs k hz;cases us with
   |nil=>exact hz
   |cons u us=>exact absurd h id
  |cons x xs ih=>intro us s h zs vs k hz;cases us with
   |nil=>exact absurd h id
   |cons u us=>
    simp only[List.zipIdx_cons,aY,oE]
    refine ih us (s+1) h.2 _ _ k ?_
    have: ∀(zs:List LV) (vs:List Value) (k:Nat),cw E zs vs->cw E (zs.set k x) (vs.set k u):=by
     intro zs
     induction zs with
     |nil=>intro vs k hz;cases vs with
      |nil=>exact hz
      |cons v vs=>exact absurd hz id
     |cons z zs X_=>intro vs k hz;cases vs with
      |nil=>exact absurd hz id
      |cons v vs=>cases k with
       |zero=>exact ⟨h.1,hz.2⟩
       |succ k=>exact ⟨hz.1,X_ vs k hz.2⟩
    exact this zs vs _ hz
 intro xs us h zs vs k hz
 exact gen xs us 0 h zs vs k hz
theorem Jb (k:Nat): ∀(us:List Value) (s:Nat) (cs:Array Value),((us.zipIdx s).foldl (fun cs (x:Value×Nat)=>cs.setIfInBounds (k+x.2) x.1) cs).toList=(us.zipIdx s).foldl (fun cs (x:Value×Nat)=>cs.set (k+x.2) x.1) cs.toList
 | [],s,cs=>rfl
 |u::us,s,cs=>by
  simp only[List.zipIdx_cons,aY]
  rw[Jb k us (s+1)]
  simp
theorem OA (T:qc P tt) (m:kU C S.hp S.nx w ρ Fs) {fs:List (Nat×Nat)} {fields:Array Field} (hf:fields.toList.map (fun f=>(f.offset,f.type))=fs) (places:List (Nat×Nat)) (Sm:fields.toList.mapM (fun f=>(P.info? f.type).map fun i=>(f.offset,i.size))=some places) (env:Operand->Value) (RA: ∀x,jC (C.env w ρ S.hp S.nx Fs) (St.rd C.N S.sl x) (env x)):
 ∀(ps:List (Nat×Operand)) (zero:List LV) (zs:Array Value) (xs:List LV),cw (C.env w ρ S.hp S.nx Fs) zero zs.toList->pH tt S.hp fs zero (ps.map fun p=>(p.1,St.rd C.N S.sl p.2))=some xs->
 ∃cells,Instr.fill (places.toArray[·]?) zs (ps.map fun p=>(p.1,env p.2))=some cells/\cw (C.env w ρ S.hp S.nx Fs) xs cells.toList:=by
 have aaK: ∀(i off ft:Nat) (e:TE),fs[i]? =some (off,ft)->tt ft=some e->places.toArray[i]? =some (off,e.size):=by
  intro i off ft e h1 h2
  subst hf
  rw[List.getElem?_map] at h1
  cases hfi:fields.toList[i]? with
  |none=>rw[hfi] at h1;cases h1
  |some f=>
   rw[hfi] at h1
   simp only[Option.map_some,af,aA] at h1
   obtain ⟨rfl,rfl⟩:=h1
   obtain ⟨ti,t1,t2,_⟩:=(T _ _ h2).Gg
   have: ∀(l:List Field) (ps:List (Nat×Nat)),l.mapM (fun f=>(P.info? f.type).map fun i=>(f.offset,i.size))=some ps-> ∀j:Nat,l[j]? =some f->ps[j]? =some (f.offset,ti.size):=by
    intro l
    induction l with
    |nil=>intro ps _ j hj;simp at hj
    |cons g l ih=>
     intro ps VU j hj
     simp only[List.mapM_cons,Option.bind_eq_bind,Option.pure_def] at VU
     cases hi:P.info? g.type with
     |none=>simp[hi] at VU
     |some gi=>
      cases hr:l.mapM (fun f=>(P.info? f.type).map fun i=>(f.offset,i.size)) with
      |none=>simp[hi,hr] at VU
      |some rest=>
       simp[hi,hr] at VU
       subst VU
       cases j with
       |zero=>
        simp at hj
        subst hj
        rw[t1] at hi;cases hi
        rfl
       |succ j=>simpa using ih rest hr j (by simpa using hj)
   rw[List.getElem?_toArray,this _ _ Sm i hfi,t2]
 intro ps
 induction ps with
 |nil=>intro zero zs xs hz he;simp only[List.map_nil,pH,af] at he;subst he;exact ⟨zs,rfl,hz⟩
 |cons p ps ih=>
  intro zero zs xs hz he
  obtain ⟨i,x⟩:=p
  simp only[bM,pH] at he
  split at he
  ·rename_i off ft ys h1 h2
   split at he
   ·rename_i e h3
    obtain ⟨h4,he⟩:=aH he
    obtain ⟨h5,h6⟩:=ba h4
    have h5:=aE h5
    have h6:=bD h6
    obtain ⟨hr,_⟩:=ta m h2 (RA x)
    have hl:=hr.length
    have UB:=hz.length
    simp only[bC] at hl UB
    have Ip:=MH ys _ hr zero zs.toList off hz
    rw[<- Jb] at Ip
    obtain ⟨cells,g1,g2⟩:=ih _ _ xs Ip he
    refine ⟨cells,?_,g2⟩
    simp only[bM]
    unfold Instr.fill
    rw[aaK i off ft e h1 h3]
    simp only[]
    rw[aD (by simp;omega)]
    rw[<- g1]
    congr 1
    rw[<- Array.foldl_toList,Array.toList_zipIdx]
   ·cases he
  ·cases he
theorem HV (T:qc P tt) (h:cn C S a w ρ Fs) {o:Oper} {t:Nat} {ps:Array (Nat×Operand)} (ho:o.op= .build t ps) {E:kG} (he:rN (R:=kG) tt S.hp n t (ps.toList.map fun p=>(p.1,St.rd C.N S.sl p.2)) some=some E): ∃u,Out P C S o E a w w ρ Fs u:=by
 unfold rN at he
 split at he
 ·rename_i fs sz bs hq
  split at he
  ·rename_i xs EB
   cases he
   obtain ⟨fields,f1,f2,f3⟩:=(T t _ hq).desc
   obtain ⟨i,z,z1,z2,z3,z4,z5,z6⟩:=pu T hq (by simp)
   have Sm: ∃places,fields.toList.mapM (fun f=>(P.info? f.type).map fun i=>(f.offset,i.size))=some places:=by
    have: ∀l:List Field,(∀f∈l,∃i,P.info? f.type=some i/\i.size≠0)-> ∃places,l.mapM (fun f=>(P.info? f.type).map fun i=>(f.offset,i.size))=some places:=by
     intro l
     induction l with
     |nil=>intro _;exact ⟨[],rfl⟩
     |cons f l ih=>
      intro hl
      obtain ⟨i,hi,_⟩:=hl f (by simp)
      obtain ⟨ps,VU⟩:=ih (fun g hg=>hl g (by simp[hg]))
      exact ⟨(f.offset,i.size)::ps,by simp[List.mapM_cons,hi,VU]⟩
    exact this _ f3
   obtain ⟨places,Sm⟩:=Sm
   obtain ⟨cells,c1,c2⟩:=OA T h.mem f2 places Sm a.eval h.rd ps.toList _ z.cells xs (by rw[z3];exact CV _ tt _) EB
   refine ⟨.agg cells,Out.pure h rfl ?_ ⟨cells.toList,by simp,c2⟩⟩
   simp only[execOp,ho]
   refine sY (run_build w t _ cells ?_)
   simp only[Program.built,z1,f1,z2,Sm]
   simpa using c1
  ·cases he
 ·rename_i m e sz bs hq
  split at he
  ·rename_i te VU K0
   cases he
   obtain ⟨i,i1,i2,i3,z,z1,z2⟩:=(T t _ hq).Gg
   have UB:z.cells.toList=List.replicate m (zeroV tt e):=z2
   obtain ⟨ie,e1,_⟩:=(T e _ K0).Gg
   have hd:P.underlying t=some (.array m e):=(T t _ hq).desc
   have ac6:ps.toList=[]:=by simpa using VU
   refine ⟨.agg z.cells,Out.pure h rfl ?_ ⟨z.cells.toList,by simp,?_⟩⟩
   ·simp only[execOp,ho]
    refine sY (run_build w t _ z.cells ?_)
    simp only[Program.built,i1,hd,z1,e1]
    simp[ac6,Instr.fill]
   ·rw[UB]
    have: ∀k,cw (C.env w ρ S.hp S.nx Fs) (List.replicate k (ry tt e)) (List.replicate k (zeroV tt e)):=by
     intro k
     induction k with
     |zero=>trivial
     |succ k ih=>exact ⟨Gn _ tt e,ih⟩
    exact this m
  ·cases he
 ·cases he
end
section
variable {P:Program} {tt:TT} {C:Cx} {S:St} {a:Act} {w:World} {ρ:Place} {Fs:Nat->FP} {n:Nat}
def oH (hp':Nat->Option aQ) (ks:List Nat):Prop:=ks.Nodup/\ ∀k∈ks,∃e v r,hp' k=some (.row e v r)
def Sub (hp' hp:Nat->Option aQ):Prop:= ∀j r,hp' j=some r->hp j=some r
theorem Sub.refl (hp:Nat->Option aQ):Sub hp hp:=fun _ _ h=>h
theorem Sub.kill {hp' hp:Nat->Option aQ} (h:Sub hp' hp) (ks:List Nat):Sub (kill hp' ks) hp:=fun j r hj=>h j r (yE hj).2
theorem oH.nil (hp':Nat->Option aQ):oH hp' []:=⟨by simp,by simp⟩
theorem oH.join {hp':Nat->Option aQ} {ks ks':List Nat} (h:oH hp' ks) (h':oH (kill hp' ks) ks'):oH hp' (ks++ks'):=by
 refine ⟨List.nodup_append.2 ⟨h.1,h'.1,fun a ha b hb=> ?_⟩,fun k hk=> ?_⟩
 ·rintro rfl
  obtain ⟨e,v,r,h2⟩:=h'.2 a hb
  exact (yE h2).1 ha
 ·rcases List.mem_append.1 hk with hk|hk
  ·exact h.2 k hk
  ·obtain ⟨e,v,r,h2⟩:=h'.2 k hk
   exact ⟨e,v,r,(yE h2).2⟩
theorem oH.live {hp' hp:Nat->Option aQ} {ks:List Nat} (h:oH hp' ks) (hs:Sub hp' hp): ∀k∈ks,∃r,hp k=some r/\r.real:=fun k hk=>by
 obtain ⟨e,v,r,h2⟩:=h.2 k hk
 exact ⟨_,hs _ _ h2,trivial⟩
theorem oH.lt (m:kU C S.hp S.nx w ρ Fs) {hp':Nat->Option aQ} {ks:List Nat} (h:oH hp' ks) (hs:Sub hp' S.hp): ∀k∈ks,k<S.nx:=fun k hk=>by
 obtain ⟨r,h2,_⟩:=h.live hs k hk
 exact eR m h2
theorem gK (Fs:Nat->FP) (b:Nat): ∀ks ks':List Nat,fh Fs (ks++ks') b=fh Fs ks b+fh Fs ks' b
 | [],ks'=>by simp[fh]
 |k::ks,ks'=>by simp[fh,gK Fs b ks ks',Nat.add_assoc]
theorem Al {w:World} {Z:Zs}: ∀ {cs:List Cell} {vs:List Value} {F:FP},(∀c∈cs,∃v,c= .sc v)->aG w Z cs vs F->F=fz
 | [],_,_,_,h=>h
 |c::cs,v::vs,F,hc,⟨F1,F2,h1,h2,hF⟩=>by
  obtain ⟨u,rfl⟩:=hc c (by simp)
  have:=Al (fun c' K8=>hc c' (by simp[K8])) h2
  rw[hF,h1.2,this,dw]
theorem MI (m:kU C S.hp S.nx w ρ Fs) {id e ver:Nat} {l:LI} (aJ:S.hp id=some (.row e ver (.ints .i64 l))) (hi:Nat) (IN:hi<=l.length) {v:Value} (hv:v=hdr (ρ id) hi) {Z:Zs}: ∃F,ik w Z (.sl true (l.take hi)) v F/\ ∀b,F b<=Fs id b:=by
 rcases m.roots id _ aJ with ⟨h1,h2,h3⟩| ⟨b,cap,arr,ty,F',h1,h2,h3,h4,h5,h6⟩
 ·simp only[Cx.env] at h1
  simp only[Row.len] at h2
  have hl:l=[]:=bG h2
  subst hl
  exact ⟨fz,.inl ⟨by rw[hv,h1];rfl,by simp,rfl⟩,fun b=>by simp⟩
 ·simp only[Cx.env] at h1 h2
  have Wu:F' =fz:=Al (fun c hc=>by simp only[Row.cells,du] at hc;obtain ⟨x,_,rfl⟩:=hc;exact ⟨_,rfl⟩) h5
  simp only[Row.len,Row.size,Nat.mul_one] at h3 h4
  refine ⟨f1 b,.inr ⟨b,cap,arr,ty,?_,h2,by simp;omega,h4,fun j z hj=> ?_,rfl⟩,fun b'=>by rw[h6,Wu,dw];exact ai _⟩
  ·rw[hv,h1]
   simp only[hdr,aP]
   rw[Nat.min_eq_left IN]
  ·rw[List.getElem?_take] at hj
   split at hj
   ·obtain ⟨v',F1,F2,q1,q2,_⟩:=h5.get (j:=j) (c:= .sc (.int .i64 z)) (by simp[Row.cells,hj])
    obtain ⟨rfl,_⟩:=q2
    simpa using q1
   ·cases hj
theorem wq (m:kU C S.hp S.nx w ρ Fs) {hp':Nat->Option aQ} (hs:Sub hp' S.hp) {x:LV} {o:Bool} {l:LI} {ks:List Nat} (he:uu hp' x=some (o,l,ks)) {v:Value} (hv:gJ (C.env w ρ S.hp S.nx Fs) x v): ∃F,ik w (C.ZL w (aR S.nx Fs)) (.sl o l) v F/\(∀b,F b<=fh Fs ks b)/\oH hp' ks/\(F≠fz->o=true)/\v.oneCell' =true:=by
 unfold uu at he
 split at he
 ·cases he
  exact ⟨fz,.inl ⟨hv,rfl,rfl⟩,fun b=>by simp,oH.nil _,fun h=>absurd rfl h,by rw[hv];rfl⟩
 ·rename_i p l'
  cases he
  obtain ⟨A,cap,h1,h2,h3⟩:=hv
  refine ⟨fz,⟨rfl,A,cap,h1,h2,fun nL=> ?_⟩,fun b=>by simp,oH.nil _,fun h=>absurd rfl h,by rw[h1];rfl⟩
  obtain ⟨ad,e,h0,vs,h4,h5⟩:=h3 (by simp only[Row.len];intro h;exact nL (bG h))
  refine ⟨ad,e,?_,fun j z hj=> ?_⟩
  ·cases p
   ·exact h0
   ·exact .inr h0
  ·obtain ⟨v',F1,F2,q1,q2,_⟩:=h5.get (j:=j) (c:= .sc (.int .i64 z)) (by simp[Row.cells,hj])
   obtain ⟨rfl,_⟩:=q2
   have:=h4 j (by simp[Row.cells];exact (List.getElem?_eq_some_iff.1 hj).1)
   rw[q1] at this
   exact this
 ·rename_i id
  split at he
  ·rename_i e ver l' aJ
   cases he
   obtain ⟨_,hx⟩:=hv
   obtain ⟨r',e1,e2⟩:=hx _ (hs _ _ aJ)
   cases e1
   obtain ⟨F,h1,h2⟩:=MI m (hs _ _ aJ) l.length (ai _) e2 (Z:=C.ZL w (aR S.nx Fs))
   rw[List.take_length] at h1
   exact ⟨F,h1,fun b=>by have:=h2 b;simp[fh];exact this,⟨by simp,fun k hk=>by simp at hk;subst hk;exact ⟨_,_,_,aJ⟩⟩,fun _=>rfl,by rw[e2];exact KE _ _⟩
  ·cases he
 ·rename_i id hi
  split at he
  ·rename_i e ver l' aJ
   cases he
   obtain ⟨_,hx⟩:=hv
   obtain ⟨r',e1,_,e3,e2⟩:=hx _ (hs _ _ aJ)
   cases e1
   have e4:v=hdr (ρ id) hi:=by
    rw[e2]
    simp only[Cx.env]
    cases hρ:ρ id with
    |none=>rfl
    |some q=>
     obtain ⟨b,cap⟩:=q
     simp only[oN,hdr,Row.size,Nat.zero_mul,Nat.sub_zero]
     split<;>rfl
   obtain ⟨F,h1,h2⟩:=MI m (hs _ _ aJ) hi e3 e4 (Z:=C.ZL w (aR S.nx Fs))
   exact ⟨F,h1,fun b=>by have:=h2 b;simp[fh];exact this,⟨by simp,fun k hk=>by simp at hk;subst hk;exact ⟨_,_,_,aJ⟩⟩,fun _=>rfl,by rw[e4];exact KE _ _⟩
  ·cases he
 ·cases he
theorem join_le (m:kU C S.hp S.nx w ρ Fs) {hp':Nat->Option aQ} (hs:Sub hp' S.hp) {ks ks':List Nat} (h:oH hp' (ks++ks')) (b:Nat):fh Fs ks b+fh Fs ks' b<=1:=by
 have h1:=oC Fs b S.nx h.1 (h.lt m hs)
 have h2:=m.one b
 rw[gK] at h1
 omega
theorem Am (m:kU C S.hp S.nx w ρ Fs) {hp':Nat->Option aQ} (hs:Sub hp' S.hp) {ks ks':List Nat} (ht:oH hp' (ks++ks')) {cs cs':List Cell} {vs Ec:List Value} {F F':FP}
 (h:aG w (Zu C w S.nx Fs ks F) cs vs F) (hl:vs.length=cs.length) (h':aG w (Zu C w S.nx Fs ks' F') cs' Ec F') (hF: ∀b,F b<=fh Fs ks b) (Wu: ∀b,F' b<=fh Fs ks' b):
 aG w (Zu C w S.nx Fs (ks++ks') (ez F F')) (cs++cs') (vs++Ec) (ez F F')/\ ∀b,ez F F' b<=fh Fs (ks++ks') b:=by
 refine ⟨aG.append (h.mono (fun b hb=>⟨?_,rfl⟩) (fun b _=>rfl)) hl (h'.mono (fun b hb=>⟨?_,rfl⟩) (fun b _=>rfl)),fun b=> ?_⟩
 ·rcases hb with hb| ⟨h1,h2⟩
  ·exact .inl hb
  ·have:=join_le m hs ht b
   have:=Wu b
   exact .inr ⟨by rw[gK];omega,by simp;omega⟩
 ·rcases hb with hb| ⟨h1,h2⟩
  ·exact .inl hb
  ·have:=join_le m hs ht b
   have:=hF b
   exact .inr ⟨by rw[gK];omega,by simp;omega⟩
 ·have:=hF b
  have:=Wu b
  rw[gK];simp;omega
theorem KF {ks:List Nat} {cs:List Cell} {vs:List Value} {F:FP} (h:aG w (Zu C w S.nx Fs ks F) cs vs F) (hF: ∀b,F b<=fh Fs ks b):aG w (Zu C w S.nx Fs ks fz) (cs.map Cell.jw) vs fz:=
 h.jw (fun b hb=>hb.imp (fun h=>h) (fun h=>⟨h.1,rfl⟩)) (fun b hb=> .inr ⟨bx hb (hF b),rfl⟩)
theorem An {ks:List Nat} {cs ct cf:List Cell} {vs:List Value} {F:FP} (h:aG w (Zu C w S.nx Fs ks F) cs vs F) (hF: ∀b,F b<=fh Fs ks b) (o:Bool) (h1:o=true->ct=cs) (h2:o=false->cf=cs.map Cell.jw): ∃F',aG w (Zu C w S.nx Fs ks F') (if o then ct else cf) vs F' /\ ∀b,F' b<=fh Fs ks b:=by
 cases o with
 |true=>rw[h1 rfl];exact ⟨F,h,hF⟩
 |false=>rw[h2 rfl];exact ⟨fz,KF h hF,fun b=>by simp⟩
theorem Gp {c:Cell} {v:Value} {F:FP} {ks:List Nat} (h:ik w (C.ZL w (aR S.nx Fs)) c v F):aG w (Zu C w S.nx Fs ks F) [c] [v] F:=
 ⟨F,fz,h.mono (fun b hb=>⟨.inl hb,rfl⟩) (fun b _=>rfl),rfl,(dw _).symm⟩
theorem pd (o:Bool) (x:iQ) (r:List iQ): ∀(sg:List Bool) (f:Nat),cR o (x::r) (f+1) sg=cR o r f sg
 | [],_=>rfl
 |true::sg,f=>by simp only[cR,pd o x r sg];simp[gl]
 |false::sg,f=>by simp only[cR,pd o x r sg];simp[gi]
theorem oI (o:Bool) (r:List iQ): ∀(sg:List Bool) (f:Nat),(cR o r f sg).map Cell.jw=cR false r f sg
 | [],_=>rfl
 |true::sg,f=>by simp[cR,oI o r sg,Cell.jw]
 |false::sg,f=>by simp[cR,oI o r sg,Cell.jw]
theorem KG (o o':Bool) (r:List iQ) (sg:List Bool) (f:Nat):(if o then cR true r f sg else cR false r f sg)=cR o r f sg:=by cases o<;>rfl
theorem zF (m:kU C S.hp S.nx w ρ Fs): ∀(sg:List Bool) (hp':Nat->Option aQ) (xs:List LV) (vs:List Value) (o:Bool) (r:List iQ) (ks:List Nat),Sub hp' S.hp->kx hp' sg xs=some (o,r,ks)->cw (C.env w ρ S.hp S.nx Fs) xs vs->
 ∃F,aG w (Zu C w S.nx Fs ks F) (cR o r 0 sg) vs F/\(∀b,F b<=fh Fs ks b)/\oH hp' ks/\vs.length=sg.length/\ ∀u∈vs,u.oneCell' =true:=by
 intro sg
 induction sg with
 |nil=>
  intro hp' xs vs o r ks hs he hv
  cases xs with
  |nil=>
   cases vs with
   |nil=>simp only[kx,af,aA] at he;obtain ⟨rfl,rfl,rfl⟩:=he;exact ⟨fz,rfl,fun b=>by simp,oH.nil _,rfl,by simp⟩
   |cons v vs=>exact absurd hv id
  |cons x xs=>simp[kx] at he
 |cons b sg ih=>
  intro hp' xs vs o r ks hs he hv
  cases xs with
  |nil=>cases b<;>simp[kx] at he
  |cons x xs=>
   cases vs with
   |nil=>exact absurd hv id
   |cons v vs=>
    cases b with
    |false=>
     cases x with
     |i k z=>
      cases k with
      |i64=>
       simp only[kx] at he
       split at he
       ·rename_i o' r' ks' hq
        cases he
        obtain ⟨F,h1,h2,h3,h4,h5⟩:=ih hp' xs vs _ _ _ hs hq hv.2
        have Jm:v= .int .i64 z:=hv.1
        refine ⟨F,?_,h2,h3,by simp[h4],fun u hu=> ?_⟩
        ·simp only[cR,pd,gi,Nat.zero_add]
         exact ⟨fz,F,⟨Jm,rfl⟩,h1,(lU F).symm⟩
        ·rcases List.mem_cons.1 hu with rfl|hu
         ·rw[Jm];rfl
         ·exact h5 u hu
       ·cases he
      |_=>simp[kx] at he
     |_=>simp[kx] at he
    |true=>
     simp only[kx] at he
     split at he
     ·rename_i o1 l QD hq1
      split at he
      ·rename_i o2 r' Y7 Na
       cases he
       obtain ⟨F1,a1,a2,a3,a4,a5⟩:=wq m hs hq1 hv.1
       obtain ⟨F2,b1,b2,b3,b4,b5⟩:=ih _ xs vs _ _ _ (hs.kill QD) Na hv.2
       have ht:=a3.join b3
       obtain ⟨j1,j2⟩:=Am m hs ht (Gp a1) rfl b1 a2 b2
       obtain ⟨F',s1,s2⟩:=An j1 j2 (o1&&o2) (ct:=cR true (.ints l::r') 0 (true::sg)) (cf:=cR false (.ints l::r') 0 (true::sg))
        (fun ho=>by obtain ⟨rfl,rfl⟩:=ba ho;simp[cR,pd,gl])
        (fun _=>by simp[cR,pd,gl,oI,Cell.jw])
       refine ⟨F',?_,s2,ht,by simp[b4],fun u hu=> ?_⟩
       ·rw[KG _ true] at s1;exact s1
       ·rcases List.mem_cons.1 hu with rfl|hu
        ·exact a5
        ·exact b5 u hu
      ·cases he
     ·cases he
def jI (E:Env):List AV->List Value->Prop
 | [],[]=>True
 |x::xs,v::vs=>jC E x v/\jI E xs vs
 |_,_=>False
abbrev flat (vs:List Value):List Value:=vs.flatMap fun v=>v.cells.toList
theorem pJ (v:Value) (vs:List Value):flat (v::vs)=v.cells.toList++flat vs:=by simp[flat]
theorem BZ {r:Row} (h:r.len=0):r.cells=[]:=bG (by rw[Row.gm,h,Nat.zero_mul])
theorem OB {hp:Nat->Option aQ} {k:IntKind} {xs:List AV} {r:Row} {ks:List Nat} (h:rowOf hp (.ints k []) xs=some (r,ks)): ∃l,r= .ints k l:=by
 cases xs with
 |nil=>simp only[rowOf,af,aA] at h;exact ⟨_,h.1.symm⟩
 |cons x xs=>
  cases x with
  |KY _=>simp[rowOf] at h
  |one x=>cases x with
   |agg _=>simp[rowOf] at h
   |l x=>cases x with
    |i k' z=>
     simp only[rowOf] at h
     obtain ⟨_,h⟩:=aH h
     split at h
     ·simp only[af,aA] at h;exact ⟨_,h.1.symm⟩
     ·cases h
    |_=>simp[rowOf] at h
theorem OC {hp:Nat->Option aQ} {sg:List Bool} {xs:List AV} {r:Row} {ks:List Nat} (h:rowOf hp (.ek sg true []) xs=some (r,ks)): ∃o l,r= .ek sg o l:=by
 cases xs with
 |nil=>simp only[rowOf,af,aA] at h;exact ⟨_,_,h.1.symm⟩
 |cons x xs=>
  cases x with
  |KY _=>simp[rowOf] at h
  |one x=>cases x with
   |l _=>simp[rowOf] at h
   |agg x=>
    simp only[rowOf] at h
    split at h
    ·split at h
     ·simp only[af,aA] at h;exact ⟨_,_,h.1.symm⟩
     ·cases h
    ·cases h
theorem DQ (m:kU C S.hp S.nx w ρ Fs): ∀(xs:List AV) (vs:List Value) (hp':Nat->Option aQ) (r0 r:Row) (ks:List Nat),Sub hp' S.hp->r0.len=0->rowOf hp' r0 xs=some (r,ks)->jI (C.env w ρ S.hp S.nx Fs) xs vs->
 ∃F,aG w (Zu C w S.nx Fs ks F) r.cells (flat vs) F/\(∀b,F b<=fh Fs ks b)/\oH hp' ks/\r.len=xs.length/\r.size=r0.size/\(∀v∈vs,v.cells.size=r0.size)/\vs.length=xs.length/\(∀u∈flat vs,u.oneCell' =true)/\r.deep=r0.deep/\(r0.ur=false-> ∀v∈vs,v.oneCell' =true):=by
 intro xs
 induction xs with
 |nil=>
  intro vs hp' r0 r ks hs h0 he hv
  cases vs with
  |cons v vs=>exact absurd hv id
  |nil=>
   have:r0=r/\ks=[]:=by
    cases r0<;>simp only[rowOf,af,aA] at he<;>exact ⟨he.1,he.2.symm⟩
   obtain ⟨rfl,rfl⟩:=this
   rw[BZ h0]
   exact ⟨fz,rfl,fun b=>by simp,oH.nil _,h0,rfl,by simp,rfl,by simp[flat],rfl,by simp⟩
 |cons x xs ih=>
  intro vs hp' r0 r ks hs h0 he hv
  cases vs with
  |nil=>exact absurd hv id
  |cons v vs=>
   obtain ⟨Jm,zc⟩:=hv
   have plain: ∀(c:Cell) (r1 r2:Row) (ks':List Nat) (u:Value),v=u->u.oneCell' =true->(∀Z,ik w Z c u fz)->r1.len=0->r1.size=1->r0.size=1->r1.ur=false->r.deep=r0.deep->rowOf hp' r1 xs=some (r2,ks')->r.cells=c::r2.cells->ks=ks'->r.len=r2.len+1->r.size=1->
    ∃F,aG w (Zu C w S.nx Fs ks F) r.cells (flat (v::vs)) F/\(∀b,F b<=fh Fs ks b)/\oH hp' ks/\r.len=(x::xs).length/\r.size=r0.size/\(∀v' ∈v::vs,v'.cells.size=r0.size)/\(v::vs).length=(x::xs).length/\(∀u∈flat (v::vs),u.oneCell' =true)/\r.deep=r0.deep/\(r0.ur=false-> ∀u∈v::vs,u.oneCell' =true):=by
    intro c r1 r2 ks' u hvu o9 hc hr1 UE hs0 hir QI hq OD yU hlen xY
    obtain ⟨F,h1,h2,h3,h4,h5,h6,h7,h8,h9,UH⟩:=ih vs hp' r1 r2 ks' hs hr1 hq zc
    subst yU hvu
    have yd:v.cells= #[v]:=rZ o9
    refine ⟨F,?_,h2,h3,by simp[hlen,h4],by rw[xY,hs0],fun v' Ed=> ?_,by simp[h7],fun u hu=> ?_,QI,fun _ u hu=> ?_⟩
    ·rw[OD,pJ,yd]
     exact ⟨fz,F,hc _,h1,(lU F).symm⟩
    ·rcases List.mem_cons.1 Ed with rfl|Ed
     ·rw[yd,hs0];rfl
     ·rw[h6 v' Ed,UE,hs0]
    ·rw[pJ,yd] at hu
     rcases List.mem_append.1 hu with hu|hu
     ·simp at hu;subst hu;exact o9
     ·exact h8 u hu
    ·rcases List.mem_cons.1 hu with rfl|hu
     ·exact o9
     ·exact UH hir u hu
   unfold rowOf at he
   split at he
   ·rename_i Gq;cases Gq
   ·rename_i k _ k' z Zg Gq
    cases Gq
    by_cases hk:k=k'
    ·subst hk
     simp only[decide_true,ak] at he
     split at he
     ·rename_i k2 l ks' hq
      cases he
      obtain ⟨_,e⟩:=OB hq
      cases e
      exact plain (.sc (.int k z)) (.ints k []) (.ints k l) _ (.int k z) Jm rfl (fun Z=>⟨rfl,rfl⟩) rfl rfl rfl rfl rfl hq rfl rfl rfl rfl
     ·cases he
    ·simp[hk] at he
   ·rename_i z Zg Gq
    cases Gq
    split at he
    ·rename_i l ks' hq
     cases he
     exact plain (.sc (.bool z)) (.eQ []) (.eQ l) _ (.bool z) Jm rfl (fun Z=>⟨rfl,rfl⟩) rfl rfl rfl rfl rfl hq rfl rfl rfl rfl
    ·cases he
   ·rename_i z Zg Gq
    cases Gq
    split at he
    ·rename_i l ks' hq
     cases he
     exact plain (.sc (.string z)) (.strs []) (.strs l) _ (.string z) Jm rfl (fun Z=>⟨rfl,rfl⟩) rfl rfl rfl rfl rfl hq rfl rfl rfl rfl
    ·cases he
   ·rename_i z Zg Gq
    cases Gq
    split at he
    ·rename_i o1 y QD hq1
     split at he
     ·rename_i o2 l Y7 Na
      cases he
      obtain ⟨F1,a1,a2,a3,a4,a5⟩:=wq m hs hq1 Jm
      obtain ⟨F2,b1,b2,b3,b4,b5,b6,b7,b8,b9,b10⟩:=ih vs _ _ _ _ (hs.kill QD) rfl Na zc
      have ht:=a3.join b3
      have yd:v.cells= #[v]:=rZ a5
      obtain ⟨j1,j2⟩:=Am m hs ht (Gp a1) rfl b1 a2 b2
      obtain ⟨F',s1,s2⟩:=An j1 j2 (o1&&o2) (ct:=(Row.rows true (y::l)).cells) (cf:=(Row.rows false (y::l)).cells)
       (fun ho=>by obtain ⟨rfl,rfl⟩:=ba ho;simp[Row.cells])
       (fun _=>by simp[Row.cells,Cell.jw,Function.comp_def])
      refine ⟨F',?_,s2,ht,by simp only[Row.len] at b4 ⊢;simp[b4],rfl,fun v' Ed=> ?_,by simp[b7],fun u hu=> ?_,rfl,fun _ u hu=> ?_⟩
      ·rw[pJ,yd]
       have:(if (o1&&o2)=true then (Row.rows true (y::l)).cells else (Row.rows false (y::l)).cells)=(Row.rows (o1&&o2) (y::l)).cells:=by cases (o1&&o2)<;>rfl
       rw[this] at s1
       exact s1
      ·rcases List.mem_cons.1 Ed with rfl|Ed
       ·rw[yd];rfl
       ·rw[b6 v' Ed];rfl
      ·rw[pJ,yd] at hu
       rcases List.mem_append.1 hu with hu|hu
       ·simp at hu;subst hu;exact a5
       ·exact b8 u hu
      ·rcases List.mem_cons.1 hu with rfl|hu
       ·exact a5
       ·exact b10 rfl u hu
     ·cases he
    ·cases he
   ·rename_i sg _ _ z Zg Gq
    cases Gq
    split at he
    ·rename_i o1 y QD hq1
     split at he
     ·rename_i _ o2 l Y7 Na
      cases he
      obtain ⟨us,rfl,hus⟩:=Jm
      obtain ⟨F1,a1,a2,a3,a4,a5⟩:=zF m _ _ _ _ _ _ _ hs hq1 hus
      obtain ⟨F2,b1,b2,b3,b4,b5,b6,b7,b8,b9,b10⟩:=ih vs _ _ _ _ (hs.kill QD) rfl Na zc
      have ht:=a3.join b3
      obtain ⟨_,_,e⟩:=OC Na
      cases e
      obtain ⟨j1,j2⟩:=Am m hs ht a1 (by rw[dV,a4]) b1 a2 b2
      obtain ⟨F',s1,s2⟩:=An j1 j2 (o1&&o2) (ct:=(Row.ek sg true (y::l)).cells) (cf:=(Row.ek sg false (y::l)).cells)
       (fun ho=>by obtain ⟨rfl,rfl⟩:=ba ho;simp[Row.cells])
       (fun _=>by
         have:=CI (Row.ek sg o2 l)
         simp only[Row.jw] at this
         simp only[Row.cells,List.flatMap_cons,List.map_append,oI] at this ⊢
         rw[<- this])
      refine ⟨F',?_,s2,ht,by simp only[Row.len] at b4 ⊢;simp[b4],rfl,fun v' Ed=> ?_,by simp[b7],fun u hu=> ?_,rfl,fun hh=>by cases hh⟩
      ·rw[pJ]
       have:(if (o1&&o2)=true then (Row.ek sg true (y::l)).cells else (Row.ek sg false (y::l)).cells)=(Row.ek sg (o1&&o2) (y::l)).cells:=by cases (o1&&o2)<;>rfl
       rw[this] at s1
       exact s1
      ·rcases List.mem_cons.1 Ed with rfl|Ed
       ·simp[Value.cells,Row.size,a4]
       ·rw[b6 v' Ed];rfl
      ·rw[pJ] at hu
       rcases List.mem_append.1 hu with hu|hu
       ·exact a5 u (by simpa[Value.cells] using hu)
       ·exact b8 u hu
     ·cases he
    ·cases he
   ·cases he
end
