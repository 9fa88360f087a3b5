/- The abstract evaluator and its soundness: part VOpH. Conditions: as each section says. -/
import Derived.Test.YtbmmhdmljajcfaaGreatDoorVEval
import Derived.OwnWalk
import Derived.Calls
import Derived.WalkKit
import Derived.WalkLawsBesides
import Derived.Stop.IfaceNil
import Derived.Laws.BytesString
import Derived.Laws.Tables
import Derived.Great.FillDense
import Derived.Great.BuildSlice
import Derived.Laws.MakeOwn
set_option linter.unusedVariables false
set_option linter.unusedSimpArgs false
namespace Go.Proofs.YtbmmhdmljajcfaaGreatDoor.V
open Go
abbrev FP:=Nat->Nat
def fz:FP:=fun _=>0
def f1 (b:Nat):FP:=fun x=>if x=b then 1 else 0
def cn (F G:FP):FP:=fun x=>F x+G x
theorem b_ (F:FP):cn F fz=F:=by funext x;simp[cn,fz]
theorem gV (F:FP):cn fz F=F:=by funext x;simp[cn,fz]
theorem pb (F G H:FP):cn (cn F G) H=cn F (cn G H):=by funext x;simp[cn,Nat.add_assoc]
theorem qw (F G H:FP):cn F (cn G H)=cn G (cn F H):=by funext x;simp[cn];omega
@[simp] theorem VI (b:Nat):fz b=0:=rfl
@[simp] theorem CW (F G:FP) (b:Nat):cn F G b=F b+G b:=rfl
@[simp] theorem TG (b:Nat):f1 b b=1:=by simp[f1]
theorem xn (b x:Nat):f1 b x=if x=b then 1 else 0:=rfl
abbrev Zs:=Nat->Prop
def GU (w:World) (ad:Addr) (l:List Int):Prop:= ∀(j:Nat) (n:Int),l[j]? =some n->w.cell? (ad.add j)=some (.int .i64 n)
def dZ (w:World) (Z:Zs):Cell->Value->FP->Prop
 | .free,_,F=>F=fz
 | .sc u,v,F=>v=u/\F=fz
 | .sl false l,v,F=>F=fz/\ ∃A cap,v= .slice A l.length cap/\l.length<=cap/\(l≠[]-> ∃ad,A=some ad/\Z ad.block/\GU w ad l)
 | .sl true l,v,F=>(v= .slice none 0 0/\l=[]/\F=fz)\/ ∃b cap arr ty,v= .slice (some ⟨b,0,none⟩) l.length cap/\w.heap[b]? =some (.cells arr ty (0,0))/\l.length<=cap/\cap<=arr.size/\(∀(j:Nat) (n:Int),l[j]? =some n->arr[j]? =some (Value.int .i64 n))/\F=f1 b
def ah (w:World) (Z:Zs):List Cell->List Value->FP->Prop
 | [],_,F=>F=fz
 |c::cs,v::vs,F=> ∃F1 F2,dZ w Z c v F1/\ah w Z cs vs F2/\F=cn F1 F2
 |_::_,[],_=>False
theorem lF {w w':World} {a:Addr} (h:w'.heap[a.block]? =w.heap[a.block]?):w'.cell? a=w.cell? a:=by
 unfold World.cell?;rw[h]
theorem mF (a:Addr) (n:Nat):(a.add n).block=a.block:=by unfold Addr.add;split<;>rfl
theorem add_add (a:Addr) (m n:Nat):(a.add m).add n=a.add (m+n):=by
 unfold Addr.add
 by_cases hm:m=0
 ·subst hm;simp
 ·by_cases hn:n=0
  ·subst hn;simp[hm]
  ·simp[hm,hn,Nat.add_assoc]
theorem add_zero (a:Addr):a.add 0=a:=by simp[Addr.add]
theorem dr (b m n:Nat):(⟨b,m,none⟩:Addr).add n=⟨b,m+n,none⟩:=by unfold Addr.add;split<;>simp_all
theorem bJ {w:World} {b:Nat} {arr:Array Value} {ty:TypeId} {fr:Nat×Nat} (h:w.heap[b]? =some (.cells arr ty fr)) (j:Nat):w.cell? ⟨b,j,none⟩=arr[j]? :=by
 simp[World.cell?,h]
theorem dZ.mono {w w':World} {Z Z':Zs} {c:Cell} {v:Value} {F:FP} (h:dZ w Z c v F) (hz: ∀b,Z b->Z' b/\w'.heap[b]? =w.heap[b]?) (hf: ∀b,1<=F b->w'.heap[b]? =w.heap[b]?):dZ w' Z' c v F:=by
 match c,h with
 | .free,h=>exact h
 | .sc u,h=>exact h
 | .sl false l,⟨h0,A,cap,hv,Cg,hl⟩=>
   refine ⟨h0,A,cap,hv,Cg,fun mg=> ?_⟩
   obtain ⟨ad,e,hZ,hi⟩:=hl mg
   refine ⟨ad,e,(hz _ hZ).1,fun j n hj=> ?_⟩
   rw[lF (w:=w) (by rw[mF];exact (hz _ hZ).2)]
   exact hi j n hj
 | .sl true l,.inl h=>exact .inl h
 | .sl true l,.inr ⟨b,cap,arr,ty,hv,hb,h1,h2,h3,hF⟩=>
   exact .inr ⟨b,cap,arr,ty,hv,by rw[hf b (by rw[hF];simp)];exact hb,h1,h2,h3,hF⟩
theorem ah.mono {w w':World} {Z Z':Zs} (hz: ∀b,Z b->Z' b/\w'.heap[b]? =w.heap[b]?): ∀ {cs:List Cell} {vs:List Value} {F:FP},ah w Z cs vs F->(∀b,1<=F b->w'.heap[b]? =w.heap[b]?)->ah w' Z' cs vs F
 | [],_,_,h,_=>h
 |c::cs,v::vs,F,⟨F1,F2,h1,h2,hF⟩,hf=>⟨F1,F2,h1.mono hz (fun b hb=>hf b (by rw[hF];simp;omega)),ah.mono hz h2 (fun b hb=>hf b (by rw[hF];simp;omega)),hF⟩
theorem ah.get {w:World} {Z:Zs}: ∀ {cs:List Cell} {vs:List Value} {F:FP},ah w Z cs vs F-> ∀ {j:Nat} {c:Cell},cs[j]? =some c-> ∃v F1 F2,vs[j]? =some v/\dZ w Z c v F1/\F=cn F1 F2/\
 ∀(c':Cell) (v':Value) (F':FP),dZ w Z c' v' F'->ah w Z (cs.set j c') (vs.set j v') (cn F' F2)
 |c0::cs,v::vs,F,⟨F1,F2,h1,h2,hF⟩,0,c,hc=>by
  simp at hc;subst hc
  exact ⟨v,F1,F2,rfl,h1,hF,fun c' v' F' h'=>⟨F',F2,h',h2,rfl⟩⟩
 |c0::cs,v::vs,F,⟨F1,F2,h1,h2,hF⟩,j+1,c,hc=>by
  obtain ⟨v',G1,G2,e,hr,hG,pI⟩:=ah.get h2 (j:=j) (c:=c) (by simpa using hc)
  refine ⟨v',G1,cn F1 G2,by simpa using e,hr,by rw[hF,hG,qw],fun c' Xe F' h'=> ?_⟩
  exact ⟨F1,cn F' G2,h1,pI c' Xe F' h',qw ..⟩
theorem ah.length {w:World} {Z:Zs}: ∀ {cs:List Cell} {vs:List Value} {F:FP},ah w Z cs vs F->cs.length<=vs.length
 | [],_,_,_=>by simp
 |c::cs,v::vs,F,⟨F1,F2,h1,h2,hF⟩=>by have:=ah.length h2;simp;omega
theorem ah.append {w:World} {Z:Zs}: ∀ {cs ds:List Cell} {vs us:List Value} {F G:FP},ah w Z cs vs F->vs.length=cs.length->ah w Z ds us G->ah w Z (cs++ds) (vs++us) (cn F G)
 | [],ds,[],us,F,G,h,_,h'=>by cases h;rw[gV];exact h'
 |c::cs,ds,v::vs,us,F,G,⟨F1,F2,h1,h2,hF⟩,hl,h'=>⟨F1,cn F2 G,h1,ah.append h2 (by simpa using hl) h',by rw[hF,pb]⟩
theorem ah.more {w:World} {Z:Zs}: ∀ {cs:List Cell} {vs:List Value} {F:FP} (us:List Value),ah w Z cs vs F->ah w Z cs (vs++us) F
 | [],_,_,_,h=>h
 |c::cs,v::vs,F,us,⟨F1,F2,h1,h2,hF⟩=>⟨F1,F2,h1,ah.more us h2,hF⟩
theorem ah.take {w:World} {Z:Zs}: ∀ {cs:List Cell} {vs:List Value} {F:FP} (n:Nat),ah w Z cs vs F-> ∃F1,ah w Z (cs.take n) (vs.take n) F1/\ ∀b,F1 b<=F b
 | [],vs,F,n,h=>⟨fz,by simp[ah],fun b=>by simp⟩
 |c::cs,v::vs,F,0,h=>⟨fz,by simp[ah],fun b=>by simp⟩
 |c::cs,v::vs,F,n+1,⟨F1,F2,h1,h2,hF⟩=>by
  obtain ⟨G,hG,hle⟩:=ah.take n h2
  exact ⟨cn F1 G,⟨F1,G,h1,by simpa using hG,rfl⟩,fun b=>by have:=hle b;rw[hF];simp;omega⟩
theorem ah.drop {w:World} {Z:Zs}: ∀ {cs:List Cell} {vs:List Value} {F:FP} (n:Nat),ah w Z cs vs F-> ∃F1,ah w Z (cs.drop n) (vs.drop n) F1/\ ∀b,F1 b<=F b
 | [],vs,F,n,h=>⟨fz,by simp[ah],fun b=>by simp⟩
 |c::cs,v::vs,F,0,h=>⟨F,by simpa using h,fun b=>Nat.le_refl _⟩
 |c::cs,v::vs,F,n+1,⟨F1,F2,h1,h2,hF⟩=>by
  obtain ⟨G,hG,hle⟩:=ah.drop n h2
  exact ⟨G,by simpa using hG,fun b=>by have:=hle b;rw[hF];simp;omega⟩
theorem ah.shrink {w:World} {Z:Zs}: ∀ {cs:List Cell} {vs:List Value} {F:FP},ah w Z cs vs F->ah w Z cs (vs.take cs.length) F
 | [],vs,F,h=>h
 |c::cs,v::vs,F,⟨F1,F2,h1,h2,hF⟩=>⟨F1,F2,h1,by simpa using ah.shrink h2,hF⟩
def Cell.eb:Cell->Cell
 | .sl _ l=> .sl false l
 |c=>c
theorem dZ.eb {w:World} {Z Z':Zs} {c:Cell} {v:Value} {F:FP} (h:dZ w Z c v F) (hz: ∀b,Z b->Z' b) (hf: ∀b,1<=F b->Z' b):dZ w Z' c.eb v fz:=by
 match c,h with
 | .free,h=>rfl
 | .sc u,h=>exact ⟨h.1,rfl⟩
 | .sl false l,⟨h0,A,cap,hv,Cg,hl⟩=>
   refine ⟨rfl,A,cap,hv,Cg,fun mg=> ?_⟩
   obtain ⟨ad,e,hZ,hi⟩:=hl mg
   exact ⟨ad,e,hz _ hZ,hi⟩
 | .sl true l,.inl ⟨h1,h2,h3⟩=>subst h2;exact ⟨rfl,none,0,h1,Nat.le_refl _,fun h=>absurd rfl h⟩
 | .sl true l,.inr ⟨b,cap,arr,ty,hv,hb,h1,h2,h3,hF⟩=>
   refine ⟨rfl,_,cap,hv,h1,fun _=>⟨⟨b,0,none⟩,rfl,hf b (by rw[hF];simp),fun j n hj=> ?_⟩⟩
   rw[dr,Nat.zero_add,bJ hb]
   exact h3 j n hj
theorem ah.eb {w:World} {Z Z':Zs} (hz: ∀b,Z b->Z' b): ∀ {cs:List Cell} {vs:List Value} {F:FP},ah w Z cs vs F->(∀b,1<=F b->Z' b)->ah w Z' (cs.map Cell.eb) vs fz
 | [],_,_,h,_=>rfl
 |c::cs,v::vs,F,⟨F1,F2,h1,h2,hF⟩,hf=>⟨fz,fz,h1.eb hz (fun b hb=>hf b (by rw[hF];simp;omega)),ah.eb hz h2 (fun b hb=>hf b (by rw[hF];simp;omega)),(b_ _).symm⟩
theorem cb (o:Bool) (r:List jC): ∀(sg:List Bool) (f:Nat),(bn o r f sg).length=sg.length
 | [],_=>rfl
 |true::sg,f=>by simp[bn,cb o r sg]
 |false::sg,f=>by simp[bn,cb o r sg]
theorem ng {α β:Type} (g:α->List β) (n:Nat) (h: ∀x,(g x).length=n): ∀l:List α,(l.flatMap g).length=l.length*n
 | []=>by simp
 |x::l=>by simp[ng g n h l,h,Nat.succ_mul,Nat.add_comm]
theorem xF {α β:Type} (g:α->List β) (n:Nat) (h: ∀x,(g x).length=n): ∀(l:List α) (i f:Nat),f<n->(l.flatMap g)[i*n+f]? =(l[i]?).bind (fun x=>(g x)[f]?)
 | [],i,f,_=>by simp
 |x::l,0,f,hf=>by simp[List.getElem?_append,h,hf]
 |x::l,i+1,f,hf=>by
  have e:(i+1)*n+f=n+(i*n+f):=by rw[Nat.succ_mul];omega
  simp only[List.flatMap_cons,e]
  rw[List.getElem?_append_right (by rw[h];omega),h,Nat.add_sub_cancel_left,xF g n h l i f hf]
  simp
theorem Row.dn (r:Row):r.cells.length=r.len*r.size:=by
 cases r<;>simp[Row.cells,Row.len,Row.size]
 rename_i sg o l
 have:=ng (fun r=>bn o r 0 sg) sg.length (fun x=>cb ..) l
 simpa using this
theorem fH (o:Bool) (r:List jC): ∀(sg:List Bool) (f j:Nat),(bn o r f sg)[j]? =(sg[j]?).map fun b=>if b then Cell.sl o (gl r (f+j)) else .sc (.int .i64 (gi r (f+j)))
 | [],f,j=>by simp[bn]
 |true::sg,f,0=>by simp[bn]
 |false::sg,f,0=>by simp[bn]
 |true::sg,f,j+1=>by simp only[bn,List.getElem?_cons_succ,fH o r sg];congr 1;funext b;rw[show f+1+j=f+(j+1) by omega]
 |false::sg,f,j+1=>by simp only[bn,List.getElem?_cons_succ,fH o r sg];congr 1;funext b;rw[show f+1+j=f+(j+1) by omega]
theorem ov (sg:List Bool) (o:Bool) (l:List (List jC)) (i f:Nat) (hf:f<sg.length):(Row.cB sg o l).cells[i*sg.length+f]? =(l[i]?).bind fun r=>(sg[f]?).map fun b=>if b then Cell.sl o (gl r f) else .sc (.int .i64 (gi r f)):=by
 simp only[Row.cells]
 rw[xF (fun r=>bn o r 0 sg) sg.length (fun x=>cb ..) l i f hf]
 congr 1;funext r
 rw[fH];simp
theorem wM (r:Row):r.eb.cells=r.cells.map Cell.eb:=by
 cases r<;>simp[Row.eb,Row.cells,Function.comp_def,Cell.eb]
 rename_i sg o l
 rw[List.map_flatMap]
 congr 1;funext r
 apply List.ext_getElem?
 intro j
 rw[List.getElem?_map,fH,fH]
 cases sg[j]? with
 |none=>rfl
 |some b=>cases b<;>simp[Cell.eb]
theorem jb (r:Row):r.eb.len=r.len:=by cases r<;>rfl
theorem EC (r:Row):r.eb.size=r.size:=by cases r<;>rfl
theorem take_size (r:Row) (n:Nat):(r.take n).size=r.size:=by cases r<;>rfl
theorem B5 (r:Row) (n:Nat):(r.drop n).size=r.size:=by cases r<;>rfl
theorem take_len (r:Row) (n:Nat):(r.take n).len=min n r.len:=by cases r<;>simp[Row.take,Row.len]
theorem mW (r:Row) (n:Nat):(r.drop n).len=r.len-n:=by cases r<;>simp[Row.drop,Row.len]
theorem uZ {α β:Type} (g:α->List β) (n:Nat) (h: ∀x,(g x).length=n): ∀(l:List α) (k:Nat),(l.take k).flatMap g=(l.flatMap g).take (k*n)
 | [],k=>by simp
 |x::l,0=>by simp
 |x::l,k+1=>by
  simp only[List.take_succ_cons,List.flatMap_cons,uZ g n h l k]
  have e:(k+1)*n=n+k*n:=by rw[Nat.succ_mul];omega
  rw[List.take_append,h,e,Nat.add_sub_cancel_left,List.take_of_length_le (l:=g x) (by rw[h];omega)]
theorem u7 {α β:Type} (g:α->List β) (n:Nat) (h: ∀x,(g x).length=n): ∀(l:List α) (k:Nat),(l.drop k).flatMap g=(l.flatMap g).drop (k*n)
 | [],k=>by simp
 |x::l,0=>by simp
 |x::l,k+1=>by
  simp only[List.drop_succ_cons,List.flatMap_cons,u7 g n h l k]
  have e:(k+1)*n=n+k*n:=by rw[Nat.succ_mul];omega
  rw[List.drop_append,h,e,Nat.add_sub_cancel_left,List.drop_of_length_le (l:=g x) (by rw[h];omega),List.nil_append]
theorem o_ (r:Row) (n:Nat):(r.take n).cells=r.cells.take (n*r.size):=by
 cases r<;>simp[Row.take,Row.cells,Row.size,List.map_take]
 exact uZ _ _ (fun x=>cb ..) _ _
theorem zB (r:Row) (n:Nat):(r.drop n).cells=r.cells.drop (n*r.size):=by
 cases r<;>simp[Row.drop,Row.cells,Row.size,List.map_drop]
 exact u7 _ _ (fun x=>cb ..) _ _
def oJ (w:World) (Z:Zs) (ad:Addr) (cs:List Cell):Prop:=Z ad.block/\ ∃vs:List Value,(∀j,j<cs.length->w.cell? (ad.add j)=vs[j]?)/\ah w Z cs vs fz
def ea (w:World) (Z:Zs) (r:Row) (v:Value):Prop:= ∃A cap,v= .slice A r.len cap/\r.len<=cap/\(r.len≠0-> ∃ad,A=some ad/\oJ w Z ad r.cells)
abbrev Place:=Nat->Option (Nat×Nat)
def hdr (q:Option (Nat×Nat)) (n:Nat):Value:=match q with
 |none=> .slice none 0 0
 |some (b,cap)=> .slice (some ⟨b,0,none⟩) n cap
def j7 (q:Option (Nat×Nat)) (size lo hi:Nat):Value:=match q with
 |none=> .slice none 0 0
 |some (b,cap)=> .slice (some (if cap=lo then ⟨b,0,none⟩ else ⟨b,lo*size,none⟩)) (hi-lo) (cap-lo)
theorem wY {r:Row} {f:Nat} (h:r.jA f=true):r.deep=true:=by cases r<;>first|rfl|cases h
theorem CM {r:Row} {f:Nat} (h:r.jA f=true):f<r.size:=by
 cases r with
 |rows o l=>simp[Row.jA] at h;subst h;simp[Row.size]
 |cB sg o l=>
  simp only[Row.jA] at h
  cases e:sg[f]? with
  |none=>rw[e] at h;cases h
  |some b=>exact (List.getElem?_eq_some_iff.1 e).1
 |_=>cases h
def aq.row? :aq->Option Row
 | .row _ _ r=>some r
 | .hole _ _ r _ _=>some r
 | .box _ _=>none
 | .dH=>none
def aq.ver:aq->Nat
 | .row _ v _=>v
 | .hole _ v _ _ _=>v
 | .box _ _=>0
 | .dH=>0
def aq.real:aq->Prop
 | .dH=>False
 |_=>True
def cellAt (w:World) (q:Option (Nat×Nat)) (j:Nat):Option Value:=match q with
 |none=>none
 |some (b,_)=>w.cell? ⟨b,j,none⟩
structure Env where
 w:World
 Zf:Zs
 ZL:Zs
 ρ:Place
 hp:Nat->Option aq
 nx:Nat
def dD (E:Env):LV->Value->Prop
 | .any,_=>True
 | .undef,v=>v=undef
 | .i k n,v=>v= .int k n
 | .b x,v=>v= .bool x
 | .s x,v=>v= .string x
 | .er true,v=>v= .nilIface
 | .er false,v=> ∃t x,v= .iface t x
 | .fn f,v=>v= .func (.func f) #[] #[]
 | .nil,v=>v= .slice none 0 0
 | .val p r,v=>ea E.w (if p then E.Zf else E.ZL) r v
 | .own id,v=>id<E.nx/\ ∀root,E.hp id=some root-> ∃r,root.row? =some r/\v=hdr (E.ρ id) r.len
 | .sub id lo hi,v=>id<E.nx/\ ∀root,E.hp id=some root-> ∃r,root.row? =some r/\lo<=hi/\hi<=r.len/\v=j7 (E.ρ id) r.size lo hi
 | .inner id ver i f,v=>id<E.nx/\ ∀root,E.hp id=some root->root.real/\ver<=root.ver/\ ∀e r,root= .row e ver r->r.jA f=true/\i<r.len/\cellAt E.w (E.ρ id) (i*r.size+f)=some v
 | .eJ id k,v=>id<E.nx/\(∀root,E.hp id=some root->root.real)/\ ∃b cap,E.ρ id=some (b,cap)/\v= .pointer (some ⟨b,k,none⟩)
 | .arr id n,v=>id<E.nx/\ ∀root,E.hp id=some root-> ∃r,root.row? =some r/\r.len=n/\ ∃b cap,E.ρ id=some (b,cap)/\v= .pointer (some ⟨b,0,none⟩)
 | .oG id i f,v=>id<E.nx/\ ∀root,E.hp id=some root-> ∃r,root.row? =some r/\i<r.len/\ ∃b cap,E.ρ id=some (b,cap)/\v= .pointer (some ⟨b,i*r.size+f,none⟩)
 | .C2 p r i f,v=>i<r.len/\ ∃ad,v= .pointer (some (ad.add (i*r.size+f)))/\oJ E.w (if p then E.Zf else E.ZL) ad r.cells
 | .wT id ver i f j,v=>id<E.nx/\ ∀root,E.hp id=some root->root.real/\ver<=root.ver/\ ∀e r,root= .row e ver r->r.jA f=true/\i<r.len/\j<(dm r i f).length/\ ∃A n cap,cellAt E.w (E.ρ id) (i*r.size+f)=some (.slice (some A) n cap)/\v= .pointer (some (A.add j))
def aY (E:Env):List LV->List Value->Prop
 | [],[]=>True
 |x::xs,v::vs=>dD E x v/\aY E xs vs
 |_,_=>False
def uS (E:Env):A1->Value->Prop
 | .l x,v=>dD E x v
 | .agg xs,v=> ∃vs:List Value,v= .agg vs.toArray/\aY E xs vs
def kD (E:Env):List A1->List Value->Prop
 | [],[]=>True
 |x::xs,v::vs=>uS E x v/\kD E xs vs
 |_,_=>False
def eE (E:Env):AV->Value->Prop
 | .one x,v=>uS E x v
 | .DM xs,v=> ∃vs:List Value,v= .tuple vs.toArray/\kD E xs vs
def fN (w:World) (Z:Zs) (q:Option (Nat×Nat)) (cs:List Cell) (len size:Nat) (F:FP):Prop:=
 (q=none/\len=0/\F=fz)\/ ∃b cap arr ty F',q=some (b,cap)/\w.heap[b]? =some (.cells arr ty (0,0))/\len<=cap/\cap*size<=arr.size/\ah w Z cs arr.toList F' /\F=cn (f1 b) F'
def Dj (E:Env) (q:Option (Nat×Nat)) (cells:List LV) (F:FP):Prop:=
 ∃b cap vs ty,q=some (b,cap)/\E.w.heap[b]? =some (.cells vs ty (0,0))/\aY E cells vs.toList/\F=f1 b
def gJ (E:Env) (id:Nat):aq->FP->Prop
 | .row _ _ r,F=>fN E.w E.ZL (E.ρ id) r.cells r.len r.size F
 | .hole _ _ r i f,F=>i<r.len/\f<r.size/\fN E.w E.ZL (E.ρ id) (r.cells.set (i*r.size+f) .free) r.len r.size F
 | .box _ cells,F=>Dj E (E.ρ id) cells F
 | .dH,F=>F=fz
def u9 (w w':World) (q:Option (Nat×Nat)):aq->aq->Prop
 | .box _ _,.box _ _=>True
 | .row _ v r,.row _ v' r'=>r'.len=r.len/\r'.size=r.size/\v<=v' /\(∀f,r'.jA f=r.jA f)/\(v' =v->r.deep=true->(∀i f,(dm r' i f).length=(dm r i f).length)/\ ∀b cap,q=some (b,cap)->w'.heap[b]? =w.heap[b]?)
 | .row _ v r,.hole _ v' r' _ _=>r'.len=r.len/\r'.size=r.size/\v<=v'
 | .hole _ v r _ _,.row _ v' r'=>r'.len=r.len/\r'.size=r.size/\v<v'
 | .dH,_=>True
 |_,_=>False
theorem u9.refl (w w':World) (q:Option (Nat×Nat)): ∀root:aq,(∀b cap,q=some (b,cap)->root.row?.any Row.deep=true->w'.heap[b]? =w.heap[b]?)->(∀e v r i f,root≠ .hole e v r i f)->u9 w w' q root root
 | .box _ _,_,_=>trivial
 | .dH,_,_=>trivial
 | .row _ v r,h,_=>⟨rfl,rfl,Nat.le_refl _,fun _=>rfl,fun _ hd=>⟨fun _ _=>rfl,fun b cap hq=>h b cap hq (by simp[aq.row?,hd])⟩⟩
 | .hole e v r i f,_,h=>absurd rfl (h e v r i f)
structure oC (E E':Env):Prop where
 zf: ∀b,E.Zf b->E'.Zf b/\E'.w.heap[b]? =E.w.heap[b]?
 zl: ∀b,E.ZL b->E'.ZL b/\E'.w.heap[b]? =E.w.heap[b]?
 nx:E.nx<=E'.nx
 ρ: ∀id,id<E.nx->(∀root,E.hp id=some root->root.real)->E'.ρ id=E.ρ id
 Pv: ∀id a_,id<E.nx->E'.hp id=some a_-> ∃root,E.hp id=some root/\(u9 E.w E'.w (E.ρ id) root a_\/a_=root/\ ∃e v r i f,root= .hole e v r i f)
theorem oJ.mono {w w':World} {Z Z':Zs} {ad:Addr} {cs:List Cell} (h:oJ w Z ad cs) (hz: ∀b,Z b->Z' b/\w'.heap[b]? =w.heap[b]?):oJ w' Z' ad cs:=by
 obtain ⟨h0,vs,h1,h2⟩:=h
 refine ⟨(hz _ h0).1,vs,fun j hj=> ?_,h2.mono hz (fun b hb=>by simp at hb)⟩
 rw[<- h1 j hj]
 exact lF (by rw[mF];exact (hz _ h0).2)
theorem ea.mono {w w':World} {Z Z':Zs} {r:Row} {v:Value} (h:ea w Z r v) (hz: ∀b,Z b->Z' b/\w'.heap[b]? =w.heap[b]?):ea w' Z' r v:=by
 obtain ⟨A,cap,hv,Cg,h1⟩:=h
 refine ⟨A,cap,hv,Cg,fun hn=> ?_⟩
 obtain ⟨ad,e,h2⟩:=h1 hn
 exact ⟨ad,e,h2.mono hz⟩
theorem oC.row {E E':Env} (M:oC E E') {id:Nat} (h:id<E.nx) {a_:aq} (h':E'.hp id=some a_): ∃root,E.hp id=some root/\(root.real->a_.real/\root.ver<=a_.ver/\(∀r,root.row? =some r-> ∃r',a_.row? =some r' /\r'.len=r.len/\r'.size=r.size)/\
 ∀e r',a_= .row e root.ver r'-> ∃e0 r,root= .row e0 root.ver r/\(∀f,r'.jA f=r.jA f)/\(r.deep=true->(∀i f,(dm r' i f).length=(dm r i f).length)/\ ∀b cap,E.ρ id=some (b,cap)->E'.w.heap[b]? =E.w.heap[b]?)):=by
 obtain ⟨root,h0,hl⟩:=M.Pv id a_ h h'
 refine ⟨root,h0,fun Oj=> ?_⟩
 rcases hl with hl| ⟨rfl,e,v,r,i,f,rfl⟩
 ·cases root<;>cases a_<;>simp only[u9,aq.real] at hl Oj
  ·obtain ⟨h1,h2,h3,h5,h4⟩:=hl
   refine ⟨trivial,h3,fun r hr=>⟨_,rfl,by simp[aq.row?] at hr;subst hr;exact ⟨h1,h2⟩⟩,fun e r' he=> ?_⟩
   simp only[aq.row.injEq] at he
   obtain ⟨rfl,hv,rfl⟩:=he
   exact ⟨_,_,rfl,h5,fun hd=>h4 hv hd⟩
  ·exact ⟨trivial,hl.2.2,fun r hr=>⟨_,rfl,by simp[aq.row?] at hr;subst hr;exact ⟨hl.1,hl.2.1⟩⟩,fun e r' he=>by cases he⟩
  ·refine ⟨trivial,Nat.le_of_lt hl.2.2,fun r hr=>⟨_,rfl,by simp[aq.row?] at hr;subst hr;exact ⟨hl.1,hl.2.1⟩⟩,fun e r' he=> ?_⟩
   simp only[aq.row.injEq] at he
   have h1:=hl.2.2
   have h2:=he.2.1
   simp only[aq.ver] at h2
   omega
  ·exact ⟨trivial,Nat.le_refl _,fun r hr=>by simp[aq.row?] at hr,fun e r' he=>by cases he⟩
 ·exact ⟨Oj,Nat.le_refl _,fun r hr=>⟨r,hr,rfl,rfl⟩,fun e r' he=>by cases he⟩
theorem iR {root:aq} {r:Row} (h:root.row? =some r):root.real:=by cases root<;>first|trivial|cases h
theorem xG {w w':World} {q:Option (Nat×Nat)} {j:Nat} {v:Value} (h:cellAt w q j=some v) (hb: ∀b cap,q=some (b,cap)->w'.heap[b]? =w.heap[b]?):cellAt w' q j=some v:=by
 cases q with
 |none=>exact h
 |some q=>obtain ⟨b,cap⟩:=q;simp only[cellAt] at h ⊢;rw[lF (w:=w) (hb b cap rfl)];exact h
theorem dD.mono {E E':Env} (M:oC E E') {x:LV} {v:Value} (h:dD E x v):dD E' x v:=by
 match x,h with
 | .any,h=>exact h
 | .undef,h=>exact h
 | .i _ _,h=>exact h
 | .b _,h=>exact h
 | .s _,h=>exact h
 | .er true,h=>exact h
 | .er false,h=>exact h
 | .fn _,h=>exact h
 | .nil,h=>exact h
 | .val p r,h=>cases p<;>exact ea.mono h (by first|exact M.zf|exact M.zl)
 | .own id,⟨h1,h2⟩=>
   refine ⟨Nat.lt_of_lt_of_le h1 M.nx,fun a_ h'=> ?_⟩
   obtain ⟨root,h0,hg⟩:=M.row h1 h'
   obtain ⟨r,e,hv⟩:=h2 root h0
   obtain ⟨_,_,hr,_⟩:=hg (iR e)
   obtain ⟨r',e',hl,hs⟩:=hr r e
   exact ⟨r',e',by rw[M.ρ id h1 (fun x hx=>by rw[h0] at hx;cases hx;exact iR e),hl];exact hv⟩
 | .sub id lo hi,⟨h1,h2⟩=>
   refine ⟨Nat.lt_of_lt_of_le h1 M.nx,fun a_ h'=> ?_⟩
   obtain ⟨root,h0,hg⟩:=M.row h1 h'
   obtain ⟨r,e,g1,g2,hv⟩:=h2 root h0
   obtain ⟨_,_,hr,_⟩:=hg (iR e)
   obtain ⟨r',e',hl,hs⟩:=hr r e
   exact ⟨r',e',g1,by omega,by rw[M.ρ id h1 (fun x hx=>by rw[h0] at hx;cases hx;exact iR e),hs];exact hv⟩
 | .inner id ver i f,⟨h1,h2⟩=>
   refine ⟨Nat.lt_of_lt_of_le h1 M.nx,fun a_ h'=> ?_⟩
   obtain ⟨root,h0,hg⟩:=M.row h1 h'
   obtain ⟨g0,g1,g2⟩:=h2 root h0
   obtain ⟨sy,hv,hr,hd⟩:=hg g0
   refine ⟨sy,Nat.le_trans g1 hv,fun e r' he=> ?_⟩
   have CN:root.ver=ver:=by have:a_.ver=ver:=by rw[he];rfl
                            omega
   subst CN
   obtain ⟨e0,r,aj,hdd,hk⟩:=hd e r' he
   obtain ⟨m1,m2,m4⟩:=g2 e0 r aj
   obtain ⟨k2,k3⟩:=hk (wY m1)
   obtain ⟨Sm,q1,q2,q3⟩:=hr r (by rw[aj];rfl)
   have e2:Sm=r':=by rw[he] at q1;exact (Option.some.inj q1).symm
   rw[e2] at q2 q3
   refine ⟨by rw[hdd];exact m1,by omega,?_⟩
   rw[M.ρ id h1 (fun x hx=>by rw[h0] at hx;cases hx;exact g0),q3]
   exact xG m4 k3
 | .eJ id k,⟨h1,sy,b,cap,h2,h3⟩=>
   refine ⟨Nat.lt_of_lt_of_le h1 M.nx,fun a_ h'=> ?_,b,cap,by rw[M.ρ id h1 sy];exact h2,h3⟩
   obtain ⟨root,h0,hg⟩:=M.row h1 h'
   exact (hg (sy root h0)).1
 | .arr id n,⟨h1,h2⟩=>
   refine ⟨Nat.lt_of_lt_of_le h1 M.nx,fun a_ h'=> ?_⟩
   obtain ⟨root,h0,hg⟩:=M.row h1 h'
   obtain ⟨r,e,g1,b,cap,g2,hv⟩:=h2 root h0
   obtain ⟨_,_,hr,_⟩:=hg (iR e)
   obtain ⟨r',e',hl,hs⟩:=hr r e
   exact ⟨r',e',by omega,b,cap,by rw[M.ρ id h1 (fun x hx=>by rw[h0] at hx;cases hx;exact iR e)];exact g2,hv⟩
 | .oG id i f,⟨h1,h2⟩=>
   refine ⟨Nat.lt_of_lt_of_le h1 M.nx,fun a_ h'=> ?_⟩
   obtain ⟨root,h0,hg⟩:=M.row h1 h'
   obtain ⟨r,e,g1,b,cap,g2,hv⟩:=h2 root h0
   obtain ⟨_,_,hr,_⟩:=hg (iR e)
   obtain ⟨r',e',hl,hs⟩:=hr r e
   exact ⟨r',e',by omega,b,cap,by rw[M.ρ id h1 (fun x hx=>by rw[h0] at hx;cases hx;exact iR e)];exact g2,by rw[hs];exact hv⟩
 | .C2 p r i f,⟨h1,ad,h2,h3⟩=>exact ⟨h1,ad,h2,by cases p<;>exact h3.mono (by first|exact M.zf|exact M.zl)⟩
 | .wT id ver i f j,⟨h1,h2⟩=>
   refine ⟨Nat.lt_of_lt_of_le h1 M.nx,fun a_ h'=> ?_⟩
   obtain ⟨root,h0,hg⟩:=M.row h1 h'
   obtain ⟨g0,g1,g2⟩:=h2 root h0
   obtain ⟨sy,hv,hr,hd⟩:=hg g0
   refine ⟨sy,Nat.le_trans g1 hv,fun e r' he=> ?_⟩
   have CN:root.ver=ver:=by have:a_.ver=ver:=by rw[he];rfl
                            omega
   subst CN
   obtain ⟨e0,r,aj,hdd,hk⟩:=hd e r' he
   obtain ⟨m1,m2,m5,A,n,cap,m4,m6⟩:=g2 e0 r aj
   obtain ⟨k2,k3⟩:=hk (wY m1)
   obtain ⟨Sm,q1,q2,q3⟩:=hr r (by rw[aj];rfl)
   have e2:Sm=r':=by rw[he] at q1;exact (Option.some.inj q1).symm
   rw[e2] at q2 q3
   refine ⟨by rw[hdd];exact m1,by omega,by rw[k2];exact m5,A,n,cap,?_,m6⟩
   rw[M.ρ id h1 (fun x hx=>by rw[h0] at hx;cases hx;exact g0),q3]
   exact xG m4 k3
theorem aY.mono {E E':Env} (M:oC E E'): ∀ {xs:List LV} {vs:List Value},aY E xs vs->aY E' xs vs
 | [],[],h=>h
 |x::xs,v::vs,h=>⟨h.1.mono M,aY.mono M h.2⟩
theorem uS.mono {E E':Env} (M:oC E E') {x:A1} {v:Value} (h:uS E x v):uS E' x v:=by
 cases x with
 |l x=>exact dD.mono M h
 |agg xs=>obtain ⟨vs,e,h⟩:=h;exact ⟨vs,e,h.mono M⟩
theorem kD.mono {E E':Env} (M:oC E E'): ∀ {xs:List A1} {vs:List Value},kD E xs vs->kD E' xs vs
 | [],[],h=>h
 |x::xs,v::vs,h=>⟨h.1.mono M,kD.mono M h.2⟩
theorem eE.mono {E E':Env} (M:oC E E') {x:AV} {v:Value} (h:eE E x v):eE E' x v:=by
 cases x with
 |one x=>exact uS.mono M h
 |DM xs=>obtain ⟨vs,e,h⟩:=h;exact ⟨vs,e,h.mono M⟩
theorem fN.mono {w w':World} {Z Z':Zs} {q:Option (Nat×Nat)} {cs:List Cell} {len size:Nat} {F:FP} (h:fN w Z q cs len size F) (hz: ∀b,Z b->Z' b/\w'.heap[b]? =w.heap[b]?) (hf: ∀b,1<=F b->w'.heap[b]? =w.heap[b]?):fN w' Z' q cs len size F:=by
 rcases h with h| ⟨b,cap,arr,ty,F',h1,h2,h3,h4,h5,h6⟩
 ·exact .inl h
 ·exact .inr ⟨b,cap,arr,ty,F',h1,by rw[hf b (by rw[h6];simp)];exact h2,h3,h4,h5.mono hz (fun b hb=>hf b (by rw[h6];simp;omega)),h6⟩
theorem Dj.mono {E E':Env} (M:oC E E') {q:Option (Nat×Nat)} {cells:List LV} {F:FP} (h:Dj E q cells F) (hf: ∀b,1<=F b->E'.w.heap[b]? =E.w.heap[b]?):Dj E' q cells F:=by
 obtain ⟨b,cap,vs,ty,h1,h2,h3,h4⟩:=h
 exact ⟨b,cap,vs,ty,h1,by rw[hf b (by rw[h4];simp)];exact h2,h3.mono M,h4⟩
theorem gJ.mono {E E':Env} (M:oC E E') {id:Nat} (hid:id<E.nx) {root:aq} {F:FP} (Xf:E.hp id=some root) (h:gJ E id root F) (hf: ∀b,1<=F b->E'.w.heap[b]? =E.w.heap[b]?):gJ E' id root F:=by
 by_cases hg:root= .dH
 ·subst hg;exact h
 have sy: ∀x,E.hp id=some x->x.real:=fun x hx=>by rw[Xf] at hx;cases hx;cases root<;>first|trivial|exact absurd rfl hg
 cases root with
 |row e v r=>simp only[gJ,M.ρ id hid sy] at h ⊢;exact h.mono M.zl hf
 |hole e v r i f=>simp only[gJ,M.ρ id hid sy] at h ⊢;exact ⟨h.1,h.2.1,h.2.2.mono M.zl hf⟩
 |box t c=>simp only[gJ,M.ρ id hid sy] at h ⊢;exact h.mono M hf
 |dH=>exact h
def ar:Nat->(Nat->FP)->FP
 |0,_=>fz
 |n+1,Fs=>cn (ar n Fs) (Fs n)
theorem iz (Fs:Nat->FP) (b:Nat): ∀ {n id:Nat},id<n->Fs id b<=ar n Fs b
 |n+1,id,h=>by
  by_cases e:id=n
  ·subst e;simp[ar]
  ·have:=iz Fs b (n:=n) (id:=id) (by omega);simp[ar];omega
theorem B6 (Fs:Nat->FP) (b:Nat): ∀ {n i j:Nat},i<n->j<n->i≠j->Fs i b+Fs j b<=ar n Fs b
 |n+1,i,j,hi,hj,mg=>by
  by_cases ei:i=n
  ·subst ei;have:=iz Fs b (n:=i) (id:=j) (by omega);simp[ar];omega
  ·by_cases ej:j=n
   ·subst ej;have:=iz Fs b (n:=j) (id:=i) (by omega);simp[ar];omega
   ·have:=B6 Fs b (n:=n) (i:=i) (j:=j) (by omega) (by omega) mg;simp[ar];omega
theorem lT {Fs Gs:Nat->FP} (b:Nat): ∀ {n:Nat},(∀j,j<n->Fs j b=Gs j b)->ar n Fs b=ar n Gs b
 |0,_=>rfl
 |n+1,h=>by simp[ar,lT b (n:=n) (fun j hj=>h j (by omega)),h n (by omega)]
theorem o8 {Fs:Nat->FP} (b:Nat): ∀ {m n:Nat},n<=m->(∀j,n<=j->j<m->Fs j b=0)->ar m Fs b=ar n Fs b
 |0,n,h,_=>by have:n=0:=by omega
              subst this;rfl
 |m+1,n,h,hz=>by
  by_cases e:n=m+1
  ·subst e;rfl
  ·simp[ar,o8 b (m:=m) (n:=n) (by omega) (fun j h1 h2=>hz j h1 (by omega)),hz m (by omega) (by omega)]
def eU (Fs:Nat->FP) (id:Nat) (F:FP):Nat->FP:=fun j=>if j=id then F else Fs j
@[simp] theorem fV (Fs:Nat->FP) (id:Nat) (F:FP):eU Fs id F id=F:=by simp[eU]
theorem cN (Fs:Nat->FP) {id j:Nat} (F:FP) (h:j≠id):eU Fs id F j=Fs j:=by simp[eU,h]
theorem en (Fs:Nat->FP) (F:FP) (b:Nat): ∀ {n id:Nat},id<n->ar n (eU Fs id F) b+Fs id b=ar n Fs b+F b
 |n+1,id,h=>by
  by_cases e:id=n
  ·subst e
   have:=lT (Fs:=eU Fs id F) (Gs:=Fs) b (n:=id) (fun j hj=>by rw[cN _ _ (by omega)])
   simp[ar];omega
  ·have:=en Fs F b (n:=n) (id:=id) (by omega)
   simp[ar,cN Fs F (show n≠id by omega)];omega
theorem A2 (Fs:Nat->FP) (F:FP) (b:Nat) (n:Nat):ar (n+1) (eU Fs n F) b=ar n Fs b+F b:=by
 have:=lT (Fs:=eU Fs n F) (Gs:=Fs) b (n:=n) (fun j hj=>by rw[cN _ _ (by omega)])
 simp[ar,this]
def qD:String:= "internal/strconv.uint64pow10"
def Pw:List Int:=(List.range 20).map fun i=>((10^i:Nat):Int)
def yg:String:= "strconv.ErrSyntax"
def Ground (P:Program) (w:World) (Z:Zs):Prop:=(∀b,P.globalNamed qD=some b->Z b/\w.var? P qD=some (Pw.map fun z=>Value.int .u64 z).toArray)/\ ∀b,P.globalNamed yg=some b->Z b/\ ∃t x,w.var? P yg=some #[.iface t x]
theorem EX {P:Program} {w w':World} {n:String} {b:Nat} (hb:P.globalNamed n=some b) (h:w'.heap[b]? =w.heap[b]?):w'.var? P n=w.var? P n:=by
 unfold World.var?
 rw[hb]
 simp only[Option.bind_some]
 rw[h]
theorem Ground.mono {P:Program} {w w':World} {Z Z':Zs} (h:Ground P w Z) (hz: ∀b,Z b->Z' b/\w'.heap[b]? =w.heap[b]?):Ground P w' Z':=by
 refine ⟨fun b hb=> ?_,fun b hb=> ?_⟩
 ·obtain ⟨h1,h2⟩:=h.1 b hb
  obtain ⟨h3,h4⟩:=hz b h1
  exact ⟨h3,by rw[EX hb h4];exact h2⟩
 ·obtain ⟨h1,h2⟩:=h.2 b hb
  obtain ⟨h3,h4⟩:=hz b h1
  exact ⟨h3,by rw[EX hb h4];exact h2⟩
structure Cx where
 P0:Program
 w0:World
 F0:FP
 Zl:Zs
 Zf0:Zs
 N:Nat
 kv:List Value
 good: ∀b,Zl b\/Zf0 b->b<w0.heap.size/\F0 b=0
 gnd:Ground P0 w0 Zf0
def Cx.Zf (C:Cx) (w:World) (F:FP):Zs:=fun b=>C.Zf0 b\/((C.w0.heap.size<=b\/1<=C.F0 b)/\b<w.heap.size/\F b=0)
def Cx.ZL (C:Cx) (w:World) (F:FP):Zs:=fun b=>C.Zl b\/C.Zf w F b
def Cx.env (C:Cx) (w:World) (ρ:Place) (hp:Nat->Option aq) (nx:Nat) (Fs:Nat->FP):Env:={w,Zf:=C.Zf w (ar nx Fs),ZL:=C.ZL w (ar nx Fs),ρ,hp,nx}
def Cx.val (C:Cx) (a:Act) (t:Nat):Value:=if t<C.N then a.tmps.getD t undef else C.kv.getD (t-C.N) undef
structure Frame (C:Cx) (w:World):Prop where
 size:C.w0.heap.size<=w.heap.size
 os:w.os=C.w0.os
 tape:w.tape=C.w0.tape
 output:w.output=C.w0.output
 block: ∀b,b<C.w0.heap.size->C.F0 b=0->w.heap[b]? =C.w0.heap[b]?
structure fY (C:Cx) (hp:Nat->Option aq) (nx:Nat) (w:World) (ρ:Place) (Fs:Nat->FP):Prop where
 fresh: ∀id,nx<=id->hp id=none
 roots: ∀id root,hp id=some root->gJ (C.env w ρ hp nx Fs) id root (Fs id)
 dead: ∀id,hp id=none->Fs id=fz
 one: ∀b,ar nx Fs b<=1
 nW: ∀b,1<=ar nx Fs b->b<w.heap.size/\(C.w0.heap.size<=b\/1<=C.F0 b)
 frame:Frame C w
structure aQ (C:Cx) (S:St) (a:Act) (w:World) (ρ:Place) (Fs:Nat->FP):Prop where
 mem:fY C S.hp S.nx w ρ Fs
 defers:a.defers=[]
 size:a.tmps.size=C.N
 oB: ∀t,eE (C.env w ρ S.hp S.nx Fs) (S.sl t) (C.val a t)
theorem fY.ground {C:Cx} {hp:Nat->Option aq} {nx:Nat} {w:World} {ρ:Place} {Fs:Nat->FP} (m:fY C hp nx w ρ Fs) (F:FP):Ground C.P0 w (C.Zf w F):=
 C.gnd.mono fun b hb=>⟨.inl hb,by obtain ⟨g1,g2⟩:=C.good b (.inr hb);exact m.frame.block b g1 g2⟩
structure O8 (P:Program) (nt:Nat) (C:Cx):Prop where
 nt:nt=C.N
 p:C.P0=P
structure Qk (C:Cx) (hp:Nat->Option aq) (nx:Nat) (w:World) (ρ:Place) (Fs:Nat->FP) (hp':Nat->Option aq) (nK:Nat) (w':World) (ρ':Place) (Fs':Nat->FP):Prop where
 size:w.heap.size<=w'.heap.size
 os:w'.os=w.os
 tape:w'.tape=w.tape
 output:w'.output=w.output
 agree: ∀b,b<w.heap.size->ar nx Fs b=0->w'.heap[b]? =w.heap[b]?
 UJ:nx<=nK
 same: ∀id,id<nx->(∀root,hp id=some root->root.real)->ρ' id=ρ id
 Pv: ∀id a_,id<nx->hp' id=some a_-> ∃root,hp id=some root/\(u9 w w' (ρ id) root a_\/a_=root/\ ∃e v r i f,root= .hole e v r i f)
 fresh: ∀id,nK<=id->hp' id=none
 dead: ∀id,hp' id=none->Fs' id=fz
 one: ∀b,ar nK Fs' b<=1
 new: ∀b,1<=ar nK Fs' b->1<=ar nx Fs b\/(w.heap.size<=b/\b<w'.heap.size)
theorem Qk.mono {C:Cx} {hp:Nat->Option aq} {nx:Nat} {w:World} {ρ:Place} {Fs:Nat->FP} {hp':Nat->Option aq} {nK:Nat} {w':World} {ρ':Place} {Fs':Nat->FP} (h:Qk C hp nx w ρ Fs hp' nK w' ρ' Fs') (m:fY C hp nx w ρ Fs):oC (C.env w ρ hp nx Fs) (C.env w' ρ' hp' nK Fs'):=by
 have Hs: ∀b,C.Zf w (ar nx Fs) b->C.Zf w' (ar nK Fs') b/\w'.heap[b]? =w.heap[b]? :=by
  rintro b (h0| ⟨h1,h2,h3⟩)
  ·refine ⟨.inl h0,?_⟩
   obtain ⟨g1,g2⟩:=C.good b (.inr h0)
   refine h.agree b (Nat.lt_of_lt_of_le g1 m.frame.size) ?_
   rcases Nat.eq_zero_or_pos (ar nx Fs b) with e|e
   ·exact e
   ·obtain ⟨_,k⟩:=m.nW b e;omega
  ·refine ⟨.inr ⟨h1,Nat.lt_of_lt_of_le h2 h.size,?_⟩,h.agree b h2 h3⟩
   rcases Nat.eq_zero_or_pos (ar nK Fs' b) with e|e
   ·exact e
   ·rcases h.new b e with k|k<;>omega
 refine ⟨Hs,?_,h.UJ,h.same,h.Pv⟩
 rintro b (h0|h0)
 ·refine ⟨.inl h0,?_⟩
  obtain ⟨g1,g2⟩:=C.good b (.inl h0)
  refine h.agree b (Nat.lt_of_lt_of_le g1 m.frame.size) ?_
  rcases Nat.eq_zero_or_pos (ar nx Fs b) with e|e
  ·exact e
  ·obtain ⟨_,k⟩:=m.nW b e;omega
 ·exact ⟨.inr (Hs b h0).1,(Hs b h0).2⟩
theorem Qk.UK {C:Cx} {hp:Nat->Option aq} {nx:Nat} {w:World} {ρ:Place} {Fs:Nat->FP} {hp':Nat->Option aq} {nK:Nat} {w':World} {ρ':Place} {Fs':Nat->FP} (h:Qk C hp nx w ρ Fs hp' nK w' ρ' Fs') (m:fY C hp nx w ρ Fs)
 (hr: ∀id root,hp' id=some root->(hp' id=hp id/\(∀b,1<=Fs id b->w'.heap[b]? =w.heap[b]?)/\Fs' id=Fs id)\/gJ (C.env w' ρ' hp' nK Fs') id root (Fs' id)):fY C hp' nK w' ρ' Fs':=by
 refine ⟨h.fresh,fun id root hid=> ?_,h.dead,h.one,fun b hb=> ?_,?_⟩
 ·rcases hr id root hid with ⟨h1,h2,h3⟩|h1
  ·have fJ:id<nx:=by
    rcases Nat.lt_or_ge id nx with k|k
    ·exact k
    ·rw[h1,m.fresh id k] at hid;cases hid
   rw[h3]
   exact (m.roots id root (by rw[<- h1];exact hid)).mono (h.mono m) fJ (show hp id=some root by rw[<- h1];exact hid) h2
  ·exact h1
 ·rcases h.new b hb with k|k
  ·exact ⟨Nat.lt_of_lt_of_le (m.nW b k).1 h.size,(m.nW b k).2⟩
  ·exact ⟨k.2,.inl (Nat.le_trans m.frame.size k.1)⟩
 ·refine ⟨Nat.le_trans m.frame.size h.size,by rw[h.os,m.frame.os],by rw[h.tape,m.frame.tape],by rw[h.output,m.frame.output],fun b h1 h2=> ?_⟩
  rw[<- m.frame.block b h1 h2]
  refine h.agree b (Nat.lt_of_lt_of_le h1 m.frame.size) ?_
  rcases Nat.eq_zero_or_pos (ar nx Fs b) with e|e
  ·exact e
  ·obtain ⟨_,k⟩:=m.nW b e;omega
theorem LQ (l:Array Value) (t d:Nat) (v u:Value):(l.setIfInBounds d v).getD t u=if t=d then (if d<l.size then v else l.getD t u) else l.getD t u:=by
 by_cases h:t=d
 ·subst h
  by_cases k:t<l.size
  ·simp[k,Array.getD_eq_getD_getElem?]
  ·simp[k,Array.getD_eq_getD_getElem?]
 ·simp[h,Array.getD_eq_getD_getElem?,Ne.symm h]
theorem aQ.put {C:Cx} {S:St} {a:Act} {w:World} {ρ:Place} {Fs:Nat->FP} (h:aQ C S a w ρ Fs) (dst:Option Tmp) (v:AV) (u:Value) (hv: ∀d,dst=some d->eE (C.env w ρ S.hp S.nx Fs) v u) (hd: ∀d,dst=some d->d<C.N):aQ C (S.put dst v) (a.put dst u) w ρ Fs:=by
 cases dst with
 |none=>exact h
 |some d=>
  refine ⟨h.mem,h.defers,by simp[Act.put,h.size],fun t=> ?_⟩
  have Xg:=hd d rfl
  have hs:=h.oB t
  simp only[St.put,Act.put,Cx.val,LQ,h.size] at hs ⊢
  by_cases e:t=d
  ·subst e;simp[Xg];exact hv t rfl
  ·have:(d==t)=false:=by simp;exact fun h=>e h.symm
   have e2:(t==d)=false:=by simp[e]
   simp only[e,e2,if_false,cond_false];exact hs
theorem aQ.change {C:Cx} {S:St} {a:Act} {w:World} {ρ:Place} {Fs:Nat->FP} (h:aQ C S a w ρ Fs) {hp':Nat->Option aq} {nK:Nat} {w':World} {ρ':Place} {Fs':Nat->FP} (hc:Qk C S.hp S.nx w ρ Fs hp' nK w' ρ' Fs')
 (hr: ∀id root,hp' id=some root->(hp' id=S.hp id/\(∀b,1<=Fs id b->w'.heap[b]? =w.heap[b]?)/\Fs' id=Fs id)\/gJ (C.env w' ρ' hp' nK Fs') id root (Fs' id)):aQ C ⟨S.sl,hp',nK⟩ a w' ρ' Fs':=
 ⟨hc.UK h.mem hr,h.defers,h.size,fun t=>(h.oB t).mono (hc.mono h.mem)⟩
theorem eE.const (E:Env) (v:Value):eE E (.l (Dd v)) v:=by
 unfold Dd
 split<;>first|exact rfl|exact trivial
theorem aQ.rd {C:Cx} {S:St} {a:Act} {w:World} {ρ:Place} {Fs:Nat->FP} (h:aQ C S a w ρ Fs) (x:Operand):eE (C.env w ρ S.hp S.nx Fs) (St.rd C.N S.sl x) (a.eval x):=by
 cases x with
 |tmp t=>
  simp only[St.rd]
  cases hb:Nat.blt t C.N with
  |false=>exact trivial
  |true=>
   have fJ:t<C.N:=by simpa[Nat.blt_eq] using hb
   have:=h.oB t
   simp only[Cx.val,if_pos fJ] at this
   exact this
 |const v=>exact eE.const _ v
 |global g=>exact trivial
 |func f=>exact rfl
def zeroV (tt:TT) (t:Nat):Value:=match tt t with
 |some ⟨.int k,_,_⟩=> .int k 0
 |some ⟨.bool,_,_⟩=> .bool false
 |some ⟨.str,_,_⟩=> .string ByteArray.empty
 |some ⟨.slice _,_,_⟩=> .slice none 0 0
 |some ⟨.err,_,_⟩=> .nilIface
 |_=> .pointer none
def Px (P:Program) (t:Nat):TK->Prop
 | .int k=>P.underlying t=some (.int k)
 | .bool=>P.underlying t=some .bool
 | .str=>P.underlying t=some .string
 | .slice e=>P.underlying t=some (.slice e)
 | .array n e=>P.underlying t=some (.array n e)
 | .ptr e=>P.underlying t=some (.pointer e)
 | .struct fs=> ∃fields:Array Field,P.underlying t=some (.struct fields)/\fields.toList.map (fun f=>(f.offset,f.type))=fs/\ ∀f∈fields.toList,∃i,P.info? f.type=some i/\i.size≠0
 | .err=> ∃ms,P.underlying t=some (.interface ms)
 | .other=>True
def Py (tt:TT) (t:Nat) (z:Value):TK->Prop
 | .array n e=>z.cells.toList=List.replicate n (zeroV tt e)
 |_=>z.cells.toList=(aA tt depth t).map (zeroV tt)
structure lg (P:Program) (tt:TT) (t:Nat) (e:TE):Prop where
 desc:Px P t e.k
 zz: ∃i,P.info? t=some i/\i.size=e.size/\i.bytes=e.bytes/\ ∃z,i.zero=some z/\Py tt t z e.k
 cells:(∀n x,e.k≠ .array n x)->e.size=(aA tt depth t).length
 some:0<e.size/\0<e.bytes
def kQ (P:Program) (tt:TT):Prop:= ∀t e,tt t=some e->lg P tt t e
structure Out (P:Program) (C:Cx) (S:St) (o:Oper) (E:fR) (a:Act) (w:World) (w':World) (ρ':Place) (Fs':Nat->FP) (u:Value):Prop where
 run:(execOp a.eval o).run P w= .ok (.value u) w' \/((execOp a.eval o).run P w= .ok .skip w' /\u=undef)
 rel:aQ C ⟨S.sl,eA S.hp E.up,S.nx⟩ a w' ρ' Fs'
 val:eE (C.env w' ρ' (eA S.hp E.up) S.nx Fs') E.v u
theorem Out.pure {P:Program} {C:Cx} {S:St} {o:Oper} {E:fR} {a:Act} {w:World} {ρ:Place} {Fs:Nat->FP} {u:Value} (h:aQ C S a w ρ Fs) (hu:E.up=[]) (hr:(execOp a.eval o).run P w= .ok (.value u) w) (hv:eE (C.env w ρ S.hp S.nx Fs) E.v u):Out P C S o E a w w ρ Fs u:=by
 refine ⟨.inl hr,?_,?_⟩
 ·rw[hu];exact h
 ·rw[hu];exact hv
theorem nh {P:Program} {s:Sem Value} {v:Value} {w w':World} (h:s.run P w= .ok v w'):((do pure (.value (<- s))):Sem Next).run P w= .ok (.value v) w':=by
 have e:=Sem.run_bind' P s (fun v=>Sem.pure (Next.value v)) w
 rw[h] at e
 exact e
theorem Sn {P:Program} {s:Sem Unit} {x:Unit} {w w':World} (h:s.run P w= .ok x w'):((do s;pure .skip):Sem Next).run P w= .ok .skip w':=by
 have e:=Sem.run_bind' P s (fun _=>Sem.pure Next.skip) w
 rw[h] at e
 exact e
theorem cP {P:Program} {α β:Type} {s:Sem α} {f:α->Sem β} {x:α} {w w':World} (h:s.run P w= .ok x w'):((do let y <- s;f y):Sem β).run P w=(f x).run P w':=by
 have e:=Sem.run_bind' P s f w
 rw[h] at e
 exact e
theorem run_move {P:Program} {ρ:Operand->Value} {o:Oper} {x:Operand} (h:o.op= .move x\/o.op= .assign x) (w:World):(execOp ρ o).run P w= .ok (.value (ρ x)) w:=by
 rcases h with h|h<;>simp[execOp,h,go_sem]<;>rfl
theorem EY {P:Program} {ρ:Operand->Value} {o:Oper} {c x y:Operand} {b:Bool} (h:o.op= .pick c x y) (hc:ρ c= .bool b) (w:World):(execOp ρ o).run P w= .ok (.value (if b then ρ x else ρ y)) w:=by
 simp[execOp,h,hc,go_sem,asBool]
theorem EZ {P:Program} {ρ:Operand->Value} {o:Oper} {x:Operand} {j:Nat} {vs:Array Value} {v:Value} (h:o.op= .extract x j) (hx:ρ x= .tuple vs) (hv:vs[j]? =some v) (w:World):(execOp ρ o).run P w= .ok (.value v) w:=by
 simp[execOp,h,hx,go_sem,Instr.extract,hv]
theorem Dk {P:Program} {ρ:Operand->Value} {o:Oper} {x:Operand} {a:Addr} (h:o.op= .nilCheck x) (hx:ρ x= .pointer (some a)) (w:World):(execOp ρ o).run P w= .ok (.value (.pointer (some a))) w:=by
 simp[execOp,h,hx,go_sem]
theorem JM {P:Program} {ρ:Operand->Value} {o:Oper} {op:BinOp} {t u:TypeId} {x y:Operand} {v:Value} {w:World} (h:o.op= .binOp op t x y u) (hv:((do eqGuard op t x y (ρ x) (ρ y);Go.binOp op t (ρ x) (ρ y)):Sem Value).run P w= .ok v w):(execOp ρ o).run P w= .ok (.value v) w:=by
 simp only[execOp,h]
 exact nh hv
theorem LR {P:Program} {ρ:Operand->Value} {o:Oper} {op:UnOp} {t:TypeId} {x:Operand} {v:Value} {w:World} (h:o.op= .unOp op t x) (hv:(Op.unary op (ρ x)).run P w= .ok v w):(execOp ρ o).run P w= .ok (.value v) w:=by
 simp only[execOp,h]
 exact nh hv
theorem dW {α:Type} {p:Bool} {x:Option α} {y:α} (h:aC p x=some y):p=true/\x=some y:=by
 cases p
 ·simp[aC] at h
 ·exact ⟨rfl,h⟩
theorem HP {P:Program} {op:BinOp} {k k':IntKind} {a b:Int} {z:LV} (he:binOp (R:=LV) op (.i k a) (.i k' b) some=some z) (t:TypeId) (ox oy:Operand) (E:Env) (w:World):
 ∃r,dD E z r/\((do eqGuard op t ox oy (.int k a) (.int k' b);Go.binOp op t (.int k a) (.int k' b)):Sem Value).run P w= .ok r w:=by
 have hg:eqGuard op t ox oy (.int k a) (.int k' b)=pure ():=by cases op<;>rfl
 rw[hg]
 show ∃r,dD E z r/\(Go.binOp op t (.int k a) (.int k' b)).run P w= .ok r w
 by_cases hs:op= .shl\/op= .shr
 ·rcases hs with rfl|rfl
  all_goals
   simp only[binOp] at he
   obtain ⟨h1,h2⟩:=dW he
   have h0: ¬b<0:=by have:=of_decide_eq_true h1;omega
   cases h2
   refine ⟨_,rfl,?_⟩
   simp only[Go.binOp,Op.shift,h0,if_false]
   rfl
 ·by_cases hk:k=k'
  ·subst hk
   cases op<;>first| (exfalso;exact hs (.inl rfl))| (exfalso;exact hs (.inr rfl))|skip
   all_goals simp only[binOp,decide_true,cond_true,Option.some.injEq] at he
   all_goals first
    | (subst he;exact ⟨_,rfl,by simp[Go.binOp,Op.intArith,Op.intCmp,Op.intBits,sC]<;>rfl⟩)
    | (obtain ⟨h1,h2⟩:=dW he
       have Ql: ¬b=0:=by simpa using h1
       cases h2
       exact ⟨_,rfl,by simp[Go.binOp,Op.intDiv,Ql]<;>rfl⟩)
  ·exfalso
   cases op<;>first| (exact hs (.inl rfl))| (exact hs (.inr rfl))|simp[binOp,hk] at he
theorem E1 {P:Program} {tt:TT} (T:kQ P tt) {op:BinOp} {x y z:LV} (he:binOp (R:=LV) op x y some=some z) (t:TypeId) (ox oy:Operand) (ht:Nr tt t x=true) (E:Env) (u v:Value) (hu:dD E x u) (hv:dD E y v)
 (hn:y= .er true-> ∃c,oy= .const c) (w:World):
 ∃r,dD E z r/\((do eqGuard op t ox oy u v;Go.binOp op t u v):Sem Value).run P w= .ok r w:=by
 cases x<;>cases y<;>first| (exfalso;cases op<;>simp[binOp] at he;done)|skip
 case i.i=>cases hu;cases hv;exact HP he t ox oy E w
 case s.s a b=>
  cases hu;cases hv
  have hg:eqGuard op t ox oy (.string a) (.string b)=pure ():=by cases op<;>rfl
  rw[hg]
  show ∃r,dD E z r/\(Go.binOp op t (.string a) (.string b)).run P w= .ok r w
  cases op<;>first| (exfalso;simp[binOp] at he;done)|skip
  ·simp only[binOp] at he
   obtain ⟨h1,h2⟩:=dW he
   cases h2
   refine ⟨_,rfl,?_⟩
   have:=of_decide_eq_true h1
   simp[Go.binOp,Op.stringOp]
   simp[eo] at this
   omega
  ·simp only[binOp,Option.some.injEq] at he;subst he;exact ⟨_,rfl,by simp[Go.binOp,Op.stringOp]<;>rfl⟩
  ·simp only[binOp,Option.some.injEq] at he;subst he;exact ⟨_,rfl,by simp[Go.binOp,Op.stringOp]<;>rfl⟩
 case b.b a b=>
  cases hu;cases hv
  have hg:eqGuard op t ox oy (.bool a) (.bool b)=pure ():=by cases op<;>rfl
  rw[hg]
  show ∃r,dD E z r/\(Go.binOp op t (.bool a) (.bool b)).run P w= .ok r w
  have VJ:P.underlying t=some .bool:=by
   simp only[Nr] at ht
   split at ht
   ·rename_i sz bs hq;exact (T t _ hq).desc
   ·cases ht
  cases op<;>first| (exfalso;simp[binOp] at he;done)|skip
  ·simp only[binOp,Option.some.injEq] at he;subst he;exact ⟨_,rfl,run_eql_bool _ _ _ _ VJ⟩
  ·simp only[binOp,Option.some.injEq] at he;subst he;exact ⟨_,rfl,run_neq_bool _ _ _ _ VJ⟩
 case er.er a b=>
  cases b with
  |false=>exfalso;cases op<;>cases a<;>simp[binOp] at he
  |true=>
   cases hv
   have Qj:P.isIface t=true:=by
    simp only[Nr] at ht
    split at ht
    ·rename_i sz bs hq
     obtain ⟨ms,h⟩:=(T t _ hq).desc
     simp[Program.isIface,h]
    ·cases ht
   obtain ⟨c,rfl⟩:=hn rfl
   cases a with
   |true=>
    cases hu
    have hg:eqGuard op t ox (.const c) .nilIface .nilIface=pure ():=by cases op<;>cases ox<;>rfl
    rw[hg]
    show ∃r,dD E z r/\(Go.binOp op t .nilIface .nilIface).run P w= .ok r w
    cases op<;>first| (exfalso;simp[binOp] at he;done)|skip
    ·simp only[binOp,Option.some.injEq] at he;subst he;exact ⟨_,rfl,run_eql_nil_nil_at _ _ Qj⟩
    ·simp only[binOp,Option.some.injEq] at he;subst he;exact ⟨_,rfl,run_neq_nil_nil_at _ _ Qj⟩
   |false=>
    obtain ⟨d,q,rfl⟩:=hu
    have hg:eqGuard op t ox (.const c) (.iface d q) .nilIface=pure ():=by cases op<;>rfl
    rw[hg]
    show ∃r,dD E z r/\(Go.binOp op t (.iface d q) .nilIface).run P w= .ok r w
    cases op<;>first| (exfalso;simp[binOp] at he;done)|skip
    ·simp only[binOp,Option.some.injEq] at he;subst he;exact ⟨_,rfl,run_eql_iface_nil _ _ Qj _ _⟩
    ·simp only[binOp,Option.some.injEq] at he;subst he;exact ⟨_,rfl,run_neq_iface_nil _ _ Qj _ _⟩
theorem HQ {P:Program} {op:UnOp} {x z:LV} (he:unOp (R:=LV) op x some=some z) (E:Env) (u:Value) (hu:dD E x u) (w:World): ∃r,dD E z r/\(Op.unary op u).run P w= .ok r w:=by
 cases op<;>cases x<;>simp only[unOp,Option.some.injEq] at he<;>first|cases he|skip
 ·cases hu;exact ⟨_,rfl,rfl⟩
 ·cases hu;exact ⟨_,rfl,rfl⟩
theorem bE (hp:Nat->Option aq): ∀l m:List (Nat×Option aq),eA hp (l++m)=eA (eA hp l) m:=by
 intro l
 induction l generalizing hp with
 |nil=>intro m;rfl
 |cons x l ih=>intro m;obtain ⟨i,r⟩:=x;exact ih _ m
theorem eT (hp:Nat->Option aq) (i:Nat) (r:Option aq) (j:Nat):eA hp [(i,r)] j=if j=i then r else hp j:=by
 simp only[eA]
 by_cases h:j=i
 ·subst h;simp
 ·have:(j==i)=false:=by simp[h]
  simp[h,this]
theorem lV (hp:Nat->Option aq): ∀ks:List Nat,eA hp (cF ks)=kill hp ks:=by
 intro ks
 induction ks generalizing hp with
 |nil=>funext j;simp[cF,eA,kill]
 |cons k ks ih=>
  funext j
  have:=congrFun (ih (fun j=>bif j==k then none else hp j)) j
  simp only[cF,List.map_cons,eA] at this ⊢
  rw[this]
  simp only[kill,List.elem_cons]
  cases h:(j==k)<;>cases h2:ks.elem j<;>simp[h,h2]
theorem je (hp:Nat->Option aq) (ks:List Nat) (j:Nat):kill hp ks j=if j∈ks then none else hp j:=by
 unfold kill
 by_cases h:j∈ks
 ·simp[h,List.elem_iff.2 h]
 ·have:ks.elem j=false:=by rw[<- Bool.not_eq_true];exact fun h'=>h (List.elem_iff.1 h')
  simp[h,this]
theorem qV {hp:Nat->Option aq} {ks:List Nat} {j:Nat} {r:aq} (h:kill hp ks j=some r):j∉ks/\hp j=some r:=by
 rw[je] at h
 split at h
 ·cases h
 ·exact ⟨‹_›,h⟩
def cE (Fs:Nat->FP):List Nat->FP
 | []=>fz
 |k::ks=>cn (Fs k) (cE Fs ks)
def cS (Fs:Nat->FP) (ks:List Nat):Nat->FP:=fun j=>if j∈ks then fz else Fs j
theorem LS (Fs:Nat->FP):cS Fs [] =Fs:=by funext j;simp[cS]
theorem JN (Fs:Nat->FP) (k:Nat) (ks:List Nat):cS Fs (k::ks)=eU (cS Fs ks) k fz:=by
 funext j
 simp only[cS,eU,List.mem_cons]
 by_cases h:j=k<;>simp[h]
theorem jN (Fs:Nat->FP) (b n:Nat): ∀ks:List Nat,ks.Nodup->(∀k∈ks,k<n)->ar n (cS Fs ks) b+cE Fs ks b=ar n Fs b
 | [],_,_=>by simp[LS,cE]
 |k::ks,hd,hk=>by
  obtain ⟨h1,h2⟩:=List.nodup_cons.1 hd
  have ih:=jN Fs b n ks h2 (fun j hj=>hk j (by simp[hj]))
  have e:=en (cS Fs ks) fz b (hk k (by simp))
  rw[JN]
  have e2:cS Fs ks k=Fs k:=by simp[cS,h1]
  rw[e2] at e
  simp[cE] at e ⊢
  omega
theorem Nc (Fs:Nat->FP) (ks:List Nat) (j b:Nat):cS Fs ks j b<=Fs j b:=by
 unfold cS;split<;>simp
def gq (ρ:Place) (id:Nat) (q:Option (Nat×Nat)):Place:=fun j=>if j=id then q else ρ j
theorem dT (ρ:Place) (id:Nat) (q:Option (Nat×Nat)):gq ρ id q id=q:=by simp[gq]
theorem lU (ρ:Place) {id j:Nat} (q:Option (Nat×Nat)) (h:j≠id):gq ρ id q j=ρ j:=by simp[gq,h]
theorem u_ (w:World) (o:Obj) {b:Nat} (h:b<w.heap.size):(w.alloc o).heap[b]? =w.heap[b]? :=by
 show (w.heap.push o)[b]? =_
 rw[Array.getElem?_push,if_neg (Nat.ne_of_lt h)]
theorem va (w:World) (o:Obj):(w.alloc o).heap[w.heap.size]? =some o:=by
 show (w.heap.push o)[w.heap.size]? =_
 rw[Array.getElem?_push,if_pos rfl]
theorem ni (w:World) (o:Obj):(w.alloc o).heap.size=w.heap.size+1:=Array.size_push _
theorem cz {C:Cx} {hp:Nat->Option aq} {nx:Nat} {w:World} {ρ:Place} {Fs:Nat->FP} (m:fY C hp nx w ρ Fs) {id:Nat} {r:aq} (h:hp id=some r):id<nx:=by
 rcases Nat.lt_or_ge id nx with k|k
 ·exact k
 ·rw[m.fresh id k] at h;cases h
inductive Kept (C:Cx) (hp:Nat->Option aq) (w:World) (ρ:Place) (Fs:Nat->FP) (hp':Nat->Option aq) (w':World) (Fs':Nat->FP) (E':Env) (M:Prop) (T:Nat->Prop) (j:Nat):Prop
 |same (h1:hp' j=hp j) (h2:Fs' j=Fs j) (h3: ∀b,1<=Fs j b-> ¬T b)
 |gone (h1:hp' j=none) (h2:Fs' j=fz)
 |kC (root a_:aq) (h1:hp j=some root) (h2:hp' j=some a_) (h3:u9 w w' (ρ j) root a_) (h4:M->gJ E' j a_ (Fs' j))
theorem aQ.O2 {C:Cx} {S:St} {a:Act} {w:World} {ρ:Place} {Fs:Nat->FP} (h:aQ C S a w ρ Fs) (hp':Nat->Option aq) (nK:Nat) (w':World) (ρ':Place) (Fs':Nat->FP) (T:Nat->Prop)
 (mb:w.heap.size<=w'.heap.size) (JO:w'.os=w.os) (JP:w'.tape=w.tape) (wZ:w'.output=w.output)
 (HR: ∀b,b<w.heap.size-> ¬T b->w'.heap[b]? =w.heap[b]?) (hT: ∀b,T b->1<=ar S.nx Fs b)
 (JE:S.nx<=nK) (hρ: ∀id,id<S.nx->(∀root,S.hp id=some root->root.real)->ρ' id=ρ id)
 (hj: ∀j,j<S.nx->Kept C S.hp w ρ Fs hp' w' Fs' (C.env w' ρ' hp' nK Fs') (oC (C.env w ρ S.hp S.nx Fs) (C.env w' ρ' hp' nK Fs')) T j)
 (hn: ∀j,S.nx<=j->(hp' j=none/\Fs' j=fz)\/(j<nK/\ ∃root,hp' j=some root/\(oC (C.env w ρ S.hp S.nx Fs) (C.env w' ρ' hp' nK Fs')->gJ (C.env w' ρ' hp' nK Fs') j root (Fs' j))))
 (ke: ∀b,ar nK Fs' b<=1) (pF: ∀b,1<=ar nK Fs' b->1<=ar S.nx Fs b\/(w.heap.size<=b/\b<w'.heap.size)):
 aQ C ⟨S.sl,hp',nK⟩ a w' ρ' Fs' /\oC (C.env w ρ S.hp S.nx Fs) (C.env w' ρ' hp' nK Fs'):=by
 have Pz: ∀id root,S.hp id=some root-> ∀b,1<=Fs id b->b<w.heap.size:=fun id root hid b hb=>(h.mem.nW b (Nat.le_trans hb (iz Fs b (cz h.mem hid)))).1
 have hc:Qk C S.hp S.nx w ρ Fs hp' nK w' ρ' Fs':=by
  refine ⟨mb,JO,JP,wZ,fun b hb h0=>HR b hb fun ht=>by have:=hT b ht;omega,JE,hρ,?_,?_,?_,ke,pF⟩
  ·intro id a_ hid hr
   cases hj id hid with
   |same h1 h2 h3=>
    rw[h1] at hr
    refine ⟨a_,hr,?_⟩
    cases a_ with
    |hole e v r i f=>exact .inr ⟨rfl,e,v,r,i,f,rfl⟩
    |box t c=>exact .inl trivial
    |dH=>exact .inl trivial
    |row e v r=>
     refine .inl (u9.refl _ _ _ _ (fun b cap hq _=> ?_) (fun e v r i f=>by simp))
     have Jy:=h.mem.roots id _ hr
     rcases Jy with ⟨k1,_⟩| ⟨b',nr,arr,ty,F',k1,k2,_,_,_,k6⟩
     ·simp only[Cx.env] at k1;rw[k1] at hq;cases hq
     ·simp only[Cx.env] at k1 k2;rw[k1] at hq;cases hq
      exact HR b (Array.getElem?_eq_some_iff.1 k2).1 (h3 b (by rw[k6];simp))
   |gone h1 h2=>rw[h1] at hr;cases hr
   |kC root UL h1 h2 h3 h4=>rw[h2] at hr;cases hr;exact ⟨root,h1,.inl h3⟩
  ·intro id hid
   rcases hn id (by omega) with ⟨k,_⟩| ⟨k,_⟩
   ·exact k
   ·omega
  ·intro id hid
   rcases Nat.lt_or_ge id S.nx with k|k
   ·cases hj id k with
    |same h1 h2 h3=>rw[h2];exact h.mem.dead id (by rw[<- h1];exact hid)
    |gone h1 h2=>exact h2
    |kC root a_ h1 h2 h3 h4=>rw[h2] at hid;cases hid
   ·rcases hn id k with ⟨_,k⟩| ⟨_,root,k,_⟩
    ·exact k
    ·rw[k] at hid;cases hid
 refine ⟨h.change hc fun id root hid=> ?_,hc.mono h.mem⟩
 have M:=hc.mono h.mem
 rcases Nat.lt_or_ge id S.nx with k|k
 ·cases hj id k with
  |same h1 h2 h3=>exact .inl ⟨h1,fun b hb=>HR b (Pz id root (by rw[<- h1];exact hid) b hb) (h3 b hb),h2⟩
  |gone h1 h2=>rw[h1] at hid;cases hid
  |kC VL a_ h1 h2 h3 h4=>rw[h2] at hid;cases hid;exact .inr (h4 M)
 ·rcases hn id k with ⟨k,_⟩| ⟨_,a_,k,hr⟩
  ·rw[k] at hid;cases hid
  ·rw[k] at hid;cases hid;exact .inr (hr M)
theorem aQ.gen {C:Cx} {S:St} {a:Act} {w:World} {ρ:Place} {Fs:Nat->FP} (h:aQ C S a w ρ Fs) (hp':Nat->Option aq) (nK:Nat) (w':World) (ρ':Place) (Fs':Nat->FP) (T:Nat->Prop)
 (mb:w.heap.size<=w'.heap.size) (JO:w'.os=w.os) (JP:w'.tape=w.tape) (wZ:w'.output=w.output)
 (HR: ∀b,b<w.heap.size-> ¬T b->w'.heap[b]? =w.heap[b]?) (hT: ∀b,T b->1<=ar S.nx Fs b)
 (JE:S.nx<=nK) (hρ: ∀id,id<S.nx->(∀root,S.hp id=some root->root.real)->ρ' id=ρ id)
 (hj: ∀j,j<S.nx->Kept C S.hp w ρ Fs hp' w' Fs' (C.env w' ρ' hp' nK Fs') (oC (C.env w ρ S.hp S.nx Fs) (C.env w' ρ' hp' nK Fs')) T j)
 (hn: ∀j,S.nx<=j->(hp' j=none/\Fs' j=fz)\/(j<nK/\ ∃root,hp' j=some root/\(oC (C.env w ρ S.hp S.nx Fs) (C.env w' ρ' hp' nK Fs')->gJ (C.env w' ρ' hp' nK Fs') j root (Fs' j))))
 (ke: ∀b,ar nK Fs' b<=1) (pF: ∀b,1<=ar nK Fs' b->1<=ar S.nx Fs b\/(w.heap.size<=b/\b<w'.heap.size)):
 aQ C ⟨S.sl,hp',nK⟩ a w' ρ' Fs':=(h.O2 hp' nK w' ρ' Fs' T mb JO JP wZ HR hT JE hρ hj hn ke pF).1
theorem aQ.Nw {C:Cx} {S:St} {a:Act} {w:World} {ρ:Place} {Fs:Nat->FP} (h:aQ C S a w ρ Fs) (ks:List Nat) (sA:ks.Nodup) (jX: ∀k∈ks,S.hp k≠none) (id:Nat) (hid:id∉ks) (root a_:aq) (DQ:S.hp id=some root) (Fn:FP) (w':World)
 (mb:w'.heap.size=w.heap.size) (JO:w'.os=w.os) (JP:w'.tape=w.tape) (wZ:w'.output=w.output)
 (HR: ∀b,b<w.heap.size->Fs id b=0->w'.heap[b]? =w.heap[b]?) (hF: ∀b,Fn b<=Fs id b+cE Fs ks b) (hl:u9 w w' (ρ id) root a_)
 (hr:oC (C.env w ρ S.hp S.nx Fs) (C.env w' ρ (eA S.hp (cF ks++[(id,some a_)])) S.nx (eU (cS Fs ks) id Fn))->gJ (C.env w' ρ (eA S.hp (cF ks++[(id,some a_)])) S.nx (eU (cS Fs ks) id Fn)) id a_ Fn):
 aQ C ⟨S.sl,eA S.hp (cF ks++[(id,some a_)]),S.nx⟩ a w' ρ (eU (cS Fs ks) id Fn):=by
 have hk: ∀k∈ks,k<S.nx:=fun k h'=>by
  cases e:S.hp k with
  |none=>exact absurd e (jX k h')
  |some r=>exact cz h.mem e
 have kH:=cz h.mem DQ
 have nU: ∀j,eA S.hp (cF ks++[(id,some a_)]) j=if j=id then some a_ else if j∈ks then none else S.hp j:=fun j=>by
  rw[bE,eT,lV,je]
 have jc: ∀b,ar S.nx (eU (cS Fs ks) id Fn) b+Fs id b+cE Fs ks b=ar S.nx Fs b+Fn b:=fun b=>by
  have h1:=en (cS Fs ks) Fn b kH
  have h2:=jN Fs b S.nx ks sA hk
  have h3:cS Fs ks id=Fs id:=by simp[cS,hid]
  rw[h3] at h1
  omega
 refine h.gen _ _ w' ρ _ (fun b=>1<=Fs id b) (by omega) JO JP wZ (fun b hb ht=>HR b hb (by omega)) (fun b ht=>Nat.le_trans ht (iz Fs b kH)) (Nat.le_refl _) (fun _ _ _=>rfl) ?_ ?_ ?_ ?_
 ·intro j hj
  by_cases e:j=id
  ·subst e
   exact .kC root a_ DQ (by rw[nU,if_pos rfl]) hl (fun M=>by rw[fV];exact hr M)
  ·by_cases e2:j∈ks
   ·exact .gone (by rw[nU,if_neg e,if_pos e2]) (by rw[cN _ _ e];simp[cS,e2])
   ·refine .same (by rw[nU,if_neg e,if_neg e2]) (by rw[cN _ _ e];simp[cS,e2]) (fun b h1 h2=> ?_)
    have:=B6 Fs b hj kH e
    have:=h.mem.one b
    omega
 ·intro j hj
  refine .inl ⟨by rw[nU,if_neg (by omega)];split;rfl;exact h.mem.fresh j hj,?_⟩
  rw[cN _ _ (by omega)]
  by_cases e2:j∈ks
  ·simp[cS,e2]
  ·simp[cS,e2];exact h.mem.dead j (h.mem.fresh j hj)
 ·intro b;have:=jc b;have:=hF b;have:=h.mem.one b;omega
 ·intro b hb;have:=jc b;have:=hF b;left;omega
theorem oF (Fs:Nat->FP) (b n:Nat) {ks:List Nat} (hd:ks.Nodup) (hk: ∀k∈ks,k<n) {j:Nat} (hj:j<n) (Nh:j∉ks):Fs j b+cE Fs ks b<=ar n Fs b:=by
 have h1:=jN Fs b n ks hd hk
 have h2:=iz (cS Fs ks) b hj
 have h3:cS Fs ks j=Fs j:=by simp[cS,Nh]
 rw[h3] at h2
 omega
theorem jM (Fs:Nat->FP) (b n:Nat) {ks:List Nat} (hd:ks.Nodup) (hk: ∀k∈ks,k<n):cE Fs ks b<=ar n Fs b:=by
 have h1:=jN Fs b n ks hd hk
 omega
theorem aQ.make {C:Cx} {S:St} {a:Act} {w:World} {ρ:Place} {Fs:Nat->FP} (h:aQ C S a w ρ Fs) {id:Nat} (hg:S.hp id=some .dH) (ks:List Nat) (sA:ks.Nodup) (jX: ∀k∈ks,∃r,S.hp k=some r/\r.real) (root:aq) (q:Option (Nat×Nat)) (Fn:FP) (w':World)
 (mb:w.heap.size<=w'.heap.size) (JO:w'.os=w.os) (JP:w'.tape=w.tape) (wZ:w'.output=w.output)
 (HR: ∀b,b<w.heap.size->cE Fs ks b=0->w'.heap[b]? =w.heap[b]?) (hF: ∀b,Fn b<=cE Fs ks b+(if w.heap.size<=b/\b<w'.heap.size then 1 else 0))
 (hr:oC (C.env w ρ S.hp S.nx Fs) (C.env w' (gq ρ id q) (eA S.hp (cF ks++[(id,some root)])) S.nx (eU (cS Fs ks) id Fn))->gJ (C.env w' (gq ρ id q) (eA S.hp (cF ks++[(id,some root)])) S.nx (eU (cS Fs ks) id Fn)) id root Fn):
 aQ C ⟨S.sl,eA S.hp (cF ks++[(id,some root)]),S.nx⟩ a w' (gq ρ id q) (eU (cS Fs ks) id Fn):=by
 have hid:id∉ks:=fun h'=>by
  obtain ⟨r,h1,h2⟩:=jX id h'
  rw[hg] at h1;cases h1;exact h2
 have hk: ∀k∈ks,k<S.nx:=fun k h'=>by
  obtain ⟨r,h1,_⟩:=jX k h'
  exact cz h.mem h1
 have kH:=cz h.mem hg
 have P3:Fs id=fz:=h.mem.roots id _ hg
 have nU: ∀j,eA S.hp (cF ks++[(id,some root)]) j=if j=id then some root else if j∈ks then none else S.hp j:=fun j=>by
  rw[bE,eT,lV,je]
 have jc: ∀b,ar S.nx (eU (cS Fs ks) id Fn) b+cE Fs ks b=ar S.nx Fs b+Fn b:=fun b=>by
  have h1:=en (cS Fs ks) Fn b kH
  have h2:=jN Fs b S.nx ks sA hk
  have h3:cS Fs ks id=Fs id:=by simp[cS,hid]
  rw[h3,P3] at h1
  simp at h1
  omega
 have pF: ∀b,1<=ar S.nx Fs b->b<w.heap.size:=fun b hb=>(h.mem.nW b hb).1
 refine h.gen _ _ w' _ _ (fun b=>1<=cE Fs ks b) mb JO JP wZ (fun b hb ht=>HR b hb (by omega)) (fun b ht=>Nat.le_trans ht (jM Fs b S.nx sA hk)) (Nat.le_refl _) (fun j hj sy=>lU _ _ ?_) ?_ ?_ ?_ ?_
 ·rintro rfl
  exact sy _ hg
 ·intro j hj
  by_cases e:j=id
  ·subst e
   exact .kC .dH root hg (by rw[nU,if_pos rfl]) trivial (fun M=>by rw[fV];exact hr M)
  ·by_cases e2:j∈ks
   ·exact .gone (by rw[nU,if_neg e,if_pos e2]) (by rw[cN _ _ e];simp[cS,e2])
   ·refine .same (by rw[nU,if_neg e,if_neg e2]) (by rw[cN _ _ e];simp[cS,e2]) (fun b h1 h2=> ?_)
    have:=oF Fs b S.nx sA hk hj e2
    have:=h.mem.one b
    omega
 ·intro j hj
  refine .inl ⟨by rw[nU,if_neg (by omega)];split;rfl;exact h.mem.fresh j hj,?_⟩
  rw[cN _ _ (by omega)]
  by_cases e2:j∈ks
  ·simp[cS,e2]
  ·simp[cS,e2];exact h.mem.dead j (h.mem.fresh j hj)
 ·intro b
  have h1:=jc b
  have h2:=hF b
  have h3:=h.mem.one b
  have h4:=jM Fs b S.nx sA hk
  split at h2
  ·rename_i hb
   have: ¬1<=ar S.nx Fs b:=fun h'=>by have:=pF b h';omega
   omega
  ·omega
 ·intro b hb
  have h1:=jc b
  have h2:=hF b
  have h4:=jM Fs b S.nx sA hk
  split at h2
  ·rename_i hb;exact .inr hb
  ·left;omega
def qo (hp:Nat->Option aq) (m N:Nat):Nat->Option aq:=fun j=>match hp j with
 |some r=>some r
 |none=>bif Nat.ble m j&&Nat.blt j N then some .dH else none
theorem aQ.Np {C:Cx} {S:St} {a:Act} {w:World} {ρ:Place} {Fs:Nat->FP} (h:aQ C S a w ρ Fs) {N:Nat} (hN:S.nx<=N):aQ C ⟨S.sl,qo S.hp S.nx N,N⟩ a w ρ Fs:=by
 have jc: ∀b,ar N Fs b=ar S.nx Fs b:=fun b=>o8 b hN fun j h1 _=>by rw[h.mem.dead j (h.mem.fresh j h1)];rfl
 refine h.gen _ _ w ρ _ (fun _=>False) (Nat.le_refl _) rfl rfl rfl (fun _ _ _=>rfl) (fun _ h=>h.elim) hN (fun _ _ _=>rfl) (fun j hj=> .same ?_ rfl (fun _ _ h=>h)) (fun j hj=> ?_) (fun b=>by rw[jc];exact h.mem.one b) (fun b hb=> .inl (by rw[jc] at hb;exact hb))
 ·have:Nat.ble S.nx j=false:=Bool.eq_false_iff.2 (fun h'=>by have:=Nat.le_of_ble_eq_true h';omega)
  simp only[qo,this,Bool.false_and,cond_false]
  cases S.hp j<;>rfl
 ·have hd:=h.mem.fresh j hj
  by_cases e:j<N
  ·refine .inr ⟨e,.dH,?_,fun _=>h.mem.dead j hd⟩
   have h1:Nat.ble S.nx j=true:=Nat.ble_eq_true_of_le hj
   have h2:Nat.blt j N=true:=by simp[Nat.blt_eq];exact e
   simp only[qo,hd,h1,h2];rfl
  ·refine .inl ⟨?_,h.mem.dead j hd⟩
   have h2:Nat.blt j N=false:=Bool.eq_false_iff.2 (fun h3=>by have:=Nat.le_of_ble_eq_true h3;omega)
   simp only[qo,hd,h2,Bool.and_false];rfl
theorem aQ.Nq {C:Cx} {S:St} {a:Act} {w:World} {ρ:Place} {Fs:Nat->FP} (h:aQ C S a w ρ Fs) (hp':Nat->Option aq) (hh: ∀j,hp' j=S.hp j\/(S.hp j=some .dH/\hp' j=none)):aQ C ⟨S.sl,hp',S.nx⟩ a w ρ Fs:=by
 refine h.gen _ _ w ρ _ (fun _=>False) (Nat.le_refl _) rfl rfl rfl (fun _ _ _=>rfl) (fun _ h=>h.elim) (Nat.le_refl _) (fun _ _ _=>rfl) (fun j hj=> ?_) (fun j hj=> ?_) h.mem.one (fun b hb=> .inl hb)
 ·rcases hh j with e| ⟨e1,e2⟩
  ·exact .same e rfl (fun _ _ h=>h)
  ·exact .gone e2 (h.mem.roots j _ e1)
 ·have hd:=h.mem.fresh j hj
  rcases hh j with e| ⟨e1,e2⟩
  ·exact .inl ⟨by rw[e];exact hd,h.mem.dead j hd⟩
  ·rw[hd] at e1;cases e1
section
variable {P:Program} {w:World}
theorem A_ {t:TypeId} {i:TypeInfo} (h:P.info? t=some i):(typeInfo t).run P w= .ok i w:=by
 simp[typeInfo,program,h,go_sem,Sem.run,Bind.bind,Sem.bind,Pure.pure]
theorem kK {t:TypeId} {i:TypeInfo} (h:P.info? t=some i):(sizeOf t).run P w= .ok i.size w:=by
 unfold sizeOf
 rw[cP (A_ h)]
 rfl
def Nx:TypeDesc->Bool
 | .struct _=>true
 | .array _ _=>true
 |_=>false
theorem zC {t:TypeId} {d:TypeDesc} (h:P.underlying t=some d):(isAgg t).run P w= .ok (Nx d) w:=by
 unfold isAgg
 rw[cP (run_underlying h w)]
 cases d<;>rfl
theorem lb {t e:TypeId} {i:TypeInfo} (h:P.underlying t=some (.slice e)) (hi:P.info? e=some i) (a:Addr) (len cap:Nat) (k:IntKind) (n:Int) (h0:0<=n) (h1:n<len):
 (Instr.indexAt t (.slice (some a) len cap) (.int k n)).run P w= .ok (.pointer (some (a.add (n.toNat*i.size)))) w:=by
 have he:P.elem t=e:=by simp[Program.elem,h]
 have e1:=run_indexAt_slice (P:=P) w t a len cap k n (by rw[he];exact h)
 rw[e1,if_pos ⟨h0,h1⟩,he,kK hi]
 rfl
theorem xY {t e:TypeId} {i:TypeInfo} {m:Nat} (h:P.underlying t=some (.array m e)) (hi:P.info? e=some i) (a:Addr) (k:IntKind) (n:Int) (h0:0<=n) (h1:n<m):
 (Instr.indexAt t (.pointer (some a)) (.int k n)).run P w= .ok (.pointer (some (a.add (n.toNat*i.size)))) w:=by
 have he:P.elem t=e:=by simp[Program.elem,h]
 have hm:P.arrayLen t=m:=by simp[Program.arrayLen,h]
 have e1:=run_indexAt_array (P:=P) w t a k n (by rw[he,hm];exact h)
 rw[e1,hm,if_pos ⟨h0,h1⟩,he,kK hi]
 rfl
theorem Dl {t:TypeId} {fs:Array Field} {f:Field} {j:Nat} {i:TypeInfo} (h:P.underlying t=some (.struct fs)) (hf:fs[j]? =some f) (hi:P.info? f.type=some i) (h0:i.size≠0) (a:Addr):
 (Instr.fieldAt t (.pointer (some a)) j).run P w= .ok (.pointer (some (a.add f.offset))) w:=by
 unfold Instr.fieldAt
 rw[cP (run_underlying h w)]
 simp only[hf]
 rw[cP (x:=a) (w':=w) rfl]
 rw[cP (x:=a.add f.offset) (w':=w) (by
  unfold fieldPlace
  rw[cP (kK hi)]
  simp only[h0,if_false]
  rfl)]
 rfl
theorem kt {t:TypeId} {d:TypeDesc} (h:P.underlying t=some d) (hd:Nx d=false) {a:Addr} {v:Value} (hc:w.cell? a=some v):
 (Instr.loadAt t (.pointer (some a))).run P w= .ok v w:=by
 unfold Instr.loadAt
 rw[cP (x:=a) (w':=w) rfl]
 unfold loadVar
 rw[cP (zC h),hd]
 simp[load,Sem.run,hc]
theorem kq {t:TypeId} {fs:Array Field} {i:TypeInfo} (h:P.underlying t=some (.struct fs)) (hi:P.info? t=some i) {a:Addr} {vs:List Value} (hl:vs.length=i.size) (hc: ∀j v,vs[j]? =some v->w.cell? (a.add j)=some v):
 (Instr.loadAt t (.pointer (some a))).run P w= .ok (.agg vs.toArray) w:=by
 unfold Instr.loadAt
 rw[cP (x:=a) (w':=w) rfl]
 unfold loadVar
 rw[cP (zC h)]
 simp only[Nx,if_true]
 rw[cP (kK hi),<- hl,cP (run_loadCells_list w a vs hc)]
 rfl
theorem ku (k:IntKind) (i:Int) (y:Nat) (code:BoundsCode) (h0:0<=i) (h1:i<=y):(Instr.sliceBound (.int k i) y code).run P w= .ok i.toNat w:=by
 unfold Instr.sliceBound
 rw[cP (x:=(k,i)) (w':=w) rfl]
 simp only[h0,h1,and_self,if_true]
 rfl
def lK (o:Option Value) (d:Nat) (n:Nat):Prop:=match o with
 |none=>n=d
 |some v=> ∃(k:IntKind) (i:Int),v= .int k i/\0<=i/\n=i.toNat
theorem oL (b:Bool) (len cap:Nat) (lo hi:Option Value) (l h:Nat) (yn:lK lo 0 l) (BL:lK hi len h) (h1:l<=h) (h2:h<=cap):(Instr.sliceBounds b len cap lo hi none).run P w= .ok (l,h,cap) w:=by
 cases hi with
 |none=>
  cases BL
  cases lo with
  |none=>cases yn;rfl
  |some v=>
   obtain ⟨k,i,rfl,h0,rfl⟩:=yn
   unfold Instr.sliceBounds
   show Sem.run P (do let l <- Instr.sliceBound (.int k i) len _;pure (l,len,cap)) w=_
   rw[cP (ku k i len _ h0 (by omega))]
   rfl
 |some u=>
  obtain ⟨k',i',rfl,Qf,rfl⟩:=BL
  cases lo with
  |none=>
   cases yn
   unfold Instr.sliceBounds
   show Sem.run P (do let h <- Instr.sliceBound (.int k' i') cap _;pure (0,h,cap)) w=_
   rw[cP (ku k' i' cap _ Qf (by omega))]
   rfl
  |some v=>
   obtain ⟨k,i,rfl,h0,rfl⟩:=yn
   unfold Instr.sliceBounds
   show Sem.run P (do let h <- Instr.sliceBound (.int k' i') cap _;let l <- Instr.sliceBound (.int k i) h _;pure (l,h,cap)) w=_
   rw[cP (ku k' i' cap _ Qf (by omega)),cP (ku k i _ _ h0 (by omega))]
   rfl
theorem po {t e:TypeId} {i:TypeInfo} (h:P.underlying t=some (.slice e)) (hi:P.info? e=some i) (a:Option Addr) (len cap:Nat) (lo Ny:Option Value) (l hh:Nat) (yn:lK lo 0 l) (BL:lK Ny len hh) (h1:l<=hh) (h2:hh<=cap):
 (Instr.sliceAt t (.slice a len cap) lo Ny none).run P w= .ok (.slice (if cap=l then a else a.map (·.add (l*i.size))) (hh-l) (cap-l)) w:=by
 unfold Instr.sliceAt
 rw[cP (run_underlying h w)]
 show (Instr.slice t (.slice a len cap) lo Ny none).run P w=_
 unfold Instr.slice
 rw[cP (run_underlying h w)]
 simp only[]
 rw[cP (oL true len cap lo Ny l hh yn BL h1 h2)]
 rw[cP (kK hi)]
 rfl
theorem Ba {t:TypeId} (h:P.underlying t=some .string) (s:ByteArray) (lo Ny:Option Value) (l hh:Nat) (yn:lK lo 0 l) (BL:lK Ny s.size hh) (h1:l<=hh) (h2:hh<=s.size):
 (Instr.sliceAt t (.string s) lo Ny none).run P w= .ok (.string (s.extract l hh)) w:=by
 unfold Instr.sliceAt
 rw[cP (run_underlying h w)]
 show (Instr.slice t (.string s) lo Ny none).run P w=_
 unfold Instr.slice
 rw[cP (run_underlying h w)]
 simp only[Option.isSome_none,Bool.false_eq_true,if_false]
 rw[cP (oL false s.size s.size lo Ny l hh yn BL h1 h2)]
 rfl
theorem Bb {t:TypeId} (h:P.underlying t=some .string) (s:ByteArray) (k:IntKind) (n:Int) (h0:0<=n) (h1:n<s.size):(Instr.index t (.string s) (.int k n)).run P w= .ok (.int .u8 (sb s n.toNat)) w:=by
 unfold Instr.index
 rw[cP (x:=(k,n)) (w':=w) rfl]
 rw[cP (run_underlying h w)]
 have hl:n.toNat<s.size:=by omega
 have e:s[n.toNat]? =some s[n.toNat]:=by simp[getElem?_pos,hl]
 simp only[h0,if_true,e]
 have e2:s.data[n.toNat]? =some s[n.toNat]:=by
  have:n.toNat<s.data.size:=hl
  rw[Array.getElem?_eq_getElem this];rfl
 show Result.ok _ _=_
 simp[sb,e2]
end
section
variable {P:Program} {tt:TT} {C:Cx} {S:St} {a:Act} {w:World} {ρ:Place} {Fs:Nat->FP} {n:Nat}
theorem fP (h:aQ C S a w ρ Fs) {x:Operand} {v:LV} (e:St.rd C.N S.sl x= .one (.l v)):dD (C.env w ρ S.hp S.nx Fs) v (a.eval x):=by
 have:=h.rd x
 rw[e] at this
 exact this
theorem kj {R:Type} {x:AV} {K:Int->Option R} {r:R} (h:HK x K=some r): ∃k n,x= .one (.l (.i k n))/\K n=some r:=by
 unfold HK at h
 split at h
 ·exact ⟨_,_,rfl,h⟩
 ·cases h
theorem az {p q:Bool} (h:(p&&q)=true):p=true/\q=true:=by simpa using h
theorem ai {R:Type} {b:Bool} {x:Option R} {r:R} (h:(bif b then x else none)=some r):b=true/\x=some r:=by
 cases b
 ·cases h
 ·exact ⟨rfl,h⟩
theorem jG (T:kQ P tt) {t e:Nat} (h:jd tt t=some e):P.underlying t=some (.slice e):=by
 unfold jd at h
 split at h
 ·rename_i q1 q2 q3 hq
  cases h
  exact (T t _ hq).desc
 ·cases h
theorem vb (T:kQ P tt) {t n:Nat} (h:zw tt t=n) (hn:0<n): ∃e i,P.underlying t=some (.slice e)/\P.info? e=some i/\i.size=n:=by
 unfold zw at h
 split at h
 ·rename_i e q2 q3 hq
  have hd:=(T t _ hq).desc
  unfold bh at h
  split at h
  ·rename_i te DO
   obtain ⟨i,h1,h2,_⟩:=(T e te DO).zz
   exact ⟨e,i,hd,h1,by omega⟩
  ·omega
 ·omega
theorem nL {hp:Nat->Option aq} {id:Nat} {r:Row} (h:jg hp id=some r): ∃root,hp id=some root/\root.row? =some r:=by
 unfold jg at h
 split at h
 ·rename_i e v r' hq;cases h;exact ⟨_,hq,rfl⟩
 ·rename_i e v r' i f hq;cases h;exact ⟨_,hq,rfl⟩
 ·cases h
theorem jH (m:fY C S.hp S.nx w ρ Fs) {id:Nat} {root:aq} {r:Row} (h:S.hp id=some root) (hr:root.row? =some r) (hl:0<r.len): ∃b cap,ρ id=some (b,cap)/\r.len<=cap:=by
 have:=m.roots id root h
 cases root with
 |row e v r'=>
  cases hr
  rcases this with ⟨_,k,_⟩| ⟨b,cap,arr,ty,F',k1,k2,k3,_⟩
  ·omega
  ·exact ⟨b,cap,k1,k3⟩
 |hole e v r' i f=>
  cases hr
  rcases this.2.2 with ⟨_,k,_⟩| ⟨b,cap,arr,ty,F',k1,k2,k3,_⟩
  ·omega
  ·exact ⟨b,cap,k1,k3⟩
 |box t c=>cases hr
 |dH=>cases hr
theorem B7 {hp:Nat->Option aq} {id ver i f n:Nat} {rl rc:List Nat} (h:lenOf hp (.inner id ver i f)=some (n,rl,rc)): ∃root e r,hp id=some root/\root= .row e ver r/\n=(dm r i f).length:=by
 simp only[lenOf] at h
 cases hq:hp id with
 |none=>rw[hq] at h;cases h
 |some root=>
  rw[hq] at h
  cases root with
  |hole e v r i' f'=>cases h
  |box t c=>cases h
  |dH=>cases h
  |row e v r=>
   cases r with
   |ints k l=>cases h
   |cx l=>cases h
   |strs l=>cases h
   |rows o l=>
    obtain ⟨h1,h2⟩:=ai h
    have:=eq_of_beq h1
    subst this
    cases h2
    exact ⟨_,e,_,rfl,rfl,rfl⟩
   |cB sg o l=>
    obtain ⟨h1,h2⟩:=ai h
    have:=eq_of_beq h1
    subst this
    cases h2
    exact ⟨_,e,_,rfl,rfl,rfl⟩
theorem HS {r:Row} {i f:Nat} (hd:r.jA f=true) (hi:i<r.len): ∃o,r.cells[i*r.size+f]? =some (.sl o (dm r i f)):=by
 cases r with
 |ints k l=>cases hd
 |cx l=>cases hd
 |strs l=>cases hd
 |rows o l=>
  simp[Row.jA] at hd
  subst hd
  simp[Row.len] at hi
  exact ⟨o,by simp[Row.cells,Row.size,dm,hi]⟩
 |cB sg o l=>
  have hf:=CM hd
  simp only[Row.size] at hf ⊢
  simp only[Row.len] at hi
  rw[ov sg o l i f hf]
  have e1:l[i]? =some l[i]:=List.getElem?_eq_getElem hi
  have e2:sg[f]? =some true:=by
   simp only[Row.jA] at hd
   cases e:sg[f]? with
   |none=>rw[e] at hd;cases hd
   |some b=>rw[e] at hd;simp at hd;rw[hd]
  rw[e1,e2]
  exact ⟨o,by simp[dm,hi]⟩
theorem zb (m:fY C S.hp S.nx w ρ Fs) {id e ver:Nat} {r:Row} {j:Nat} {c:Cell} (h:S.hp id=some (.row e ver r)) (hc:r.cells[j]? =some c): ∃v F1 b cap,ρ id=some (b,cap)/\w.cell? ⟨b,j,none⟩=some v/\dZ w (C.ZL w (ar S.nx Fs)) c v F1/\ ∀b,F1 b<=Fs id b:=by
 rcases m.roots id _ h with ⟨_,k,_⟩| ⟨b,cap,arr,ty,F',k1,k2,k3,k4,k5,k6⟩
 ·have hl:=r.dn
  have:=(List.getElem?_eq_some_iff.1 hc).1
  rw[hl,k] at this
  simp at this
 ·obtain ⟨v,F1,F2,g1,g2,g3,_⟩:=k5.get hc
  refine ⟨v,F1,b,cap,k1,?_,g2,fun x=>by rw[k6,g3];simp;omega⟩
  have:=bJ k2 j
  simp only[Cx.env] at this
  rw[this]
  simpa using g1
theorem nj (T:kQ P tt) {t:Nat} {r:Row} (h:JJ tt t r=true): ∃e i,P.underlying t=some (.slice e)/\P.info? e=some i/\i.size=r.size:=by
 obtain ⟨h1,h2⟩:=az h
 exact vb T (eq_of_beq h1) (by simpa[Nat.blt_eq] using h2)
theorem HT (T:kQ P tt) {t n:Nat} (h:(zw tt t==n)=true) (hn:0<n): ∃e i,P.underlying t=some (.slice e)/\P.info? e=some i/\i.size=n:=vb T (eq_of_beq h) hn
theorem oM (m:fY C S.hp S.nx w ρ Fs) {id ver i f e:Nat} {r:Row} {v:Value} (h:S.hp id=some (.row e ver r)) (hd:r.jA f=true) (hi:i<r.len) (hc:cellAt (C.env w ρ S.hp S.nx Fs).w ((C.env w ρ S.hp S.nx Fs).ρ id) (i*r.size+f)=some v): ∃F1 o,dZ w (C.ZL w (ar S.nx Fs)) (.sl o (dm r i f)) v F1/\ ∀b,F1 b<=Fs id b:=by
 obtain ⟨o,ho⟩:=HS hd hi
 obtain ⟨v',F1,b,cap,h1,h2,h3,h4⟩:=zb m h ho
 simp only[Cx.env,h1,cellAt] at hc
 rw[h2] at hc
 cases hc
 exact ⟨F1,o,h3,h4⟩
theorem zD {w:World} {Z:Zs} {o:Bool} {l:List Int} {v:Value} {F:FP} (h:dZ w Z (.sl o l) v F): ∃A cap,v= .slice A l.length cap/\(0<l.length-> ∃ad,A=some ad/\GU w ad l):=by
 cases o with
 |false=>
  obtain ⟨_,A,cap,hv,_,hl⟩:=h
  refine ⟨A,cap,hv,fun hn=> ?_⟩
  obtain ⟨ad,e,_,hi⟩:=hl (by intro hh;subst hh;simp at hn)
  exact ⟨ad,e,hi⟩
 |true=>
  rcases h with ⟨h1,h2,_⟩| ⟨b,cap,arr,ty,hv,hb,h1,h2,h3,_⟩
  ·subst h2;exact ⟨none,0,h1,fun hn=>by simp at hn⟩
  ·refine ⟨_,cap,hv,fun _=>⟨_,rfl,fun j n hj=> ?_⟩⟩
   rw[dr,Nat.zero_add,bJ hb]
   exact h3 j n hj
theorem vc (T:kQ P tt) (h:aQ C S a w ρ Fs) {o:Oper} {t:Nat} {x ix:Operand} (ho:o.op= .indexAddr t x ix) {E:fR} (he:gY (R:=fR) tt S.hp n t (St.rd C.N S.sl x) (St.rd C.N S.sl ix) some=some E): ∃u,Out P C S o E a w w ρ Fs u:=by
 unfold gY at he
 obtain ⟨k,n,UM,he⟩:=kj he
 have So:a.eval ix= .int k n:=fP h UM
 have fin: ∀u,(Instr.indexAt t (a.eval x) (a.eval ix)).run P w= .ok u w->(execOp a.eval o).run P w= .ok (.value u) w:=fun u hu=>by
  simp only[execOp,ho];exact nh hu
 split at he
 ·rename_i id hx
  have EQ:=fP h hx
  split at he
  ·rename_i r hr
   obtain ⟨root,aj,kW⟩:=nL hr
   obtain ⟨hs,he⟩:=ai he
   obtain ⟨hc,he⟩:=dW he
   obtain ⟨h0,h1⟩:=az hc
   have h0:=of_decide_eq_true h0
   have h1:=of_decide_eq_true h1
   cases he
   obtain ⟨fJ,qW⟩:=EQ
   obtain ⟨r',e1,hv⟩:=qW root aj
   rw[kW] at e1;cases e1
   obtain ⟨b,cap,hρ,yZ⟩:=jH h.mem aj kW (by omega)
   simp only[Cx.env] at hv
   rw[hρ] at hv
   obtain ⟨e,i,g1,g2,g3⟩:=nj T hs
   refine ⟨_,Out.pure h rfl (fin _ (by rw[hv,So];exact lb g1 g2 _ _ _ _ _ h0 h1)) ⟨fJ,fun a_ me=> ?_⟩⟩
   simp only[Cx.env] at me ⊢
   rw[aj] at me;cases me
   exact ⟨r,kW,by omega,b,cap,hρ,by rw[dr,g3];simp⟩
  ·cases he
 ·rename_i id lo hi hx
  have EQ:=fP h hx
  split at he
  ·rename_i r hr
   obtain ⟨root,aj,kW⟩:=nL hr
   obtain ⟨hs,he⟩:=ai he
   obtain ⟨hc,he⟩:=dW he
   obtain ⟨h0,h1⟩:=az hc
   have h0:=of_decide_eq_true h0
   have h1:=of_decide_eq_true h1
   cases he
   obtain ⟨fJ,qW⟩:=EQ
   obtain ⟨r',e1,g4,g5,hv⟩:=qW root aj
   rw[kW] at e1;cases e1
   obtain ⟨b,cap,hρ,yZ⟩:=jH h.mem aj kW (by omega)
   simp only[Cx.env] at hv
   rw[hρ] at hv
   simp only[j7] at hv
   rw[if_neg (by omega)] at hv
   obtain ⟨e,i,g1,g2,g3⟩:=nj T hs
   refine ⟨_,Out.pure h rfl (fin _ (by rw[hv,So];exact lb g1 g2 _ _ _ _ _ h0 h1)) ⟨fJ,fun a_ me=> ?_⟩⟩
   simp only[Cx.env] at me ⊢
   rw[aj] at me;cases me
   exact ⟨r,kW,by omega,b,cap,hρ,by rw[dr,g3];simp[Nat.add_mul]⟩
  ·cases he
 ·rename_i p r hx
  obtain ⟨A,cap,hv,Cg,hl⟩:=fP h hx
  obtain ⟨hs,he⟩:=ai he
  obtain ⟨hc,he⟩:=dW he
  obtain ⟨h0,h1⟩:=az hc
  have h0:=of_decide_eq_true h0
  have h1:=of_decide_eq_true h1
  cases he
  obtain ⟨ad,rfl,P4⟩:=hl (by omega)
  obtain ⟨e,i,g1,g2,g3⟩:=nj T hs
  refine ⟨_,Out.pure h rfl (fin _ (by rw[hv,So];exact lb g1 g2 _ _ _ _ _ h0 h1)) ⟨by omega,ad,by rw[g3];simp,P4⟩⟩
 ·rename_i id ver e f hx
  have EQ:=fP h hx
  split at he
  ·rename_i n' rl rc hr
   obtain ⟨hs,he⟩:=ai he
   obtain ⟨hc,he⟩:=dW he
   obtain ⟨h0,h1⟩:=az hc
   have h0:=of_decide_eq_true h0
   have h1:=of_decide_eq_true h1
   cases he
   obtain ⟨root,e0,r,aj,PA,X9⟩:=B7 hr
   obtain ⟨fJ,qW⟩:=EQ
   subst PA
   obtain ⟨_,CN,Ez⟩:=qW _ aj
   obtain ⟨k1,k2,k4⟩:=Ez e0 r rfl
   obtain ⟨F1,ow,gW,_⟩:=oM h.mem aj k1 k2 k4
   obtain ⟨A,cap,hv,hA⟩:=zD gW
   obtain ⟨A,rfl,Ok⟩:=hA (by omega)
   obtain ⟨e',i,g1,g2,g3⟩:=HT T hs (by omega)
   refine ⟨_,Out.pure h rfl (fin _ (by rw[hv,So];exact lb g1 g2 _ _ _ _ _ h0 (by omega))) ⟨fJ,fun a_ me=> ?_⟩⟩
   simp only[Cx.env] at me ⊢
   rw[aj] at me;cases me
   refine ⟨trivial,CN,fun e1 r1 P5=> ?_⟩
   cases P5
   exact ⟨k1,k2,by omega,A,_,cap,by rw[<- hv];exact k4,by rw[g3];simp⟩
  ·cases he
 ·rename_i id m hx
  have EQ:=fP h hx
  split at he
  ·rename_i m' e' q1 q2 r hq hr
   obtain ⟨root,aj,kW⟩:=nL hr
   obtain ⟨hs,he⟩:=ai he
   obtain ⟨hc,he⟩:=dW he
   obtain ⟨h0,h1⟩:=az hc
   have h0:=of_decide_eq_true h0
   have h1:=of_decide_eq_true h1
   cases he
   obtain ⟨fJ,qW⟩:=EQ
   obtain ⟨r',e1,hlen,b,cap,hρ,hv⟩:=qW root aj
   rw[kW] at e1;cases e1
   simp only[Bool.and_eq_true,beq_iff_eq] at hs
   obtain ⟨⟨Mq,Mj⟩,VM⟩:=hs
   have VM:0<r.size:=by simpa[Nat.blt_eq] using VM
   subst Mq
   have hd:=(T t _ hq).desc
   have mb:bh tt e' ≠0:=by rw[Mj];omega
   unfold bh at Mj mb
   split at Mj
   ·rename_i te DO
    obtain ⟨i,g2,g3,_⟩:=(T e' te DO).zz
    refine ⟨_,Out.pure h rfl (fin _ (by rw[hv,So];exact xY hd g2 _ _ _ h0 h1)) ⟨fJ,fun a_ me=> ?_⟩⟩
    simp only[Cx.env] at me ⊢
    rw[aj] at me;cases me
    exact ⟨r,kW,by omega,b,cap,hρ,by rw[dr,g3,Mj];simp⟩
   ·rename_i hn;rw[hn] at mb;exact absurd rfl mb
  ·cases he
 ·cases he
theorem Dm (T:kQ P tt) {t sz bs:Nat} {fs:List (Nat×Nat)} (h:tt t=some ⟨.struct fs,sz,bs⟩) {f off ft:Nat} (hf:fs[f]? =some (off,ft)): ∃(fields:Array Field) (fd:Field) (i:TypeInfo),P.underlying t=some (.struct fields)/\fields[f]? =some fd/\fd.offset=off/\fd.type=ft/\P.info? ft=some i/\i.size≠0:=by
 obtain ⟨fields,h1,h2,h3⟩:=(T t _ h).desc
 have:(fields.toList.map (fun f=>(f.offset,f.type)))[f]? =some (off,ft):=by rw[h2];exact hf
 rw[List.getElem?_map] at this
 cases e:fields.toList[f]? with
 |none=>rw[e] at this;cases this
 |some fd=>
  rw[e] at this
  simp at this
  obtain ⟨g1,g2⟩:=this
  obtain ⟨i,g3,g4⟩:=h3 fd (List.mem_of_getElem? e)
  exact ⟨fields,fd,i,h1,by simpa using e,g1,g2,by rw[<- g2];exact g3,g4⟩
theorem vd (T:kQ P tt) (h:aQ C S a w ρ Fs) {o:Oper} {t f:Nat} {x:Operand} (ho:o.op= .fieldAddr t x f) {E:fR} (he:gZ (R:=fR) tt S.hp n t (St.rd C.N S.sl x) f some=some E): ∃u,Out P C S o E a w w ρ Fs u:=by
 unfold gZ at he
 split at he
 ·rename_i fs sz bs hq
  split at he
  ·rename_i off ft hf
   obtain ⟨fields,fd,i,g1,g2,g3,g4,g5,g6⟩:=Dm T hq hf
   have fin: ∀ad:Addr,a.eval x= .pointer (some ad)->(execOp a.eval o).run P w= .ok (.value (.pointer (some (ad.add off)))) w:=fun ad hx=>by
    simp only[execOp,ho,hx]
    have:=Dl (P:=P) (w:=w) g1 g2 (by rw[g4];exact g5) g6 ad
    rw[g3] at this
    exact nh this
   split at he
   ·rename_i id k hx
    cases he
    obtain ⟨h1,sy,b,cap,h2,hv⟩:=fP h hx
    exact ⟨_,Out.pure h rfl (fin _ hv) ⟨h1,sy,b,cap,h2,by rw[dr]⟩⟩
   ·rename_i id k g hx
    split at he
    ·rename_i r hr
     cases he
     obtain ⟨root,aj,kW⟩:=nL hr
     obtain ⟨h1,h2⟩:=fP h hx
     obtain ⟨r',e1,hlen,b,cap,hρ,hv⟩:=h2 root aj
     rw[kW] at e1;cases e1
     refine ⟨_,Out.pure h rfl (fin _ hv) ⟨h1,fun a_ me=> ?_⟩⟩
     simp only[Cx.env] at me ⊢
     rw[aj] at me;cases me
     exact ⟨r,kW,hlen,b,cap,hρ,by rw[dr,Nat.add_assoc]⟩
    ·cases he
   ·rename_i p r k g hx
    cases he
    obtain ⟨h1,ad,hv,h3⟩:=fP h hx
    exact ⟨_,Out.pure h rfl (fin _ hv) ⟨h1,ad,by rw[add_add,Nat.add_assoc],h3⟩⟩
   ·cases he
  ·cases he
 ·cases he
theorem qX {R:Type} {x:Option AV} {d:Int} {K:Int->Option R} {r:R} (h:zx x d K=some r):(x=none/\K d=some r)\/ ∃k n,x=some (.one (.l (.i k n)))/\K n=some r:=by
 unfold zx at h
 split at h
 ·exact .inl ⟨rfl,h⟩
 ·obtain ⟨k,n,e,h⟩:=kj h
  exact .inr ⟨k,n,by rw[e],h⟩
theorem oN (h:aQ C S a w ρ Fs) (lo:Option Operand) {d:Nat} {n:Int} (hn:(lo.map (St.rd C.N S.sl)=none/\n=d)\/ ∃k,lo.map (St.rd C.N S.sl)=some (.one (.l (.i k n)))) (h0:0<=n):lK (lo.map a.eval) d n.toNat:=by
 cases lo with
 |none=>
  rcases hn with ⟨_,rfl⟩| ⟨k,e⟩
  ·simp[lK]
  ·cases e
 |some x=>
  rcases hn with ⟨e,_⟩| ⟨k,e⟩
  ·cases e
  ·simp at e
   exact ⟨k,n,fP h e,h0,rfl⟩
theorem HU {w:World} {Z:Zs} {ad:Addr} {cs:List Cell} (h:oJ w Z ad cs) (n:Nat):oJ w Z (ad.add n) (cs.drop n):=by
 obtain ⟨h0,vs,h1,h2⟩:=h
 obtain ⟨F1,h3,h4⟩:=h2.drop n
 have e:F1=fz:=by funext b;have:=h4 b;simp at this;exact this
 subst e
 refine ⟨by rw[mF];exact h0,vs.drop n,fun j hj=> ?_,h3⟩
 rw[add_add,List.getElem?_drop]
 exact h1 (n+j) (by simp at hj;omega)
theorem HV {w:World} {Z:Zs} {ad:Addr} {cs:List Cell} (h:oJ w Z ad cs) (n:Nat):oJ w Z ad (cs.take n):=by
 obtain ⟨h0,vs,h1,h2⟩:=h
 obtain ⟨F1,h3,h4⟩:=h2.take n
 have e:F1=fz:=by funext b;have:=h4 b;simp at this;exact this
 subst e
 refine ⟨h0,vs.take n,fun j hj=> ?_,h3⟩
 simp at hj
 rw[List.getElem?_take,if_pos (by omega)]
 exact h1 j (by omega)
theorem tD {w:World} {Z:Zs} {r:Row} {A:Option Addr} {cap:Nat} (Cg:r.len<=cap) (h:r.len≠0-> ∃ad,A=some ad/\oJ w Z ad r.cells) (lo hi:Nat) (h1:lo<=hi) (h2:hi<=r.len):ea w Z ((r.take hi).drop lo) (.slice (if cap=lo then A else A.map (·.add (lo*r.size))) (hi-lo) (cap-lo)):=by
 refine ⟨_,_,by rw[mW,take_len,Nat.min_eq_left h2],by rw[mW,take_len,Nat.min_eq_left h2];omega,fun hn=> ?_⟩
 rw[mW,take_len,Nat.min_eq_left h2] at hn
 obtain ⟨ad,rfl,hf⟩:=h (by omega)
 refine ⟨ad.add (lo*r.size),by rw[if_neg (by omega)];rfl,?_⟩
 rw[zB,o_,take_size]
 exact HU (HV hf _) _
theorem Bc (T:kQ P tt) (h:aQ C S a w ρ Fs) {o:Oper} {t:Nat} {x:Operand} {lo hi:Option Operand} (ho:o.op= .slice t x lo hi none) {E:fR} (he:mD (R:=fR) tt S.hp n t (St.rd C.N S.sl x) (lo.map (St.rd C.N S.sl)) (hi.map (St.rd C.N S.sl)) some=some E): ∃u,Out P C S o E a w w ρ Fs u:=by
 have fin: ∀u,(Instr.sliceAt t (a.eval x) (lo.map a.eval) (hi.map a.eval) none).run P w= .ok u w->(execOp a.eval o).run P w= .ok (.value u) w:=fun u hu=>by
  simp only[execOp,ho];exact nh hu
 unfold mD at he
 split at he
 ·rename_i s hx
  split at he
  ·rename_i sz bs hq
   have hd:=(T t _ hq).desc
   have hv:a.eval x= .string s:=fP h hx
   have core: ∀hh:Int,((hi.map (St.rd C.N S.sl)=none/\hh=s.size)\/ ∃k,hi.map (St.rd C.N S.sl)=some (.one (.l (.i k hh))))->aC (decide (0<=hh)&&decide (hh<=s.size)) (zx (lo.map (St.rd C.N S.sl)) 0 fun l=>aC (decide (0<=l)&&decide (l<=hh)) (kP n (.l (.s (s.extract l.toNat hh.toNat))) some))=some E-> ∃u,Out P C S o E a w w ρ Fs u:=by
    intro hh BL he
    obtain ⟨hc,he⟩:=dW he
    obtain ⟨c1,c2⟩:=az hc
    have c1:=of_decide_eq_true c1
    have c2:=of_decide_eq_true c2
    have E2: ∀l:Int,((lo.map (St.rd C.N S.sl)=none/\l=(0:Nat))\/ ∃k,lo.map (St.rd C.N S.sl)=some (.one (.l (.i k l))))->aC (decide (0<=l)&&decide (l<=hh)) (kP n (.l (.s (s.extract l.toNat hh.toNat))) some)=some E-> ∃u,Out P C S o E a w w ρ Fs u:=by
     intro l hl he
     obtain ⟨hc,he⟩:=dW he
     obtain ⟨d1,d2⟩:=az hc
     have d1:=of_decide_eq_true d1
     have d2:=of_decide_eq_true d2
     cases he
     refine ⟨_,Out.pure h rfl (fin _ (by rw[hv];exact Ba hd s _ _ l.toNat hh.toNat (oN h lo hl d1) (oN h hi BL c1) (by omega) (by omega))) rfl⟩
    rcases qX he with ⟨e,he⟩| ⟨k,l,e,he⟩
    ·exact E2 _ (.inl ⟨e,rfl⟩) he
    ·exact E2 _ (.inr ⟨k,e⟩) he
   rcases qX he with ⟨e,he⟩| ⟨k,l,e,he⟩
   ·exact core _ (.inl ⟨e,rfl⟩) he
   ·exact core _ (.inr ⟨k,e⟩) he
  ·cases he
 ·rename_i id hx
  split at he
  ·rename_i r hr
   obtain ⟨root,aj,kW⟩:=nL hr
   obtain ⟨hs,he⟩:=ai he
   obtain ⟨e,i,g1,g2,g3⟩:=nj T hs
   obtain ⟨fJ,qW⟩:=fP h hx
   obtain ⟨r',e1,hv⟩:=qW root aj
   rw[kW] at e1;cases e1
   simp only[Cx.env] at hv
   have PB: ∃A cap,hdr (ρ id) r.len= .slice A r.len cap/\r.len<=cap/\ ∀lo hi:Nat,lo<=hi->hi<=r.len->Value.slice (if cap=lo then A else A.map (·.add (lo*r.size))) (hi-lo) (cap-lo)=j7 (ρ id) r.size lo hi:=by
    cases hρ:ρ id with
    |none=>
     have UN:r.len=0:=by
      rcases Nat.eq_zero_or_pos r.len with k|k
      ·exact k
      ·obtain ⟨b,cap,k1,_⟩:=jH h.mem aj kW k
       rw[hρ] at k1;cases k1
     refine ⟨none,0,by simp[hdr,UN],by omega,fun lo hi q1 q2=> ?_⟩
     have e1:lo=0:=by omega
     have e2:hi=0:=by omega
     subst e1;subst e2
     simp[j7]
    |some q=>
     obtain ⟨b,cap⟩:=q
     have yZ:r.len<=cap:=by
      rcases Nat.eq_zero_or_pos r.len with k|k
      ·omega
      ·obtain ⟨b',nr,k1,k2⟩:=jH h.mem aj kW k
       rw[hρ] at k1;cases k1;exact k2
     refine ⟨some ⟨b,0,none⟩,cap,rfl,yZ,fun lo hi q1 q2=> ?_⟩
     simp only[j7]
     by_cases e:cap=lo
     ·simp[e]
     ·simp[e,dr]
   obtain ⟨A,cap,VN,O9,Xh⟩:=PB
   rw[VN] at hv
   have core: ∀hq:Int,((hi.map (St.rd C.N S.sl)=none/\hq=r.len)\/ ∃k,hi.map (St.rd C.N S.sl)=some (.one (.l (.i k hq))))->aC (decide (0<=hq)&&decide (hq<=r.len)) (zx (lo.map (St.rd C.N S.sl)) 0 fun l=>aC (decide (0<=l)&&decide (l<=hq)) (some ⟨.l (.sub id l.toNat hq.toNat),[],n,[id],[]⟩))=some E-> ∃u,Out P C S o E a w w ρ Fs u:=by
    intro hq BL he
    obtain ⟨hc,he⟩:=dW he
    obtain ⟨c1,c2⟩:=az hc
    have c1:=of_decide_eq_true c1
    have c2:=of_decide_eq_true c2
    have E2: ∀l:Int,((lo.map (St.rd C.N S.sl)=none/\l=(0:Nat))\/ ∃k,lo.map (St.rd C.N S.sl)=some (.one (.l (.i k l))))->aC (decide (0<=l)&&decide (l<=hq)) (some (⟨.l (.sub id l.toNat hq.toNat),[],n,[id],[]⟩:fR))=some E-> ∃u,Out P C S o E a w w ρ Fs u:=by
     intro l hl he
     obtain ⟨hc,he⟩:=dW he
     obtain ⟨d1,d2⟩:=az hc
     have d1:=of_decide_eq_true d1
     have d2:=of_decide_eq_true d2
     cases he
     refine ⟨_,Out.pure h rfl (fin _ (by rw[hv];exact po g1 g2 A r.len cap _ _ l.toNat hq.toNat (oN h lo hl d1) (oN h hi BL c1) (by omega) (by omega))) ⟨fJ,fun a_ me=> ?_⟩⟩
     simp only[Cx.env] at me ⊢
     rw[aj] at me;cases me
     exact ⟨r,kW,by omega,by omega,by rw[g3];exact Xh _ _ (by omega) (by omega)⟩
    rcases qX he with ⟨e,he⟩| ⟨k,l,e,he⟩
    ·exact E2 _ (.inl ⟨e,rfl⟩) he
    ·exact E2 _ (.inr ⟨k,e⟩) he
   split at he
   ·rename_i e1 e2
    cases he
    have l0:lK (lo.map a.eval) 0 0:=by cases lo<;>first|rfl|cases e1
    have l1:lK (hi.map a.eval) r.len r.len:=by cases hi<;>first|rfl|cases e2
    refine ⟨_,Out.pure h rfl (fin _ (by rw[hv];exact po g1 g2 A r.len cap _ _ 0 r.len l0 l1 (by omega) O9)) ⟨fJ,fun a_ me=> ?_⟩⟩
    simp only[Cx.env] at me ⊢
    rw[aj] at me;cases me
    refine ⟨r,kW,?_⟩
    rw[VN]
    by_cases e:cap=0
    ·simp[e]
    ·cases A<;>simp[e,add_zero]
   ·rcases qX he with ⟨e,he⟩| ⟨k,l,e,he⟩
    ·exact core _ (.inl ⟨e,rfl⟩) he
    ·exact core _ (.inr ⟨k,e⟩) he
  ·cases he
 ·rename_i p r hx
  obtain ⟨hs,he⟩:=ai he
  obtain ⟨e,i,g1,g2,g3⟩:=nj T hs
  obtain ⟨A,cap,hv,Cg,hl⟩:=fP h hx
  have core: ∀l hq:Int,((lo.map (St.rd C.N S.sl)=none/\l=(0:Nat))\/ ∃k,lo.map (St.rd C.N S.sl)=some (.one (.l (.i k l))))->((hi.map (St.rd C.N S.sl)=none/\hq=r.len)\/ ∃k,hi.map (St.rd C.N S.sl)=some (.one (.l (.i k hq))))->0<=l->l<=hq->hq<=r.len-> ∃u,(execOp a.eval o).run P w= .ok (.value u) w/\ea (C.env w ρ S.hp S.nx Fs).w (if p then (C.env w ρ S.hp S.nx Fs).Zf else (C.env w ρ S.hp S.nx Fs).ZL) ((r.take hq.toNat).drop l.toNat) u:=by
   intro l hq k1 k2 k3 k4 k5
   refine ⟨_,fin _ (by rw[hv];exact po g1 g2 A r.len cap _ _ l.toNat hq.toNat (oN h lo k1 k3) (oN h hi k2 (by omega)) (by omega) (by omega)),?_⟩
   rw[g3]
   exact tD Cg hl _ _ (by omega) (by omega)
  have t1:r.take r.len=r:=by cases r<;>simp[Row.take,Row.len]
  have t2: ∀r:Row,r.drop 0=r:=fun r=>by cases r<;>simp[Row.drop]
  split at he
  ·rename_i e1 e2
   cases he
   obtain ⟨u,k1,k2⟩:=core 0 r.len (.inl ⟨e1,rfl⟩) (.inl ⟨e2,rfl⟩) (by omega) (by omega) (by omega)
   refine ⟨u,Out.pure h rfl k1 ?_⟩
   have e3:(r.take ((r.len:Int)).toNat).drop (0:Int).toNat=r:=by simp[t1,t2]
   rw[e3] at k2
   exact k2
  ·rename_i hq e1 e2
   obtain ⟨k,n,e3,he⟩:=kj he
   obtain ⟨hc,he⟩:=dW he
   obtain ⟨c1,c2⟩:=az hc
   have c1:=of_decide_eq_true c1
   have c2:=of_decide_eq_true c2
   cases he
   obtain ⟨u,k1,k2⟩:=core 0 n (.inl ⟨e1,rfl⟩) (.inr ⟨k,by rw[e2,e3]⟩) (by omega) (by omega) (by omega)
   refine ⟨u,Out.pure h rfl k1 ?_⟩
   have e3:(r.take n.toNat).drop (0:Int).toNat=r.take n.toNat:=by simp[t2]
   rw[e3] at k2
   exact k2
  ·rename_i lq e1 e2
   obtain ⟨k,n,e3,he⟩:=kj he
   obtain ⟨hc,he⟩:=dW he
   obtain ⟨c1,c2⟩:=az hc
   have c1:=of_decide_eq_true c1
   have c2:=of_decide_eq_true c2
   cases he
   obtain ⟨u,k1,k2⟩:=core n r.len (.inr ⟨k,by rw[e1,e3]⟩) (.inl ⟨e2,rfl⟩) (by omega) (by omega) (by omega)
   refine ⟨u,Out.pure h rfl k1 ?_⟩
   have e3:(r.take ((r.len:Int)).toNat)=r:=by simp[t1]
   rw[e3] at k2
   exact k2
  ·rename_i lq hq e1 e2
   obtain ⟨k,n,e3,he⟩:=kj he
   obtain ⟨hc,he⟩:=dW he
   obtain ⟨c1,c2⟩:=az hc
   have c1:=of_decide_eq_true c1
   have c2:=of_decide_eq_true c2
   obtain ⟨k',m,e4,he⟩:=kj he
   obtain ⟨hc,he⟩:=dW he
   obtain ⟨d1,d2⟩:=az hc
   have d1:=of_decide_eq_true d1
   have d2:=of_decide_eq_true d2
   cases he
   obtain ⟨u,k1,k2⟩:=core m n (.inr ⟨k',by rw[e1,e4]⟩) (.inr ⟨k,by rw[e2,e3]⟩) (by omega) (by omega) (by omega)
   exact ⟨u,Out.pure h rfl k1 k2⟩
 ·cases he
end
section
variable {P:Program} {tt:TT} {C:Cx} {S:St} {a:Act} {w:World} {ρ:Place} {Fs:Nat->FP} {n:Nat}
theorem lc (T:kQ P tt) {t:Nat} (h:cQ tt t=true): ∃d,P.underlying t=some d/\Nx d=false:=by
 unfold cQ at h
 split at h
 all_goals first
  | (rename_i hq;have hd:=(T t _ hq).desc;first|exact ⟨_,hd,rfl⟩| (obtain ⟨ms,hd⟩:=hd;exact ⟨_,hd,rfl⟩))
  |cases h
theorem kY (T:kQ P tt) {t:Nat} (h:cZ tt t=true): ∃(fields:Array Field) (i:TypeInfo),P.underlying t=some (.struct fields)/\P.info? t=some i/\i.size=bh tt t:=by
 unfold cZ at h
 split at h
 ·rename_i fs sz bs hq
  obtain ⟨fields,hd,_⟩:=(T t _ hq).desc
  obtain ⟨i,h1,h2,_⟩:=(T t _ hq).zz
  exact ⟨fields,i,hd,h1,by rw[h2];simp[bh,hq]⟩
 ·cases h
theorem aY.get {E:Env}: ∀ {xs:List LV} {vs:List Value},aY E xs vs-> ∀ {j:Nat} {x:LV},xs[j]? =some x-> ∃v,vs[j]? =some v/\dD E x v
 |x::xs,v::vs,h,0,y,hy=>by simp at hy;subst hy;exact ⟨v,rfl,h.1⟩
 |x::xs,v::vs,h,j+1,y,hy=>by simpa using aY.get h.2 (j:=j) (by simpa using hy)
theorem aY.length {E:Env}: ∀ {xs:List LV} {vs:List Value},aY E xs vs->xs.length=vs.length
 | [],[],_=>rfl
 |x::xs,v::vs,h=>by simp[aY.length h.2]
theorem aY.take {E:Env}: ∀ {xs:List LV} {vs:List Value} (n:Nat),aY E xs vs->aY E (xs.take n) (vs.take n)
 | [],[],n,h=>by simp[aY]
 |x::xs,v::vs,0,h=>by simp[aY]
 |x::xs,v::vs,n+1,h=>⟨h.1,aY.take n h.2⟩
theorem aY.drop {E:Env}: ∀ {xs:List LV} {vs:List Value} (n:Nat),aY E xs vs->aY E (xs.drop n) (vs.drop n)
 | [],[],n,h=>by simp[aY]
 |x::xs,v::vs,0,h=>h
 |x::xs,v::vs,n+1,h=>aY.drop n h.2
theorem ve {E:Env} {id ver e i f:Nat} {r:Row} (hid:id<E.nx) (aj:E.hp id=some (.row e ver r)) {b cap:Nat} (hρ:E.ρ id=some (b,cap)) (hi:i<r.len) (hf:f<r.size) {v:Value} {F:FP} {c:Cell} (hc:r.cells[i*r.size+f]? =some c) (hv:E.w.cell? ⟨b,i*r.size+f,none⟩=some v) (hr:dZ E.w E.ZL c v F) (hs:r.n8=false\/True):eE E (Df id ver i r f false) v:=by
 have inner:r.jA f=true->dD E (.inner id ver i f) v:=fun wP=>⟨hid,fun root me=>by
  rw[aj] at me;cases me
  refine ⟨trivial,Nat.le_refl _,fun e' r' he=> ?_⟩
  cases he
  exact ⟨wP,hi,by rw[hρ];exact hv⟩⟩
 cases r with
 |ints k l=>
  simp[Row.size] at hf;subst hf
  simp[Row.len] at hi
  simp[Row.cells,Row.size,hi] at hc
  subst hc
  obtain ⟨h1,_⟩:=hr
  show v=_
  rw[h1];simp[hi]
 |cx l=>
  simp[Row.size] at hf;subst hf
  simp[Row.len] at hi
  simp[Row.cells,Row.size,hi] at hc
  subst hc
  obtain ⟨h1,_⟩:=hr
  show v=_
  rw[h1];simp[hi]
 |strs l=>
  simp[Row.size] at hf;subst hf
  simp[Row.len] at hi
  simp[Row.cells,Row.size,hi] at hc
  subst hc
  obtain ⟨h1,_⟩:=hr
  show v=_
  rw[h1];simp[hi]
 |rows o l=>
  simp[Row.size] at hf;subst hf
  exact inner rfl
 |cB sg o l=>
  have VB:=hf
  simp only[Row.size] at hf hc
  simp only[Row.len] at hi
  have e2:sg[f]? =some sg[f]:=List.getElem?_eq_getElem hf
  cases hb:sg[f] with
  |true=>
   rw[hb] at e2
   show eE E (match sg[f]? with|some true=>_|some false=>_|none=>_) v
   rw[e2]
   exact inner (by simp[Row.jA,e2])
  |false=>
   rw[hb] at e2
   show eE E (match sg[f]? with|some true=>_|some false=>_|none=>_) v
   rw[e2]
   rw[ov sg o l i f hf,e2,List.getElem?_eq_getElem hi] at hc
   simp at hc
   subst hc
   obtain ⟨h1,_⟩:=hr
   show v=_
   rw[h1];simp[hi]
theorem vf {E:Env} {p:Bool} {i f:Nat} {r:Row} (hi:i<r.len) (hf:f<r.size) {v:Value} {c:Cell} (hc:r.cells[i*r.size+f]? =some c) (hr:dZ E.w (if p then E.Zf else E.ZL) c v fz):eE E (Dg p i r f false) v:=by
 have inner: ∀o l,c= .sl o l->dD E (.val p (.ints .i64 l)) v:=fun o l Xi=>by
  subst Xi
  have me:dZ E.w (if p then E.Zf else E.ZL) (.sl false l) v fz:=by
   cases o with
   |false=>exact hr
   |true=>exact hr.eb (fun b hb=>hb) (fun b hb=>by simp at hb)
  obtain ⟨_,A,cap,h1,h2,h3⟩:=me
  refine ⟨A,cap,h1,h2,fun hn=> ?_⟩
  obtain ⟨ad,e1,e2,e3⟩:=h3 (by intro h;subst h;exact hn rfl)
  refine ⟨ad,e1,e2,l.map (fun n=>Value.int .i64 n),fun j hj=> ?_,?_⟩
  ·simp[Row.cells] at hj
   rw[e3 j l[j] (List.getElem?_eq_getElem hj)]
   simp[hj]
  ·simp only[Row.cells]
   clear h1 h2 h3 e3 hn hr hc
   induction l with
   |nil=>rfl
   |cons n l ih=>exact ⟨fz,fz,⟨rfl,rfl⟩,ih,(b_ _).symm⟩
 cases r with
 |ints k l=>
  simp[Row.size] at hf;subst hf
  simp[Row.len] at hi
  simp[Row.cells,Row.size,hi] at hc
  subst hc
  obtain ⟨h1,_⟩:=hr
  show v=_
  rw[h1];simp[hi]
 |cx l=>
  simp[Row.size] at hf;subst hf
  simp[Row.len] at hi
  simp[Row.cells,Row.size,hi] at hc
  subst hc
  obtain ⟨h1,_⟩:=hr
  show v=_
  rw[h1];simp[hi]
 |strs l=>
  simp[Row.size] at hf;subst hf
  simp[Row.len] at hi
  simp[Row.cells,Row.size,hi] at hc
  subst hc
  obtain ⟨h1,_⟩:=hr
  show v=_
  rw[h1];simp[hi]
 |rows o l=>
  simp[Row.size] at hf;subst hf
  simp[Row.len] at hi
  simp[Row.cells,Row.size,hi] at hc
  have:=inner o l[i] hc.symm
  show dD E (.val p (.ints .i64 (l.getD i []))) v
  simpa[hi] using this
 |cB sg o l=>
  simp only[Row.size] at hf hc
  simp only[Row.len] at hi
  have e2:sg[f]? =some sg[f]:=List.getElem?_eq_getElem hf
  rw[ov sg o l i f hf,e2,List.getElem?_eq_getElem hi] at hc
  cases hb:sg[f] with
  |true=>
   rw[hb] at e2
   show eE E (match sg[f]? with|some true=>_|some false=>_|none=>_) v
   rw[e2]
   simp[hb] at hc
   have:=inner o (gl l[i] f) hc.symm
   show dD E (.val p (.ints .i64 (gl (l.getD i []) f))) v
   simpa[hi] using this
  |false=>
   rw[hb] at e2
   show eE E (match sg[f]? with|some true=>_|some false=>_|none=>_) v
   rw[e2]
   simp[hb] at hc
   subst hc
   obtain ⟨h1,_⟩:=hr
   show v=_
   rw[h1];simp[hi]
theorem aY.of {E:Env}: ∀ {xs:List LV} {vs:List Value},xs.length=vs.length->(∀(j:Nat) (x:LV) (v:Value),xs[j]? =some x->vs[j]? =some v->dD E x v)->aY E xs vs
 | [],[],_,_=>trivial
 | [],_::_,h,_=>by simp at h
 |_::_,[],h,_=>by simp at h
 |x::xs,v::vs,h,hh=>⟨hh 0 x v rfl rfl,aY.of (by simpa using h) (fun j y u h1 h2=>hh (j+1) y u (by simpa using h1) (by simpa using h2))⟩
theorem Dn {n i len:Nat} (hi:i<len):i*n+n<=len*n:=by
 have:(i+1)*n<=len*n:=Nat.mul_le_mul_right _ hi
 rw[Nat.succ_mul] at this
 exact this
theorem oO (sg:List Bool) (o:Bool) (l:List (List jC)):(Row.cB sg o l).cells.length=l.length*sg.length:=Row.dn _
theorem Nz {E:Env} {id ver e i:Nat} {sg:List Bool} {o:Bool} {l:List (List jC)} (hid:id<E.nx) (aj:E.hp id=some (.row e ver (.cB sg o l))) {b cap:Nat} (hρ:E.ρ id=some (b,cap)) (hi:i<l.length) {arr:List Value} {F:FP} (np:ah E.w E.ZL (Row.cB sg o l).cells arr F) (hb: ∀j v,arr[j]? =some v->E.w.cell? ⟨b,j,none⟩=some v):
 ∃vs:List Value,vs.length=sg.length/\(∀j v,vs[j]? =some v->E.w.cell? ⟨b,i*sg.length+j,none⟩=some v)/\aY E (sg.zipIdx.map fun (b,f)=>bif b then .inner id ver i f else .i .i64 (gi (l.getD i []) f)) vs:=by
 have hlen:=np.length
 rw[oO] at hlen
 have hle:=Dn (n:=sg.length) hi
 have TH:((arr.drop (i*sg.length)).take sg.length).length=sg.length:=by simp;omega
 have nU: ∀j v,((arr.drop (i*sg.length)).take sg.length)[j]? =some v->j<sg.length/\arr[i*sg.length+j]? =some v:=fun j v hj=>by
  rw[List.getElem?_take] at hj
  split at hj
  ·rw[List.getElem?_drop] at hj;exact ⟨‹_›,hj⟩
  ·cases hj
 refine ⟨(arr.drop (i*sg.length)).take sg.length,TH,fun j v hj=>hb _ _ (nU j v hj).2,aY.of (by simp;omega) fun j x v hx hv=> ?_⟩
 obtain ⟨hj,hv⟩:=nU j v hv
 have Ch:i*sg.length+j<(Row.cB sg o l).cells.length:=by rw[oO];omega
 obtain ⟨v',F1,F2,k1,k2,k3,_⟩:=np.get (List.getElem?_eq_getElem Ch)
 rw[hv] at k1;cases k1
 have:=ve (r:= .cB sg o l) (f:=j) (ver:=ver) hid aj hρ hi hj (List.getElem?_eq_getElem Ch) (hb _ _ hv) k2 (.inr trivial)
 have e2:sg[j]? =some sg[j]:=List.getElem?_eq_getElem hj
 simp only[List.getElem?_map,List.getElem?_zipIdx,e2,Option.map_some,Option.some.injEq,Nat.zero_add] at hx
 subst hx
 simp only[Df,cond_false,e2] at this
 cases hb:sg[j]<;>rw[hb] at this<;>exact this
theorem NA {E:Env} {p:Bool} {i:Nat} {sg:List Bool} {o:Bool} {l:List (List jC)} (hi:i<l.length) {arr:List Value} (np:ah E.w (if p then E.Zf else E.ZL) (Row.cB sg o l).cells arr fz):
 aY E (sg.zipIdx.map fun (b,f)=>bif b then .val p (.ints .i64 (gl (l.getD i []) f)) else .i .i64 (gi (l.getD i []) f)) ((arr.drop (i*sg.length)).take sg.length):=by
 have hlen:=np.length
 rw[oO] at hlen
 have hle:=Dn (n:=sg.length) hi
 have nU: ∀j v,((arr.drop (i*sg.length)).take sg.length)[j]? =some v->j<sg.length/\arr[i*sg.length+j]? =some v:=fun j v hj=>by
  rw[List.getElem?_take] at hj
  split at hj
  ·rw[List.getElem?_drop] at hj;exact ⟨‹_›,hj⟩
  ·cases hj
 refine aY.of (by simp;omega) fun j x v hx hv=> ?_
 obtain ⟨hj,hv⟩:=nU j v hv
 have Ch:i*sg.length+j<(Row.cB sg o l).cells.length:=by rw[oO];omega
 obtain ⟨v',F1,F2,k1,k2,k3,_⟩:=np.get (List.getElem?_eq_getElem Ch)
 have Kl:F1=fz:=by
  funext q
  have:=congrFun k3 q
  simp at this ⊢
  omega
 subst Kl
 rw[hv] at k1;cases k1
 have:=vf (E:=E) (p:=p) (r:= .cB sg o l) (f:=j) hi hj (List.getElem?_eq_getElem Ch) k2
 have e2:sg[j]? =some sg[j]:=List.getElem?_eq_getElem hj
 simp only[List.getElem?_map,List.getElem?_zipIdx,e2,Option.map_some,Option.some.injEq,Nat.zero_add] at hx
 subst hx
 simp only[Dg,cond_false,e2] at this
 cases hb:sg[j]<;>rw[hb] at this<;>exact this
theorem vg {r:Row} (h:r.n8=true): ∃sg o l,r= .cB sg o l:=by
 cases r<;>first|exact ⟨_,_,_,rfl⟩|cases h
theorem Dp (T:kQ P tt) (h:aQ C S a w ρ Fs) {o:Oper} {t:Nat} {x:Operand} (ho:o.op= .load t x) {E:fR} (he:pi (R:=fR) tt S.hp n t (St.rd C.N S.sl x) some=some E): ∃u,Out P C S o E a w w ρ Fs u:=by
 have fin: ∀u,(Instr.loadAt t (a.eval x)).run P w= .ok u w->(execOp a.eval o).run P w= .ok (.value u) w:=fun u hu=>by
  simp only[execOp,ho];exact nh hu
 unfold pi at he
 split at he
 ·rename_i id k hx
  obtain ⟨fJ,sy,b,cap,hρ,hv⟩:=fP h hx
  split at he
  ·rename_i bt cells aj
   obtain ⟨b',nr,vs,ty,g1,g2,g3,g4⟩:=h.mem.roots id _ aj
   simp only[Cx.env] at hρ g1 g2
   rw[hρ] at g1;cases g1
   cases iq:cZ tt t with
   |true=>
    rw[iq] at he
    obtain ⟨hle,he⟩:=ai he
    cases he
    have hle:=Nat.le_of_ble_eq_true hle
    obtain ⟨fields,i,d1,d2,d3⟩:=kY T iq
    have hlen:=g3.length
    refine ⟨.agg ((vs.toList.drop k).take (bh tt t)).toArray,Out.pure h rfl (fin _ ?_) ⟨_,rfl,(g3.drop k).take _⟩⟩
    rw[hv]
    refine kq d1 d2 (by rw[d3];simp at hlen ⊢;omega) fun j v hj=> ?_
    rw[dr,bJ g2]
    rw[List.getElem?_take] at hj
    split at hj
    ·rw[List.getElem?_drop] at hj;simpa using hj
    ·cases hj
   |false=>
    rw[iq] at he
    obtain ⟨hsc,he⟩:=ai he
    split at he
    ·rename_i y hy
     cases he
     obtain ⟨v,k1,k2⟩:=g3.get hy
     obtain ⟨d,d1,d2⟩:=lc T hsc
     refine ⟨v,Out.pure h rfl (fin _ ?_) k2⟩
     rw[hv]
     exact kt d1 d2 (by rw[bJ g2];simpa using k1)
    ·cases he
  ·cases he
 ·rename_i id i f hx
  obtain ⟨fJ,qW⟩:=fP h hx
  split at he
  ·rename_i e ver r aj
   obtain ⟨r',e1,hi,b,cap,hρ,hv⟩:=qW _ aj
   cases e1
   obtain ⟨hc,he⟩:=ai he
   cases he
   cases iq:cZ tt t with
   |true=>
    rw[iq] at hc
    obtain ⟨Ru,MM⟩:=az hc
    obtain ⟨Ja,PC⟩:=az Ru
    have Ja:=eq_of_beq Ja
    have PC:=eq_of_beq PC
    subst PC
    obtain ⟨sg,o',l,rfl⟩:=vg MM
    obtain ⟨fields,ti,d1,d2,d3⟩:=kY T iq
    have kW:=h.mem.roots id _ aj
    rcases kW with ⟨_,h0,_⟩| ⟨b',nr,arr,ty,F',g1,g2,g3,g4,g5,g6⟩
    ·simp only[Row.len] at h0 hi;omega
    ·simp only[Cx.env] at hρ g1 g2
     rw[hρ] at g1;cases g1
     have TU: ∀j v,arr.toList[j]? =some v->w.cell? ⟨b,j,none⟩=some v:=fun j v hj=>by rw[bJ g2];simpa using hj
     obtain ⟨vs,k1,k2,k3⟩:=Nz (E:=C.env w ρ S.hp S.nx Fs) (ver:=ver) fJ aj hρ hi g5 TU
     refine ⟨.agg vs.toArray,Out.pure h rfl (fin _ ?_) ⟨vs,rfl,k3⟩⟩
     rw[hv]
     refine kq d1 d2 (by rw[d3,k1];exact Ja.symm) fun j v hj=> ?_
     rw[dr]
     exact k2 j v hj
   |false=>
    rw[iq] at hc
    obtain ⟨hsc,hf⟩:=az hc
    have hf:f<r.size:=by simpa[Nat.blt_eq] using hf
    have Ch:i*r.size+f<r.cells.length:=by
     rw[Row.dn]
     have:(i+1)*r.size<=r.len*r.size:=Nat.mul_le_mul_right _ hi
     rw[Nat.succ_mul] at this
     omega
    obtain ⟨v,F1,b',nr,k1,k2,k3,k4⟩:=zb h.mem aj (List.getElem?_eq_getElem Ch)
    simp only[Cx.env] at hρ
    rw[hρ] at k1;cases k1
    obtain ⟨d,d1,d2⟩:=lc T hsc
    refine ⟨v,Out.pure h rfl (fin _ (by rw[hv];exact kt d1 d2 k2)) ?_⟩
    exact ve (E:=C.env w ρ S.hp S.nx Fs) fJ aj hρ hi hf (List.getElem?_eq_getElem Ch) k2 k3 (.inr trivial)
  ·cases he
 ·rename_i p r i f hx
  obtain ⟨hi,ad,hv,P4⟩:=fP h hx
  obtain ⟨hc,he⟩:=ai he
  cases he
  obtain ⟨hz,vs,Kh,np⟩:=P4
  cases iq:cZ tt t with
  |true=>
   rw[iq] at hc
   obtain ⟨Ru,MM⟩:=az hc
   obtain ⟨Ja,PC⟩:=az Ru
   have Ja:=eq_of_beq Ja
   have PC:=eq_of_beq PC
   subst PC
   obtain ⟨sg,o',l,rfl⟩:=vg MM
   obtain ⟨fields,ti,d1,d2,d3⟩:=kY T iq
   have hlen:=np.length
   have hle:=Dn (n:=sg.length) hi
   refine ⟨.agg ((vs.drop (i*sg.length)).take sg.length).toArray,Out.pure h rfl (fin _ ?_) ⟨_,rfl,NA (E:=C.env w ρ S.hp S.nx Fs) hi np⟩⟩
   rw[oO] at hlen
   simp only[Row.len] at hi hle
   rw[hv]
   refine kq d1 d2 (by rw[d3];simp[Row.size] at Ja ⊢;omega) fun j v hj=> ?_
   rw[List.getElem?_take] at hj
   split at hj
   ·rw[List.getElem?_drop] at hj
    rw[add_add,<- hj]
    exact Kh _ (by rw[oO];simp only[Row.size];omega)
   ·cases hj
  |false=>
   rw[iq] at hc
   obtain ⟨hsc,hf⟩:=az hc
   have hf:f<r.size:=by simpa[Nat.blt_eq] using hf
   have Ch:i*r.size+f<r.cells.length:=by
    rw[Row.dn]
    have:(i+1)*r.size<=r.len*r.size:=Nat.mul_le_mul_right _ hi
    rw[Nat.succ_mul] at this
    omega
   obtain ⟨v,F1,F2,k1,k2,k3,_⟩:=np.get (List.getElem?_eq_getElem Ch)
   have Kl:F1=fz:=by
    funext q
    have:=congrFun k3 q
    simp at this ⊢
    omega
   subst Kl
   obtain ⟨d,d1,d2⟩:=lc T hsc
   refine ⟨v,Out.pure h rfl (fin _ (by rw[hv];exact kt d1 d2 ((Kh _ Ch).trans k1))) ?_⟩
   exact vf (E:=C.env w ρ S.hp S.nx Fs) hi hf (List.getElem?_eq_getElem Ch) k2
 ·rename_i id ver i f j hx
  obtain ⟨fJ,qW⟩:=fP h hx
  split at he
  ·rename_i e v' r aj
   obtain ⟨hc,he⟩:=ai he
   cases he
   obtain ⟨DX,hsc⟩:=az hc
   have:=eq_of_beq DX
   subst this
   obtain ⟨_,_,Ez⟩:=qW _ aj
   obtain ⟨k1,k2,k3,A,n,cap,k4,hv⟩:=Ez e r rfl
   obtain ⟨F1,ow,gW,_⟩:=oM h.mem aj k1 k2 k4
   obtain ⟨A',nr,Xj,hA⟩:=zD gW
   obtain ⟨X_,e2,Ok⟩:=hA (by omega)
   subst e2
   cases Xj
   obtain ⟨d,d1,d2⟩:=lc T hsc
   have:=Ok j _ (List.getElem?_eq_getElem k3)
   refine ⟨_,Out.pure h rfl (fin _ (by rw[hv];exact kt d1 d2 this)) ?_⟩
   show _=_
   simp[k3]
  ·cases he
 ·cases he
end
section
variable {P:Program} {tt:TT} {C:Cx} {S:St} {a:Act} {w:World} {ρ:Place} {Fs:Nat->FP} {n:Nat}
theorem mM {w:World} {Z:Zs} {k:IntKind}: ∀l:List Int,ah w Z (Row.ints k l).cells (l.map fun n=>Value.int k n) fz
 | []=>rfl
 |x::l=>⟨fz,fz,⟨rfl,rfl⟩,mM l,(b_ _).symm⟩
theorem E3 (m:fY C S.hp S.nx w ρ Fs) {id e ver:Nat} {r:Row} (h:S.hp id=some (.row e ver r)): ∃A cap,hdr (ρ id) r.len= .slice A r.len cap/\r.len<=cap/\(∀b,A=some b-> ∃b' nr,ρ id=some (b',nr)/\nr=cap/\b=⟨b',0,none⟩)/\(ρ id=none->r.len=0/\A=none/\cap=0)/\(r.len≠0-> ∃ad,A=some ad/\oJ w (fun b=>C.ZL w (ar S.nx Fs) b\/1<=Fs id b) ad r.eb.cells):=by
 rcases m.roots id _ h with ⟨h1,h2,h3⟩| ⟨b,cap,arr,ty,F',h1,h2,h3,h4,h5,h6⟩
 ·simp only[Cx.env] at h1
  refine ⟨none,0,by rw[h1,h2];rfl,by omega,fun b hb=>(by cases hb),fun _=>⟨h2,rfl,rfl⟩,fun hn=>absurd h2 hn⟩
 ·simp only[Cx.env] at h1 h2
  refine ⟨some ⟨b,0,none⟩,cap,by rw[h1];rfl,h3,fun b' hb=>(by cases hb;exact ⟨b,cap,h1,rfl,rfl⟩),fun hn=>(by rw[h1] at hn;cases hn),fun _=>⟨_,rfl,.inr (by show 1<=Fs id b;rw[h6];simp),arr.toList,fun j hj=> ?_,?_⟩⟩
  ·rw[dr,bJ h2];simp
  ·rw[wM]
   exact h5.eb (fun b hb=> .inl hb) (fun b' hb=> .inr (by rw[h6];simp;omega))
theorem lH (m:fY C S.hp S.nx w ρ Fs) {x:LV} {r:Row} {rc:List Nat} (he:fG S.hp x=some (r,rc)) {v:Value} (hv:dD (C.env w ρ S.hp S.nx Fs) x v):ea w (fun b=>C.ZL w (ar S.nx Fs) b\/ ∃id∈rc,1<=Fs id b) r v:=by
 unfold fG at he
 split at he
 ·rename_i p r'
  cases he
  obtain ⟨A,cap,h1,h2,h3⟩:=hv
  refine ⟨A,cap,h1,h2,fun hn=> ?_⟩
  obtain ⟨ad,e,h0,vs,h4,h5⟩:=h3 hn
  have hz: ∀b,(if p then (C.env w ρ S.hp S.nx Fs).Zf else (C.env w ρ S.hp S.nx Fs).ZL) b->C.ZL w (ar S.nx Fs) b:=fun b hb=>by
   cases p
   ·exact hb
   ·exact .inr hb
  exact ⟨ad,e,.inl (hz _ h0),vs,h4,h5.mono (fun b hb=>⟨.inl (hz b hb),rfl⟩) (fun b _=>rfl)⟩
 ·rename_i id
  split at he
  ·rename_i e ver r' aj
   cases he
   obtain ⟨fJ,hx⟩:=hv
   obtain ⟨Sm,e1,e2⟩:=hx _ aj
   cases e1
   obtain ⟨A,cap,k1,k2,_,_,k3⟩:=E3 m aj
   refine ⟨A,cap,by rw[e2,jb];exact k1,by rw[jb];exact k2,fun hn=> ?_⟩
   rw[jb] at hn
   obtain ⟨ad,e,g0,vs,g1,g2⟩:=k3 hn
   have hz: ∀b,(C.ZL w (ar S.nx Fs) b\/1<=Fs id b)->C.ZL w (ar S.nx Fs) b\/ ∃i∈[id],1<=Fs i b:=fun b hb=>hb.imp (fun h=>h) (fun h=>⟨id,by simp,h⟩)
   exact ⟨ad,e,hz _ g0,vs,g1,g2.mono (fun b hb=>⟨hz b hb,rfl⟩) (fun b _=>rfl)⟩
  ·cases he
 ·rename_i id lo hi
  split at he
  ·rename_i e ver r' aj
   cases he
   obtain ⟨fJ,hx⟩:=hv
   obtain ⟨Sm,e1,l1,l2,e2⟩:=hx _ aj
   cases e1
   obtain ⟨A,cap,k1,k2,kA,kn,k3⟩:=E3 m aj
   have:=tD (w:=w) (Z:=fun b=>C.ZL w (ar S.nx Fs) b\/ ∃i∈[id],1<=Fs i b) (r:=r'.eb) (A:=A) (cap:=cap) (by rw[jb];exact k2) (fun hn=>by
    rw[jb] at hn
    obtain ⟨ad,e,g0,vs,g1,g2⟩:=k3 hn
    have hz: ∀b,(C.ZL w (ar S.nx Fs) b\/1<=Fs id b)->C.ZL w (ar S.nx Fs) b\/ ∃i∈[id],1<=Fs i b:=fun b hb=>hb.imp (fun h=>h) (fun h=>⟨id,by simp,h⟩)
    exact ⟨ad,e,hz _ g0,vs,g1,g2.mono (fun b hb=>⟨hz b hb,rfl⟩) (fun b _=>rfl)⟩) lo hi l1 (by rw[jb];exact l2)
   rw[e2]
   simp only[Cx.env]
   cases hρ:ρ id with
   |none=>
    obtain ⟨z1,z2,z3⟩:=kn hρ
    have:lo=0:=by omega
    have:hi=0:=by omega
    subst lo hi z2 z3
    simpa[j7] using this
   |some q=>
    obtain ⟨b,nr⟩:=q
    rw[hρ] at k1
    simp only[hdr,Value.slice.injEq] at k1
    obtain ⟨rfl,_,rfl⟩:=k1
    simp only[j7]
    rw[EC] at this
    have e3:(if nr=lo then some (⟨b,0,none⟩:Addr) else (some (⟨b,0,none⟩:Addr)).map (·.add (lo*r'.size)))=some (if nr=lo then ⟨b,0,none⟩ else ⟨b,lo*r'.size,none⟩):=by
     split
     ·rfl
     ·simp[dr]
    rw[e3] at this
    exact this
  ·cases he
 ·rename_i id ver i f
  have fin: ∀e r',S.hp id=some (.row e ver r')->r'.deep=true->r= .ints .i64 (dm r' i f)->rc=[id]->ea w (fun b=>C.ZL w (ar S.nx Fs) b\/ ∃id∈rc,1<=Fs id b) r v:=fun e r' aj _ hr Ol=>by
   subst hr Ol
   obtain ⟨fJ,hx⟩:=hv
   obtain ⟨_,_,Ez⟩:=hx _ aj
   obtain ⟨k1,k2,k4⟩:=Ez e r' rfl
   obtain ⟨F1,ow,gW,hle⟩:=oM m aj k1 k2 k4
   have gW:dZ w (fun b=>C.ZL w (ar S.nx Fs) b\/ ∃i∈[id],1<=Fs i b) (.sl false (dm r' i f)) v fz:=gW.eb (fun b hb=> .inl hb) (fun b hb=> .inr ⟨id,by simp,Nat.le_trans hb (hle b)⟩)
   obtain ⟨_,A,cap,h1,h2,h3⟩:=gW
   refine ⟨A,cap,h1,h2,fun hn=> ?_⟩
   obtain ⟨ad,e1,e2,e3⟩:=h3 (by intro h;rw[h] at hn;exact hn rfl)
   refine ⟨ad,e1,e2,(dm r' i f).map (fun n=>Value.int .i64 n),fun j hj=> ?_,mM _⟩
   simp only[Row.cells,List.length_map] at hj
   rw[e3 j _ (List.getElem?_eq_getElem hj)]
   simp[hj]
  split at he
  ·rename_i e v' o l aj
   obtain ⟨h1,h2⟩:=ai he
   have:=eq_of_beq h1
   subst this
   cases h2
   exact fin _ _ aj rfl rfl rfl
  ·rename_i e v' sg o l aj
   obtain ⟨h1,h2⟩:=ai he
   have:=eq_of_beq h1
   subst this
   cases h2
   exact fin _ _ aj rfl rfl rfl
  ·cases he
 ·cases he
theorem E4 (m:fY C S.hp S.nx w ρ Fs) {x:LV} {k:Nat} {rl rc:List Nat} (he:lenOf S.hp x=some (k,rl,rc)) {v:Value} (hv:dD (C.env w ρ S.hp S.nx Fs) x v): ∃A cap,v= .slice A k cap:=by
 unfold lenOf at he
 split at he
 ·cases he;exact ⟨_,_,hv⟩
 ·cases he;obtain ⟨A,cap,h,_⟩:=hv;exact ⟨A,cap,h⟩
 ·rename_i id
  split at he
  ·rename_i r hr
   cases he
   obtain ⟨root,h1,h2⟩:=nL hr
   obtain ⟨_,hx⟩:=hv
   obtain ⟨r',e1,e2⟩:=hx _ h1
   rw[h2] at e1;cases e1
   rw[e2]
   simp only[Cx.env]
   cases hρ:ρ id with
   |none=>
    rcases Nat.eq_zero_or_pos r.len with h0|h0
    ·rw[h0];exact ⟨_,_,rfl⟩
    ·obtain ⟨b,cap,k1,_⟩:=jH m h1 h2 h0
     rw[hρ] at k1;cases k1
   |some q=>exact ⟨_,_,rfl⟩
  ·cases he
 ·rename_i id lo hi
  split at he
  ·rename_i r hr
   cases he
   obtain ⟨root,h1,h2⟩:=nL hr
   obtain ⟨_,hx⟩:=hv
   obtain ⟨r',e1,l1,l2,e2⟩:=hx _ h1
   rw[h2] at e1;cases e1
   rw[e2]
   simp only[Cx.env]
   cases hρ:ρ id with
   |none=>
    rcases Nat.eq_zero_or_pos r.len with h0|h0
    ·have:hi-lo=0:=by omega
     rw[this];exact ⟨_,_,rfl⟩
    ·obtain ⟨b,cap,k1,_⟩:=jH m h1 h2 h0
     rw[hρ] at k1;cases k1
   |some q=>exact ⟨_,_,rfl⟩
  ·cases he
 ·rename_i id ver i f
  have Xk:lenOf S.hp (.inner id ver i f)=some (k,rl,rc):=he
  obtain ⟨root,e,r,h1,h2,h3⟩:=B7 Xk
  subst h2
  obtain ⟨_,hx⟩:=hv
  obtain ⟨_,_,Ez⟩:=hx _ h1
  obtain ⟨k1,k2,k4⟩:=Ez e r rfl
  obtain ⟨F1,ow,gW,hle⟩:=oM m h1 k1 k2 k4
  obtain ⟨A,cap,h,_⟩:=zD gW
  exact ⟨A,cap,by rw[h3];exact h⟩
 ·cases he
theorem Bd (T:kQ P tt) (h:aQ C S a w ρ Fs) {o:Oper} {t:Nat} {x ix:Operand} (ho:o.op= .index t x ix) {E:fR} (he:qU (R:=fR) tt n t (St.rd C.N S.sl x) (St.rd C.N S.sl ix) some=some E): ∃u,Out P C S o E a w w ρ Fs u:=by
 unfold qU at he
 split at he
 ·rename_i s hx
  split at he
  ·rename_i sz bs hq
   obtain ⟨k,i,UM,he⟩:=kj he
   obtain ⟨hc,he⟩:=dW he
   obtain ⟨h0,h1⟩:=az hc
   have h0:=of_decide_eq_true h0
   have h1:=of_decide_eq_true h1
   cases he
   have hv:a.eval x= .string s:=fP h hx
   have hi:a.eval ix= .int k i:=fP h UM
   refine ⟨_,Out.pure h rfl ?_ rfl⟩
   simp only[execOp,ho]
   refine nh ?_
   rw[hv,hi]
   exact Bb (T t _ hq).desc s k i h0 h1
  ·cases he
 ·cases he
theorem E5 (T:kQ P tt) {t:Nat} (h:cQ tt t=true):(P.underlying t).isSome=true:=by
 obtain ⟨d,h1,_⟩:=lc T h
 rw[h1];rfl
theorem LU (l:List Int):l.foldl (fun r n=>r.push (UInt8.ofNat n.toNat)) ByteArray.empty=strOf l:=by
 have: ∀(l:List Int) (s:ByteArray),l.foldl (fun r n=>r.push (UInt8.ofNat n.toNat)) s=⟨s.data++(l.map fun n=>UInt8.ofNat n.toNat).toArray⟩:=by
  intro l
  induction l with
  |nil=>intro s;simp
  |cons x l ih=>
   intro s
   rw[List.foldl_cons,ih]
   congr 1
   show (s.data.push _)++_=_
   apply Array.ext'
   simp
 rw[this l ByteArray.empty]
 unfold strOf
 congr 1
 apply Array.ext'
 simp
theorem xZ (T:kQ P tt) (h:aQ C S a w ρ Fs) {o:Oper} {src dst:Nat} {x:Operand} (ho:o.op= .convert src dst x) {E:fR} (he:jP (R:=fR) tt S.hp n src dst (St.rd C.N S.sl x) some=some E): ∃u,Out P C S o E a w w ρ Fs u:=by
 unfold jP at he
 obtain ⟨hs,he⟩:=ai he
 have Om:=E5 T hs
 have fin: ∀u,(convert src dst (a.eval x)).run P w= .ok u w->(execOp a.eval o).run P w= .ok (.value u) w:=fun u hu=>by
  simp only[execOp,ho];exact nh hu
 split at he
 ·rename_i k n' hx
  have hv:a.eval x= .int k n':=fP h hx
  split at he
  ·rename_i k' sz bs hq
   cases he
   have hd:P.underlying dst=some (.int k'):=(T dst _ hq).desc
   refine ⟨_,Out.pure h rfl (fin _ ?_) rfl⟩
   rw[hv]
   have hk:P.intKind dst=k':=by simp[Program.intKind,hd]
   have:=run_convert_int (P:=P) w src dst k n' Om (by rw[hk];exact hd)
   rw[this,hk]
  ·cases he
 ·rename_i s hx
  have hv:a.eval x= .string s:=fP h hx
  split at he
  ·rename_i sz bs hq
   cases he
   have hd:P.underlying dst=some .string:=(T dst _ hq).desc
   obtain ⟨d,Xl⟩:=Option.isSome_iff_exists.mp Om
   refine ⟨_,Out.pure h rfl (fin _ ?_) rfl⟩
   rw[hv]
   simp[convert,run_underlying Xl,run_underlying hd]
  ·cases he
 ·rename_i x' _ _ hx
  split at he
  ·rename_i sz bs l rc hq Ey
   split at he
   ·rename_i VO Mk hb
    cases he
    obtain ⟨e,RP,BO⟩:=Option.bind_eq_some_iff.1 hb
    have hd:P.underlying dst=some .string:=(T dst _ hq).desc
    have wP:=jG T RP
    have my:P.underlying e=some (.int .u8):=(T e _ BO).desc
    obtain ⟨A,cap,k1,k2,k3⟩:=lH h.mem Ey (fP h hx)
    refine ⟨_,Out.pure h rfl (fin (.string (strOf l)) ?_) rfl⟩
    rw[k1,run_convert_bytes_string w src dst e A _ cap wP my hd]
    simp only[Row.len] at k3 ⊢
    rcases Nat.eq_zero_or_pos l.length with h0|h0
    ·have UN:l=[]:=List.eq_nil_of_length_eq_zero h0
     subst UN
     cases A with
     |none=>rfl
     |some ad=>
      have:=run_bytesToString (P:=P) w ad 0 cap [] (run_loadCells_list w ad [] (fun j v hj=>by simp at hj))
      exact this
    ·obtain ⟨ad,rfl,hz,vs,g1,g2⟩:=k3 (by omega)
     have gW: ∀(j:Nat) (v:Value),(l.map (Value.int .u8))[j]? =some v->w.cell? (ad.add j)=some v:=fun j v hj=>by
      rw[List.getElem?_map] at hj
      cases xU:l[j]? with
      |none=>rw[xU] at hj;cases hj
      |some z=>
       rw[xU] at hj
       have Ch:j<l.length:=(List.getElem?_eq_some_iff.1 xU).1
       obtain ⟨v',F1,F2,q1,q2,_⟩:=g2.get (j:=j) (c:= .sc (.int .u8 z)) (by simp[Row.cells,xU])
       rw[g1 j (by simpa[Row.cells] using Ch),q1]
       obtain ⟨rfl,_⟩:=q2
       exact hj
     have:=run_bytesToString (P:=P) w ad l.length cap l (by
      have:=run_loadCells_list (P:=P) w ad (l.map (Value.int .u8)) gW
      simpa using this)
     rw[this,LU]
   ·cases he
  ·cases he
 ·cases he
end
section
variable {P:Program} {tt:TT} {C:Cx} {S:St} {a:Act} {w:World} {ρ:Place} {Fs:Nat->FP} {n:Nat}
theorem vh {hp:Nat->Option aq} {id:Nat} (h:(jg hp id).isSome=true): ∃root r,hp id=some root/\root.row? =some r:=by
 obtain ⟨r,hr⟩:=Option.isSome_iff_exists.1 h
 obtain ⟨root,h1,h2⟩:=nL hr
 exact ⟨root,r,h1,h2⟩
theorem Dq (q:Option (Nat×Nat)) (n:Nat):(hdr q n).oneCell' =true:=by cases q<;>rfl
theorem HW (q:Option (Nat×Nat)) (s lo hi:Nat):(j7 q s lo hi).oneCell' =true:=by cases q<;>rfl
theorem mI {v:Value} (h:v.oneCell' =true):v.cells= #[v]:=by cases v<;>first|rfl|cases h
theorem vi (m:fY C S.hp S.nx w ρ Fs) {x:LV} (hs:storable S.hp x=true) {v:Value} (hv:dD (C.env w ρ S.hp S.nx Fs) x v):v.oneCell' =true:=by
 cases x with
 |any=>cases hs
 |undef=>cases hs
 |i k n=>rw[hv];rfl
 |b x=>rw[hv];rfl
 |s x=>rw[hv];rfl
 |nil=>rw[hv];rfl
 |val p r=>obtain ⟨A,cap,h,_⟩:=hv;rw[h];rfl
 |own id=>
  obtain ⟨root,r,h1,h2⟩:=vh hs
  obtain ⟨_,hx⟩:=hv
  obtain ⟨r',_,e⟩:=hx _ h1
  rw[e];exact Dq _ _
 |sub id lo hi=>
  obtain ⟨root,r,h1,h2⟩:=vh hs
  obtain ⟨_,hx⟩:=hv
  obtain ⟨r',_,_,_,e⟩:=hx _ h1
  rw[e];exact HW _ _ _ _
 |inner id ver i f=>
  obtain ⟨_,hx⟩:=hv
  simp only[storable] at hs
  split at hs
  ·rename_i e v' r aj
   have:=eq_of_beq hs
   subst this
   obtain ⟨_,_,Ez⟩:=hx _ aj
   obtain ⟨k1,k2,k4⟩:=Ez e r rfl
   obtain ⟨F1,ow,gW,hle⟩:=oM m aj k1 k2 k4
   obtain ⟨A,cap,h,_⟩:=zD gW
   rw[h];rfl
  ·cases hs
 |eJ id k=>obtain ⟨_,_,b,cap,_,h⟩:=hv;rw[h];rfl
 |arr id k=>
  obtain ⟨root,r,h1,h2⟩:=vh hs
  obtain ⟨_,hx⟩:=hv
  obtain ⟨r',_,_,b,cap,_,e⟩:=hx _ h1
  rw[e];rfl
 |oG id i f=>
  obtain ⟨root,r,h1,h2⟩:=vh hs
  obtain ⟨_,hx⟩:=hv
  obtain ⟨r',_,_,b,cap,_,e⟩:=hx _ h1
  rw[e];rfl
 |C2 p r i f=>obtain ⟨_,ad,h,_⟩:=hv;rw[h];rfl
 |wT id ver i f j=>
  obtain ⟨_,hx⟩:=hv
  simp only[storable] at hs
  split at hs
  ·rename_i e v' r aj
   have:=eq_of_beq hs
   subst this
   obtain ⟨_,_,Ez⟩:=hx _ aj
   obtain ⟨_,_,_,A,_,_,_,h⟩:=Ez e r rfl
   rw[h];rfl
  ·cases hs
 |er b=>cases b<;>first| (obtain ⟨t,x,h⟩:=hv;rw[h];rfl)| (rw[hv];rfl)
 |fn f=>rw[hv];rfl
theorem aY.mem {E:Env}: ∀ {xs:List LV} {vs:List Value},aY E xs vs-> ∀u∈vs,∃x∈xs,dD E x u
 | [],[],_,u,hu=>by cases hu
 |x::xs,v::vs,h,u,hu=>by
  rcases List.mem_cons.1 hu with rfl|hu
  ·exact ⟨x,by simp,h.1⟩
  ·obtain ⟨y,h1,h2⟩:=aY.mem h.2 u hu
   exact ⟨y,by simp[h1],h2⟩
theorem nk (m:fY C S.hp S.nx w ρ Fs) {x:AV} {xs:List LV} (he:k_ S.hp x=some xs) {v:Value} (hv:eE (C.env w ρ S.hp S.nx Fs) x v):aY (C.env w ρ S.hp S.nx Fs) xs v.cells.toList/\ ∀u∈v.cells.toList,u.oneCell' =true:=by
 unfold k_ at he
 split at he
 ·obtain ⟨h1,h2⟩:=ai he
  cases h2
  have ho:=vi m h1 hv
  rw[mI ho]
  exact ⟨⟨hv,trivial⟩,fun u hu=>by simp at hu;subst hu;exact ho⟩
 ·obtain ⟨h1,h2⟩:=ai he
  cases h2
  obtain ⟨vs,rfl,hr⟩:=hv
  refine ⟨hr,fun u hu=> ?_⟩
  obtain ⟨y,k1,k2⟩:=hr.mem u hu
  exact vi m (List.all_eq_true.1 h1 y k1) k2
 ·cases he
theorem zE (E:Env) (tt:TT) (t:Nat):dD E (mf tt t) (zeroV tt t):=by
 unfold mf zeroV
 cases tt t with
 |none=>trivial
 |some e=>
  obtain ⟨k,sz,bs⟩:=e
  cases k<;>first|rfl|trivial
theorem w6 (E:Env) (tt:TT): ∀l:List Nat,aY E (l.map (mf tt)) (l.map (zeroV tt))
 | []=>trivial
 |t::l=>⟨zE E tt t,w6 E tt l⟩
theorem kE (T:kQ P tt) {t:Nat} {e:TE} (h:tt t=some e) (hk: ∀n x,e.k≠ .array n x): ∃i z,P.info? t=some i/\i.zero=some z/\z.cells.toList=(aA tt depth t).map (zeroV tt)/\i.size=e.size/\i.bytes=e.bytes/\e.size=(aA tt depth t).length:=by
 obtain ⟨i,h1,h2,h3,z,h4,h5⟩:=(T t e h).zz
 refine ⟨i,z,h1,h4,?_,h2,h3,(T t e h).cells hk⟩
 obtain ⟨k,sz,bs⟩:=e
 cases k<;>first|exact h5|exact absurd rfl (hk _ _)
theorem fQ {t:Nat} (h:cQ tt t=true):aA tt depth t=[t]:=by
 unfold cQ at h
 show aA tt (5+1) t=[t]
 unfold aA
 split at h<;>first|cases h|skip
 all_goals (rename_i hq;rw[hq])
theorem aQ.LW (h:aQ C S a w ρ Fs) (hg:S.hp n=some .dH) (t:Nat) (cells:List LV) (vs:Array Value) (ty:TypeId) (hc:aY (C.env w ρ S.hp S.nx Fs) cells vs.toList):
 aQ C ⟨S.sl,eA S.hp [(n,some (.box t cells))],S.nx⟩ a (w.alloc (.cells vs ty)) (gq ρ n (some (w.heap.size,1))) (eU (cS Fs []) n (f1 w.heap.size)):=by
 have:=h.make hg [] (by simp) (by simp) (.box t cells) (some (w.heap.size,1)) (f1 w.heap.size) (w.alloc (.cells vs ty)) (by rw[ni];omega) rfl rfl rfl (fun b hb _=>u_ w _ hb) (fun b=>by
  rw[ni,xn];simp[cE];split<;>split<;>omega) (fun M=>⟨w.heap.size,1,vs,ty,dT ..,va w _,hc.mono M,rfl⟩)
 exact this
theorem sR {t:TypeId} {i:TypeInfo} {z:Value} (hi:P.info? t=some i) (hz:i.zero=some z) (w:World):(Instr.alloc t true (.tuple #[])).run P w= .ok (.pointer (some ⟨w.heap.size,0,none⟩)) (w.alloc (.cells z.cells t)):=by
 simp[Instr.alloc,zeroValue,typeInfo,hi,hz,newVar,newRow]
theorem E6 (t:TypeId) (v:Value) (w:World):(Instr.box t v).run P w= .ok (.pointer (some ⟨w.heap.size,0,none⟩)) (w.alloc (.cells v.cells t)):=by
 simp[Instr.box,newVar,newRow]
theorem E7 (T:kQ P tt) (h:aQ C S a w ρ Fs) {o:Oper} {t:Nat} {x:Operand} (ho:o.op= .box t x) {E:fR} (he:qt (R:=fR) tt S.hp n t (St.rd C.N S.sl x) some=some E) (hg:S.hp n=some .dH): ∃w' ρ' Fs' u,Out P C S o E a w w' ρ' Fs' u:=by
 unfold qt at he
 split at he
 ·cases he
 ·split at he
  ·rename_i xs vr
   cases he
   obtain ⟨h1,h2⟩:=nk h.mem vr (h.rd x)
   refine ⟨_,_,_,.pointer (some ⟨w.heap.size,0,none⟩),.inl ?_,aQ.LW h hg t xs (a.eval x).cells t h1,?_⟩
   ·simp only[execOp,ho];exact nh (E6 t _ w)
   ·exact ⟨cz h.mem hg,fun root hr=>by simp[Cx.env,eA] at hr;subst hr;trivial,w.heap.size,1,dT ..,rfl⟩
  ·cases he
 ·cases he
def Zu (C:Cx) (w:World) (nx:Nat) (Fs:Nat->FP) (ks:List Nat) (F:FP):Zs:=fun b=>C.ZL w (ar nx Fs) b\/(1<=cE Fs ks b/\F b=0)
theorem aQ.newRow (h:aQ C S a w ρ Fs) (hg:S.hp n=some .dH) (ks:List Nat) (sA:ks.Nodup) (jX: ∀k∈ks,∃r,S.hp k=some r/\r.real) (e:Nat) (r:Row) (arr:Array Value) (ty:TypeId) (cap:Nat) (F:FP)
 (hc:ah w (Zu C w S.nx Fs ks F) r.cells arr.toList F) (hF: ∀b,F b<=cE Fs ks b) (h1:r.len<=cap) (h2:cap*r.size<=arr.size) (w':World) (hw:w'.heap=w.heap.push (.cells arr ty (0,0))) (JO:w'.os=w.os) (JP:w'.tape=w.tape) (wZ:w'.output=w.output):
 aQ C ⟨S.sl,eA S.hp (cF ks++[(n,some (.row e 0 r))]),S.nx⟩ a w' (gq ρ n (some (w.heap.size,cap))) (eU (cS Fs ks) n (cn (f1 w.heap.size) F)):=by
 have fJ: ∀b,b<w.heap.size->w'.heap[b]? =w.heap[b]? :=fun b hb=>by rw[hw,Array.getElem?_push,if_neg (Nat.ne_of_lt hb)]
 have mb:w'.heap.size=w.heap.size+1:=by rw[hw,Array.size_push]
 have hk: ∀k∈ks,k<S.nx:=fun k h'=>by
  obtain ⟨r,k1,_⟩:=jX k h'
  exact cz h.mem k1
 have own: ∀b,1<=cE Fs ks b->b<w.heap.size/\(C.w0.heap.size<=b\/1<=C.F0 b):=fun b hb=>h.mem.nW b (Nat.le_trans hb (jM Fs b S.nx sA hk))
 refine h.make hg ks sA jX (.row e 0 r) (some (w.heap.size,cap)) _ w' (by omega) JO JP wZ (fun b hb _=>fJ b hb) (fun b=> ?_) (fun M=> ?_)
 ·have:=hF b
  by_cases e:b=w.heap.size
  ·subst e
   have:F w.heap.size=0:=by
    rcases Nat.eq_zero_or_pos (F w.heap.size) with h0|h0
    ·exact h0
    ·have:=(own _ (Nat.le_trans h0 (hF _))).1;omega
   rw[if_pos (by omega)]
   simp;omega
  ·simp[xn,e];omega
 ·refine .inr ⟨w.heap.size,cap,arr,ty,F,dT ..,?_,h1,h2,hc.mono (fun b hb=> ?_) (fun b hb=>fJ b (own b (Nat.le_trans hb (hF b))).1),rfl⟩
  ·show w'.heap[w.heap.size]? =_
   rw[hw,Array.getElem?_push,if_pos rfl]
  ·rcases hb with hb| ⟨z7,Ki⟩
   ·exact M.zl b hb
   ·obtain ⟨o1,o2⟩:=own b z7
    refine ⟨.inr (.inr ⟨o2,by show b<w'.heap.size;omega,?_⟩),fJ b o1⟩
    have g1:=en (cS Fs ks) (cn (f1 w.heap.size) F) b (cz h.mem hg)
    have g2:=jN Fs b S.nx ks sA hk
    have g3:=h.mem.one b
    have g4:f1 w.heap.size b=0:=by rw[xn,if_neg (by omega)]
    have g5:=iz (cS Fs ks) b (cz h.mem hg)
    simp[g4] at g1
    omega
theorem ah.Hq {w:World} {Z:Zs}: ∀ {cs:List Cell} {vs:List Value},(∀(j:Nat) (c:Cell),cs[j]? =some c-> ∃v,vs[j]? =some v/\dZ w Z c v fz)->ah w Z cs vs fz
 | [],_,_=>rfl
 |c::cs,[],h=>by obtain ⟨v,hv,_⟩:=h 0 c rfl;cases hv
 |c::cs,v::vs,h=>by
  obtain ⟨v',hv,hr⟩:=h 0 c rfl
  cases hv
  exact ⟨fz,fz,hr,ah.Hq (fun j c hc=>by simpa using h (j+1) c (by simpa using hc)),(b_ _).symm⟩
theorem lL {e:Nat} {r:Row} (T:kQ P tt) (h:cp tt e=some r): ∃te,tt e=some te/\te.size=r.size/\(∀n x,te.k≠ .array n x)/\0<te.size:=by
 unfold cp at h
 split at h
 all_goals try (cases h;done)
 ·rename_i k sz bs hq
  cases h
  refine ⟨_,hq,?_,by simp,(T e _ hq).some.1⟩
  have:=(T e _ hq).cells (by simp)
  rw[fQ (by simp[cQ,hq])] at this
  simpa[Row.size] using this
 ·rename_i sz bs hq
  cases h
  refine ⟨_,hq,?_,by simp,(T e _ hq).some.1⟩
  have:=(T e _ hq).cells (by simp)
  rw[fQ (by simp[cQ,hq])] at this
  simpa[Row.size] using this
 ·rename_i sz bs hq
  cases h
  refine ⟨_,hq,?_,by simp,(T e _ hq).some.1⟩
  have:=(T e _ hq).cells (by simp)
  rw[fQ (by simp[cQ,hq])] at this
  simpa[Row.size] using this
 ·rename_i e' sz bs hq
  cases h
  refine ⟨_,hq,?_,by simp,(T e _ hq).some.1⟩
  have:=(T e _ hq).cells (by simp)
  rw[fQ (by simp[cQ,hq])] at this
  simpa[Row.size] using this
 ·rename_i fs sz bs hq
  obtain ⟨_,h⟩:=ai h
  cases h
  refine ⟨_,hq,?_,by simp,(T e _ hq).some.1⟩
  have:=(T e _ hq).cells (by simp)
  simpa[Row.size] using this
theorem E8 (sg:List Bool) (f:Nat):gi (sg.map uW) f=0:=by
 unfold gi
 rw[List.getElem?_map]
 cases sg[f]? with
 |none=>rfl
 |some b=>cases b<;>rfl
theorem E9 (sg:List Bool) (f:Nat):gl (sg.map uW) f=[]:=by
 unfold gl
 rw[List.getElem?_map]
 cases sg[f]? with
 |none=>rfl
 |some b=>cases b<;>rfl
theorem qx (m:Nat) (r:Row):(e_ m r).len=m:=by cases r<;>simp[e_,Row.len]
theorem pp (m:Nat) (r:Row):(e_ m r).size=r.size:=by cases r<;>rfl
theorem B8 {e:Nat} {r:Row} (T:kQ P tt) (h:cp tt e=some r) {w:World} {Z:Zs} (m i f:Nat) (hi:i<m) (hf:f<r.size): ∃c v,(e_ m r).cells[i*r.size+f]? =some c/\((aA tt depth e).map (zeroV tt))[f]? =some v/\dZ w Z c v fz:=by
 unfold cp at h
 split at h
 all_goals try (cases h;done)
 ·rename_i k sz bs hq
  cases h
  have:f=0:=by simp[Row.size] at hf;exact hf
  subst this
  rw[fQ (by simp[cQ,hq])]
  exact ⟨.sc (.int k 0),.int k 0,by simp[e_,Row.cells,Row.size,hi],by simp[zeroV,hq],rfl,rfl⟩
 ·rename_i sz bs hq
  cases h
  have:f=0:=by simp[Row.size] at hf;exact hf
  subst this
  rw[fQ (by simp[cQ,hq])]
  exact ⟨.sc (.bool false),.bool false,by simp[e_,Row.cells,Row.size,hi],by simp[zeroV,hq],rfl,rfl⟩
 ·rename_i sz bs hq
  cases h
  have:f=0:=by simp[Row.size] at hf;exact hf
  subst this
  rw[fQ (by simp[cQ,hq])]
  exact ⟨.sc (.string ByteArray.empty),.string ByteArray.empty,by simp[e_,Row.cells,Row.size,hi],by simp[zeroV,hq],rfl,rfl⟩
 ·rename_i e' sz bs hq
  cases h
  have:f=0:=by simp[Row.size] at hf;exact hf
  subst this
  rw[fQ (by simp[cQ,hq])]
  exact ⟨.sl true [],.slice none 0 0,by simp[e_,Row.cells,Row.size,hi],by simp[zeroV,hq],.inl ⟨rfl,rfl,rfl⟩⟩
 ·rename_i fs sz bs hq
  obtain ⟨GX,h⟩:=ai h
  cases h
  simp only[Row.size,List.length_map] at hf
  have Ry:((aA tt depth e).map (zeroV tt))[f]? =some (zeroV tt (aA tt depth e)[f]):=by simp[hf]
  have xX:=List.all_eq_true.1 GX _ (List.getElem_mem hf)
  simp only[e_]
  have JQ:=ov ((aA tt depth e).map (wW tt)) true (List.replicate m (((aA tt depth e).map (wW tt)).map uW)) i f (by simpa using hf)
  simp only[Row.size] at JQ ⊢
  rw[JQ,Ry]
  simp only[List.getElem?_replicate,hi,if_true,Option.bind_some,E8,E9,List.getElem?_map,List.getElem?_eq_getElem hf,Option.map_some]
  refine ⟨_,_,rfl,rfl,?_⟩
  generalize (aA tt depth e)[f] =t at xX
  unfold qq at xX
  split at xX
  ·rename_i e' VO Mk Sq
   simp only[wW,Sq,if_true,zeroV]
   exact .inl ⟨rfl,rfl,rfl⟩
  ·rename_i k VO Mk Sq
   have:=of_decide_eq_true xX
   subst this
   simp only[wW,Sq,zeroV]
   exact ⟨rfl,rfl⟩
  ·cases xX
theorem LX (z:Array Value) (m j:Nat) (hj:j<m) (hz:0<z.size):(madeCells z m).toList[j]? =z.toList[j%z.size]? :=by
 have hm:j%z.size<z.size:=Nat.mod_lt _ hz
 simp[madeCells,hj,hm,getElem!_pos]
theorem LY {e:Nat} {r:Row} (T:kQ P tt) (h:cp tt e=some r) {w:World} {Z:Zs} (z:Array Value) (hz:z.toList=(aA tt depth e).map (zeroV tt)) (hs:z.size=r.size) (hp:0<r.size) (m:Nat):ah w Z (e_ m r).cells (madeCells z (m*r.size)).toList fz:=by
 refine ah.Hq fun j c hc=> ?_
 have hj:j<m*r.size:=by
  have:=(List.getElem?_eq_some_iff.1 hc).1
  rwa [Row.dn,qx,pp] at this
 have hi:j/r.size<m:=(Nat.div_lt_iff_lt_mul hp).2 hj
 have hf:j%r.size<r.size:=Nat.mod_lt _ hp
 obtain ⟨c',v,h1,h2,h3⟩:=B8 T h (w:=w) (Z:=Z) m _ _ hi hf
 rw[Nat.mul_comm,Nat.div_add_mod] at h1
 rw[hc] at h1;cases h1
 exact ⟨v,by rw[LX z _ _ hj (by omega),hs,hz];exact h2,h3⟩
theorem IW {C:Cx} {w':World} {ρ':Place} {hp':Nat->Option aq} {nx:Nat} {Fs':Nat->FP} {id b cap:Nat} (fJ:id<nx) (hρ:ρ' id=some (b,cap)) {e v:Nat} {r:Row} (aj:hp' id=some (.row e v r)):eE (C.env w' ρ' hp' nx Fs') (.l (.own id)) (.slice (some ⟨b,0,none⟩) r.len cap):=
 ⟨fJ,fun root hr=>by
  simp only[Cx.env] at hr ⊢
  rw[aj] at hr;cases hr
  exact ⟨r,rfl,by rw[hρ];rfl⟩⟩
theorem vj (T:kQ P tt) (h:aQ C S a w ρ Fs) {o:Oper} {t:Nat} {l c:Operand} (ho:o.op= .makeSlice t l c) {E:fR} (he:iQ (R:=fR) tt n t l c (St.rd C.N S.sl l) some=some E) (hg:S.hp n=some .dH): ∃w' ρ' Fs' u,Out P C S o E a w w' ρ' Fs' u:=by
 unfold iQ at he
 obtain ⟨oP,he⟩:=ai he
 split at he
 ·rename_i e my
  split at he
  ·rename_i r hr
   obtain ⟨k,m,hl,he⟩:=kj he
   obtain ⟨hc,he⟩:=dW he
   obtain ⟨h0,h1⟩:=az hc
   have h0:=of_decide_eq_true h0
   have h1:=of_decide_eq_true h1
   cases he
   have hv:a.eval l= .int k m:=fP h hl
   have Ip: ∃k',a.eval c= .int k' m:=by
    cases l with
    |tmp x=>cases c with
     |tmp y=>simp only[qu] at oP;have:=eq_of_beq oP;subst this;exact ⟨k,hv⟩
     |_=>cases oP
    |const x=>cases x with
     |int k1 a1=>cases c with
      |const y=>cases y with
       |int k2 a2=>
        simp only[qu] at oP
        have:=eq_of_beq oP
        subst this
        have xW:Value.int k1 a1= .int k m:=hv
        cases xW
        exact ⟨k2,rfl⟩
       |_=>cases oP
      |_=>cases oP
     |_=>cases c<;>cases oP
    |_=>cases c<;>cases oP
   obtain ⟨k',Ip⟩:=Ip
   obtain ⟨te,q1,q2,q3,q4⟩:=lL T hr
   obtain ⟨i,z,z1,z2,z3,z4,z5,z6⟩:=kE T q1 q3
   have hb:bytesOf tt e=i.bytes:=by simp[bytesOf,q1,z5]
   have On:z.cells.size=r.size:=by
    have:=congrArg List.length z3
    simp only[Array.length_toList,List.length_map] at this
    omega
   rw[hb] at h1
   have Qm:0<i.bytes:=by rw[z5];exact (T e te q1).some.2
   have hm:m.toNat<=room:=Nat.le_trans (Nat.le_mul_of_pos_right _ Qm) h1
   simp only[room] at hm h1
   have km:=run_make (P:=P) w t e i z (jG T my) z1 z2 k k' m m h0 (Int.le_refl _) (by
    have:((i.bytes*m.toNat:Nat):Int)<=281474976710656:=by rw[Nat.mul_comm];omega
    rw[Int.natCast_mul] at this
    rwa [Int.toNat_of_nonneg h0] at this) (by omega)
   have hlen:(e_ m.toNat r).len=m.toNat:=qx _ _
   have mb:(e_ m.toNat r).size=r.size:=pp _ _
   refine ⟨_,_,_,.slice (some ⟨w.heap.size,0,none⟩) m.toNat m.toNat,.inl ?_,aQ.newRow h hg [] (by simp) (by simp) e (e_ m.toNat r) (madeCells z.cells (m.toNat*i.size)) e m.toNat fz ?_ (by simp) (by rw[hlen];exact Nat.le_refl _) (by rw[mb,size_madeCells];rw[z4,q2];exact Nat.le_refl _) (w.alloc (.cells (madeCells z.cells (m.toNat*i.size)) e)) rfl rfl rfl rfl,?_⟩
   ·simp only[execOp,ho]
    refine nh ?_
    rw[hv,Ip]
    exact km
   ·rw[z4,q2]
    exact LY T hr z.cells z3 On (by omega) _
   ·have:=IW (C:=C) (w':=w.alloc (.cells (madeCells z.cells (m.toNat*i.size)) e)) (ρ':=gq ρ n (some (w.heap.size,m.toNat))) (hp':=eA S.hp [(n,some (.row e 0 (e_ m.toNat r)))]) (nx:=S.nx) (Fs':=eU (cS Fs []) n (cn (f1 w.heap.size) fz)) (cz h.mem hg) (dT ..) (e:=e) (v:=0) (r:=e_ m.toNat r) (by simp[eA])
    rw[hlen] at this
    exact this
  ·cases he
 ·cases he
end
section
variable {P:Program} {tt:TT} {C:Cx} {S:St} {a:Act} {w:World} {ρ:Place} {Fs:Nat->FP} {n:Nat}
theorem LZ {C:Cx} {w':World} {ρ':Place} {hp':Nat->Option aq} {nx:Nat} {Fs':Nat->FP} {id b cap:Nat} (fJ:id<nx) (hρ:ρ' id=some (b,cap)) {root:aq} (aj:hp' id=some root) (sy:root.real):eE (C.env w' ρ' hp' nx Fs') (.l (.eJ id 0)) (.pointer (some ⟨b,0,none⟩)):=
 ⟨fJ,fun r hr=>by simp only[Cx.env] at hr;rw[aj] at hr;cases hr;exact sy,b,cap,hρ,rfl⟩
theorem Be (T:kQ P tt) (h:aQ C S a w ρ Fs) {o:Oper} {t:Nat} (ho:o.op= .alloc t) {E:fR} (he:nJ (R:=fR) tt n t some=some E) (hg:S.hp n=some .dH): ∃w' ρ' Fs' u,Out P C S o E a w w' ρ' Fs' u:=by
 have box: ∀(e:TE),tt t=some e->(∀n x,e.k≠ .array n x)-> ∃w' ρ' Fs' u,Out P C S o ⟨.l (.eJ n 0),[(n,some (.box t ((aA tt depth t).map (mf tt))))],n+1,[],[]⟩ a w w' ρ' Fs' u:=fun e hq hk=>by
  obtain ⟨i,z,z1,z2,z3,z4,z5,z6⟩:=kE T hq hk
  refine ⟨_,_,_,.pointer (some ⟨w.heap.size,0,none⟩),.inl ?_,aQ.LW h hg t _ z.cells t (by rw[z3];exact w6 _ tt _),LZ (root:= .box t ((aA tt depth t).map (mf tt))) (cz h.mem hg) (dT ..) (by simp[eA]) trivial⟩
  simp only[execOp,ho]
  exact nh (sR z1 z2 w)
 unfold nJ at he
 split at he
 ·rename_i fs sz bs hq
  cases he
  exact box _ hq (by simp)
 ·rename_i m e sz bs hq
  split at he
  ·rename_i r hr
   obtain ⟨hc,he⟩:=ai he
   obtain ⟨hc,h3⟩:=az hc
   obtain ⟨h1,h2⟩:=az hc
   cases he
   obtain ⟨i,i1,i2,i3,z,z1,z2⟩:=(T t _ hq).zz
   have h2:=eq_of_beq h2
   have Mn:z.cells.toList=List.replicate m (zeroV tt e):=z2
   obtain ⟨te,q1,q2,q3,q4⟩:=lL T hr
   have Xm:aA tt depth e=[e]/\(∀j,j<m-> ∃c,(e_ m r).cells[j]? =some c/\dZ w (Zu C w S.nx Fs [] fz) c (zeroV tt e) fz):=by
    have hl:=(T e te q1).cells q3
    obtain ⟨i',z',_,_,_,_,_,y6⟩:=kE T q1 q3
    have:(aA tt depth e).length=1:=by omega
    have ke:aA tt depth e=[e]:=by
     unfold cp at hr
     split at hr
     all_goals try (cases hr;done)
     all_goals first
      | (obtain ⟨_,hr⟩:=ai hr;cases hr;simp[Row.deep] at h3;done)
      | (rename_i Sq;exact fQ (by simp[cQ,Sq]))
    refine ⟨ke,fun j hj=> ?_⟩
    obtain ⟨c,v,k1,k2,k3⟩:=B8 T hr (w:=w) (Z:=Zu C w S.nx Fs [] fz) m j 0 hj (by omega)
    rw[ke] at k2
    simp at k2
    subst k2
    rw[h2,Nat.mul_one,Nat.add_zero] at k1
    exact ⟨c,k1,k3⟩
   have hlen:(e_ m r).len=m:=qx _ _
   have mb:(e_ m r).size=1:=by rw[pp];exact h2
   have On:z.cells.size=m:=by
    have:=congrArg List.length Mn
    simpa using this
   refine ⟨_,_,_,.pointer (some ⟨w.heap.size,0,none⟩),.inl ?_,aQ.newRow h hg [] (by simp) (by simp) t (e_ m r) z.cells t m fz ?_ (by simp) (by rw[hlen];exact Nat.le_refl _) (by rw[mb,On];omega) (w.alloc (.cells z.cells t)) rfl rfl rfl rfl,?_⟩
   ·simp only[execOp,ho]
    exact nh (sR i1 z1 w)
   ·refine ah.Hq fun j c hc=> ?_
    have hj:j<m:=by
     have:=(List.getElem?_eq_some_iff.1 hc).1
     rw[Row.dn,hlen,mb] at this
     omega
    obtain ⟨c',k1,k2⟩:=Xm.2 j hj
    rw[hc] at k1;cases k1
    exact ⟨_,by rw[Mn];simp[hj],k2⟩
   ·refine ⟨cz h.mem hg,fun root me=> ?_⟩
    simp only[Cx.env] at me ⊢
    have:eA S.hp [(n,some (.row t 0 (e_ m r)))] n=some (.row t 0 (e_ m r)):=by simp[eA]
    rw[this] at me
    cases me
    exact ⟨_,rfl,hlen,w.heap.size,m,dT ..,rfl⟩
  ·cases he
 ·rename_i e Ya Yb hq
  obtain ⟨hs,he⟩:=ai he
  cases he
  rw[show [mf tt t] =(aA tt depth t).map (mf tt) by rw[fQ hs];rfl]
  refine box e hq fun n x hx=> ?_
  obtain ⟨k,sz,bs⟩:=e
  simp only at hx
  subst hx
  simp[cQ,hq] at hs
 ·cases he
theorem E_ {E:Env}: ∀(xs:List LV) (us:List Value),aY E xs us-> ∀(zs:List LV) (vs:List Value) (k:Nat),aY E zs vs->aY E (jO zs k xs) ((us.zipIdx 0).foldl (fun cs (x:Value×Nat)=>cs.set (k+x.2) x.1) vs):=by
 have gen: ∀(xs:List LV) (us:List Value) (s:Nat),aY E xs us-> ∀(zs:List LV) (vs:List Value) (k:Nat),aY E zs vs->aY E (jO zs (k+s) xs) ((us.zipIdx s).foldl (fun cs (x:Value×Nat)=>cs.set (k+x.2) x.1) vs):=by
  intro xs
  induction xs with
  |nil=>intro us s h zs vs k hz;cases us with
   |nil=>exact hz
   |cons u us=>exact absurd h id
  |cons x xs ih=>intro us s h zs vs k hz;cases us with
   |nil=>exact absurd h id
   |cons u us=>
    simp only[List.zipIdx_cons,List.foldl_cons,jO]
    refine ih us (s+1) h.2 _ _ k ?_
    have: ∀(zs:List LV) (vs:List Value) (k:Nat),aY E zs vs->aY E (zs.set k x) (vs.set k u):=by
     intro zs
     induction zs with
     |nil=>intro vs k hz;cases vs with
      |nil=>exact hz
      |cons v vs=>exact absurd hz id
     |cons z zs Pc=>intro vs k hz;cases vs with
      |nil=>exact absurd hz id
      |cons v vs=>cases k with
       |zero=>exact ⟨h.1,hz.2⟩
       |succ k=>exact ⟨hz.1,Pc vs k hz.2⟩
    exact this zs vs _ hz
 intro xs us h zs vs k hz
 exact gen xs us 0 h zs vs k hz
theorem B9 (k:Nat): ∀(us:List Value) (s:Nat) (cs:Array Value),((us.zipIdx s).foldl (fun cs (x:Value×Nat)=>cs.setIfInBounds (k+x.2) x.1) cs).toList=(us.zipIdx s).foldl (fun cs (x:Value×Nat)=>cs.set (k+x.2) x.1) cs.toList
 | [],s,cs=>rfl
 |u::us,s,cs=>by
  simp only[List.zipIdx_cons,List.foldl_cons]
  rw[B9 k us (s+1)]
  simp
theorem HX (T:kQ P tt) (m:fY C S.hp S.nx w ρ Fs) {fs:List (Nat×Nat)} {fields:Array Field} (hf:fields.toList.map (fun f=>(f.offset,f.type))=fs) (places:List (Nat×Nat)) (N2:fields.toList.mapM (fun f=>(P.info? f.type).map fun i=>(f.offset,i.size))=some places) (env:Operand->Value) (Kf: ∀x,eE (C.env w ρ S.hp S.nx Fs) (St.rd C.N S.sl x) (env x)):
 ∀(ps:List (Nat×Operand)) (zero:List LV) (zs:Array Value) (xs:List LV),aY (C.env w ρ S.hp S.nx Fs) zero zs.toList->kJ tt S.hp fs zero (ps.map fun p=>(p.1,St.rd C.N S.sl p.2))=some xs->
 ∃cells,Instr.fill (places.toArray[·]?) zs (ps.map fun p=>(p.1,env p.2))=some cells/\aY (C.env w ρ S.hp S.nx Fs) xs cells.toList:=by
 have Sr: ∀(i off ft:Nat) (e:TE),fs[i]? =some (off,ft)->tt ft=some e->places.toArray[i]? =some (off,e.size):=by
  intro i off ft e h1 h2
  subst hf
  rw[List.getElem?_map] at h1
  cases UO:fields.toList[i]? with
  |none=>rw[UO] at h1;cases h1
  |some f=>
   rw[UO] at h1
   simp only[Option.map_some,Option.some.injEq,Prod.mk.injEq] at h1
   obtain ⟨rfl,rfl⟩:=h1
   obtain ⟨ti,t1,t2,_⟩:=(T _ _ h2).zz
   have: ∀(l:List Field) (ps:List (Nat×Nat)),l.mapM (fun f=>(P.info? f.type).map fun i=>(f.offset,i.size))=some ps-> ∀j:Nat,l[j]? =some f->ps[j]? =some (f.offset,ti.size):=by
    intro l
    induction l with
    |nil=>intro ps _ j hj;simp at hj
    |cons g l ih=>
     intro ps NB j hj
     simp only[List.mapM_cons,Option.bind_eq_bind,Option.pure_def] at NB
     cases hi:P.info? g.type with
     |none=>simp[hi] at NB
     |some gi=>
      cases hr:l.mapM (fun f=>(P.info? f.type).map fun i=>(f.offset,i.size)) with
      |none=>simp[hi,hr] at NB
      |some rest=>
       simp[hi,hr] at NB
       subst NB
       cases j with
       |zero=>
        simp at hj
        subst hj
        rw[t1] at hi;cases hi
        rfl
       |succ j=>simpa using ih rest hr j (by simpa using hj)
   rw[List.getElem?_toArray,this _ _ N2 i UO,t2]
 intro ps
 induction ps with
 |nil=>intro zero zs xs hz he;simp only[List.map_nil,kJ,Option.some.injEq] at he;subst he;exact ⟨zs,rfl,hz⟩
 |cons p ps ih=>
  intro zero zs xs hz he
  obtain ⟨i,x⟩:=p
  simp only[List.map_cons,kJ] at he
  split at he
  ·rename_i off ft ys h1 h2
   split at he
   ·rename_i e h3
    obtain ⟨h4,he⟩:=ai he
    obtain ⟨h5,h6⟩:=az h4
    have h5:=eq_of_beq h5
    have h6:=Nat.le_of_ble_eq_true h6
    obtain ⟨hr,_⟩:=nk m h2 (Kf x)
    have hl:=hr.length
    have Mn:=hz.length
    simp only[Array.length_toList] at hl Mn
    have IR:=E_ ys _ hr zero zs.toList off hz
    rw[<- B9] at IR
    obtain ⟨cells,g1,g2⟩:=ih _ _ xs IR he
    refine ⟨cells,?_,g2⟩
    simp only[List.map_cons]
    unfold Instr.fill
    rw[Sr i off ft e h1 h3]
    simp only[]
    rw[if_neg (by simp;omega)]
    rw[<- g1]
    congr 1
    rw[<- Array.foldl_toList,Array.toList_zipIdx]
   ·cases he
  ·cases he
theorem Bf (T:kQ P tt) (h:aQ C S a w ρ Fs) {o:Oper} {t:Nat} {ps:Array (Nat×Operand)} (ho:o.op= .build t ps) {E:fR} (he:mB (R:=fR) tt S.hp n t (ps.toList.map fun p=>(p.1,St.rd C.N S.sl p.2)) some=some E): ∃u,Out P C S o E a w w ρ Fs u:=by
 unfold mB at he
 split at he
 ·rename_i fs sz bs hq
  split at he
  ·rename_i xs vr
   cases he
   obtain ⟨fields,f1,f2,f3⟩:=(T t _ hq).desc
   obtain ⟨i,z,z1,z2,z3,z4,z5,z6⟩:=kE T hq (by simp)
   have N2: ∃places,fields.toList.mapM (fun f=>(P.info? f.type).map fun i=>(f.offset,i.size))=some places:=by
    have: ∀l:List Field,(∀f∈l,∃i,P.info? f.type=some i/\i.size≠0)-> ∃places,l.mapM (fun f=>(P.info? f.type).map fun i=>(f.offset,i.size))=some places:=by
     intro l
     induction l with
     |nil=>intro _;exact ⟨[],rfl⟩
     |cons f l ih=>
      intro hl
      obtain ⟨i,hi,_⟩:=hl f (by simp)
      obtain ⟨ps,NB⟩:=ih (fun g hg=>hl g (by simp[hg]))
      exact ⟨(f.offset,i.size)::ps,by simp[List.mapM_cons,hi,NB]⟩
    exact this _ f3
   obtain ⟨places,N2⟩:=N2
   obtain ⟨cells,c1,c2⟩:=HX T h.mem f2 places N2 a.eval h.rd ps.toList _ z.cells xs (by rw[z3];exact w6 _ tt _) vr
   refine ⟨.agg cells,Out.pure h rfl ?_ ⟨cells.toList,by simp,c2⟩⟩
   simp only[execOp,ho]
   refine nh (run_build w t _ cells ?_)
   simp only[Program.built,z1,f1,z2,N2]
   simpa using c1
  ·cases he
 ·rename_i m e sz bs hq
  split at he
  ·rename_i te NB DO
   cases he
   obtain ⟨i,i1,i2,i3,z,z1,z2⟩:=(T t _ hq).zz
   have Mn:z.cells.toList=List.replicate m (zeroV tt e):=z2
   obtain ⟨ie,e1,_⟩:=(T e _ DO).zz
   have hd:P.underlying t=some (.array m e):=(T t _ hq).desc
   have UP:ps.toList=[]:=by simpa using NB
   refine ⟨.agg z.cells,Out.pure h rfl ?_ ⟨z.cells.toList,by simp,?_⟩⟩
   ·simp only[execOp,ho]
    refine nh (run_build w t _ z.cells ?_)
    simp only[Program.built,i1,hd,z1,e1]
    simp[UP,Instr.fill]
   ·rw[Mn]
    have: ∀k,aY (C.env w ρ S.hp S.nx Fs) (List.replicate k (mf tt e)) (List.replicate k (zeroV tt e)):=by
     intro k
     induction k with
     |zero=>trivial
     |succ k ih=>exact ⟨zE _ tt e,ih⟩
    exact this m
  ·cases he
 ·cases he
end
section
variable {P:Program} {tt:TT} {C:Cx} {S:St} {a:Act} {w:World} {ρ:Place} {Fs:Nat->FP} {n:Nat}
def jR (hp':Nat->Option aq) (ks:List Nat):Prop:=ks.Nodup/\ ∀k∈ks,∃e v r,hp' k=some (.row e v r)
def Sub (hp' hp:Nat->Option aq):Prop:= ∀j r,hp' j=some r->hp j=some r
theorem Sub.refl (hp:Nat->Option aq):Sub hp hp:=fun _ _ h=>h
theorem Sub.kill {hp' hp:Nat->Option aq} (h:Sub hp' hp) (ks:List Nat):Sub (kill hp' ks) hp:=fun j r hj=>h j r (qV hj).2
theorem jR.nil (hp':Nat->Option aq):jR hp' []:=⟨by simp,by simp⟩
theorem jR.join {hp':Nat->Option aq} {ks ks':List Nat} (h:jR hp' ks) (h':jR (kill hp' ks) ks'):jR hp' (ks++ks'):=by
 refine ⟨List.nodup_append.2 ⟨h.1,h'.1,fun a ha b hb=> ?_⟩,fun k hk=> ?_⟩
 ·rintro rfl
  obtain ⟨e,v,r,h2⟩:=h'.2 a hb
  exact (qV h2).1 ha
 ·rcases List.mem_append.1 hk with hk|hk
  ·exact h.2 k hk
  ·obtain ⟨e,v,r,h2⟩:=h'.2 k hk
   exact ⟨e,v,r,(qV h2).2⟩
theorem jR.live {hp' hp:Nat->Option aq} {ks:List Nat} (h:jR hp' ks) (hs:Sub hp' hp): ∀k∈ks,∃r,hp k=some r/\r.real:=fun k hk=>by
 obtain ⟨e,v,r,h2⟩:=h.2 k hk
 exact ⟨_,hs _ _ h2,trivial⟩
theorem jR.lt (m:fY C S.hp S.nx w ρ Fs) {hp':Nat->Option aq} {ks:List Nat} (h:jR hp' ks) (hs:Sub hp' S.hp): ∀k∈ks,k<S.nx:=fun k hk=>by
 obtain ⟨r,h2,_⟩:=h.live hs k hk
 exact cz m h2
theorem dF (Fs:Nat->FP) (b:Nat): ∀ks ks':List Nat,cE Fs (ks++ks') b=cE Fs ks b+cE Fs ks' b
 | [],ks'=>by simp[cE]
 |k::ks,ks'=>by simp[cE,dF Fs b ks ks',Nat.add_assoc]
theorem tM {w:World} {Z:Zs}: ∀ {cs:List Cell} {vs:List Value} {F:FP},(∀c∈cs,∃v,c= .sc v)->ah w Z cs vs F->F=fz
 | [],_,_,_,h=>h
 |c::cs,v::vs,F,hc,⟨F1,F2,h1,h2,hF⟩=>by
  obtain ⟨u,rfl⟩:=hc c (by simp)
  have:=tM (fun c' Ir=>hc c' (by simp[Ir])) h2
  rw[hF,h1.2,this,b_]
theorem Fa (m:fY C S.hp S.nx w ρ Fs) {id e ver:Nat} {l:List Int} (aj:S.hp id=some (.row e ver (.ints .i64 l))) (hi:Nat) (BL:hi<=l.length) {v:Value} (hv:v=hdr (ρ id) hi) {Z:Zs}: ∃F,dZ w Z (.sl true (l.take hi)) v F/\ ∀b,F b<=Fs id b:=by
 rcases m.roots id _ aj with ⟨h1,h2,h3⟩| ⟨b,cap,arr,ty,F',h1,h2,h3,h4,h5,h6⟩
 ·simp only[Cx.env] at h1
  simp only[Row.len] at h2
  have hl:l=[]:=List.eq_nil_of_length_eq_zero h2
  subst hl
  exact ⟨fz,.inl ⟨by rw[hv,h1];rfl,by simp,rfl⟩,fun b=>by simp⟩
 ·simp only[Cx.env] at h1 h2
  have N_:F' =fz:=tM (fun c hc=>by simp only[Row.cells,List.mem_map] at hc;obtain ⟨x,_,rfl⟩:=hc;exact ⟨_,rfl⟩) h5
  simp only[Row.len,Row.size,Nat.mul_one] at h3 h4
  refine ⟨f1 b,.inr ⟨b,cap,arr,ty,?_,h2,by simp;omega,h4,fun j z hj=> ?_,rfl⟩,fun b'=>by rw[h6,N_,b_];exact Nat.le_refl _⟩
  ·rw[hv,h1]
   simp only[hdr,List.length_take]
   rw[Nat.min_eq_left BL]
  ·rw[List.getElem?_take] at hj
   split at hj
   ·obtain ⟨v',F1,F2,q1,q2,_⟩:=h5.get (j:=j) (c:= .sc (.int .i64 z)) (by simp[Row.cells,hj])
    obtain ⟨rfl,_⟩:=q2
    simpa using q1
   ·cases hj
theorem pq (m:fY C S.hp S.nx w ρ Fs) {hp':Nat->Option aq} (hs:Sub hp' S.hp) {x:LV} {o:Bool} {l:List Int} {ks:List Nat} (he:n9 hp' x=some (o,l,ks)) {v:Value} (hv:dD (C.env w ρ S.hp S.nx Fs) x v): ∃F,dZ w (C.ZL w (ar S.nx Fs)) (.sl o l) v F/\(∀b,F b<=cE Fs ks b)/\jR hp' ks/\(F≠fz->o=true)/\v.oneCell' =true:=by
 unfold n9 at he
 split at he
 ·cases he
  exact ⟨fz,.inl ⟨hv,rfl,rfl⟩,fun b=>by simp,jR.nil _,fun h=>absurd rfl h,by rw[hv];rfl⟩
 ·rename_i p l'
  cases he
  obtain ⟨A,cap,h1,h2,h3⟩:=hv
  refine ⟨fz,⟨rfl,A,cap,h1,h2,fun mg=> ?_⟩,fun b=>by simp,jR.nil _,fun h=>absurd rfl h,by rw[h1];rfl⟩
  obtain ⟨ad,e,h0,vs,h4,h5⟩:=h3 (by simp only[Row.len];intro h;exact mg (List.eq_nil_of_length_eq_zero h))
  refine ⟨ad,e,?_,fun j z hj=> ?_⟩
  ·cases p
   ·exact h0
   ·exact .inr h0
  ·obtain ⟨v',F1,F2,q1,q2,_⟩:=h5.get (j:=j) (c:= .sc (.int .i64 z)) (by simp[Row.cells,hj])
   obtain ⟨rfl,_⟩:=q2
   have:=h4 j (by simp[Row.cells];exact (List.getElem?_eq_some_iff.1 hj).1)
   rw[q1] at this
   exact this
 ·rename_i id
  split at he
  ·rename_i e ver l' aj
   cases he
   obtain ⟨_,hx⟩:=hv
   obtain ⟨r',e1,e2⟩:=hx _ (hs _ _ aj)
   cases e1
   obtain ⟨F,h1,h2⟩:=Fa m (hs _ _ aj) l.length (Nat.le_refl _) e2 (Z:=C.ZL w (ar S.nx Fs))
   rw[List.take_length] at h1
   exact ⟨F,h1,fun b=>by have:=h2 b;simp[cE];exact this,⟨by simp,fun k hk=>by simp at hk;subst hk;exact ⟨_,_,_,aj⟩⟩,fun _=>rfl,by rw[e2];exact Dq _ _⟩
  ·cases he
 ·rename_i id hi
  split at he
  ·rename_i e ver l' aj
   cases he
   obtain ⟨_,hx⟩:=hv
   obtain ⟨r',e1,_,e3,e2⟩:=hx _ (hs _ _ aj)
   cases e1
   have e4:v=hdr (ρ id) hi:=by
    rw[e2]
    simp only[Cx.env]
    cases hρ:ρ id with
    |none=>rfl
    |some q=>
     obtain ⟨b,cap⟩:=q
     simp only[j7,hdr,Row.size,Nat.zero_mul,Nat.sub_zero]
     split<;>rfl
   obtain ⟨F,h1,h2⟩:=Fa m (hs _ _ aj) hi e3 e4 (Z:=C.ZL w (ar S.nx Fs))
   exact ⟨F,h1,fun b=>by have:=h2 b;simp[cE];exact this,⟨by simp,fun k hk=>by simp at hk;subst hk;exact ⟨_,_,_,aj⟩⟩,fun _=>rfl,by rw[e4];exact Dq _ _⟩
  ·cases he
 ·cases he
theorem join_le (m:fY C S.hp S.nx w ρ Fs) {hp':Nat->Option aq} (hs:Sub hp' S.hp) {ks ks':List Nat} (h:jR hp' (ks++ks')) (b:Nat):cE Fs ks b+cE Fs ks' b<=1:=by
 have h1:=jM Fs b S.nx h.1 (h.lt m hs)
 have h2:=m.one b
 rw[dF] at h1
 omega
theorem tN (m:fY C S.hp S.nx w ρ Fs) {hp':Nat->Option aq} (hs:Sub hp' S.hp) {ks ks':List Nat} (ht:jR hp' (ks++ks')) {cs TF:List Cell} {vs xV:List Value} {F F':FP}
 (h:ah w (Zu C w S.nx Fs ks F) cs vs F) (hl:vs.length=cs.length) (h':ah w (Zu C w S.nx Fs ks' F') TF xV F') (hF: ∀b,F b<=cE Fs ks b) (N_: ∀b,F' b<=cE Fs ks' b):
 ah w (Zu C w S.nx Fs (ks++ks') (cn F F')) (cs++TF) (vs++xV) (cn F F')/\ ∀b,cn F F' b<=cE Fs (ks++ks') b:=by
 refine ⟨ah.append (h.mono (fun b hb=>⟨?_,rfl⟩) (fun b _=>rfl)) hl (h'.mono (fun b hb=>⟨?_,rfl⟩) (fun b _=>rfl)),fun b=> ?_⟩
 ·rcases hb with hb| ⟨h1,h2⟩
  ·exact .inl hb
  ·have:=join_le m hs ht b
   have:=N_ b
   exact .inr ⟨by rw[dF];omega,by simp;omega⟩
 ·rcases hb with hb| ⟨h1,h2⟩
  ·exact .inl hb
  ·have:=join_le m hs ht b
   have:=hF b
   exact .inr ⟨by rw[dF];omega,by simp;omega⟩
 ·have:=hF b
  have:=N_ b
  rw[dF];simp;omega
theorem Dr {ks:List Nat} {cs:List Cell} {vs:List Value} {F:FP} (h:ah w (Zu C w S.nx Fs ks F) cs vs F) (hF: ∀b,F b<=cE Fs ks b):ah w (Zu C w S.nx Fs ks fz) (cs.map Cell.eb) vs fz:=
 h.eb (fun b hb=>hb.imp (fun h=>h) (fun h=>⟨h.1,rfl⟩)) (fun b hb=> .inr ⟨Nat.le_trans hb (hF b),rfl⟩)
theorem tO {ks:List Nat} {cs ct cf:List Cell} {vs:List Value} {F:FP} (h:ah w (Zu C w S.nx Fs ks F) cs vs F) (hF: ∀b,F b<=cE Fs ks b) (o:Bool) (h1:o=true->ct=cs) (h2:o=false->cf=cs.map Cell.eb): ∃F',ah w (Zu C w S.nx Fs ks F') (if o then ct else cf) vs F' /\ ∀b,F' b<=cE Fs ks b:=by
 cases o with
 |true=>rw[h1 rfl];exact ⟨F,h,hF⟩
 |false=>rw[h2 rfl];exact ⟨fz,Dr h hF,fun b=>by simp⟩
theorem zF {c:Cell} {v:Value} {F:FP} {ks:List Nat} (h:dZ w (C.ZL w (ar S.nx Fs)) c v F):ah w (Zu C w S.nx Fs ks F) [c] [v] F:=
 ⟨F,fz,h.mono (fun b hb=>⟨.inl hb,rfl⟩) (fun b _=>rfl),rfl,(b_ _).symm⟩
theorem ko (o:Bool) (x:jC) (r:List jC): ∀(sg:List Bool) (f:Nat),bn o (x::r) (f+1) sg=bn o r f sg
 | [],_=>rfl
 |true::sg,f=>by simp only[bn,ko o x r sg];simp[gl]
 |false::sg,f=>by simp only[bn,ko o x r sg];simp[gi]
theorem jS (o:Bool) (r:List jC): ∀(sg:List Bool) (f:Nat),(bn o r f sg).map Cell.eb=bn false r f sg
 | [],_=>rfl
 |true::sg,f=>by simp[bn,jS o r sg,Cell.eb]
 |false::sg,f=>by simp[bn,jS o r sg,Cell.eb]
theorem Ds (o o':Bool) (r:List jC) (sg:List Bool) (f:Nat):(if o then bn true r f sg else bn false r f sg)=bn o r f sg:=by cases o<;>rfl
theorem sS (m:fY C S.hp S.nx w ρ Fs): ∀(sg:List Bool) (hp':Nat->Option aq) (xs:List LV) (vs:List Value) (o:Bool) (r:List jC) (ks:List Nat),Sub hp' S.hp->fI hp' sg xs=some (o,r,ks)->aY (C.env w ρ S.hp S.nx Fs) xs vs->
 ∃F,ah w (Zu C w S.nx Fs ks F) (bn o r 0 sg) vs F/\(∀b,F b<=cE Fs ks b)/\jR hp' ks/\vs.length=sg.length/\ ∀u∈vs,u.oneCell' =true:=by
 intro sg
 induction sg with
 |nil=>
  intro hp' xs vs o r ks hs he hv
  cases xs with
  |nil=>
   cases vs with
   |nil=>simp only[fI,Option.some.injEq,Prod.mk.injEq] at he;obtain ⟨rfl,rfl,rfl⟩:=he;exact ⟨fz,rfl,fun b=>by simp,jR.nil _,rfl,by simp⟩
   |cons v vs=>exact absurd hv id
  |cons x xs=>simp[fI] at he
 |cons b sg ih=>
  intro hp' xs vs o r ks hs he hv
  cases xs with
  |nil=>cases b<;>simp[fI] at he
  |cons x xs=>
   cases vs with
   |nil=>exact absurd hv id
   |cons v vs=>
    cases b with
    |false=>
     cases x with
     |i k z=>
      cases k with
      |i64=>
       simp only[fI] at he
       split at he
       ·rename_i o' r' ks' hq
        cases he
        obtain ⟨F,h1,h2,h3,h4,h5⟩:=ih hp' xs vs _ _ _ hs hq hv.2
        have DX:v= .int .i64 z:=hv.1
        refine ⟨F,?_,h2,h3,by simp[h4],fun u hu=> ?_⟩
        ·simp only[bn,ko,gi,Nat.zero_add]
         exact ⟨fz,F,⟨DX,rfl⟩,h1,(gV F).symm⟩
        ·rcases List.mem_cons.1 hu with rfl|hu
         ·rw[DX];rfl
         ·exact h5 u hu
       ·cases he
      |_=>simp[fI] at he
     |_=>simp[fI] at he
    |true=>
     simp only[fI] at he
     split at he
     ·rename_i o1 l Js Ss
      split at he
      ·rename_i o2 r' Qd FJ
       cases he
       obtain ⟨F1,a1,a2,a3,a4,a5⟩:=pq m hs Ss hv.1
       obtain ⟨F2,b1,b2,b3,b4,b5⟩:=ih _ xs vs _ _ _ (hs.kill Js) FJ hv.2
       have ht:=a3.join b3
       obtain ⟨j1,j2⟩:=tN m hs ht (zF a1) rfl b1 a2 b2
       obtain ⟨F',s1,s2⟩:=tO j1 j2 (o1&&o2) (ct:=bn true (.ints l::r') 0 (true::sg)) (cf:=bn false (.ints l::r') 0 (true::sg))
        (fun ho=>by obtain ⟨rfl,rfl⟩:=az ho;simp[bn,ko,gl])
        (fun _=>by simp[bn,ko,gl,jS,Cell.eb])
       refine ⟨F',?_,s2,ht,by simp[b4],fun u hu=> ?_⟩
       ·rw[Ds _ true] at s1;exact s1
       ·rcases List.mem_cons.1 hu with rfl|hu
        ·exact a5
        ·exact b5 u hu
      ·cases he
     ·cases he
def eV (E:Env):List AV->List Value->Prop
 | [],[]=>True
 |x::xs,v::vs=>eE E x v/\eV E xs vs
 |_,_=>False
abbrev flat (vs:List Value):List Value:=vs.flatMap fun v=>v.cells.toList
theorem kL (v:Value) (vs:List Value):flat (v::vs)=v.cells.toList++flat vs:=by simp[flat]
theorem vk {r:Row} (h:r.len=0):r.cells=[]:=List.eq_nil_of_length_eq_zero (by rw[Row.dn,h,Nat.zero_mul])
theorem HY {hp:Nat->Option aq} {k:IntKind} {xs:List AV} {r:Row} {ks:List Nat} (h:rowOf hp (.ints k []) xs=some (r,ks)): ∃l,r= .ints k l:=by
 cases xs with
 |nil=>simp only[rowOf,Option.some.injEq,Prod.mk.injEq] at h;exact ⟨_,h.1.symm⟩
 |cons x xs=>
  cases x with
  |DM _=>simp[rowOf] at h
  |one x=>cases x with
   |agg _=>simp[rowOf] at h
   |l x=>cases x with
    |i k' z=>
     simp only[rowOf] at h
     obtain ⟨_,h⟩:=ai h
     split at h
     ·simp only[Option.some.injEq,Prod.mk.injEq] at h;exact ⟨_,h.1.symm⟩
     ·cases h
    |_=>simp[rowOf] at h
theorem HZ {hp:Nat->Option aq} {sg:List Bool} {xs:List AV} {r:Row} {ks:List Nat} (h:rowOf hp (.cB sg true []) xs=some (r,ks)): ∃o l,r= .cB sg o l:=by
 cases xs with
 |nil=>simp only[rowOf,Option.some.injEq,Prod.mk.injEq] at h;exact ⟨_,_,h.1.symm⟩
 |cons x xs=>
  cases x with
  |DM _=>simp[rowOf] at h
  |one x=>cases x with
   |l _=>simp[rowOf] at h
   |agg x=>
    simp only[rowOf] at h
    split at h
    ·split at h
     ·simp only[Option.some.injEq,Prod.mk.injEq] at h;exact ⟨_,_,h.1.symm⟩
     ·cases h
    ·cases h
theorem xH (m:fY C S.hp S.nx w ρ Fs): ∀(xs:List AV) (vs:List Value) (hp':Nat->Option aq) (r0 r:Row) (ks:List Nat),Sub hp' S.hp->r0.len=0->rowOf hp' r0 xs=some (r,ks)->eV (C.env w ρ S.hp S.nx Fs) xs vs->
 ∃F,ah w (Zu C w S.nx Fs ks F) r.cells (flat vs) F/\(∀b,F b<=cE Fs ks b)/\jR hp' ks/\r.len=xs.length/\r.size=r0.size/\(∀v∈vs,v.cells.size=r0.size)/\vs.length=xs.length/\(∀u∈flat vs,u.oneCell' =true)/\r.deep=r0.deep/\(r0.n8=false-> ∀v∈vs,v.oneCell' =true):=by
 intro xs
 induction xs with
 |nil=>
  intro vs hp' r0 r ks hs h0 he hv
  cases vs with
  |cons v vs=>exact absurd hv id
  |nil=>
   have:r0=r/\ks=[]:=by
    cases r0<;>simp only[rowOf,Option.some.injEq,Prod.mk.injEq] at he<;>exact ⟨he.1,he.2.symm⟩
   obtain ⟨rfl,rfl⟩:=this
   rw[vk h0]
   exact ⟨fz,rfl,fun b=>by simp,jR.nil _,h0,rfl,by simp,rfl,by simp[flat],rfl,by simp⟩
 |cons x xs ih=>
  intro vs hp' r0 r ks hs h0 he hv
  cases vs with
  |nil=>exact absurd hv id
  |cons v vs=>
   obtain ⟨DX,Ip⟩:=hv
   have plain: ∀(c:Cell) (r1 r2:Row) (ks':List Nat) (u:Value),v=u->u.oneCell' =true->(∀Z,dZ w Z c u fz)->r1.len=0->r1.size=1->r0.size=1->r1.n8=false->r.deep=r0.deep->rowOf hp' r1 xs=some (r2,ks')->r.cells=c::r2.cells->ks=ks'->r.len=r2.len+1->r.size=1->
    ∃F,ah w (Zu C w S.nx Fs ks F) r.cells (flat (v::vs)) F/\(∀b,F b<=cE Fs ks b)/\jR hp' ks/\r.len=(x::xs).length/\r.size=r0.size/\(∀v' ∈v::vs,v'.cells.size=r0.size)/\(v::vs).length=(x::xs).length/\(∀u∈flat (v::vs),u.oneCell' =true)/\r.deep=r0.deep/\(r0.n8=false-> ∀u∈v::vs,u.oneCell' =true):=by
    intro c r1 r2 ks' u Xn ke hc Xo Mq UQ UR Jx hq yY sA hlen qy
    obtain ⟨F,h1,h2,h3,h4,h5,h6,h7,h8,h9,Mh⟩:=ih vs hp' r1 r2 ks' hs Xo hq Ip
    subst sA Xn
    have sB:v.cells= #[v]:=mI ke
    refine ⟨F,?_,h2,h3,by simp[hlen,h4],by rw[qy,UQ],fun v' xW=> ?_,by simp[h7],fun u hu=> ?_,Jx,fun _ u hu=> ?_⟩
    ·rw[yY,kL,sB]
     exact ⟨fz,F,hc _,h1,(gV F).symm⟩
    ·rcases List.mem_cons.1 xW with rfl|xW
     ·rw[sB,UQ];rfl
     ·rw[h6 v' xW,Mq,UQ]
    ·rw[kL,sB] at hu
     rcases List.mem_append.1 hu with hu|hu
     ·simp at hu;subst hu;exact ke
     ·exact h8 u hu
    ·rcases List.mem_cons.1 hu with rfl|hu
     ·exact ke
     ·exact Mh UR u hu
   unfold rowOf at he
   split at he
   ·rename_i zG;cases zG
   ·rename_i k _ k' z Qn zG
    cases zG
    by_cases hk:k=k'
    ·subst hk
     simp only[decide_true,cond_true] at he
     split at he
     ·rename_i k2 l ks' hq
      simp only[Option.some.injEq,Prod.mk.injEq] at he
      obtain ⟨rfl,rfl⟩:=he
      obtain ⟨_,e⟩:=HY hq
      cases e
      exact plain (.sc (.int k z)) (.ints k []) (.ints k l) _ (.int k z) DX rfl (fun Z=>⟨rfl,rfl⟩) rfl rfl rfl rfl rfl hq rfl rfl rfl rfl
     ·cases he
    ·simp[hk] at he
   ·rename_i z Qn zG
    cases zG
    split at he
    ·rename_i l ks' hq
     cases he
     exact plain (.sc (.bool z)) (.cx []) (.cx l) _ (.bool z) DX rfl (fun Z=>⟨rfl,rfl⟩) rfl rfl rfl rfl rfl hq rfl rfl rfl rfl
    ·cases he
   ·rename_i z Qn zG
    cases zG
    split at he
    ·rename_i l ks' hq
     cases he
     exact plain (.sc (.string z)) (.strs []) (.strs l) _ (.string z) DX rfl (fun Z=>⟨rfl,rfl⟩) rfl rfl rfl rfl rfl hq rfl rfl rfl rfl
    ·cases he
   ·rename_i z Qn zG
    cases zG
    split at he
    ·rename_i o1 y Js Ss
     split at he
     ·rename_i o2 l Qd FJ
      cases he
      obtain ⟨F1,a1,a2,a3,a4,a5⟩:=pq m hs Ss DX
      obtain ⟨F2,b1,b2,b3,b4,b5,b6,b7,b8,b9,VP⟩:=ih vs _ _ _ _ (hs.kill Js) rfl FJ Ip
      have ht:=a3.join b3
      have sB:v.cells= #[v]:=mI a5
      obtain ⟨j1,j2⟩:=tN m hs ht (zF a1) rfl b1 a2 b2
      obtain ⟨F',s1,s2⟩:=tO j1 j2 (o1&&o2) (ct:=(Row.rows true (y::l)).cells) (cf:=(Row.rows false (y::l)).cells)
       (fun ho=>by obtain ⟨rfl,rfl⟩:=az ho;simp[Row.cells])
       (fun _=>by simp[Row.cells,Cell.eb,Function.comp_def])
      refine ⟨F',?_,s2,ht,by simp only[Row.len] at b4 ⊢;simp[b4],rfl,fun v' xW=> ?_,by simp[b7],fun u hu=> ?_,rfl,fun _ u hu=> ?_⟩
      ·rw[kL,sB]
       have:(if (o1&&o2)=true then (Row.rows true (y::l)).cells else (Row.rows false (y::l)).cells)=(Row.rows (o1&&o2) (y::l)).cells:=by cases (o1&&o2)<;>rfl
       rw[this] at s1
       exact s1
      ·rcases List.mem_cons.1 xW with rfl|xW
       ·rw[sB];rfl
       ·rw[b6 v' xW];rfl
      ·rw[kL,sB] at hu
       rcases List.mem_append.1 hu with hu|hu
       ·simp at hu;subst hu;exact a5
       ·exact b8 u hu
      ·rcases List.mem_cons.1 hu with rfl|hu
       ·exact a5
       ·exact VP rfl u hu
     ·cases he
    ·cases he
   ·rename_i sg _ _ z Qn zG
    cases zG
    split at he
    ·rename_i o1 y Js Ss
     split at he
     ·rename_i _ o2 l Qd FJ
      cases he
      obtain ⟨us,rfl,Su⟩:=DX
      obtain ⟨F1,a1,a2,a3,a4,a5⟩:=sS m _ _ _ _ _ _ _ hs Ss Su
      obtain ⟨F2,b1,b2,b3,b4,b5,b6,b7,b8,b9,VP⟩:=ih vs _ _ _ _ (hs.kill Js) rfl FJ Ip
      have ht:=a3.join b3
      obtain ⟨_,_,e⟩:=HZ FJ
      cases e
      obtain ⟨j1,j2⟩:=tN m hs ht a1 (by rw[cb,a4]) b1 a2 b2
      obtain ⟨F',s1,s2⟩:=tO j1 j2 (o1&&o2) (ct:=(Row.cB sg true (y::l)).cells) (cf:=(Row.cB sg false (y::l)).cells)
       (fun ho=>by obtain ⟨rfl,rfl⟩:=az ho;simp[Row.cells])
       (fun _=>by
         have:=wM (Row.cB sg o2 l)
         simp only[Row.eb] at this
         simp only[Row.cells,List.flatMap_cons,List.map_append,jS] at this ⊢
         rw[<- this])
      refine ⟨F',?_,s2,ht,by simp only[Row.len] at b4 ⊢;simp[b4],rfl,fun v' xW=> ?_,by simp[b7],fun u hu=> ?_,rfl,fun hh=>by cases hh⟩
      ·rw[kL]
       have:(if (o1&&o2)=true then (Row.cB sg true (y::l)).cells else (Row.cB sg false (y::l)).cells)=(Row.cB sg (o1&&o2) (y::l)).cells:=by cases (o1&&o2)<;>rfl
       rw[this] at s1
       exact s1
      ·rcases List.mem_cons.1 xW with rfl|xW
       ·simp[Value.cells,Row.size,a4]
       ·rw[b6 v' xW];rfl
      ·rw[kL] at hu
       rcases List.mem_append.1 hu with hu|hu
       ·exact a5 u (by simpa[Value.cells] using hu)
       ·exact b8 u hu
     ·cases he
    ·cases he
   ·cases he
end
end Go.Proofs.YtbmmhdmljajcfaaGreatDoor.V
