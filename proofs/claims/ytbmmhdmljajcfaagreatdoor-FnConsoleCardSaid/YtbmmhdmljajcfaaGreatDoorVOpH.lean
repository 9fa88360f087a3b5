/- The abstract evaluator and its soundness: part VOpH. Conditions: as each section says. -/
import Derived.Test.YtbmmhdmljajcfaaGreatDoorVEval
import Derived.OwnWalk
import Derived.Calls
import Derived.WalkKit
import Derived.WalkLawsBesides
import Derived.Stop.IfaceNil
import Derived.Laws.BytesString
import Derived.Laws.Tables
import Derived.Great.FillDense
import Derived.Great.BuildSlice
import Derived.Laws.MakeOwn
set_option linter.unusedVariables false
set_option linter.unusedSimpArgs false
namespace Go.Proofs.YtbmmhdmljajcfaaGreatDoor.V
open Go
abbrev FP:=Nat->Nat
def fz:FP:=fun _=>0
def f1 (b:Nat):FP:=fun x=>if x=b then 1 else 0
def dh (F G:FP):FP:=fun x=>F x+G x
theorem cp (F:FP):dh F fz=F:=by funext x;simp[dh,fz]
theorem jy (F:FP):dh fz F=F:=by funext x;simp[dh,fz]
theorem rZ (F G H:FP):dh (dh F G) H=dh F (dh G H):=by funext x;simp[dh,Nat.add_assoc]
theorem tY (F G H:FP):dh F (dh G H)=dh G (dh F H):=by funext x;simp[dh];omega
@[simp] theorem aaC (b:Nat):fz b=0:=rfl
@[simp] theorem F7 (F G:FP) (b:Nat):dh F G b=F b+G b:=rfl
@[simp] theorem Yh (b:Nat):f1 b b=1:=by simp[f1]
theorem zU (b x:Nat):f1 b x=if x=b then 1 else 0:=rfl
abbrev Zs:=Nat->Prop
def Jl (w:World) (ad:Addr) (l:List Int):Prop:= ∀(j:Nat) (n:Int),l[j]? =some n->w.cell? (ad.add j)=some (.int .i64 n)
def fv (w:World) (Z:Zs):Cell->Value->FP->Prop
 | .free,_,F=>F=fz
 | .sc u,v,F=>v=u/\F=fz
 | .sl false l,v,F=>F=fz/\ ∃A cap,v= .slice A l.length cap/\l.length<=cap/\(l≠[]-> ∃ad,A=some ad/\Z ad.block/\Jl w ad l)
 | .sl true l,v,F=>(v= .slice none 0 0/\l=[]/\F=fz)\/ ∃b cap arr ty,v= .slice (some ⟨b,0,none⟩) l.length cap/\w.heap[b]? =some (.cells arr ty (0,0))/\l.length<=cap/\cap<=arr.size/\(∀(j:Nat) (n:Int),l[j]? =some n->arr[j]? =some (Value.int .i64 n))/\F=f1 b
def aj (w:World) (Z:Zs):List Cell->List Value->FP->Prop
 | [],_,F=>F=fz
 |c::cs,v::vs,F=> ∃F1 F2,fv w Z c v F1/\aj w Z cs vs F2/\F=dh F1 F2
 |_::_,[],_=>False
theorem nL {w w':World} {a:Addr} (h:w'.heap[a.block]? =w.heap[a.block]?):w'.cell? a=w.cell? a:=by
 unfold World.cell?;rw[h]
theorem oN (a:Addr) (n:Nat):(a.add n).block=a.block:=by unfold Addr.add;split<;>rfl
theorem add_add (a:Addr) (m n:Nat):(a.add m).add n=a.add (m+n):=by
 unfold Addr.add
 by_cases hm:m=0
 ·subst hm;simp
 ·by_cases hn:n=0
  ·subst hn;simp[hm]
  ·simp[hm,hn,Nat.add_assoc]
theorem add_zero (a:Addr):a.add 0=a:=by simp[Addr.add]
theorem ef (b m n:Nat):(⟨b,m,none⟩:Addr).add n=⟨b,m+n,none⟩:=by unfold Addr.add;split<;>simp_all
theorem bO {w:World} {b:Nat} {arr:Array Value} {ty:TypeId} {fr:Nat×Nat} (h:w.heap[b]? =some (.cells arr ty fr)) (j:Nat):w.cell? ⟨b,j,none⟩=arr[j]? :=by
 simp[World.cell?,h]
theorem fv.mono {w w':World} {Z Z':Zs} {c:Cell} {v:Value} {F:FP} (h:fv w Z c v F) (hz: ∀b,Z b->Z' b/\w'.heap[b]? =w.heap[b]?) (hf: ∀b,1<=F b->w'.heap[b]? =w.heap[b]?):fv w' Z' c v F:=by
 match c,h with
 | .free,h=>exact h
 | .sc u,h=>exact h
 | .sl false l,⟨h0,A,cap,hv,CT,hl⟩=>
   refine ⟨h0,A,cap,hv,CT,fun lG=> ?_⟩
   obtain ⟨ad,e,hZ,hi⟩:=hl lG
   refine ⟨ad,e,(hz _ hZ).1,fun j n hj=> ?_⟩
   rw[nL (w:=w) (by rw[oN];exact (hz _ hZ).2)]
   exact hi j n hj
 | .sl true l,.inl h=>exact .inl h
 | .sl true l,.inr ⟨b,cap,arr,ty,hv,hb,h1,h2,h3,hF⟩=>
   exact .inr ⟨b,cap,arr,ty,hv,by rw[hf b (by rw[hF];simp)];exact hb,h1,h2,h3,hF⟩
theorem aj.mono {w w':World} {Z Z':Zs} (hz: ∀b,Z b->Z' b/\w'.heap[b]? =w.heap[b]?): ∀ {cs:List Cell} {vs:List Value} {F:FP},aj w Z cs vs F->(∀b,1<=F b->w'.heap[b]? =w.heap[b]?)->aj w' Z' cs vs F
 | [],_,_,h,_=>h
 |c::cs,v::vs,F,⟨F1,F2,h1,h2,hF⟩,hf=>⟨F1,F2,h1.mono hz (fun b hb=>hf b (by rw[hF];simp;omega)),aj.mono hz h2 (fun b hb=>hf b (by rw[hF];simp;omega)),hF⟩
theorem aj.get {w:World} {Z:Zs}: ∀ {cs:List Cell} {vs:List Value} {F:FP},aj w Z cs vs F-> ∀ {j:Nat} {c:Cell},cs[j]? =some c-> ∃v F1 F2,vs[j]? =some v/\fv w Z c v F1/\F=dh F1 F2/\
 ∀(c':Cell) (v':Value) (F':FP),fv w Z c' v' F'->aj w Z (cs.set j c') (vs.set j v') (dh F' F2)
 |c0::cs,v::vs,F,⟨F1,F2,h1,h2,hF⟩,0,c,hc=>by
  simp at hc;subst hc
  exact ⟨v,F1,F2,rfl,h1,hF,fun c' v' F' h'=>⟨F',F2,h',h2,rfl⟩⟩
 |c0::cs,v::vs,F,⟨F1,F2,h1,h2,hF⟩,j+1,c,hc=>by
  obtain ⟨v',G1,G2,e,hr,hG,sT⟩:=aj.get h2 (j:=j) (c:=c) (by simpa using hc)
  refine ⟨v',G1,dh F1 G2,by simpa using e,hr,by rw[hF,hG,tY],fun c' v'' F' h'=> ?_⟩
  exact ⟨F1,dh F' G2,h1,sT c' v'' F' h',tY ..⟩
theorem aj.length {w:World} {Z:Zs}: ∀ {cs:List Cell} {vs:List Value} {F:FP},aj w Z cs vs F->cs.length<=vs.length
 | [],_,_,_=>by simp
 |c::cs,v::vs,F,⟨F1,F2,h1,h2,hF⟩=>by have:=aj.length h2;simp;omega
theorem aj.append {w:World} {Z:Zs}: ∀ {cs ds:List Cell} {vs us:List Value} {F G:FP},aj w Z cs vs F->vs.length=cs.length->aj w Z ds us G->aj w Z (cs++ds) (vs++us) (dh F G)
 | [],ds,[],us,F,G,h,_,h'=>by cases h;rw[jy];exact h'
 |c::cs,ds,v::vs,us,F,G,⟨F1,F2,h1,h2,hF⟩,hl,h'=>⟨F1,dh F2 G,h1,aj.append h2 (by simpa using hl) h',by rw[hF,rZ]⟩
theorem aj.more {w:World} {Z:Zs}: ∀ {cs:List Cell} {vs:List Value} {F:FP} (us:List Value),aj w Z cs vs F->aj w Z cs (vs++us) F
 | [],_,_,_,h=>h
 |c::cs,v::vs,F,us,⟨F1,F2,h1,h2,hF⟩=>⟨F1,F2,h1,aj.more us h2,hF⟩
theorem aj.take {w:World} {Z:Zs}: ∀ {cs:List Cell} {vs:List Value} {F:FP} (n:Nat),aj w Z cs vs F-> ∃F1,aj w Z (cs.take n) (vs.take n) F1/\ ∀b,F1 b<=F b
 | [],vs,F,n,h=>⟨fz,by simp[aj],fun b=>by simp⟩
 |c::cs,v::vs,F,0,h=>⟨fz,by simp[aj],fun b=>by simp⟩
 |c::cs,v::vs,F,n+1,⟨F1,F2,h1,h2,hF⟩=>by
  obtain ⟨G,hG,hle⟩:=aj.take n h2
  exact ⟨dh F1 G,⟨F1,G,h1,by simpa using hG,rfl⟩,fun b=>by have:=hle b;rw[hF];simp;omega⟩
theorem aj.drop {w:World} {Z:Zs}: ∀ {cs:List Cell} {vs:List Value} {F:FP} (n:Nat),aj w Z cs vs F-> ∃F1,aj w Z (cs.drop n) (vs.drop n) F1/\ ∀b,F1 b<=F b
 | [],vs,F,n,h=>⟨fz,by simp[aj],fun b=>by simp⟩
 |c::cs,v::vs,F,0,h=>⟨F,by simpa using h,fun b=>Nat.le_refl _⟩
 |c::cs,v::vs,F,n+1,⟨F1,F2,h1,h2,hF⟩=>by
  obtain ⟨G,hG,hle⟩:=aj.drop n h2
  exact ⟨G,by simpa using hG,fun b=>by have:=hle b;rw[hF];simp;omega⟩
theorem aj.shrink {w:World} {Z:Zs}: ∀ {cs:List Cell} {vs:List Value} {F:FP},aj w Z cs vs F->aj w Z cs (vs.take cs.length) F
 | [],vs,F,h=>h
 |c::cs,v::vs,F,⟨F1,F2,h1,h2,hF⟩=>⟨F1,F2,h1,by simpa using aj.shrink h2,hF⟩
def Cell.fL:Cell->Cell
 | .sl _ l=> .sl false l
 |c=>c
theorem fv.fL {w:World} {Z Z':Zs} {c:Cell} {v:Value} {F:FP} (h:fv w Z c v F) (hz: ∀b,Z b->Z' b) (hf: ∀b,1<=F b->Z' b):fv w Z' c.fL v fz:=by
 match c,h with
 | .free,h=>rfl
 | .sc u,h=>exact ⟨h.1,rfl⟩
 | .sl false l,⟨h0,A,cap,hv,CT,hl⟩=>
   refine ⟨rfl,A,cap,hv,CT,fun lG=> ?_⟩
   obtain ⟨ad,e,hZ,hi⟩:=hl lG
   exact ⟨ad,e,hz _ hZ,hi⟩
 | .sl true l,.inl ⟨h1,h2,h3⟩=>subst h2;exact ⟨rfl,none,0,h1,Nat.le_refl _,fun h=>absurd rfl h⟩
 | .sl true l,.inr ⟨b,cap,arr,ty,hv,hb,h1,h2,h3,hF⟩=>
   refine ⟨rfl,_,cap,hv,h1,fun _=>⟨⟨b,0,none⟩,rfl,hf b (by rw[hF];simp),fun j n hj=> ?_⟩⟩
   rw[ef,Nat.zero_add,bO hb]
   exact h3 j n hj
theorem aj.fL {w:World} {Z Z':Zs} (hz: ∀b,Z b->Z' b): ∀ {cs:List Cell} {vs:List Value} {F:FP},aj w Z cs vs F->(∀b,1<=F b->Z' b)->aj w Z' (cs.map Cell.fL) vs fz
 | [],_,_,h,_=>rfl
 |c::cs,v::vs,F,⟨F1,F2,h1,h2,hF⟩,hf=>⟨fz,fz,h1.fL hz (fun b hb=>hf b (by rw[hF];simp;omega)),aj.fL hz h2 (fun b hb=>hf b (by rw[hF];simp;omega)),(cp _).symm⟩
theorem c_ (o:Bool) (r:List gR): ∀(sg:List Bool) (f:Nat),(bD o r f sg).length=sg.length
 | [],_=>rfl
 |true::sg,f=>by simp[bD,c_ o r sg]
 |false::sg,f=>by simp[bD,c_ o r sg]
theorem px {α β:Type} (g:α->List β) (n:Nat) (h: ∀x,(g x).length=n): ∀l:List α,(l.flatMap g).length=l.length*n
 | []=>by simp
 |x::l=>by simp[px g n h l,h,Nat.succ_mul,Nat.add_comm]
theorem Aj {α β:Type} (g:α->List β) (n:Nat) (h: ∀x,(g x).length=n): ∀(l:List α) (i f:Nat),f<n->(l.flatMap g)[i*n+f]? =(l[i]?).bind (fun x=>(g x)[f]?)
 | [],i,f,_=>by simp
 |x::l,0,f,hf=>by simp[List.getElem?_append,h,hf]
 |x::l,i+1,f,hf=>by
  have e:(i+1)*n+f=n+(i*n+f):=by rw[Nat.succ_mul];omega
  simp only[List.flatMap_cons,e]
  rw[List.getElem?_append_right (by rw[h];omega),h,Nat.add_sub_cancel_left,Aj g n h l i f hf]
  simp
theorem Row.eG (r:Row):r.cells.length=r.len*r.size:=by
 cases r<;>simp[Row.cells,Row.len,Row.size]
 rename_i sg o l
 have:=px (fun r=>bD o r 0 sg) sg.length (fun x=>c_ ..) l
 simpa using this
theorem ic (o:Bool) (r:List gR): ∀(sg:List Bool) (f j:Nat),(bD o r f sg)[j]? =(sg[j]?).map fun b=>if b then Cell.sl o (gl r (f+j)) else .sc (.int .i64 (gi r (f+j)))
 | [],f,j=>by simp[bD]
 |true::sg,f,0=>by simp[bD]
 |false::sg,f,0=>by simp[bD]
 |true::sg,f,j+1=>by simp only[bD,List.getElem?_cons_succ,ic o r sg];congr 1;funext b;rw[show f+1+j=f+(j+1) by omega]
 |false::sg,f,j+1=>by simp only[bD,List.getElem?_cons_succ,ic o r sg];congr 1;funext b;rw[show f+1+j=f+(j+1) by omega]
theorem qV (sg:List Bool) (o:Bool) (l:List (List gR)) (i f:Nat) (hf:f<sg.length):(Row.dw sg o l).cells[i*sg.length+f]? =(l[i]?).bind fun r=>(sg[f]?).map fun b=>if b then Cell.sl o (gl r f) else .sc (.int .i64 (gi r f)):=by
 simp only[Row.cells]
 rw[Aj (fun r=>bD o r 0 sg) sg.length (fun x=>c_ ..) l i f hf]
 congr 1;funext r
 rw[ic];simp
theorem y8 (r:Row):r.fL.cells=r.cells.map Cell.fL:=by
 cases r<;>simp[Row.fL,Row.cells,Function.comp_def,Cell.fL]
 rename_i sg o l
 rw[List.map_flatMap]
 congr 1;funext r
 apply List.ext_getElem?
 intro j
 rw[List.getElem?_map,ic,ic]
 cases sg[j]? with
 |none=>rfl
 |some b=>cases b<;>simp[Cell.fL]
theorem kz (r:Row):r.fL.len=r.len:=by cases r<;>rfl
theorem Ij (r:Row):r.fL.size=r.size:=by cases r<;>rfl
theorem take_size (r:Row) (n:Nat):(r.take n).size=r.size:=by cases r<;>rfl
theorem EE (r:Row) (n:Nat):(r.drop n).size=r.size:=by cases r<;>rfl
theorem take_len (r:Row) (n:Nat):(r.take n).len=min n r.len:=by cases r<;>simp[Row.take,Row.len]
theorem pn (r:Row) (n:Nat):(r.drop n).len=r.len-n:=by cases r<;>simp[Row.drop,Row.len]
theorem xO {α β:Type} (g:α->List β) (n:Nat) (h: ∀x,(g x).length=n): ∀(l:List α) (k:Nat),(l.take k).flatMap g=(l.flatMap g).take (k*n)
 | [],k=>by simp
 |x::l,0=>by simp
 |x::l,k+1=>by
  simp only[List.take_succ_cons,List.flatMap_cons,xO g n h l k]
  have e:(k+1)*n=n+k*n:=by rw[Nat.succ_mul];omega
  rw[List.take_append,h,e,Nat.add_sub_cancel_left,List.take_of_length_le (l:=g x) (by rw[h];omega)]
theorem xP {α β:Type} (g:α->List β) (n:Nat) (h: ∀x,(g x).length=n): ∀(l:List α) (k:Nat),(l.drop k).flatMap g=(l.flatMap g).drop (k*n)
 | [],k=>by simp
 |x::l,0=>by simp
 |x::l,k+1=>by
  simp only[List.drop_succ_cons,List.flatMap_cons,xP g n h l k]
  have e:(k+1)*n=n+k*n:=by rw[Nat.succ_mul];omega
  rw[List.drop_append,h,e,Nat.add_sub_cancel_left,List.drop_of_length_le (l:=g x) (by rw[h];omega),List.nil_append]
theorem rX (r:Row) (n:Nat):(r.take n).cells=r.cells.take (n*r.size):=by
 cases r<;>simp[Row.take,Row.cells,Row.size,List.map_take]
 exact xO _ _ (fun x=>c_ ..) _ _
theorem Cq (r:Row) (n:Nat):(r.drop n).cells=r.cells.drop (n*r.size):=by
 cases r<;>simp[Row.drop,Row.cells,Row.size,List.map_drop]
 exact xP _ _ (fun x=>c_ ..) _ _
def pK (w:World) (Z:Zs) (ad:Addr) (cs:List Cell):Prop:=Z ad.block/\ ∃vs:List Value,(∀j,j<cs.length->w.cell? (ad.add j)=vs[j]?)/\aj w Z cs vs fz
def fw (w:World) (Z:Zs) (r:Row) (v:Value):Prop:= ∃A cap,v= .slice A r.len cap/\r.len<=cap/\(r.len≠0-> ∃ad,A=some ad/\pK w Z ad r.cells)
abbrev Place:=Nat->Option (Nat×Nat)
def hdr (q:Option (Nat×Nat)) (n:Nat):Value:=match q with
 |none=> .slice none 0 0
 |some (b,cap)=> .slice (some ⟨b,0,none⟩) n cap
def lD (q:Option (Nat×Nat)) (size lo hi:Nat):Value:=match q with
 |none=> .slice none 0 0
 |some (b,cap)=> .slice (some (if cap=lo then ⟨b,0,none⟩ else ⟨b,lo*size,none⟩)) (hi-lo) (cap-lo)
theorem zj {r:Row} {f:Nat} (h:r.kZ f=true):r.deep=true:=by cases r<;>first|rfl|cases h
theorem FO {r:Row} {f:Nat} (h:r.kZ f=true):f<r.size:=by
 cases r with
 |rows o l=>simp[Row.kZ] at h;subst h;simp[Row.size]
 |dw sg o l=>
  simp only[Row.kZ] at h
  cases e:sg[f]? with
  |none=>rw[e] at h;cases h
  |some b=>exact (List.getElem?_eq_some_iff.1 e).1
 |_=>cases h
def aw.row? :aw->Option Row
 | .row _ _ r=>some r
 | .hole _ _ r _ _=>some r
 | .box _ _=>none
 | .eW=>none
def aw.ver:aw->Nat
 | .row _ v _=>v
 | .hole _ v _ _ _=>v
 | .box _ _=>0
 | .eW=>0
def aw.real:aw->Prop
 | .eW=>False
 |_=>True
def cellAt (w:World) (q:Option (Nat×Nat)) (j:Nat):Option Value:=match q with
 |none=>none
 |some (b,_)=>w.cell? ⟨b,j,none⟩
structure Env where
 w:World
 Zf:Zs
 ZL:Zs
 ρ:Place
 hp:Nat->Option aw
 nx:Nat
def eS (E:Env):LV->Value->Prop
 | .any,_=>True
 | .undef,v=>v=undef
 | .i k n,v=>v= .int k n
 | .b x,v=>v= .bool x
 | .s x,v=>v= .string x
 | .er true,v=>v= .nilIface
 | .er false,v=> ∃t x,v= .iface t x
 | .fn f,v=>v= .func (.func f) #[] #[]
 | .nil,v=>v= .slice none 0 0
 | .val p r,v=>fw E.w (if p then E.Zf else E.ZL) r v
 | .own id,v=>id<E.nx/\ ∀root,E.hp id=some root-> ∃r,root.row? =some r/\v=hdr (E.ρ id) r.len
 | .sub id lo hi,v=>id<E.nx/\ ∀root,E.hp id=some root-> ∃r,root.row? =some r/\lo<=hi/\hi<=r.len/\v=lD (E.ρ id) r.size lo hi
 | .inner id ver i f,v=>id<E.nx/\ ∀root,E.hp id=some root->root.real/\ver<=root.ver/\ ∀e r,root= .row e ver r->r.kZ f=true/\i<r.len/\cellAt E.w (E.ρ id) (i*r.size+f)=some v
 | .fP id k,v=>id<E.nx/\(∀root,E.hp id=some root->root.real)/\ ∃b cap,E.ρ id=some (b,cap)/\v= .pointer (some ⟨b,k,none⟩)
 | .arr id n,v=>id<E.nx/\ ∀root,E.hp id=some root-> ∃r,root.row? =some r/\r.len=n/\ ∃b cap,E.ρ id=some (b,cap)/\v= .pointer (some ⟨b,0,none⟩)
 | .q_ id i f,v=>id<E.nx/\ ∀root,E.hp id=some root-> ∃r,root.row? =some r/\i<r.len/\ ∃b cap,E.ρ id=some (b,cap)/\v= .pointer (some ⟨b,i*r.size+f,none⟩)
 | .Gb p r i f,v=>i<r.len/\ ∃ad,v= .pointer (some (ad.add (i*r.size+f)))/\pK E.w (if p then E.Zf else E.ZL) ad r.cells
 | .zd id ver i f j,v=>id<E.nx/\ ∀root,E.hp id=some root->root.real/\ver<=root.ver/\ ∀e r,root= .row e ver r->r.kZ f=true/\i<r.len/\j<(eB r i f).length/\ ∃A n cap,cellAt E.w (E.ρ id) (i*r.size+f)=some (.slice (some A) n cap)/\v= .pointer (some (A.add j))
def bj (E:Env):List LV->List Value->Prop
 | [],[]=>True
 |x::xs,v::vs=>eS E x v/\bj E xs vs
 |_,_=>False
def xK (E:Env):A1->Value->Prop
 | .l x,v=>eS E x v
 | .agg xs,v=> ∃vs:List Value,v= .agg vs.toArray/\bj E xs vs
def mq (E:Env):List A1->List Value->Prop
 | [],[]=>True
 |x::xs,v::vs=>xK E x v/\mq E xs vs
 |_,_=>False
def gy (E:Env):AV->Value->Prop
 | .one x,v=>xK E x v
 | .G4 xs,v=> ∃vs:List Value,v= .tuple vs.toArray/\mq E xs vs
def gY (w:World) (Z:Zs) (q:Option (Nat×Nat)) (cs:List Cell) (len size:Nat) (F:FP):Prop:=
 (q=none/\len=0/\F=fz)\/ ∃b cap arr ty F',q=some (b,cap)/\w.heap[b]? =some (.cells arr ty (0,0))/\len<=cap/\cap*size<=arr.size/\aj w Z cs arr.toList F' /\F=dh (f1 b) F'
def Gw (E:Env) (q:Option (Nat×Nat)) (cells:List LV) (F:FP):Prop:=
 ∃b cap vs ty,q=some (b,cap)/\E.w.heap[b]? =some (.cells vs ty (0,0))/\bj E cells vs.toList/\F=f1 b
def jj (E:Env) (id:Nat):aw->FP->Prop
 | .row _ _ r,F=>gY E.w E.ZL (E.ρ id) r.cells r.len r.size F
 | .hole _ _ r i f,F=>i<r.len/\f<r.size/\gY E.w E.ZL (E.ρ id) (r.cells.set (i*r.size+f) .free) r.len r.size F
 | .box _ cells,F=>Gw E (E.ρ id) cells F
 | .eW,F=>F=fz
def xQ (w w':World) (q:Option (Nat×Nat)):aw->aw->Prop
 | .box _ _,.box _ _=>True
 | .row _ v r,.row _ v' r'=>r'.len=r.len/\r'.size=r.size/\v<=v' /\(∀f,r'.kZ f=r.kZ f)/\(v' =v->r.deep=true->(∀i f,(eB r' i f).length=(eB r i f).length)/\ ∀b cap,q=some (b,cap)->w'.heap[b]? =w.heap[b]?)
 | .row _ v r,.hole _ v' r' _ _=>r'.len=r.len/\r'.size=r.size/\v<=v'
 | .hole _ v r _ _,.row _ v' r'=>r'.len=r.len/\r'.size=r.size/\v<v'
 | .eW,_=>True
 |_,_=>False
theorem xQ.refl (w w':World) (q:Option (Nat×Nat)): ∀root:aw,(∀b cap,q=some (b,cap)->root.row?.any Row.deep=true->w'.heap[b]? =w.heap[b]?)->(∀e v r i f,root≠ .hole e v r i f)->xQ w w' q root root
 | .box _ _,_,_=>trivial
 | .eW,_,_=>trivial
 | .row _ v r,h,_=>⟨rfl,rfl,Nat.le_refl _,fun _=>rfl,fun _ hd=>⟨fun _ _=>rfl,fun b cap hq=>h b cap hq (by simp[aw.row?,hd])⟩⟩
 | .hole e v r i f,_,h=>absurd rfl (h e v r i f)
structure qZ (E E':Env):Prop where
 zf: ∀b,E.Zf b->E'.Zf b/\E'.w.heap[b]? =E.w.heap[b]?
 zl: ∀b,E.ZL b->E'.ZL b/\E'.w.heap[b]? =E.w.heap[b]?
 nx:E.nx<=E'.nx
 ρ: ∀id,id<E.nx->(∀root,E.hp id=some root->root.real)->E'.ρ id=E.ρ id
 UM: ∀id bn,id<E.nx->E'.hp id=some bn-> ∃root,E.hp id=some root/\(xQ E.w E'.w (E.ρ id) root bn\/bn=root/\ ∃e v r i f,root= .hole e v r i f)
theorem pK.mono {w w':World} {Z Z':Zs} {ad:Addr} {cs:List Cell} (h:pK w Z ad cs) (hz: ∀b,Z b->Z' b/\w'.heap[b]? =w.heap[b]?):pK w' Z' ad cs:=by
 obtain ⟨h0,vs,h1,h2⟩:=h
 refine ⟨(hz _ h0).1,vs,fun j hj=> ?_,h2.mono hz (fun b hb=>by simp at hb)⟩
 rw[<- h1 j hj]
 exact nL (by rw[oN];exact (hz _ h0).2)
theorem fw.mono {w w':World} {Z Z':Zs} {r:Row} {v:Value} (h:fw w Z r v) (hz: ∀b,Z b->Z' b/\w'.heap[b]? =w.heap[b]?):fw w' Z' r v:=by
 obtain ⟨A,cap,hv,CT,h1⟩:=h
 refine ⟨A,cap,hv,CT,fun hn=> ?_⟩
 obtain ⟨ad,e,h2⟩:=h1 hn
 exact ⟨ad,e,h2.mono hz⟩
theorem qZ.row {E E':Env} (M:qZ E E') {id:Nat} (h:id<E.nx) {bn:aw} (h':E'.hp id=some bn): ∃root,E.hp id=some root/\(root.real->bn.real/\root.ver<=bn.ver/\(∀r,root.row? =some r-> ∃r',bn.row? =some r' /\r'.len=r.len/\r'.size=r.size)/\
 ∀e r',bn= .row e root.ver r'-> ∃e0 r,root= .row e0 root.ver r/\(∀f,r'.kZ f=r.kZ f)/\(r.deep=true->(∀i f,(eB r' i f).length=(eB r i f).length)/\ ∀b cap,E.ρ id=some (b,cap)->E'.w.heap[b]? =E.w.heap[b]?)):=by
 obtain ⟨root,h0,hl⟩:=M.UM id bn h h'
 refine ⟨root,h0,fun SW=> ?_⟩
 rcases hl with hl| ⟨rfl,e,v,r,i,f,rfl⟩
 ·cases root<;>cases bn<;>simp only[xQ,aw.real] at hl SW
  ·obtain ⟨h1,h2,h3,h5,h4⟩:=hl
   refine ⟨trivial,h3,fun r hr=>⟨_,rfl,by simp[aw.row?] at hr;subst hr;exact ⟨h1,h2⟩⟩,fun e r' he=> ?_⟩
   simp only[aw.row.injEq] at he
   obtain ⟨rfl,hv,rfl⟩:=he
   exact ⟨_,_,rfl,h5,fun hd=>h4 hv hd⟩
  ·exact ⟨trivial,hl.2.2,fun r hr=>⟨_,rfl,by simp[aw.row?] at hr;subst hr;exact ⟨hl.1,hl.2.1⟩⟩,fun e r' he=>by cases he⟩
  ·refine ⟨trivial,Nat.le_of_lt hl.2.2,fun r hr=>⟨_,rfl,by simp[aw.row?] at hr;subst hr;exact ⟨hl.1,hl.2.1⟩⟩,fun e r' he=> ?_⟩
   simp only[aw.row.injEq] at he
   have h1:=hl.2.2
   have h2:=he.2.1
   simp only[aw.ver] at h2
   omega
  ·exact ⟨trivial,Nat.le_refl _,fun r hr=>by simp[aw.row?] at hr,fun e r' he=>by cases he⟩
 ·exact ⟨SW,Nat.le_refl _,fun r hr=>⟨r,hr,rfl,rfl⟩,fun e r' he=>by cases he⟩
theorem km {root:aw} {r:Row} (h:root.row? =some r):root.real:=by cases root<;>first|trivial|cases h
theorem Ak {w w':World} {q:Option (Nat×Nat)} {j:Nat} {v:Value} (h:cellAt w q j=some v) (hb: ∀b cap,q=some (b,cap)->w'.heap[b]? =w.heap[b]?):cellAt w' q j=some v:=by
 cases q with
 |none=>exact h
 |some q=>obtain ⟨b,cap⟩:=q;simp only[cellAt] at h ⊢;rw[nL (w:=w) (hb b cap rfl)];exact h
theorem eS.mono {E E':Env} (M:qZ E E') {x:LV} {v:Value} (h:eS E x v):eS E' x v:=by
 match x,h with
 | .any,h=>exact h
 | .undef,h=>exact h
 | .i _ _,h=>exact h
 | .b _,h=>exact h
 | .s _,h=>exact h
 | .er true,h=>exact h
 | .er false,h=>exact h
 | .fn _,h=>exact h
 | .nil,h=>exact h
 | .val p r,h=>cases p<;>exact fw.mono h (by first|exact M.zf|exact M.zl)
 | .own id,⟨h1,h2⟩=>
   refine ⟨Nat.lt_of_lt_of_le h1 M.nx,fun bn h'=> ?_⟩
   obtain ⟨root,h0,hg⟩:=M.row h1 h'
   obtain ⟨r,e,hv⟩:=h2 root h0
   obtain ⟨_,_,hr,_⟩:=hg (km e)
   obtain ⟨r',e',hl,hs⟩:=hr r e
   exact ⟨r',e',by rw[M.ρ id h1 (fun x hx=>by rw[h0] at hx;cases hx;exact km e),hl];exact hv⟩
 | .sub id lo hi,⟨h1,h2⟩=>
   refine ⟨Nat.lt_of_lt_of_le h1 M.nx,fun bn h'=> ?_⟩
   obtain ⟨root,h0,hg⟩:=M.row h1 h'
   obtain ⟨r,e,g1,g2,hv⟩:=h2 root h0
   obtain ⟨_,_,hr,_⟩:=hg (km e)
   obtain ⟨r',e',hl,hs⟩:=hr r e
   exact ⟨r',e',g1,by omega,by rw[M.ρ id h1 (fun x hx=>by rw[h0] at hx;cases hx;exact km e),hs];exact hv⟩
 | .inner id ver i f,⟨h1,h2⟩=>
   refine ⟨Nat.lt_of_lt_of_le h1 M.nx,fun bn h'=> ?_⟩
   obtain ⟨root,h0,hg⟩:=M.row h1 h'
   obtain ⟨g0,g1,g2⟩:=h2 root h0
   obtain ⟨u9,hv,hr,hd⟩:=hg g0
   refine ⟨u9,Nat.le_trans g1 hv,fun e r' he=> ?_⟩
   have FQ:root.ver=ver:=by have:bn.ver=ver:=by rw[he];rfl
                            omega
   subst FQ
   obtain ⟨e0,r,ao,hdd,hk⟩:=hd e r' he
   obtain ⟨m1,m2,m4⟩:=g2 e0 r ao
   obtain ⟨k2,k3⟩:=hk (zj m1)
   obtain ⟨Xd,q1,q2,q3⟩:=hr r (by rw[ao];rfl)
   have e2:Xd=r':=by rw[he] at q1;exact (Option.some.inj q1).symm
   rw[e2] at q2 q3
   refine ⟨by rw[hdd];exact m1,by omega,?_⟩
   rw[M.ρ id h1 (fun x hx=>by rw[h0] at hx;cases hx;exact g0),q3]
   exact Ak m4 k3
 | .fP id k,⟨h1,u9,b,cap,h2,h3⟩=>
   refine ⟨Nat.lt_of_lt_of_le h1 M.nx,fun bn h'=> ?_,b,cap,by rw[M.ρ id h1 u9];exact h2,h3⟩
   obtain ⟨root,h0,hg⟩:=M.row h1 h'
   exact (hg (u9 root h0)).1
 | .arr id n,⟨h1,h2⟩=>
   refine ⟨Nat.lt_of_lt_of_le h1 M.nx,fun bn h'=> ?_⟩
   obtain ⟨root,h0,hg⟩:=M.row h1 h'
   obtain ⟨r,e,g1,b,cap,g2,hv⟩:=h2 root h0
   obtain ⟨_,_,hr,_⟩:=hg (km e)
   obtain ⟨r',e',hl,hs⟩:=hr r e
   exact ⟨r',e',by omega,b,cap,by rw[M.ρ id h1 (fun x hx=>by rw[h0] at hx;cases hx;exact km e)];exact g2,hv⟩
 | .q_ id i f,⟨h1,h2⟩=>
   refine ⟨Nat.lt_of_lt_of_le h1 M.nx,fun bn h'=> ?_⟩
   obtain ⟨root,h0,hg⟩:=M.row h1 h'
   obtain ⟨r,e,g1,b,cap,g2,hv⟩:=h2 root h0
   obtain ⟨_,_,hr,_⟩:=hg (km e)
   obtain ⟨r',e',hl,hs⟩:=hr r e
   exact ⟨r',e',by omega,b,cap,by rw[M.ρ id h1 (fun x hx=>by rw[h0] at hx;cases hx;exact km e)];exact g2,by rw[hs];exact hv⟩
 | .Gb p r i f,⟨h1,ad,h2,h3⟩=>exact ⟨h1,ad,h2,by cases p<;>exact h3.mono (by first|exact M.zf|exact M.zl)⟩
 | .zd id ver i f j,⟨h1,h2⟩=>
   refine ⟨Nat.lt_of_lt_of_le h1 M.nx,fun bn h'=> ?_⟩
   obtain ⟨root,h0,hg⟩:=M.row h1 h'
   obtain ⟨g0,g1,g2⟩:=h2 root h0
   obtain ⟨u9,hv,hr,hd⟩:=hg g0
   refine ⟨u9,Nat.le_trans g1 hv,fun e r' he=> ?_⟩
   have FQ:root.ver=ver:=by have:bn.ver=ver:=by rw[he];rfl
                            omega
   subst FQ
   obtain ⟨e0,r,ao,hdd,hk⟩:=hd e r' he
   obtain ⟨m1,m2,m5,A,n,cap,m4,m6⟩:=g2 e0 r ao
   obtain ⟨k2,k3⟩:=hk (zj m1)
   obtain ⟨Xd,q1,q2,q3⟩:=hr r (by rw[ao];rfl)
   have e2:Xd=r':=by rw[he] at q1;exact (Option.some.inj q1).symm
   rw[e2] at q2 q3
   refine ⟨by rw[hdd];exact m1,by omega,by rw[k2];exact m5,A,n,cap,?_,m6⟩
   rw[M.ρ id h1 (fun x hx=>by rw[h0] at hx;cases hx;exact g0),q3]
   exact Ak m4 k3
theorem bj.mono {E E':Env} (M:qZ E E'): ∀ {xs:List LV} {vs:List Value},bj E xs vs->bj E' xs vs
 | [],[],h=>h
 |x::xs,v::vs,h=>⟨h.1.mono M,bj.mono M h.2⟩
theorem xK.mono {E E':Env} (M:qZ E E') {x:A1} {v:Value} (h:xK E x v):xK E' x v:=by
 cases x with
 |l x=>exact eS.mono M h
 |agg xs=>obtain ⟨vs,e,h⟩:=h;exact ⟨vs,e,h.mono M⟩
theorem mq.mono {E E':Env} (M:qZ E E'): ∀ {xs:List A1} {vs:List Value},mq E xs vs->mq E' xs vs
 | [],[],h=>h
 |x::xs,v::vs,h=>⟨h.1.mono M,mq.mono M h.2⟩
theorem gy.mono {E E':Env} (M:qZ E E') {x:AV} {v:Value} (h:gy E x v):gy E' x v:=by
 cases x with
 |one x=>exact xK.mono M h
 |G4 xs=>obtain ⟨vs,e,h⟩:=h;exact ⟨vs,e,h.mono M⟩
theorem gY.mono {w w':World} {Z Z':Zs} {q:Option (Nat×Nat)} {cs:List Cell} {len size:Nat} {F:FP} (h:gY w Z q cs len size F) (hz: ∀b,Z b->Z' b/\w'.heap[b]? =w.heap[b]?) (hf: ∀b,1<=F b->w'.heap[b]? =w.heap[b]?):gY w' Z' q cs len size F:=by
 rcases h with h| ⟨b,cap,arr,ty,F',h1,h2,h3,h4,h5,h6⟩
 ·exact .inl h
 ·exact .inr ⟨b,cap,arr,ty,F',h1,by rw[hf b (by rw[h6];simp)];exact h2,h3,h4,h5.mono hz (fun b hb=>hf b (by rw[h6];simp;omega)),h6⟩
theorem Gw.mono {E E':Env} (M:qZ E E') {q:Option (Nat×Nat)} {cells:List LV} {F:FP} (h:Gw E q cells F) (hf: ∀b,1<=F b->E'.w.heap[b]? =E.w.heap[b]?):Gw E' q cells F:=by
 obtain ⟨b,cap,vs,ty,h1,h2,h3,h4⟩:=h
 exact ⟨b,cap,vs,ty,h1,by rw[hf b (by rw[h4];simp)];exact h2,h3.mono M,h4⟩
theorem jj.mono {E E':Env} (M:qZ E E') {id:Nat} (hid:id<E.nx) {root:aw} {F:FP} (hhp:E.hp id=some root) (h:jj E id root F) (hf: ∀b,1<=F b->E'.w.heap[b]? =E.w.heap[b]?):jj E' id root F:=by
 by_cases hg:root= .eW
 ·subst hg;exact h
 have u9: ∀x,E.hp id=some x->x.real:=fun x hx=>by rw[hhp] at hx;cases hx;cases root<;>first|trivial|exact absurd rfl hg
 cases root with
 |row e v r=>simp only[jj,M.ρ id hid u9] at h ⊢;exact h.mono M.zl hf
 |hole e v r i f=>simp only[jj,M.ρ id hid u9] at h ⊢;exact ⟨h.1,h.2.1,h.2.2.mono M.zl hf⟩
 |box t c=>simp only[jj,M.ρ id hid u9] at h ⊢;exact h.mono M hf
 |eW=>exact h
def ar:Nat->(Nat->FP)->FP
 |0,_=>fz
 |n+1,Fs=>dh (ar n Fs) (Fs n)
theorem j9 (Fs:Nat->FP) (b:Nat): ∀ {n id:Nat},id<n->Fs id b<=ar n Fs b
 |n+1,id,h=>by
  by_cases e:id=n
  ·subst e;simp[ar]
  ·have:=j9 Fs b (n:=n) (id:=id) (by omega);simp[ar];omega
theorem EF (Fs:Nat->FP) (b:Nat): ∀ {n i j:Nat},i<n->j<n->i≠j->Fs i b+Fs j b<=ar n Fs b
 |n+1,i,j,hi,hj,lG=>by
  by_cases ei:i=n
  ·subst ei;have:=j9 Fs b (n:=i) (id:=j) (by omega);simp[ar];omega
  ·by_cases ej:j=n
   ·subst ej;have:=j9 Fs b (n:=j) (id:=i) (by omega);simp[ar];omega
   ·have:=EF Fs b (n:=n) (i:=i) (j:=j) (by omega) (by omega) lG;simp[ar];omega
theorem n_ {Fs Gs:Nat->FP} (b:Nat): ∀ {n:Nat},(∀j,j<n->Fs j b=Gs j b)->ar n Fs b=ar n Gs b
 |0,_=>rfl
 |n+1,h=>by simp[ar,n_ b (n:=n) (fun j hj=>h j (by omega)),h n (by omega)]
theorem rU {Fs:Nat->FP} (b:Nat): ∀ {m n:Nat},n<=m->(∀j,n<=j->j<m->Fs j b=0)->ar m Fs b=ar n Fs b
 |0,n,h,_=>by have:n=0:=by omega
              subst this;rfl
 |m+1,n,h,hz=>by
  by_cases e:n=m+1
  ·subst e;rfl
  ·simp[ar,rU b (m:=m) (n:=n) (by omega) (fun j h1 h2=>hz j h1 (by omega)),hz m (by omega) (by omega)]
def gC (Fs:Nat->FP) (id:Nat) (F:FP):Nat->FP:=fun j=>if j=id then F else Fs j
@[simp] theorem iC (Fs:Nat->FP) (id:Nat) (F:FP):gC Fs id F id=F:=by simp[gC]
theorem dQ (Fs:Nat->FP) {id j:Nat} (F:FP) (h:j≠id):gC Fs id F j=Fs j:=by simp[gC,h]
theorem fN (Fs:Nat->FP) (F:FP) (b:Nat): ∀ {n id:Nat},id<n->ar n (gC Fs id F) b+Fs id b=ar n Fs b+F b
 |n+1,id,h=>by
  by_cases e:id=n
  ·subst e
   have:=n_ (Fs:=gC Fs id F) (Gs:=Fs) b (n:=id) (fun j hj=>by rw[dQ _ _ (by omega)])
   simp[ar];omega
  ·have:=fN Fs F b (n:=n) (id:=id) (by omega)
   simp[ar,dQ Fs F (show n≠id by omega)];omega
theorem C9 (Fs:Nat->FP) (F:FP) (b:Nat) (n:Nat):ar (n+1) (gC Fs n F) b=ar n Fs b+F b:=by
 have:=n_ (Fs:=gC Fs n F) (Gs:=Fs) b (n:=n) (fun j hj=>by rw[dQ _ _ (by omega)])
 simp[ar,this]
def uk:String:= "internal/strconv.uint64pow10"
def UN:List Int:=(List.range 20).map fun i=>((10^i:Nat):Int)
def AL:String:= "strconv.ErrSyntax"
def Ground (P:Program) (w:World) (Z:Zs):Prop:=(∀b,P.globalNamed uk=some b->Z b/\w.var? P uk=some (UN.map fun z=>Value.int .u64 z).toArray)/\ ∀b,P.globalNamed AL=some b->Z b/\ ∃t x,w.var? P AL=some #[.iface t x]
theorem IF {P:Program} {w w':World} {n:String} {b:Nat} (hb:P.globalNamed n=some b) (h:w'.heap[b]? =w.heap[b]?):w'.var? P n=w.var? P n:=by
 unfold World.var?
 rw[hb]
 simp only[Option.bind_some]
 rw[h]
theorem Ground.mono {P:Program} {w w':World} {Z Z':Zs} (h:Ground P w Z) (hz: ∀b,Z b->Z' b/\w'.heap[b]? =w.heap[b]?):Ground P w' Z':=by
 refine ⟨fun b hb=> ?_,fun b hb=> ?_⟩
 ·obtain ⟨h1,h2⟩:=h.1 b hb
  obtain ⟨h3,h4⟩:=hz b h1
  exact ⟨h3,by rw[IF hb h4];exact h2⟩
 ·obtain ⟨h1,h2⟩:=h.2 b hb
  obtain ⟨h3,h4⟩:=hz b h1
  exact ⟨h3,by rw[IF hb h4];exact h2⟩
structure Cx where
 P0:Program
 w0:World
 F0:FP
 Zl:Zs
 Zf0:Zs
 N:Nat
 kv:List Value
 good: ∀b,Zl b\/Zf0 b->b<w0.heap.size/\F0 b=0
 gnd:Ground P0 w0 Zf0
def Cx.Zf (C:Cx) (w:World) (F:FP):Zs:=fun b=>C.Zf0 b\/((C.w0.heap.size<=b\/1<=C.F0 b)/\b<w.heap.size/\F b=0)
def Cx.ZL (C:Cx) (w:World) (F:FP):Zs:=fun b=>C.Zl b\/C.Zf w F b
def Cx.env (C:Cx) (w:World) (ρ:Place) (hp:Nat->Option aw) (nx:Nat) (Fs:Nat->FP):Env:={w,Zf:=C.Zf w (ar nx Fs),ZL:=C.ZL w (ar nx Fs),ρ,hp,nx}
def Cx.val (C:Cx) (a:Act) (t:Nat):Value:=if t<C.N then a.tmps.getD t undef else C.kv.getD (t-C.N) undef
structure Frame (C:Cx) (w:World):Prop where
 size:C.w0.heap.size<=w.heap.size
 os:w.os=C.w0.os
 tape:w.tape=C.w0.tape
 output:w.output=C.w0.output
 block: ∀b,b<C.w0.heap.size->C.F0 b=0->w.heap[b]? =C.w0.heap[b]?
structure iM (C:Cx) (hp:Nat->Option aw) (nx:Nat) (w:World) (ρ:Place) (Fs:Nat->FP):Prop where
 fresh: ∀id,nx<=id->hp id=none
 roots: ∀id root,hp id=some root->jj (C.env w ρ hp nx Fs) id root (Fs id)
 dead: ∀id,hp id=none->Fs id=fz
 one: ∀b,ar nx Fs b<=1
 qw: ∀b,1<=ar nx Fs b->b<w.heap.size/\(C.w0.heap.size<=b\/1<=C.F0 b)
 frame:Frame C w
structure bb (C:Cx) (S:St) (a:Act) (w:World) (ρ:Place) (Fs:Nat->FP):Prop where
 mem:iM C S.hp S.nx w ρ Fs
 defers:a.defers=[]
 size:a.tmps.size=C.N
 qY: ∀t,gy (C.env w ρ S.hp S.nx Fs) (S.sl t) (C.val a t)
theorem iM.ground {C:Cx} {hp:Nat->Option aw} {nx:Nat} {w:World} {ρ:Place} {Fs:Nat->FP} (m:iM C hp nx w ρ Fs) (F:FP):Ground C.P0 w (C.Zf w F):=
 C.gnd.mono fun b hb=>⟨.inl hb,by obtain ⟨g1,g2⟩:=C.good b (.inr hb);exact m.frame.block b g1 g2⟩
structure Vw (P:Program) (nt:Nat) (C:Cx):Prop where
 nt:nt=C.N
 p:C.P0=P
structure JP (C:Cx) (hp:Nat->Option aw) (nx:Nat) (w:World) (ρ:Place) (Fs:Nat->FP) (hp':Nat->Option aw) (qa:Nat) (w':World) (ρ':Place) (Fs':Nat->FP):Prop where
 size:w.heap.size<=w'.heap.size
 os:w'.os=w.os
 tape:w'.tape=w.tape
 output:w'.output=w.output
 agree: ∀b,b<w.heap.size->ar nx Fs b=0->w'.heap[b]? =w.heap[b]?
 ZB:nx<=qa
 same: ∀id,id<nx->(∀root,hp id=some root->root.real)->ρ' id=ρ id
 UM: ∀id bn,id<nx->hp' id=some bn-> ∃root,hp id=some root/\(xQ w w' (ρ id) root bn\/bn=root/\ ∃e v r i f,root= .hole e v r i f)
 fresh: ∀id,qa<=id->hp' id=none
 dead: ∀id,hp' id=none->Fs' id=fz
 one: ∀b,ar qa Fs' b<=1
 new: ∀b,1<=ar qa Fs' b->1<=ar nx Fs b\/(w.heap.size<=b/\b<w'.heap.size)
theorem JP.mono {C:Cx} {hp:Nat->Option aw} {nx:Nat} {w:World} {ρ:Place} {Fs:Nat->FP} {hp':Nat->Option aw} {qa:Nat} {w':World} {ρ':Place} {Fs':Nat->FP} (h:JP C hp nx w ρ Fs hp' qa w' ρ' Fs') (m:iM C hp nx w ρ Fs):qZ (C.env w ρ hp nx Fs) (C.env w' ρ' hp' qa Fs'):=by
 have J_: ∀b,C.Zf w (ar nx Fs) b->C.Zf w' (ar qa Fs') b/\w'.heap[b]? =w.heap[b]? :=by
  rintro b (h0| ⟨h1,h2,h3⟩)
  ·refine ⟨.inl h0,?_⟩
   obtain ⟨g1,g2⟩:=C.good b (.inr h0)
   refine h.agree b (Nat.lt_of_lt_of_le g1 m.frame.size) ?_
   rcases Nat.eq_zero_or_pos (ar nx Fs b) with e|e
   ·exact e
   ·obtain ⟨_,k⟩:=m.qw b e;omega
  ·refine ⟨.inr ⟨h1,Nat.lt_of_lt_of_le h2 h.size,?_⟩,h.agree b h2 h3⟩
   rcases Nat.eq_zero_or_pos (ar qa Fs' b) with e|e
   ·exact e
   ·rcases h.new b e with k|k<;>omega
 refine ⟨J_,?_,h.ZB,h.same,h.UM⟩
 rintro b (h0|h0)
 ·refine ⟨.inl h0,?_⟩
  obtain ⟨g1,g2⟩:=C.good b (.inl h0)
  refine h.agree b (Nat.lt_of_lt_of_le g1 m.frame.size) ?_
  rcases Nat.eq_zero_or_pos (ar nx Fs b) with e|e
  ·exact e
  ·obtain ⟨_,k⟩:=m.qw b e;omega
 ·exact ⟨.inr (J_ b h0).1,(J_ b h0).2⟩
theorem JP.ZC {C:Cx} {hp:Nat->Option aw} {nx:Nat} {w:World} {ρ:Place} {Fs:Nat->FP} {hp':Nat->Option aw} {qa:Nat} {w':World} {ρ':Place} {Fs':Nat->FP} (h:JP C hp nx w ρ Fs hp' qa w' ρ' Fs') (m:iM C hp nx w ρ Fs)
 (hr: ∀id root,hp' id=some root->(hp' id=hp id/\(∀b,1<=Fs id b->w'.heap[b]? =w.heap[b]?)/\Fs' id=Fs id)\/jj (C.env w' ρ' hp' qa Fs') id root (Fs' id)):iM C hp' qa w' ρ' Fs':=by
 refine ⟨h.fresh,fun id root hid=> ?_,h.dead,h.one,fun b hb=> ?_,?_⟩
 ·rcases hr id root hid with ⟨h1,h2,h3⟩|h1
  ·have gr:id<nx:=by
    rcases Nat.lt_or_ge id nx with k|k
    ·exact k
    ·rw[h1,m.fresh id k] at hid;cases hid
   rw[h3]
   exact (m.roots id root (by rw[<- h1];exact hid)).mono (h.mono m) gr (show hp id=some root by rw[<- h1];exact hid) h2
  ·exact h1
 ·rcases h.new b hb with k|k
  ·exact ⟨Nat.lt_of_lt_of_le (m.qw b k).1 h.size,(m.qw b k).2⟩
  ·exact ⟨k.2,.inl (Nat.le_trans m.frame.size k.1)⟩
 ·refine ⟨Nat.le_trans m.frame.size h.size,by rw[h.os,m.frame.os],by rw[h.tape,m.frame.tape],by rw[h.output,m.frame.output],fun b h1 h2=> ?_⟩
  rw[<- m.frame.block b h1 h2]
  refine h.agree b (Nat.lt_of_lt_of_le h1 m.frame.size) ?_
  rcases Nat.eq_zero_or_pos (ar nx Fs b) with e|e
  ·exact e
  ·obtain ⟨_,k⟩:=m.qw b e;omega
theorem Ql (l:Array Value) (t d:Nat) (v u:Value):(l.setIfInBounds d v).getD t u=if t=d then (if d<l.size then v else l.getD t u) else l.getD t u:=by
 by_cases h:t=d
 ·subst h
  by_cases k:t<l.size
  ·simp[k,Array.getD_eq_getD_getElem?]
  ·simp[k,Array.getD_eq_getD_getElem?]
 ·simp[h,Array.getD_eq_getD_getElem?,Ne.symm h]
theorem bb.put {C:Cx} {S:St} {a:Act} {w:World} {ρ:Place} {Fs:Nat->FP} (h:bb C S a w ρ Fs) (dst:Option Tmp) (v:AV) (u:Value) (hv: ∀d,dst=some d->gy (C.env w ρ S.hp S.nx Fs) v u) (hd: ∀d,dst=some d->d<C.N):bb C (S.put dst v) (a.put dst u) w ρ Fs:=by
 cases dst with
 |none=>exact h
 |some d=>
  refine ⟨h.mem,h.defers,by simp[Act.put,h.size],fun t=> ?_⟩
  have hdN:=hd d rfl
  have hs:=h.qY t
  simp only[St.put,Act.put,Cx.val,Ql,h.size] at hs ⊢
  by_cases e:t=d
  ·subst e;simp[hdN];exact hv t rfl
  ·have:(d==t)=false:=by simp;exact fun h=>e h.symm
   have e2:(t==d)=false:=by simp[e]
   simp only[e,e2,if_false,cond_false];exact hs
theorem bb.change {C:Cx} {S:St} {a:Act} {w:World} {ρ:Place} {Fs:Nat->FP} (h:bb C S a w ρ Fs) {hp':Nat->Option aw} {qa:Nat} {w':World} {ρ':Place} {Fs':Nat->FP} (hc:JP C S.hp S.nx w ρ Fs hp' qa w' ρ' Fs')
 (hr: ∀id root,hp' id=some root->(hp' id=S.hp id/\(∀b,1<=Fs id b->w'.heap[b]? =w.heap[b]?)/\Fs' id=Fs id)\/jj (C.env w' ρ' hp' qa Fs') id root (Fs' id)):bb C ⟨S.sl,hp',qa⟩ a w' ρ' Fs':=
 ⟨hc.ZC h.mem hr,h.defers,h.size,fun t=>(h.qY t).mono (hc.mono h.mem)⟩
theorem gy.const (E:Env) (v:Value):gy E (.l (Gp v)) v:=by
 unfold Gp
 split<;>first|exact rfl|exact trivial
theorem bb.rd {C:Cx} {S:St} {a:Act} {w:World} {ρ:Place} {Fs:Nat->FP} (h:bb C S a w ρ Fs) (x:Operand):gy (C.env w ρ S.hp S.nx Fs) (St.rd C.N S.sl x) (a.eval x):=by
 cases x with
 |tmp t=>
  simp only[St.rd]
  cases hb:Nat.blt t C.N with
  |false=>exact trivial
  |true=>
   have gr:t<C.N:=by simpa[Nat.blt_eq] using hb
   have:=h.qY t
   simp only[Cx.val,if_pos gr] at this
   exact this
 |const v=>exact gy.const _ v
 |global g=>exact trivial
 |func f=>exact rfl
def zeroV (tt:TT) (t:Nat):Value:=match tt t with
 |some ⟨.int k,_,_⟩=> .int k 0
 |some ⟨.bool,_,_⟩=> .bool false
 |some ⟨.str,_,_⟩=> .string ByteArray.empty
 |some ⟨.slice _,_,_⟩=> .slice none 0 0
 |some ⟨.err,_,_⟩=> .nilIface
 |_=> .pointer none
def UO (P:Program) (t:Nat):TK->Prop
 | .int k=>P.underlying t=some (.int k)
 | .bool=>P.underlying t=some .bool
 | .str=>P.underlying t=some .string
 | .slice e=>P.underlying t=some (.slice e)
 | .array n e=>P.underlying t=some (.array n e)
 | .ptr e=>P.underlying t=some (.pointer e)
 | .struct fs=> ∃fields:Array Field,P.underlying t=some (.struct fields)/\fields.toList.map (fun f=>(f.offset,f.type))=fs/\ ∀f∈fields.toList,∃i,P.info? f.type=some i/\i.size≠0
 | .err=> ∃ms,P.underlying t=some (.interface ms)
 | .other=>True
def UP (tt:TT) (t:Nat) (z:Value):TK->Prop
 | .array n e=>z.cells.toList=List.replicate n (zeroV tt e)
 |_=>z.cells.toList=(aK tt depth t).map (zeroV tt)
structure lz (P:Program) (tt:TT) (t:Nat) (e:TE):Prop where
 desc:UO P t e.k
 Cn: ∃i,P.info? t=some i/\i.size=e.size/\i.bytes=e.bytes/\ ∃z,i.zero=some z/\UP tt t z e.k
 cells:(∀n x,e.k≠ .array n x)->e.size=(aK tt depth t).length
 some:0<e.size/\0<e.bytes
def mW (P:Program) (tt:TT):Prop:= ∀t e,tt t=some e->lz P tt t e
structure Out (P:Program) (C:Cx) (S:St) (o:Oper) (E:iy) (a:Act) (w:World) (w':World) (ρ':Place) (Fs':Nat->FP) (u:Value):Prop where
 run:(execOp a.eval o).run P w= .ok (.value u) w' \/((execOp a.eval o).run P w= .ok .skip w' /\u=undef)
 rel:bb C ⟨S.sl,fV S.hp E.up,S.nx⟩ a w' ρ' Fs'
 val:gy (C.env w' ρ' (fV S.hp E.up) S.nx Fs') E.v u
theorem Out.pure {P:Program} {C:Cx} {S:St} {o:Oper} {E:iy} {a:Act} {w:World} {ρ:Place} {Fs:Nat->FP} {u:Value} (h:bb C S a w ρ Fs) (hu:E.up=[]) (hr:(execOp a.eval o).run P w= .ok (.value u) w) (hv:gy (C.env w ρ S.hp S.nx Fs) E.v u):Out P C S o E a w w ρ Fs u:=by
 refine ⟨.inl hr,?_,?_⟩
 ·rw[hu];exact h
 ·rw[hu];exact hv
theorem py {P:Program} {s:Sem Value} {v:Value} {w w':World} (h:s.run P w= .ok v w'):((do pure (.value (<- s))):Sem Next).run P w= .ok (.value v) w':=by
 have e:=Sem.run_bind' P s (fun v=>Sem.pure (Next.value v)) w
 rw[h] at e
 exact e
theorem Xe {P:Program} {s:Sem Unit} {x:Unit} {w w':World} (h:s.run P w= .ok x w'):((do s;pure .skip):Sem Next).run P w= .ok .skip w':=by
 have e:=Sem.run_bind' P s (fun _=>Sem.pure Next.skip) w
 rw[h] at e
 exact e
theorem dR {P:Program} {α β:Type} {s:Sem α} {f:α->Sem β} {x:α} {w w':World} (h:s.run P w= .ok x w'):((do let y <- s;f y):Sem β).run P w=(f x).run P w':=by
 have e:=Sem.run_bind' P s f w
 rw[h] at e
 exact e
theorem run_move {P:Program} {ρ:Operand->Value} {o:Oper} {x:Operand} (h:o.op= .move x\/o.op= .assign x) (w:World):(execOp ρ o).run P w= .ok (.value (ρ x)) w:=by
 rcases h with h|h<;>simp[execOp,h,go_sem]<;>rfl
theorem IG {P:Program} {ρ:Operand->Value} {o:Oper} {c x y:Operand} {b:Bool} (h:o.op= .pick c x y) (hc:ρ c= .bool b) (w:World):(execOp ρ o).run P w= .ok (.value (if b then ρ x else ρ y)) w:=by
 simp[execOp,h,hc,go_sem,asBool]
theorem II {P:Program} {ρ:Operand->Value} {o:Oper} {x:Operand} {j:Nat} {vs:Array Value} {v:Value} (h:o.op= .extract x j) (hx:ρ x= .tuple vs) (hv:vs[j]? =some v) (w:World):(execOp ρ o).run P w= .ok (.value v) w:=by
 simp[execOp,h,hx,go_sem,Instr.extract,hv]
theorem Gx {P:Program} {ρ:Operand->Value} {o:Oper} {x:Operand} {a:Addr} (h:o.op= .nilCheck x) (hx:ρ x= .pointer (some a)) (w:World):(execOp ρ o).run P w= .ok (.value (.pointer (some a))) w:=by
 simp[execOp,h,hx,go_sem]
theorem Nv {P:Program} {ρ:Operand->Value} {o:Oper} {op:BinOp} {t u:TypeId} {x y:Operand} {v:Value} {w:World} (h:o.op= .binOp op t x y u) (hv:((do eqGuard op t x y (ρ x) (ρ y);Go.binOp op t (ρ x) (ρ y)):Sem Value).run P w= .ok v w):(execOp ρ o).run P w= .ok (.value v) w:=by
 simp only[execOp,h]
 exact py hv
theorem Qm {P:Program} {ρ:Operand->Value} {o:Oper} {op:UnOp} {t:TypeId} {x:Operand} {v:Value} {w:World} (h:o.op= .unOp op t x) (hv:(Op.unary op (ρ x)).run P w= .ok v w):(execOp ρ o).run P w= .ok (.value v) w:=by
 simp only[execOp,h]
 exact py hv
theorem fp {α:Type} {p:Bool} {x:Option α} {y:α} (h:ay p x=some y):p=true/\x=some y:=by
 cases p
 ·simp[ay] at h
 ·exact ⟨rfl,h⟩
theorem Kw {P:Program} {op:BinOp} {k k':IntKind} {a b:Int} {z:LV} (he:binOp (R:=LV) op (.i k a) (.i k' b) some=some z) (t:TypeId) (ox oy:Operand) (E:Env) (w:World):
 ∃r,eS E z r/\((do eqGuard op t ox oy (.int k a) (.int k' b);Go.binOp op t (.int k a) (.int k' b)):Sem Value).run P w= .ok r w:=by
 have hg:eqGuard op t ox oy (.int k a) (.int k' b)=pure ():=by cases op<;>rfl
 rw[hg]
 show ∃r,eS E z r/\(Go.binOp op t (.int k a) (.int k' b)).run P w= .ok r w
 by_cases hs:op= .shl\/op= .shr
 ·rcases hs with rfl|rfl
  all_goals
   simp only[binOp] at he
   obtain ⟨h1,h2⟩:=fp he
   have h0: ¬b<0:=by have:=of_decide_eq_true h1;omega
   cases h2
   refine ⟨_,rfl,?_⟩
   simp only[Go.binOp,Op.shift,h0,if_false]
   rfl
 ·by_cases hk:k=k'
  ·subst hk
   cases op<;>first| (exfalso;exact hs (.inl rfl))| (exfalso;exact hs (.inr rfl))|skip
   all_goals simp only[binOp,decide_true,cond_true,Option.some.injEq] at he
   all_goals first
    | (subst he;exact ⟨_,rfl,by simp[Go.binOp,Op.intArith,Op.intCmp,Op.intBits,sD]<;>rfl⟩)
    | (obtain ⟨h1,h2⟩:=fp he
       have Jp: ¬b=0:=by simpa using h1
       cases h2
       exact ⟨_,rfl,by simp[Go.binOp,Op.intDiv,Jp]<;>rfl⟩)
  ·exfalso
   cases op<;>first| (exact hs (.inl rfl))| (exact hs (.inr rfl))|simp[binOp,hk] at he
theorem IJ {P:Program} {tt:TT} (T:mW P tt) {op:BinOp} {x y z:LV} (he:binOp (R:=LV) op x y some=some z) (t:TypeId) (ox oy:Operand) (ht:RY tt t x=true) (E:Env) (u v:Value) (hu:eS E x u) (hv:eS E y v)
 (hn:y= .er true-> ∃c,oy= .const c) (w:World):
 ∃r,eS E z r/\((do eqGuard op t ox oy u v;Go.binOp op t u v):Sem Value).run P w= .ok r w:=by
 cases x<;>cases y<;>first| (exfalso;cases op<;>simp[binOp] at he;done)|skip
 case i.i=>cases hu;cases hv;exact Kw he t ox oy E w
 case s.s a b=>
  cases hu;cases hv
  have hg:eqGuard op t ox oy (.string a) (.string b)=pure ():=by cases op<;>rfl
  rw[hg]
  show ∃r,eS E z r/\(Go.binOp op t (.string a) (.string b)).run P w= .ok r w
  cases op<;>first| (exfalso;simp[binOp] at he;done)|skip
  ·simp only[binOp] at he
   obtain ⟨h1,h2⟩:=fp he
   cases h2
   refine ⟨_,rfl,?_⟩
   have:=of_decide_eq_true h1
   simp[Go.binOp,Op.stringOp]
   simp[fa] at this
   omega
  ·simp only[binOp,Option.some.injEq] at he;subst he;exact ⟨_,rfl,by simp[Go.binOp,Op.stringOp]<;>rfl⟩
  ·simp only[binOp,Option.some.injEq] at he;subst he;exact ⟨_,rfl,by simp[Go.binOp,Op.stringOp]<;>rfl⟩
 case b.b a b=>
  cases hu;cases hv
  have hg:eqGuard op t ox oy (.bool a) (.bool b)=pure ():=by cases op<;>rfl
  rw[hg]
  show ∃r,eS E z r/\(Go.binOp op t (.bool a) (.bool b)).run P w= .ok r w
  have hbt:P.underlying t=some .bool:=by
   simp only[RY] at ht
   split at ht
   ·rename_i sz bs hq;exact (T t _ hq).desc
   ·cases ht
  cases op<;>first| (exfalso;simp[binOp] at he;done)|skip
  ·simp only[binOp,Option.some.injEq] at he;subst he;exact ⟨_,rfl,run_eql_bool _ _ _ _ hbt⟩
  ·simp only[binOp,Option.some.injEq] at he;subst he;exact ⟨_,rfl,run_neq_bool _ _ _ _ hbt⟩
 case er.er a b=>
  cases b with
  |false=>exfalso;cases op<;>cases a<;>simp[binOp] at he
  |true=>
   cases hv
   have Vz:P.isIface t=true:=by
    simp only[RY] at ht
    split at ht
    ·rename_i sz bs hq
     obtain ⟨ms,h⟩:=(T t _ hq).desc
     simp[Program.isIface,h]
    ·cases ht
   obtain ⟨c,rfl⟩:=hn rfl
   cases a with
   |true=>
    cases hu
    have hg:eqGuard op t ox (.const c) .nilIface .nilIface=pure ():=by cases op<;>cases ox<;>rfl
    rw[hg]
    show ∃r,eS E z r/\(Go.binOp op t .nilIface .nilIface).run P w= .ok r w
    cases op<;>first| (exfalso;simp[binOp] at he;done)|skip
    ·simp only[binOp,Option.some.injEq] at he;subst he;exact ⟨_,rfl,run_eql_nil_nil_at _ _ Vz⟩
    ·simp only[binOp,Option.some.injEq] at he;subst he;exact ⟨_,rfl,run_neq_nil_nil_at _ _ Vz⟩
   |false=>
    obtain ⟨d,q,rfl⟩:=hu
    have hg:eqGuard op t ox (.const c) (.iface d q) .nilIface=pure ():=by cases op<;>rfl
    rw[hg]
    show ∃r,eS E z r/\(Go.binOp op t (.iface d q) .nilIface).run P w= .ok r w
    cases op<;>first| (exfalso;simp[binOp] at he;done)|skip
    ·simp only[binOp,Option.some.injEq] at he;subst he;exact ⟨_,rfl,run_eql_iface_nil _ _ Vz _ _⟩
    ·simp only[binOp,Option.some.injEq] at he;subst he;exact ⟨_,rfl,run_neq_iface_nil _ _ Vz _ _⟩
theorem Kx {P:Program} {op:UnOp} {x z:LV} (he:unOp (R:=LV) op x some=some z) (E:Env) (u:Value) (hu:eS E x u) (w:World): ∃r,eS E z r/\(Op.unary op u).run P w= .ok r w:=by
 cases op<;>cases x<;>simp only[unOp,Option.some.injEq] at he<;>first|cases he|skip
 ·cases hu;exact ⟨_,rfl,rfl⟩
 ·cases hu;exact ⟨_,rfl,rfl⟩
theorem ch (hp:Nat->Option aw): ∀l m:List (Nat×Option aw),fV hp (l++m)=fV (fV hp l) m:=by
 intro l
 induction l generalizing hp with
 |nil=>intro m;rfl
 |cons x l ih=>intro m;obtain ⟨i,r⟩:=x;exact ih _ m
theorem gA (hp:Nat->Option aw) (i:Nat) (r:Option aw) (j:Nat):fV hp [(i,r)] j=if j=i then r else hp j:=by
 simp only[fV]
 by_cases h:j=i
 ·subst h;simp
 ·have:(j==i)=false:=by simp[h]
  simp[h,this]
theorem ob (hp:Nat->Option aw): ∀ks:List Nat,fV hp (dJ ks)=kill hp ks:=by
 intro ks
 induction ks generalizing hp with
 |nil=>funext j;simp[dJ,fV,kill]
 |cons k ks ih=>
  funext j
  have:=congrFun (ih (fun j=>bif j==k then none else hp j)) j
  simp only[dJ,List.map_cons,fV] at this ⊢
  rw[this]
  simp only[kill,List.elem_cons]
  cases h:(j==k)<;>cases h2:ks.elem j<;>simp[h,h2]
theorem kC (hp:Nat->Option aw) (ks:List Nat) (j:Nat):kill hp ks j=if j∈ks then none else hp j:=by
 unfold kill
 by_cases h:j∈ks
 ·simp[h,List.elem_iff.2 h]
 ·have:ks.elem j=false:=by rw[<- Bool.not_eq_true];exact fun h'=>h (List.elem_iff.1 h')
  simp[h,this]
theorem uS {hp:Nat->Option aw} {ks:List Nat} {j:Nat} {r:aw} (h:kill hp ks j=some r):j∉ks/\hp j=some r:=by
 rw[kC] at h
 split at h
 ·cases h
 ·exact ⟨‹_›,h⟩
def dH (Fs:Nat->FP):List Nat->FP
 | []=>fz
 |k::ks=>dh (Fs k) (dH Fs ks)
def dX (Fs:Nat->FP) (ks:List Nat):Nat->FP:=fun j=>if j∈ks then fz else Fs j
theorem Qn (Fs:Nat->FP):dX Fs [] =Fs:=by funext j;simp[dX]
theorem Nw (Fs:Nat->FP) (k:Nat) (ks:List Nat):dX Fs (k::ks)=gC (dX Fs ks) k fz:=by
 funext j
 simp only[dX,gC,List.mem_cons]
 by_cases h:j=k<;>simp[h]
theorem ll (Fs:Nat->FP) (b n:Nat): ∀ks:List Nat,ks.Nodup->(∀k∈ks,k<n)->ar n (dX Fs ks) b+dH Fs ks b=ar n Fs b
 | [],_,_=>by simp[Qn,dH]
 |k::ks,hd,hk=>by
  obtain ⟨h1,h2⟩:=List.nodup_cons.1 hd
  have ih:=ll Fs b n ks h2 (fun j hj=>hk j (by simp[hj]))
  have e:=fN (dX Fs ks) fz b (hk k (by simp))
  rw[Nw]
  have e2:dX Fs ks k=Fs k:=by simp[dX,h1]
  rw[e2] at e
  simp[dH] at e ⊢
  omega
theorem RI (Fs:Nat->FP) (ks:List Nat) (j b:Nat):dX Fs ks j b<=Fs j b:=by
 unfold dX;split<;>simp
def iQ (ρ:Place) (id:Nat) (q:Option (Nat×Nat)):Place:=fun j=>if j=id then q else ρ j
theorem fi (ρ:Place) (id:Nat) (q:Option (Nat×Nat)):iQ ρ id q id=q:=by simp[iQ]
theorem oa (ρ:Place) {id j:Nat} (q:Option (Nat×Nat)) (h:j≠id):iQ ρ id q j=ρ j:=by simp[iQ,h]
theorem xR (w:World) (o:Obj) {b:Nat} (h:b<w.heap.size):(w.alloc o).heap[b]? =w.heap[b]? :=by
 show (w.heap.push o)[b]? =_
 rw[Array.getElem?_push,if_neg (Nat.ne_of_lt h)]
theorem xS (w:World) (o:Obj):(w.alloc o).heap[w.heap.size]? =some o:=by
 show (w.heap.push o)[w.heap.size]? =_
 rw[Array.getElem?_push,if_pos rfl]
theorem pz (w:World) (o:Obj):(w.alloc o).heap.size=w.heap.size+1:=Array.size_push _
theorem dA {C:Cx} {hp:Nat->Option aw} {nx:Nat} {w:World} {ρ:Place} {Fs:Nat->FP} (m:iM C hp nx w ρ Fs) {id:Nat} {r:aw} (h:hp id=some r):id<nx:=by
 rcases Nat.lt_or_ge id nx with k|k
 ·exact k
 ·rw[m.fresh id k] at h;cases h
inductive Kept (C:Cx) (hp:Nat->Option aw) (w:World) (ρ:Place) (Fs:Nat->FP) (hp':Nat->Option aw) (w':World) (Fs':Nat->FP) (E':Env) (M:Prop) (T:Nat->Prop) (j:Nat):Prop
 |same (h1:hp' j=hp j) (h2:Fs' j=Fs j) (h3: ∀b,1<=Fs j b-> ¬T b)
 |gone (h1:hp' j=none) (h2:Fs' j=fz)
 |mn (root bn:aw) (h1:hp j=some root) (h2:hp' j=some bn) (h3:xQ w w' (ρ j) root bn) (h4:M->jj E' j bn (Fs' j))
theorem bb.Um {C:Cx} {S:St} {a:Act} {w:World} {ρ:Place} {Fs:Nat->FP} (h:bb C S a w ρ Fs) (hp':Nat->Option aw) (qa:Nat) (w':World) (ρ':Place) (Fs':Nat->FP) (T:Nat->Prop)
 (mL:w.heap.size<=w'.heap.size) (Nx:w'.os=w.os) (Ny:w'.tape=w.tape) (zk:w'.output=w.output)
 (Ky: ∀b,b<w.heap.size-> ¬T b->w'.heap[b]? =w.heap[b]?) (hT: ∀b,T b->1<=ar S.nx Fs b)
 (Nn:S.nx<=qa) (hρ: ∀id,id<S.nx->(∀root,S.hp id=some root->root.real)->ρ' id=ρ id)
 (hj: ∀j,j<S.nx->Kept C S.hp w ρ Fs hp' w' Fs' (C.env w' ρ' hp' qa Fs') (qZ (C.env w ρ S.hp S.nx Fs) (C.env w' ρ' hp' qa Fs')) T j)
 (hn: ∀j,S.nx<=j->(hp' j=none/\Fs' j=fz)\/(j<qa/\ ∃root,hp' j=some root/\(qZ (C.env w ρ S.hp S.nx Fs) (C.env w' ρ' hp' qa Fs')->jj (C.env w' ρ' hp' qa Fs') j root (Fs' j))))
 (lP: ∀b,ar qa Fs' b<=1) (sQ: ∀b,1<=ar qa Fs' b->1<=ar S.nx Fs b\/(w.heap.size<=b/\b<w'.heap.size)):
 bb C ⟨S.sl,hp',qa⟩ a w' ρ' Fs' /\qZ (C.env w ρ S.hp S.nx Fs) (C.env w' ρ' hp' qa Fs'):=by
 have UQ: ∀id root,S.hp id=some root-> ∀b,1<=Fs id b->b<w.heap.size:=fun id root hid b hb=>(h.mem.qw b (Nat.le_trans hb (j9 Fs b (dA h.mem hid)))).1
 have hc:JP C S.hp S.nx w ρ Fs hp' qa w' ρ' Fs':=by
  refine ⟨mL,Nx,Ny,zk,fun b hb h0=>Ky b hb fun ht=>by have:=hT b ht;omega,Nn,hρ,?_,?_,?_,lP,sQ⟩
  ·intro id bn hid hr
   cases hj id hid with
   |same h1 h2 h3=>
    rw[h1] at hr
    refine ⟨bn,hr,?_⟩
    cases bn with
    |hole e v r i f=>exact .inr ⟨rfl,e,v,r,i,f,rfl⟩
    |box t c=>exact .inl trivial
    |eW=>exact .inl trivial
    |row e v r=>
     refine .inl (xQ.refl _ _ _ _ (fun b cap hq _=> ?_) (fun e v r i f=>by simp))
     have Nh:=h.mem.roots id _ hr
     rcases Nh with ⟨k1,_⟩| ⟨b',pF,arr,ty,F',k1,k2,_,_,_,k6⟩
     ·simp only[Cx.env] at k1;rw[k1] at hq;cases hq
     ·simp only[Cx.env] at k1 k2;rw[k1] at hq;cases hq
      exact Ky b (Array.getElem?_eq_some_iff.1 k2).1 (h3 b (by rw[k6];simp))
   |gone h1 h2=>rw[h1] at hr;cases hr
   |mn root ZD h1 h2 h3 h4=>rw[h2] at hr;cases hr;exact ⟨root,h1,.inl h3⟩
  ·intro id hid
   rcases hn id (by omega) with ⟨k,_⟩| ⟨k,_⟩
   ·exact k
   ·omega
  ·intro id hid
   rcases Nat.lt_or_ge id S.nx with k|k
   ·cases hj id k with
    |same h1 h2 h3=>rw[h2];exact h.mem.dead id (by rw[<- h1];exact hid)
    |gone h1 h2=>exact h2
    |mn root bn h1 h2 h3 h4=>rw[h2] at hid;cases hid
   ·rcases hn id k with ⟨_,k⟩| ⟨_,root,k,_⟩
    ·exact k
    ·rw[k] at hid;cases hid
 refine ⟨h.change hc fun id root hid=> ?_,hc.mono h.mem⟩
 have M:=hc.mono h.mem
 rcases Nat.lt_or_ge id S.nx with k|k
 ·cases hj id k with
  |same h1 h2 h3=>exact .inl ⟨h1,fun b hb=>Ky b (UQ id root (by rw[<- h1];exact hid) b hb) (h3 b hb),h2⟩
  |gone h1 h2=>rw[h1] at hid;cases hid
  |mn aaE bn h1 h2 h3 h4=>rw[h2] at hid;cases hid;exact .inr (h4 M)
 ·rcases hn id k with ⟨k,_⟩| ⟨_,bn,k,hr⟩
  ·rw[k] at hid;cases hid
  ·rw[k] at hid;cases hid;exact .inr (hr M)
theorem bb.gen {C:Cx} {S:St} {a:Act} {w:World} {ρ:Place} {Fs:Nat->FP} (h:bb C S a w ρ Fs) (hp':Nat->Option aw) (qa:Nat) (w':World) (ρ':Place) (Fs':Nat->FP) (T:Nat->Prop)
 (mL:w.heap.size<=w'.heap.size) (Nx:w'.os=w.os) (Ny:w'.tape=w.tape) (zk:w'.output=w.output)
 (Ky: ∀b,b<w.heap.size-> ¬T b->w'.heap[b]? =w.heap[b]?) (hT: ∀b,T b->1<=ar S.nx Fs b)
 (Nn:S.nx<=qa) (hρ: ∀id,id<S.nx->(∀root,S.hp id=some root->root.real)->ρ' id=ρ id)
 (hj: ∀j,j<S.nx->Kept C S.hp w ρ Fs hp' w' Fs' (C.env w' ρ' hp' qa Fs') (qZ (C.env w ρ S.hp S.nx Fs) (C.env w' ρ' hp' qa Fs')) T j)
 (hn: ∀j,S.nx<=j->(hp' j=none/\Fs' j=fz)\/(j<qa/\ ∃root,hp' j=some root/\(qZ (C.env w ρ S.hp S.nx Fs) (C.env w' ρ' hp' qa Fs')->jj (C.env w' ρ' hp' qa Fs') j root (Fs' j))))
 (lP: ∀b,ar qa Fs' b<=1) (sQ: ∀b,1<=ar qa Fs' b->1<=ar S.nx Fs b\/(w.heap.size<=b/\b<w'.heap.size)):
 bb C ⟨S.sl,hp',qa⟩ a w' ρ' Fs':=(h.Um hp' qa w' ρ' Fs' T mL Nx Ny zk Ky hT Nn hρ hj hn lP sQ).1
theorem bb.R2 {C:Cx} {S:St} {a:Act} {w:World} {ρ:Place} {Fs:Nat->FP} (h:bb C S a w ρ Fs) (ks:List Nat) (u_:ks.Nodup) (lC: ∀k∈ks,S.hp k≠none) (id:Nat) (hid:id∉ks) (root bn:aw) (G7:S.hp id=some root) (Fn:FP) (w':World)
 (mL:w'.heap.size=w.heap.size) (Nx:w'.os=w.os) (Ny:w'.tape=w.tape) (zk:w'.output=w.output)
 (Ky: ∀b,b<w.heap.size->Fs id b=0->w'.heap[b]? =w.heap[b]?) (hF: ∀b,Fn b<=Fs id b+dH Fs ks b) (hl:xQ w w' (ρ id) root bn)
 (hr:qZ (C.env w ρ S.hp S.nx Fs) (C.env w' ρ (fV S.hp (dJ ks++[(id,some bn)])) S.nx (gC (dX Fs ks) id Fn))->jj (C.env w' ρ (fV S.hp (dJ ks++[(id,some bn)])) S.nx (gC (dX Fs ks) id Fn)) id bn Fn):
 bb C ⟨S.sl,fV S.hp (dJ ks++[(id,some bn)]),S.nx⟩ a w' ρ (gC (dX Fs ks) id Fn):=by
 have hk: ∀k∈ks,k<S.nx:=fun k h'=>by
  cases e:S.hp k with
  |none=>exact absurd e (lC k h')
  |some r=>exact dA h.mem e
 have mC:=dA h.mem G7
 have ou: ∀j,fV S.hp (dJ ks++[(id,some bn)]) j=if j=id then some bn else if j∈ks then none else S.hp j:=fun j=>by
  rw[ch,gA,ob,kC]
 have jY: ∀b,ar S.nx (gC (dX Fs ks) id Fn) b+Fs id b+dH Fs ks b=ar S.nx Fs b+Fn b:=fun b=>by
  have h1:=fN (dX Fs ks) Fn b mC
  have h2:=ll Fs b S.nx ks u_ hk
  have h3:dX Fs ks id=Fs id:=by simp[dX,hid]
  rw[h3] at h1
  omega
 refine h.gen _ _ w' ρ _ (fun b=>1<=Fs id b) (by omega) Nx Ny zk (fun b hb ht=>Ky b hb (by omega)) (fun b ht=>Nat.le_trans ht (j9 Fs b mC)) (Nat.le_refl _) (fun _ _ _=>rfl) ?_ ?_ ?_ ?_
 ·intro j hj
  by_cases e:j=id
  ·subst e
   exact .mn root bn G7 (by rw[ou,if_pos rfl]) hl (fun M=>by rw[iC];exact hr M)
  ·by_cases e2:j∈ks
   ·exact .gone (by rw[ou,if_neg e,if_pos e2]) (by rw[dQ _ _ e];simp[dX,e2])
   ·refine .same (by rw[ou,if_neg e,if_neg e2]) (by rw[dQ _ _ e];simp[dX,e2]) (fun b h1 h2=> ?_)
    have:=EF Fs b hj mC e
    have:=h.mem.one b
    omega
 ·intro j hj
  refine .inl ⟨by rw[ou,if_neg (by omega)];split;rfl;exact h.mem.fresh j hj,?_⟩
  rw[dQ _ _ (by omega)]
  by_cases e2:j∈ks
  ·simp[dX,e2]
  ·simp[dX,e2];exact h.mem.dead j (h.mem.fresh j hj)
 ·intro b;have:=jY b;have:=hF b;have:=h.mem.one b;omega
 ·intro b hb;have:=jY b;have:=hF b;left;omega
theorem q9 (Fs:Nat->FP) (b n:Nat) {ks:List Nat} (hd:ks.Nodup) (hk: ∀k∈ks,k<n) {j:Nat} (hj:j<n) (RM:j∉ks):Fs j b+dH Fs ks b<=ar n Fs b:=by
 have h1:=ll Fs b n ks hd hk
 have h2:=j9 (dX Fs ks) b hj
 have h3:dX Fs ks j=Fs j:=by simp[dX,RM]
 rw[h3] at h2
 omega
theorem lj (Fs:Nat->FP) (b n:Nat) {ks:List Nat} (hd:ks.Nodup) (hk: ∀k∈ks,k<n):dH Fs ks b<=ar n Fs b:=by
 have h1:=ll Fs b n ks hd hk
 omega
theorem bb.make {C:Cx} {S:St} {a:Act} {w:World} {ρ:Place} {Fs:Nat->FP} (h:bb C S a w ρ Fs) {id:Nat} (hg:S.hp id=some .eW) (ks:List Nat) (u_:ks.Nodup) (lC: ∀k∈ks,∃r,S.hp k=some r/\r.real) (root:aw) (q:Option (Nat×Nat)) (Fn:FP) (w':World)
 (mL:w.heap.size<=w'.heap.size) (Nx:w'.os=w.os) (Ny:w'.tape=w.tape) (zk:w'.output=w.output)
 (Ky: ∀b,b<w.heap.size->dH Fs ks b=0->w'.heap[b]? =w.heap[b]?) (hF: ∀b,Fn b<=dH Fs ks b+(if w.heap.size<=b/\b<w'.heap.size then 1 else 0))
 (hr:qZ (C.env w ρ S.hp S.nx Fs) (C.env w' (iQ ρ id q) (fV S.hp (dJ ks++[(id,some root)])) S.nx (gC (dX Fs ks) id Fn))->jj (C.env w' (iQ ρ id q) (fV S.hp (dJ ks++[(id,some root)])) S.nx (gC (dX Fs ks) id Fn)) id root Fn):
 bb C ⟨S.sl,fV S.hp (dJ ks++[(id,some root)]),S.nx⟩ a w' (iQ ρ id q) (gC (dX Fs ks) id Fn):=by
 have hid:id∉ks:=fun h'=>by
  obtain ⟨r,h1,h2⟩:=lC id h'
  rw[hg] at h1;cases h1;exact h2
 have hk: ∀k∈ks,k<S.nx:=fun k h'=>by
  obtain ⟨r,h1,_⟩:=lC k h'
  exact dA h.mem h1
 have mC:=dA h.mem hg
 have Vi:Fs id=fz:=h.mem.roots id _ hg
 have ou: ∀j,fV S.hp (dJ ks++[(id,some root)]) j=if j=id then some root else if j∈ks then none else S.hp j:=fun j=>by
  rw[ch,gA,ob,kC]
 have jY: ∀b,ar S.nx (gC (dX Fs ks) id Fn) b+dH Fs ks b=ar S.nx Fs b+Fn b:=fun b=>by
  have h1:=fN (dX Fs ks) Fn b mC
  have h2:=ll Fs b S.nx ks u_ hk
  have h3:dX Fs ks id=Fs id:=by simp[dX,hid]
  rw[h3,Vi] at h1
  simp at h1
  omega
 have sQ: ∀b,1<=ar S.nx Fs b->b<w.heap.size:=fun b hb=>(h.mem.qw b hb).1
 refine h.gen _ _ w' _ _ (fun b=>1<=dH Fs ks b) mL Nx Ny zk (fun b hb ht=>Ky b hb (by omega)) (fun b ht=>Nat.le_trans ht (lj Fs b S.nx u_ hk)) (Nat.le_refl _) (fun j hj u9=>oa _ _ ?_) ?_ ?_ ?_ ?_
 ·rintro rfl
  exact u9 _ hg
 ·intro j hj
  by_cases e:j=id
  ·subst e
   exact .mn .eW root hg (by rw[ou,if_pos rfl]) trivial (fun M=>by rw[iC];exact hr M)
  ·by_cases e2:j∈ks
   ·exact .gone (by rw[ou,if_neg e,if_pos e2]) (by rw[dQ _ _ e];simp[dX,e2])
   ·refine .same (by rw[ou,if_neg e,if_neg e2]) (by rw[dQ _ _ e];simp[dX,e2]) (fun b h1 h2=> ?_)
    have:=q9 Fs b S.nx u_ hk hj e2
    have:=h.mem.one b
    omega
 ·intro j hj
  refine .inl ⟨by rw[ou,if_neg (by omega)];split;rfl;exact h.mem.fresh j hj,?_⟩
  rw[dQ _ _ (by omega)]
  by_cases e2:j∈ks
  ·simp[dX,e2]
  ·simp[dX,e2];exact h.mem.dead j (h.mem.fresh j hj)
 ·intro b
  have h1:=jY b
  have h2:=hF b
  have h3:=h.mem.one b
  have h4:=lj Fs b S.nx u_ hk
  split at h2
  ·rename_i hb
   have: ¬1<=ar S.nx Fs b:=fun h'=>by have:=sQ b h';omega
   omega
  ·omega
 ·intro b hb
  have h1:=jY b
  have h2:=hF b
  have h4:=lj Fs b S.nx u_ hk
  split at h2
  ·rename_i hb;exact .inr hb
  ·left;omega
def tR (hp:Nat->Option aw) (m N:Nat):Nat->Option aw:=fun j=>match hp j with
 |some r=>some r
 |none=>bif Nat.ble m j&&Nat.blt j N then some .eW else none
theorem bb.RU {C:Cx} {S:St} {a:Act} {w:World} {ρ:Place} {Fs:Nat->FP} (h:bb C S a w ρ Fs) {N:Nat} (hN:S.nx<=N):bb C ⟨S.sl,tR S.hp S.nx N,N⟩ a w ρ Fs:=by
 have jY: ∀b,ar N Fs b=ar S.nx Fs b:=fun b=>rU b hN fun j h1 _=>by rw[h.mem.dead j (h.mem.fresh j h1)];rfl
 refine h.gen _ _ w ρ _ (fun _=>False) (Nat.le_refl _) rfl rfl rfl (fun _ _ _=>rfl) (fun _ h=>h.elim) hN (fun _ _ _=>rfl) (fun j hj=> .same ?_ rfl (fun _ _ h=>h)) (fun j hj=> ?_) (fun b=>by rw[jY];exact h.mem.one b) (fun b hb=> .inl (by rw[jY] at hb;exact hb))
 ·have:Nat.ble S.nx j=false:=Bool.eq_false_iff.2 (fun h'=>by have:=Nat.le_of_ble_eq_true h';omega)
  simp only[tR,this,Bool.false_and,cond_false]
  cases S.hp j<;>rfl
 ·have hd:=h.mem.fresh j hj
  by_cases e:j<N
  ·refine .inr ⟨e,.eW,?_,fun _=>h.mem.dead j hd⟩
   have h1:Nat.ble S.nx j=true:=Nat.ble_eq_true_of_le hj
   have h2:Nat.blt j N=true:=by simp[Nat.blt_eq];exact e
   simp only[tR,hd,h1,h2];rfl
  ·refine .inl ⟨?_,h.mem.dead j hd⟩
   have h2:Nat.blt j N=false:=Bool.eq_false_iff.2 (fun h3=>by have:=Nat.le_of_ble_eq_true h3;omega)
   simp only[tR,hd,h2,Bool.and_false];rfl
theorem bb.RV {C:Cx} {S:St} {a:Act} {w:World} {ρ:Place} {Fs:Nat->FP} (h:bb C S a w ρ Fs) (hp':Nat->Option aw) (hh: ∀j,hp' j=S.hp j\/(S.hp j=some .eW/\hp' j=none)):bb C ⟨S.sl,hp',S.nx⟩ a w ρ Fs:=by
 refine h.gen _ _ w ρ _ (fun _=>False) (Nat.le_refl _) rfl rfl rfl (fun _ _ _=>rfl) (fun _ h=>h.elim) (Nat.le_refl _) (fun _ _ _=>rfl) (fun j hj=> ?_) (fun j hj=> ?_) h.mem.one (fun b hb=> .inl hb)
 ·rcases hh j with e| ⟨e1,e2⟩
  ·exact .same e rfl (fun _ _ h=>h)
  ·exact .gone e2 (h.mem.roots j _ e1)
 ·have hd:=h.mem.fresh j hj
  rcases hh j with e| ⟨e1,e2⟩
  ·exact .inl ⟨by rw[e];exact hd,h.mem.dead j hd⟩
  ·rw[hd] at e1;cases e1
section
variable {P:Program} {w:World}
theorem Dh {t:TypeId} {i:TypeInfo} (h:P.info? t=some i):(typeInfo t).run P w= .ok i w:=by
 simp[typeInfo,program,h,go_sem,Sem.run,Bind.bind,Sem.bind,Pure.pure]
theorem mF {t:TypeId} {i:TypeInfo} (h:P.info? t=some i):(sizeOf t).run P w= .ok i.size w:=by
 unfold sizeOf
 rw[dR (Dh h)]
 rfl
def R3:TypeDesc->Bool
 | .struct _=>true
 | .array _ _=>true
 |_=>false
theorem Cr {t:TypeId} {d:TypeDesc} (h:P.underlying t=some d):(isAgg t).run P w= .ok (R3 d) w:=by
 unfold isAgg
 rw[dR (run_underlying h w)]
 cases d<;>rfl
theorem nh {t e:TypeId} {i:TypeInfo} (h:P.underlying t=some (.slice e)) (hi:P.info? e=some i) (a:Addr) (len cap:Nat) (k:IntKind) (n:Int) (h0:0<=n) (h1:n<len):
 (Instr.indexAt t (.slice (some a) len cap) (.int k n)).run P w= .ok (.pointer (some (a.add (n.toNat*i.size)))) w:=by
 have he:P.elem t=e:=by simp[Program.elem,h]
 have e1:=run_indexAt_slice (P:=P) w t a len cap k n (by rw[he];exact h)
 rw[e1,if_pos ⟨h0,h1⟩,he,mF hi]
 rfl
theorem AB {t e:TypeId} {i:TypeInfo} {m:Nat} (h:P.underlying t=some (.array m e)) (hi:P.info? e=some i) (a:Addr) (k:IntKind) (n:Int) (h0:0<=n) (h1:n<m):
 (Instr.indexAt t (.pointer (some a)) (.int k n)).run P w= .ok (.pointer (some (a.add (n.toNat*i.size)))) w:=by
 have he:P.elem t=e:=by simp[Program.elem,h]
 have hm:P.arrayLen t=m:=by simp[Program.arrayLen,h]
 have e1:=run_indexAt_array (P:=P) w t a k n (by rw[he,hm];exact h)
 rw[e1,hm,if_pos ⟨h0,h1⟩,he,mF hi]
 rfl
theorem Gy {t:TypeId} {fs:Array Field} {f:Field} {j:Nat} {i:TypeInfo} (h:P.underlying t=some (.struct fs)) (hf:fs[j]? =some f) (hi:P.info? f.type=some i) (h0:i.size≠0) (a:Addr):
 (Instr.fieldAt t (.pointer (some a)) j).run P w= .ok (.pointer (some (a.add f.offset))) w:=by
 unfold Instr.fieldAt
 rw[dR (run_underlying h w)]
 simp only[hf]
 rw[dR (x:=a) (w':=w) rfl]
 rw[dR (x:=a.add f.offset) (w':=w) (by
  unfold fieldPlace
  rw[dR (mF hi)]
  simp only[h0,if_false]
  rfl)]
 rfl
theorem l_ {t:TypeId} {d:TypeDesc} (h:P.underlying t=some d) (hd:R3 d=false) {a:Addr} {v:Value} (hc:w.cell? a=some v):
 (Instr.loadAt t (.pointer (some a))).run P w= .ok v w:=by
 unfold Instr.loadAt
 rw[dR (x:=a) (w':=w) rfl]
 unfold loadVar
 rw[dR (Cr h),hd]
 simp[load,Sem.run,hc]
theorem lZ {t:TypeId} {fs:Array Field} {i:TypeInfo} (h:P.underlying t=some (.struct fs)) (hi:P.info? t=some i) {a:Addr} {vs:List Value} (hl:vs.length=i.size) (hc: ∀j v,vs[j]? =some v->w.cell? (a.add j)=some v):
 (Instr.loadAt t (.pointer (some a))).run P w= .ok (.agg vs.toArray) w:=by
 unfold Instr.loadAt
 rw[dR (x:=a) (w':=w) rfl]
 unfold loadVar
 rw[dR (Cr h)]
 simp only[R3,if_true]
 rw[dR (mF hi),<- hl,dR (run_loadCells_list w a vs hc)]
 rfl
theorem mf (k:IntKind) (i:Int) (y:Nat) (code:BoundsCode) (h0:0<=i) (h1:i<=y):(Instr.sliceBound (.int k i) y code).run P w= .ok i.toNat w:=by
 unfold Instr.sliceBound
 rw[dR (x:=(k,i)) (w':=w) rfl]
 simp only[h0,h1,and_self,if_true]
 rfl
def nY (o:Option Value) (d:Nat) (n:Nat):Prop:=match o with
 |none=>n=d
 |some v=> ∃(k:IntKind) (i:Int),v= .int k i/\0<=i/\n=i.toNat
theorem rh (b:Bool) (len cap:Nat) (lo hi:Option Value) (l h:Nat) (AW:nY lo 0 l) (Ej:nY hi len h) (h1:l<=h) (h2:h<=cap):(Instr.sliceBounds b len cap lo hi none).run P w= .ok (l,h,cap) w:=by
 cases hi with
 |none=>
  cases Ej
  cases lo with
  |none=>cases AW;rfl
  |some v=>
   obtain ⟨k,i,rfl,h0,rfl⟩:=AW
   unfold Instr.sliceBounds
   show Sem.run P (do let l <- Instr.sliceBound (.int k i) len _;pure (l,len,cap)) w=_
   rw[dR (mf k i len _ h0 (by omega))]
   rfl
 |some u=>
  obtain ⟨k',i',rfl,Vu,rfl⟩:=Ej
  cases lo with
  |none=>
   cases AW
   unfold Instr.sliceBounds
   show Sem.run P (do let h <- Instr.sliceBound (.int k' i') cap _;pure (0,h,cap)) w=_
   rw[dR (mf k' i' cap _ Vu (by omega))]
   rfl
  |some v=>
   obtain ⟨k,i,rfl,h0,rfl⟩:=AW
   unfold Instr.sliceBounds
   show Sem.run P (do let h <- Instr.sliceBound (.int k' i') cap _;let l <- Instr.sliceBound (.int k i) h _;pure (l,h,cap)) w=_
   rw[dR (mf k' i' cap _ Vu (by omega)),dR (mf k i _ _ h0 (by omega))]
   rfl
theorem sr {t e:TypeId} {i:TypeInfo} (h:P.underlying t=some (.slice e)) (hi:P.info? e=some i) (a:Option Addr) (len cap:Nat) (lo R4:Option Value) (l hh:Nat) (AW:nY lo 0 l) (Ej:nY R4 len hh) (h1:l<=hh) (h2:hh<=cap):
 (Instr.sliceAt t (.slice a len cap) lo R4 none).run P w= .ok (.slice (if cap=l then a else a.map (·.add (l*i.size))) (hh-l) (cap-l)) w:=by
 unfold Instr.sliceAt
 rw[dR (run_underlying h w)]
 show (Instr.slice t (.slice a len cap) lo R4 none).run P w=_
 unfold Instr.slice
 rw[dR (run_underlying h w)]
 simp only[]
 rw[dR (rh true len cap lo R4 l hh AW Ej h1 h2)]
 rw[dR (mF hi)]
 rfl
theorem Di {t:TypeId} (h:P.underlying t=some .string) (s:ByteArray) (lo R4:Option Value) (l hh:Nat) (AW:nY lo 0 l) (Ej:nY R4 s.size hh) (h1:l<=hh) (h2:hh<=s.size):
 (Instr.sliceAt t (.string s) lo R4 none).run P w= .ok (.string (s.extract l hh)) w:=by
 unfold Instr.sliceAt
 rw[dR (run_underlying h w)]
 show (Instr.slice t (.string s) lo R4 none).run P w=_
 unfold Instr.slice
 rw[dR (run_underlying h w)]
 simp only[Option.isSome_none,Bool.false_eq_true,if_false]
 rw[dR (rh false s.size s.size lo R4 l hh AW Ej h1 h2)]
 rfl
theorem Dj {t:TypeId} (h:P.underlying t=some .string) (s:ByteArray) (k:IntKind) (n:Int) (h0:0<=n) (h1:n<s.size):(Instr.index t (.string s) (.int k n)).run P w= .ok (.int .u8 (sb s n.toNat)) w:=by
 unfold Instr.index
 rw[dR (x:=(k,n)) (w':=w) rfl]
 rw[dR (run_underlying h w)]
 have hl:n.toNat<s.size:=by omega
 have e:s[n.toNat]? =some s[n.toNat]:=by simp[getElem?_pos,hl]
 simp only[h0,if_true,e]
 have e2:s.data[n.toNat]? =some s[n.toNat]:=by
  have:n.toNat<s.data.size:=hl
  rw[Array.getElem?_eq_getElem this];rfl
 show Result.ok _ _=_
 simp[sb,e2]
end
section
variable {P:Program} {tt:TT} {C:Cx} {S:St} {a:Act} {w:World} {ρ:Place} {Fs:Nat->FP} {n:Nat}
theorem iv (h:bb C S a w ρ Fs) {x:Operand} {v:LV} (e:St.rd C.N S.sl x= .one (.l v)):eS (C.env w ρ S.hp S.nx Fs) v (a.eval x):=by
 have:=h.rd x
 rw[e] at this
 exact this
theorem lT {R:Type} {x:AV} {K:Int->Option R} {r:R} (h:Kr x K=some r): ∃k n,x= .one (.l (.i k n))/\K n=some r:=by
 unfold Kr at h
 split at h
 ·exact ⟨_,_,rfl,h⟩
 ·cases h
theorem aE {p q:Bool} (h:(p&&q)=true):p=true/\q=true:=by simpa using h
theorem ak {R:Type} {b:Bool} {x:Option R} {r:R} (h:(bif b then x else none)=some r):b=true/\x=some r:=by
 cases b
 ·cases h
 ·exact ⟨rfl,h⟩
theorem lc (T:mW P tt) {t e:Nat} (h:kB tt t=some e):P.underlying t=some (.slice e):=by
 unfold kB at h
 split at h
 ·rename_i q1 q2 q3 hq
  cases h
  exact (T t _ hq).desc
 ·cases h
theorem xT (T:mW P tt) {t n:Nat} (h:Ck tt t=n) (hn:0<n): ∃e i,P.underlying t=some (.slice e)/\P.info? e=some i/\i.size=n:=by
 unfold Ck at h
 split at h
 ·rename_i e q2 q3 hq
  have hd:=(T t _ hq).desc
  unfold bz at h
  split at h
  ·rename_i te G6
   obtain ⟨i,h1,h2,_⟩:=(T e te G6).Cn
   exact ⟨e,i,hd,h1,by omega⟩
  ·omega
 ·omega
theorem qb {hp:Nat->Option aw} {id:Nat} {r:Row} (h:kE hp id=some r): ∃root,hp id=some root/\root.row? =some r:=by
 unfold kE at h
 split at h
 ·rename_i e v r' hq;cases h;exact ⟨_,hq,rfl⟩
 ·rename_i e v r' i f hq;cases h;exact ⟨_,hq,rfl⟩
 ·cases h
theorem ld (m:iM C S.hp S.nx w ρ Fs) {id:Nat} {root:aw} {r:Row} (h:S.hp id=some root) (hr:root.row? =some r) (hl:0<r.len): ∃b cap,ρ id=some (b,cap)/\r.len<=cap:=by
 have:=m.roots id root h
 cases root with
 |row e v r'=>
  cases hr
  rcases this with ⟨_,k,_⟩| ⟨b,cap,arr,ty,F',k1,k2,k3,_⟩
  ·omega
  ·exact ⟨b,cap,k1,k3⟩
 |hole e v r' i f=>
  cases hr
  rcases this.2.2 with ⟨_,k,_⟩| ⟨b,cap,arr,ty,F',k1,k2,k3,_⟩
  ·omega
  ·exact ⟨b,cap,k1,k3⟩
 |box t c=>cases hr
 |eW=>cases hr
theorem EG {hp:Nat->Option aw} {id ver i f n:Nat} {rl rc:List Nat} (h:lenOf hp (.inner id ver i f)=some (n,rl,rc)): ∃root e r,hp id=some root/\root= .row e ver r/\n=(eB r i f).length:=by
 simp only[lenOf] at h
 cases hq:hp id with
 |none=>rw[hq] at h;cases h
 |some root=>
  rw[hq] at h
  cases root with
  |hole e v r i' f'=>cases h
  |box t c=>cases h
  |eW=>cases h
  |row e v r=>
   cases r with
   |ints k l=>cases h
   |du l=>cases h
   |strs l=>cases h
   |rows o l=>
    obtain ⟨h1,h2⟩:=ak h
    have:=eq_of_beq h1
    subst this
    cases h2
    exact ⟨_,e,_,rfl,rfl,rfl⟩
   |dw sg o l=>
    obtain ⟨h1,h2⟩:=ak h
    have:=eq_of_beq h1
    subst this
    cases h2
    exact ⟨_,e,_,rfl,rfl,rfl⟩
theorem Kz {r:Row} {i f:Nat} (hd:r.kZ f=true) (hi:i<r.len): ∃o,r.cells[i*r.size+f]? =some (.sl o (eB r i f)):=by
 cases r with
 |ints k l=>cases hd
 |du l=>cases hd
 |strs l=>cases hd
 |rows o l=>
  simp[Row.kZ] at hd
  subst hd
  simp[Row.len] at hi
  exact ⟨o,by simp[Row.cells,Row.size,eB,hi]⟩
 |dw sg o l=>
  have hf:=FO hd
  simp only[Row.size] at hf ⊢
  simp only[Row.len] at hi
  rw[qV sg o l i f hf]
  have e1:l[i]? =some l[i]:=List.getElem?_eq_getElem hi
  have e2:sg[f]? =some true:=by
   simp only[Row.kZ] at hd
   cases e:sg[f]? with
   |none=>rw[e] at hd;cases hd
   |some b=>rw[e] at hd;simp at hd;rw[hd]
  rw[e1,e2]
  exact ⟨o,by simp[eB,hi]⟩
theorem B2 (m:iM C S.hp S.nx w ρ Fs) {id e ver:Nat} {r:Row} {j:Nat} {c:Cell} (h:S.hp id=some (.row e ver r)) (hc:r.cells[j]? =some c): ∃v F1 b cap,ρ id=some (b,cap)/\w.cell? ⟨b,j,none⟩=some v/\fv w (C.ZL w (ar S.nx Fs)) c v F1/\ ∀b,F1 b<=Fs id b:=by
 rcases m.roots id _ h with ⟨_,k,_⟩| ⟨b,cap,arr,ty,F',k1,k2,k3,k4,k5,k6⟩
 ·have hl:=r.eG
  have:=(List.getElem?_eq_some_iff.1 hc).1
  rw[hl,k] at this
  simp at this
 ·obtain ⟨v,F1,F2,g1,g2,g3,_⟩:=k5.get hc
  refine ⟨v,F1,b,cap,k1,?_,g2,fun x=>by rw[k6,g3];simp;omega⟩
  have:=bO k2 j
  simp only[Cx.env] at this
  rw[this]
  simpa using g1
theorem pC (T:mW P tt) {t:Nat} {r:Row} (h:Nr tt t r=true): ∃e i,P.underlying t=some (.slice e)/\P.info? e=some i/\i.size=r.size:=by
 obtain ⟨h1,h2⟩:=aE h
 exact xT T (eq_of_beq h1) (by simpa[Nat.blt_eq] using h2)
theorem KA (T:mW P tt) {t n:Nat} (h:(Ck tt t==n)=true) (hn:0<n): ∃e i,P.underlying t=some (.slice e)/\P.info? e=some i/\i.size=n:=xT T (eq_of_beq h) hn
theorem ri (m:iM C S.hp S.nx w ρ Fs) {id ver i f e:Nat} {r:Row} {v:Value} (h:S.hp id=some (.row e ver r)) (hd:r.kZ f=true) (hi:i<r.len) (hc:cellAt (C.env w ρ S.hp S.nx Fs).w ((C.env w ρ S.hp S.nx Fs).ρ id) (i*r.size+f)=some v): ∃F1 o,fv w (C.ZL w (ar S.nx Fs)) (.sl o (eB r i f)) v F1/\ ∀b,F1 b<=Fs id b:=by
 obtain ⟨o,ho⟩:=Kz hd hi
 obtain ⟨v',F1,b,cap,h1,h2,h3,h4⟩:=B2 m h ho
 simp only[Cx.env,h1,cellAt] at hc
 rw[h2] at hc
 cases hc
 exact ⟨F1,o,h3,h4⟩
theorem Cs {w:World} {Z:Zs} {o:Bool} {l:List Int} {v:Value} {F:FP} (h:fv w Z (.sl o l) v F): ∃A cap,v= .slice A l.length cap/\(0<l.length-> ∃ad,A=some ad/\Jl w ad l):=by
 cases o with
 |false=>
  obtain ⟨_,A,cap,hv,_,hl⟩:=h
  refine ⟨A,cap,hv,fun hn=> ?_⟩
  obtain ⟨ad,e,_,hi⟩:=hl (by intro hh;subst hh;simp at hn)
  exact ⟨ad,e,hi⟩
 |true=>
  rcases h with ⟨h1,h2,_⟩| ⟨b,cap,arr,ty,hv,hb,h1,h2,h3,_⟩
  ·subst h2;exact ⟨none,0,h1,fun hn=>by simp at hn⟩
  ·refine ⟨_,cap,hv,fun _=>⟨_,rfl,fun j n hj=> ?_⟩⟩
   rw[ef,Nat.zero_add,bO hb]
   exact h3 j n hj
theorem xU (T:mW P tt) (h:bb C S a w ρ Fs) {o:Oper} {t:Nat} {x ix:Operand} (ho:o.op= .indexAddr t x ix) {E:iy} (he:jB (R:=iy) tt S.hp n t (St.rd C.N S.sl x) (St.rd C.N S.sl ix) some=some E): ∃u,Out P C S o E a w w ρ Fs u:=by
 unfold jB at he
 obtain ⟨k,n,QO,he⟩:=lT he
 have Xf:a.eval ix= .int k n:=iv h QO
 have fin: ∀u,(Instr.indexAt t (a.eval x) (a.eval ix)).run P w= .ok u w->(execOp a.eval o).run P w= .ok (.value u) w:=fun u hu=>by
  simp only[execOp,ho];exact py hu
 split at he
 ·rename_i id hx
  have Iy:=iv h hx
  split at he
  ·rename_i r hr
   obtain ⟨root,ao,mX⟩:=qb hr
   obtain ⟨hs,he⟩:=ak he
   obtain ⟨hc,he⟩:=fp he
   obtain ⟨h0,h1⟩:=aE hc
   have h0:=of_decide_eq_true h0
   have h1:=of_decide_eq_true h1
   cases he
   obtain ⟨gr,uU⟩:=Iy
   obtain ⟨r',e1,hv⟩:=uU root ao
   rw[mX] at e1;cases e1
   obtain ⟨b,cap,hρ,wQ⟩:=ld h.mem ao mX (by omega)
   simp only[Cx.env] at hv
   rw[hρ] at hv
   obtain ⟨e,i,g1,g2,g3⟩:=pC T hs
   refine ⟨_,Out.pure h rfl (fin _ (by rw[hv,Xf];exact nh g1 g2 _ _ _ _ _ h0 h1)) ⟨gr,fun bn oj=> ?_⟩⟩
   simp only[Cx.env] at oj ⊢
   rw[ao] at oj;cases oj
   exact ⟨r,mX,by omega,b,cap,hρ,by rw[ef,g3];simp⟩
  ·cases he
 ·rename_i id lo hi hx
  have Iy:=iv h hx
  split at he
  ·rename_i r hr
   obtain ⟨root,ao,mX⟩:=qb hr
   obtain ⟨hs,he⟩:=ak he
   obtain ⟨hc,he⟩:=fp he
   obtain ⟨h0,h1⟩:=aE hc
   have h0:=of_decide_eq_true h0
   have h1:=of_decide_eq_true h1
   cases he
   obtain ⟨gr,uU⟩:=Iy
   obtain ⟨r',e1,g4,g5,hv⟩:=uU root ao
   rw[mX] at e1;cases e1
   obtain ⟨b,cap,hρ,wQ⟩:=ld h.mem ao mX (by omega)
   simp only[Cx.env] at hv
   rw[hρ] at hv
   simp only[lD] at hv
   rw[if_neg (by omega)] at hv
   obtain ⟨e,i,g1,g2,g3⟩:=pC T hs
   refine ⟨_,Out.pure h rfl (fin _ (by rw[hv,Xf];exact nh g1 g2 _ _ _ _ _ h0 h1)) ⟨gr,fun bn oj=> ?_⟩⟩
   simp only[Cx.env] at oj ⊢
   rw[ao] at oj;cases oj
   exact ⟨r,mX,by omega,b,cap,hρ,by rw[ef,g3];simp[Nat.add_mul]⟩
  ·cases he
 ·rename_i p r hx
  obtain ⟨A,cap,hv,CT,hl⟩:=iv h hx
  obtain ⟨hs,he⟩:=ak he
  obtain ⟨hc,he⟩:=fp he
  obtain ⟨h0,h1⟩:=aE hc
  have h0:=of_decide_eq_true h0
  have h1:=of_decide_eq_true h1
  cases he
  obtain ⟨ad,rfl,Vj⟩:=hl (by omega)
  obtain ⟨e,i,g1,g2,g3⟩:=pC T hs
  refine ⟨_,Out.pure h rfl (fin _ (by rw[hv,Xf];exact nh g1 g2 _ _ _ _ _ h0 h1)) ⟨by omega,ad,by rw[g3];simp,Vj⟩⟩
 ·rename_i id ver e f hx
  have Iy:=iv h hx
  split at he
  ·rename_i n' rl rc hr
   obtain ⟨hs,he⟩:=ak he
   obtain ⟨hc,he⟩:=fp he
   obtain ⟨h0,h1⟩:=aE hc
   have h0:=of_decide_eq_true h0
   have h1:=of_decide_eq_true h1
   cases he
   obtain ⟨root,e0,r,ao,UR,hn'⟩:=EG hr
   obtain ⟨gr,uU⟩:=Iy
   subst UR
   obtain ⟨_,FQ,Ig⟩:=uU _ ao
   obtain ⟨k1,k2,k4⟩:=Ig e0 r rfl
   obtain ⟨F1,ow,jz,_⟩:=ri h.mem ao k1 k2 k4
   obtain ⟨A,cap,hv,hA⟩:=Cs jz
   obtain ⟨A,rfl,SX⟩:=hA (by omega)
   obtain ⟨e',i,g1,g2,g3⟩:=KA T hs (by omega)
   refine ⟨_,Out.pure h rfl (fin _ (by rw[hv,Xf];exact nh g1 g2 _ _ _ _ _ h0 (by omega))) ⟨gr,fun bn oj=> ?_⟩⟩
   simp only[Cx.env] at oj ⊢
   rw[ao] at oj;cases oj
   refine ⟨trivial,FQ,fun e1 r1 Vk=> ?_⟩
   cases Vk
   exact ⟨k1,k2,by omega,A,_,cap,by rw[<- hv];exact k4,by rw[g3];simp⟩
  ·cases he
 ·rename_i id m hx
  have Iy:=iv h hx
  split at he
  ·rename_i m' e' q1 q2 r hq hr
   obtain ⟨root,ao,mX⟩:=qb hr
   obtain ⟨hs,he⟩:=ak he
   obtain ⟨hc,he⟩:=fp he
   obtain ⟨h0,h1⟩:=aE hc
   have h0:=of_decide_eq_true h0
   have h1:=of_decide_eq_true h1
   cases he
   obtain ⟨gr,uU⟩:=Iy
   obtain ⟨r',e1,hlen,b,cap,hρ,hv⟩:=uU root ao
   rw[mX] at e1;cases e1
   simp only[Bool.and_eq_true,beq_iff_eq] at hs
   obtain ⟨⟨QT,K4⟩,hs3⟩:=hs
   have hs3:0<r.size:=by simpa[Nat.blt_eq] using hs3
   subst QT
   have hd:=(T t _ hq).desc
   have mL:bz tt e' ≠0:=by rw[K4];omega
   unfold bz at K4 mL
   split at K4
   ·rename_i te G6
    obtain ⟨i,g2,g3,_⟩:=(T e' te G6).Cn
    refine ⟨_,Out.pure h rfl (fin _ (by rw[hv,Xf];exact AB hd g2 _ _ _ h0 h1)) ⟨gr,fun bn oj=> ?_⟩⟩
    simp only[Cx.env] at oj ⊢
    rw[ao] at oj;cases oj
    exact ⟨r,mX,by omega,b,cap,hρ,by rw[ef,g3,K4];simp⟩
   ·rename_i hn;rw[hn] at mL;exact absurd rfl mL
  ·cases he
 ·cases he
theorem Gz (T:mW P tt) {t sz bs:Nat} {fs:List (Nat×Nat)} (h:tt t=some ⟨.struct fs,sz,bs⟩) {f off ft:Nat} (hf:fs[f]? =some (off,ft)): ∃(fields:Array Field) (fd:Field) (i:TypeInfo),P.underlying t=some (.struct fields)/\fields[f]? =some fd/\fd.offset=off/\fd.type=ft/\P.info? ft=some i/\i.size≠0:=by
 obtain ⟨fields,h1,h2,h3⟩:=(T t _ h).desc
 have:(fields.toList.map (fun f=>(f.offset,f.type)))[f]? =some (off,ft):=by rw[h2];exact hf
 rw[List.getElem?_map] at this
 cases e:fields.toList[f]? with
 |none=>rw[e] at this;cases this
 |some fd=>
  rw[e] at this
  simp at this
  obtain ⟨g1,g2⟩:=this
  obtain ⟨i,g3,g4⟩:=h3 fd (List.mem_of_getElem? e)
  exact ⟨fields,fd,i,h1,by simpa using e,g1,g2,by rw[<- g2];exact g3,g4⟩
theorem xV (T:mW P tt) (h:bb C S a w ρ Fs) {o:Oper} {t f:Nat} {x:Operand} (ho:o.op= .fieldAddr t x f) {E:iy} (he:jC (R:=iy) tt S.hp n t (St.rd C.N S.sl x) f some=some E): ∃u,Out P C S o E a w w ρ Fs u:=by
 unfold jC at he
 split at he
 ·rename_i fs sz bs hq
  split at he
  ·rename_i off ft hf
   obtain ⟨fields,fd,i,g1,g2,g3,g4,g5,g6⟩:=Gz T hq hf
   have fin: ∀ad:Addr,a.eval x= .pointer (some ad)->(execOp a.eval o).run P w= .ok (.value (.pointer (some (ad.add off)))) w:=fun ad hx=>by
    simp only[execOp,ho,hx]
    have:=Gy (P:=P) (w:=w) g1 g2 (by rw[g4];exact g5) g6 ad
    rw[g3] at this
    exact py this
   split at he
   ·rename_i id k hx
    cases he
    obtain ⟨h1,u9,b,cap,h2,hv⟩:=iv h hx
    exact ⟨_,Out.pure h rfl (fin _ hv) ⟨h1,u9,b,cap,h2,by rw[ef]⟩⟩
   ·rename_i id k g hx
    split at he
    ·rename_i r hr
     cases he
     obtain ⟨root,ao,mX⟩:=qb hr
     obtain ⟨h1,h2⟩:=iv h hx
     obtain ⟨r',e1,hlen,b,cap,hρ,hv⟩:=h2 root ao
     rw[mX] at e1;cases e1
     refine ⟨_,Out.pure h rfl (fin _ hv) ⟨h1,fun bn oj=> ?_⟩⟩
     simp only[Cx.env] at oj ⊢
     rw[ao] at oj;cases oj
     exact ⟨r,mX,hlen,b,cap,hρ,by rw[ef,Nat.add_assoc]⟩
    ·cases he
   ·rename_i p r k g hx
    cases he
    obtain ⟨h1,ad,hv,h3⟩:=iv h hx
    exact ⟨_,Out.pure h rfl (fin _ hv) ⟨h1,ad,by rw[add_add,Nat.add_assoc],h3⟩⟩
   ·cases he
  ·cases he
 ·cases he
theorem uV {R:Type} {x:Option AV} {d:Int} {K:Int->Option R} {r:R} (h:Cl x d K=some r):(x=none/\K d=some r)\/ ∃k n,x=some (.one (.l (.i k n)))/\K n=some r:=by
 unfold Cl at h
 split at h
 ·exact .inl ⟨rfl,h⟩
 ·obtain ⟨k,n,e,h⟩:=lT h
  exact .inr ⟨k,n,by rw[e],h⟩
theorem rj (h:bb C S a w ρ Fs) (lo:Option Operand) {d:Nat} {n:Int} (hn:(lo.map (St.rd C.N S.sl)=none/\n=d)\/ ∃k,lo.map (St.rd C.N S.sl)=some (.one (.l (.i k n)))) (h0:0<=n):nY (lo.map a.eval) d n.toNat:=by
 cases lo with
 |none=>
  rcases hn with ⟨_,rfl⟩| ⟨k,e⟩
  ·simp[nY]
  ·cases e
 |some x=>
  rcases hn with ⟨e,_⟩| ⟨k,e⟩
  ·cases e
  ·simp at e
   exact ⟨k,n,iv h e,h0,rfl⟩
theorem KB {w:World} {Z:Zs} {ad:Addr} {cs:List Cell} (h:pK w Z ad cs) (n:Nat):pK w Z (ad.add n) (cs.drop n):=by
 obtain ⟨h0,vs,h1,h2⟩:=h
 obtain ⟨F1,h3,h4⟩:=h2.drop n
 have e:F1=fz:=by funext b;have:=h4 b;simp at this;exact this
 subst e
 refine ⟨by rw[oN];exact h0,vs.drop n,fun j hj=> ?_,h3⟩
 rw[add_add,List.getElem?_drop]
 exact h1 (n+j) (by simp at hj;omega)
theorem KC {w:World} {Z:Zs} {ad:Addr} {cs:List Cell} (h:pK w Z ad cs) (n:Nat):pK w Z ad (cs.take n):=by
 obtain ⟨h0,vs,h1,h2⟩:=h
 obtain ⟨F1,h3,h4⟩:=h2.take n
 have e:F1=fz:=by funext b;have:=h4 b;simp at this;exact this
 subst e
 refine ⟨h0,vs.take n,fun j hj=> ?_,h3⟩
 simp at hj
 rw[List.getElem?_take,if_pos (by omega)]
 exact h1 j (by omega)
theorem wb {w:World} {Z:Zs} {r:Row} {A:Option Addr} {cap:Nat} (CT:r.len<=cap) (h:r.len≠0-> ∃ad,A=some ad/\pK w Z ad r.cells) (lo hi:Nat) (h1:lo<=hi) (h2:hi<=r.len):fw w Z ((r.take hi).drop lo) (.slice (if cap=lo then A else A.map (·.add (lo*r.size))) (hi-lo) (cap-lo)):=by
 refine ⟨_,_,by rw[pn,take_len,Nat.min_eq_left h2],by rw[pn,take_len,Nat.min_eq_left h2];omega,fun hn=> ?_⟩
 rw[pn,take_len,Nat.min_eq_left h2] at hn
 obtain ⟨ad,rfl,hf⟩:=h (by omega)
 refine ⟨ad.add (lo*r.size),by rw[if_neg (by omega)];rfl,?_⟩
 rw[Cq,rX,take_size]
 exact KB (KC hf _) _
theorem Dk (T:mW P tt) (h:bb C S a w ρ Fs) {o:Oper} {t:Nat} {x:Operand} {lo hi:Option Operand} (ho:o.op= .slice t x lo hi none) {E:iy} (he:oK (R:=iy) tt S.hp n t (St.rd C.N S.sl x) (lo.map (St.rd C.N S.sl)) (hi.map (St.rd C.N S.sl)) some=some E): ∃u,Out P C S o E a w w ρ Fs u:=by
 have fin: ∀u,(Instr.sliceAt t (a.eval x) (lo.map a.eval) (hi.map a.eval) none).run P w= .ok u w->(execOp a.eval o).run P w= .ok (.value u) w:=fun u hu=>by
  simp only[execOp,ho];exact py hu
 unfold oK at he
 split at he
 ·rename_i s hx
  split at he
  ·rename_i sz bs hq
   have hd:=(T t _ hq).desc
   have hv:a.eval x= .string s:=iv h hx
   have core: ∀hh:Int,((hi.map (St.rd C.N S.sl)=none/\hh=s.size)\/ ∃k,hi.map (St.rd C.N S.sl)=some (.one (.l (.i k hh))))->ay (decide (0<=hh)&&decide (hh<=s.size)) (Cl (lo.map (St.rd C.N S.sl)) 0 fun l=>ay (decide (0<=l)&&decide (l<=hh)) (mM n (.l (.s (s.extract l.toNat hh.toNat))) some))=some E-> ∃u,Out P C S o E a w w ρ Fs u:=by
    intro hh Ej he
    obtain ⟨hc,he⟩:=fp he
    obtain ⟨c1,c2⟩:=aE hc
    have c1:=of_decide_eq_true c1
    have c2:=of_decide_eq_true c2
    have IK: ∀l:Int,((lo.map (St.rd C.N S.sl)=none/\l=(0:Nat))\/ ∃k,lo.map (St.rd C.N S.sl)=some (.one (.l (.i k l))))->ay (decide (0<=l)&&decide (l<=hh)) (mM n (.l (.s (s.extract l.toNat hh.toNat))) some)=some E-> ∃u,Out P C S o E a w w ρ Fs u:=by
     intro l hl he
     obtain ⟨hc,he⟩:=fp he
     obtain ⟨d1,d2⟩:=aE hc
     have d1:=of_decide_eq_true d1
     have d2:=of_decide_eq_true d2
     cases he
     refine ⟨_,Out.pure h rfl (fin _ (by rw[hv];exact Di hd s _ _ l.toNat hh.toNat (rj h lo hl d1) (rj h hi Ej c1) (by omega) (by omega))) rfl⟩
    rcases uV he with ⟨e,he⟩| ⟨k,l,e,he⟩
    ·exact IK _ (.inl ⟨e,rfl⟩) he
    ·exact IK _ (.inr ⟨k,e⟩) he
   rcases uV he with ⟨e,he⟩| ⟨k,l,e,he⟩
   ·exact core _ (.inl ⟨e,rfl⟩) he
   ·exact core _ (.inr ⟨k,e⟩) he
  ·cases he
 ·rename_i id hx
  split at he
  ·rename_i r hr
   obtain ⟨root,ao,mX⟩:=qb hr
   obtain ⟨hs,he⟩:=ak he
   obtain ⟨e,i,g1,g2,g3⟩:=pC T hs
   obtain ⟨gr,uU⟩:=iv h hx
   obtain ⟨r',e1,hv⟩:=uU root ao
   rw[mX] at e1;cases e1
   simp only[Cx.env] at hv
   have US: ∃A cap,hdr (ρ id) r.len= .slice A r.len cap/\r.len<=cap/\ ∀lo hi:Nat,lo<=hi->hi<=r.len->Value.slice (if cap=lo then A else A.map (·.add (lo*r.size))) (hi-lo) (cap-lo)=lD (ρ id) r.size lo hi:=by
    cases hρ:ρ id with
    |none=>
     have ZE:r.len=0:=by
      rcases Nat.eq_zero_or_pos r.len with k|k
      ·exact k
      ·obtain ⟨b,cap,k1,_⟩:=ld h.mem ao mX k
       rw[hρ] at k1;cases k1
     refine ⟨none,0,by simp[hdr,ZE],by omega,fun lo hi q1 q2=> ?_⟩
     have e1:lo=0:=by omega
     have e2:hi=0:=by omega
     subst e1;subst e2
     simp[lD]
    |some q=>
     obtain ⟨b,cap⟩:=q
     have wQ:r.len<=cap:=by
      rcases Nat.eq_zero_or_pos r.len with k|k
      ·omega
      ·obtain ⟨b',pF,k1,k2⟩:=ld h.mem ao mX k
       rw[hρ] at k1;cases k1;exact k2
     refine ⟨some ⟨b,0,none⟩,cap,rfl,wQ,fun lo hi q1 q2=> ?_⟩
     simp only[lD]
     by_cases e:cap=lo
     ·simp[e]
     ·simp[e,ef]
   obtain ⟨A,cap,hh1,Us,hh3⟩:=US
   rw[hh1] at hv
   have core: ∀hq:Int,((hi.map (St.rd C.N S.sl)=none/\hq=r.len)\/ ∃k,hi.map (St.rd C.N S.sl)=some (.one (.l (.i k hq))))->ay (decide (0<=hq)&&decide (hq<=r.len)) (Cl (lo.map (St.rd C.N S.sl)) 0 fun l=>ay (decide (0<=l)&&decide (l<=hq)) (some ⟨.l (.sub id l.toNat hq.toNat),[],n,[id],[]⟩))=some E-> ∃u,Out P C S o E a w w ρ Fs u:=by
    intro hq Ej he
    obtain ⟨hc,he⟩:=fp he
    obtain ⟨c1,c2⟩:=aE hc
    have c1:=of_decide_eq_true c1
    have c2:=of_decide_eq_true c2
    have IK: ∀l:Int,((lo.map (St.rd C.N S.sl)=none/\l=(0:Nat))\/ ∃k,lo.map (St.rd C.N S.sl)=some (.one (.l (.i k l))))->ay (decide (0<=l)&&decide (l<=hq)) (some (⟨.l (.sub id l.toNat hq.toNat),[],n,[id],[]⟩:iy))=some E-> ∃u,Out P C S o E a w w ρ Fs u:=by
     intro l hl he
     obtain ⟨hc,he⟩:=fp he
     obtain ⟨d1,d2⟩:=aE hc
     have d1:=of_decide_eq_true d1
     have d2:=of_decide_eq_true d2
     cases he
     refine ⟨_,Out.pure h rfl (fin _ (by rw[hv];exact sr g1 g2 A r.len cap _ _ l.toNat hq.toNat (rj h lo hl d1) (rj h hi Ej c1) (by omega) (by omega))) ⟨gr,fun bn oj=> ?_⟩⟩
     simp only[Cx.env] at oj ⊢
     rw[ao] at oj;cases oj
     exact ⟨r,mX,by omega,by omega,by rw[g3];exact hh3 _ _ (by omega) (by omega)⟩
    rcases uV he with ⟨e,he⟩| ⟨k,l,e,he⟩
    ·exact IK _ (.inl ⟨e,rfl⟩) he
    ·exact IK _ (.inr ⟨k,e⟩) he
   split at he
   ·rename_i e1 e2
    cases he
    have l0:nY (lo.map a.eval) 0 0:=by cases lo<;>first|rfl|cases e1
    have l1:nY (hi.map a.eval) r.len r.len:=by cases hi<;>first|rfl|cases e2
    refine ⟨_,Out.pure h rfl (fin _ (by rw[hv];exact sr g1 g2 A r.len cap _ _ 0 r.len l0 l1 (by omega) Us)) ⟨gr,fun bn oj=> ?_⟩⟩
    simp only[Cx.env] at oj ⊢
    rw[ao] at oj;cases oj
    refine ⟨r,mX,?_⟩
    rw[hh1]
    by_cases e:cap=0
    ·simp[e]
    ·cases A<;>simp[e,add_zero]
   ·rcases uV he with ⟨e,he⟩| ⟨k,l,e,he⟩
    ·exact core _ (.inl ⟨e,rfl⟩) he
    ·exact core _ (.inr ⟨k,e⟩) he
  ·cases he
 ·rename_i p r hx
  obtain ⟨hs,he⟩:=ak he
  obtain ⟨e,i,g1,g2,g3⟩:=pC T hs
  obtain ⟨A,cap,hv,CT,hl⟩:=iv h hx
  have core: ∀l hq:Int,((lo.map (St.rd C.N S.sl)=none/\l=(0:Nat))\/ ∃k,lo.map (St.rd C.N S.sl)=some (.one (.l (.i k l))))->((hi.map (St.rd C.N S.sl)=none/\hq=r.len)\/ ∃k,hi.map (St.rd C.N S.sl)=some (.one (.l (.i k hq))))->0<=l->l<=hq->hq<=r.len-> ∃u,(execOp a.eval o).run P w= .ok (.value u) w/\fw (C.env w ρ S.hp S.nx Fs).w (if p then (C.env w ρ S.hp S.nx Fs).Zf else (C.env w ρ S.hp S.nx Fs).ZL) ((r.take hq.toNat).drop l.toNat) u:=by
   intro l hq k1 k2 k3 k4 k5
   refine ⟨_,fin _ (by rw[hv];exact sr g1 g2 A r.len cap _ _ l.toNat hq.toNat (rj h lo k1 k3) (rj h hi k2 (by omega)) (by omega) (by omega)),?_⟩
   rw[g3]
   exact wb CT hl _ _ (by omega) (by omega)
  have t1:r.take r.len=r:=by cases r<;>simp[Row.take,Row.len]
  have t2: ∀r:Row,r.drop 0=r:=fun r=>by cases r<;>simp[Row.drop]
  split at he
  ·rename_i e1 e2
   cases he
   obtain ⟨u,k1,k2⟩:=core 0 r.len (.inl ⟨e1,rfl⟩) (.inl ⟨e2,rfl⟩) (by omega) (by omega) (by omega)
   refine ⟨u,Out.pure h rfl k1 ?_⟩
   have e3:(r.take ((r.len:Int)).toNat).drop (0:Int).toNat=r:=by simp[t1,t2]
   rw[e3] at k2
   exact k2
  ·rename_i hq e1 e2
   obtain ⟨k,n,e3,he⟩:=lT he
   obtain ⟨hc,he⟩:=fp he
   obtain ⟨c1,c2⟩:=aE hc
   have c1:=of_decide_eq_true c1
   have c2:=of_decide_eq_true c2
   cases he
   obtain ⟨u,k1,k2⟩:=core 0 n (.inl ⟨e1,rfl⟩) (.inr ⟨k,by rw[e2,e3]⟩) (by omega) (by omega) (by omega)
   refine ⟨u,Out.pure h rfl k1 ?_⟩
   have e3:(r.take n.toNat).drop (0:Int).toNat=r.take n.toNat:=by simp[t2]
   rw[e3] at k2
   exact k2
  ·rename_i lq e1 e2
   obtain ⟨k,n,e3,he⟩:=lT he
   obtain ⟨hc,he⟩:=fp he
   obtain ⟨c1,c2⟩:=aE hc
   have c1:=of_decide_eq_true c1
   have c2:=of_decide_eq_true c2
   cases he
   obtain ⟨u,k1,k2⟩:=core n r.len (.inr ⟨k,by rw[e1,e3]⟩) (.inl ⟨e2,rfl⟩) (by omega) (by omega) (by omega)
   refine ⟨u,Out.pure h rfl k1 ?_⟩
   have e3:(r.take ((r.len:Int)).toNat)=r:=by simp[t1]
   rw[e3] at k2
   exact k2
  ·rename_i lq hq e1 e2
   obtain ⟨k,n,e3,he⟩:=lT he
   obtain ⟨hc,he⟩:=fp he
   obtain ⟨c1,c2⟩:=aE hc
   have c1:=of_decide_eq_true c1
   have c2:=of_decide_eq_true c2
   obtain ⟨k',m,e4,he⟩:=lT he
   obtain ⟨hc,he⟩:=fp he
   obtain ⟨d1,d2⟩:=aE hc
   have d1:=of_decide_eq_true d1
   have d2:=of_decide_eq_true d2
   cases he
   obtain ⟨u,k1,k2⟩:=core m n (.inr ⟨k',by rw[e1,e4]⟩) (.inr ⟨k,by rw[e2,e3]⟩) (by omega) (by omega) (by omega)
   exact ⟨u,Out.pure h rfl k1 k2⟩
 ·cases he
end
section
variable {P:Program} {tt:TT} {C:Cx} {S:St} {a:Act} {w:World} {ρ:Place} {Fs:Nat->FP} {n:Nat}
theorem ni (T:mW P tt) {t:Nat} (h:dT tt t=true): ∃d,P.underlying t=some d/\R3 d=false:=by
 unfold dT at h
 split at h
 all_goals first
  | (rename_i hq;have hd:=(T t _ hq).desc;first|exact ⟨_,hd,rfl⟩| (obtain ⟨ms,hd⟩:=hd;exact ⟨_,hd,rfl⟩))
  |cases h
theorem mZ (T:mW P tt) {t:Nat} (h:eg tt t=true): ∃(fields:Array Field) (i:TypeInfo),P.underlying t=some (.struct fields)/\P.info? t=some i/\i.size=bz tt t:=by
 unfold eg at h
 split at h
 ·rename_i fs sz bs hq
  obtain ⟨fields,hd,_⟩:=(T t _ hq).desc
  obtain ⟨i,h1,h2,_⟩:=(T t _ hq).Cn
  exact ⟨fields,i,hd,h1,by rw[h2];simp[bz,hq]⟩
 ·cases h
theorem bj.get {E:Env}: ∀ {xs:List LV} {vs:List Value},bj E xs vs-> ∀ {j:Nat} {x:LV},xs[j]? =some x-> ∃v,vs[j]? =some v/\eS E x v
 |x::xs,v::vs,h,0,y,hy=>by simp at hy;subst hy;exact ⟨v,rfl,h.1⟩
 |x::xs,v::vs,h,j+1,y,hy=>by simpa using bj.get h.2 (j:=j) (by simpa using hy)
theorem bj.length {E:Env}: ∀ {xs:List LV} {vs:List Value},bj E xs vs->xs.length=vs.length
 | [],[],_=>rfl
 |x::xs,v::vs,h=>by simp[bj.length h.2]
theorem bj.take {E:Env}: ∀ {xs:List LV} {vs:List Value} (n:Nat),bj E xs vs->bj E (xs.take n) (vs.take n)
 | [],[],n,h=>by simp[bj]
 |x::xs,v::vs,0,h=>by simp[bj]
 |x::xs,v::vs,n+1,h=>⟨h.1,bj.take n h.2⟩
theorem bj.drop {E:Env}: ∀ {xs:List LV} {vs:List Value} (n:Nat),bj E xs vs->bj E (xs.drop n) (vs.drop n)
 | [],[],n,h=>by simp[bj]
 |x::xs,v::vs,0,h=>h
 |x::xs,v::vs,n+1,h=>bj.drop n h.2
theorem xW {E:Env} {id ver e i f:Nat} {r:Row} (hid:id<E.nx) (ao:E.hp id=some (.row e ver r)) {b cap:Nat} (hρ:E.ρ id=some (b,cap)) (hi:i<r.len) (hf:f<r.size) {v:Value} {F:FP} {c:Cell} (hc:r.cells[i*r.size+f]? =some c) (hv:E.w.cell? ⟨b,i*r.size+f,none⟩=some v) (hr:fv E.w E.ZL c v F) (hs:r.qC=false\/True):gy E (Gr id ver i r f false) v:=by
 have inner:r.kZ f=true->eS E (.inner id ver i f) v:=fun xh=>⟨hid,fun root oj=>by
  rw[ao] at oj;cases oj
  refine ⟨trivial,Nat.le_refl _,fun e' r' he=> ?_⟩
  cases he
  exact ⟨xh,hi,by rw[hρ];exact hv⟩⟩
 cases r with
 |ints k l=>
  simp[Row.size] at hf;subst hf
  simp[Row.len] at hi
  simp[Row.cells,Row.size,hi] at hc
  subst hc
  obtain ⟨h1,_⟩:=hr
  show v=_
  rw[h1];simp[hi]
 |du l=>
  simp[Row.size] at hf;subst hf
  simp[Row.len] at hi
  simp[Row.cells,Row.size,hi] at hc
  subst hc
  obtain ⟨h1,_⟩:=hr
  show v=_
  rw[h1];simp[hi]
 |strs l=>
  simp[Row.size] at hf;subst hf
  simp[Row.len] at hi
  simp[Row.cells,Row.size,hi] at hc
  subst hc
  obtain ⟨h1,_⟩:=hr
  show v=_
  rw[h1];simp[hi]
 |rows o l=>
  simp[Row.size] at hf;subst hf
  exact inner rfl
 |dw sg o l=>
  have hf':=hf
  simp only[Row.size] at hf hc
  simp only[Row.len] at hi
  have e2:sg[f]? =some sg[f]:=List.getElem?_eq_getElem hf
  cases hb:sg[f] with
  |true=>
   rw[hb] at e2
   show gy E (match sg[f]? with|some true=>_|some false=>_|none=>_) v
   rw[e2]
   exact inner (by simp[Row.kZ,e2])
  |false=>
   rw[hb] at e2
   show gy E (match sg[f]? with|some true=>_|some false=>_|none=>_) v
   rw[e2]
   rw[qV sg o l i f hf,e2,List.getElem?_eq_getElem hi] at hc
   simp at hc
   subst hc
   obtain ⟨h1,_⟩:=hr
   show v=_
   rw[h1];simp[hi]
theorem xX {E:Env} {p:Bool} {i f:Nat} {r:Row} (hi:i<r.len) (hf:f<r.size) {v:Value} {c:Cell} (hc:r.cells[i*r.size+f]? =some c) (hr:fv E.w (if p then E.Zf else E.ZL) c v fz):gy E (Gt p i r f false) v:=by
 have inner: ∀o l,c= .sl o l->eS E (.val p (.ints .i64 l)) v:=fun o l hcc=>by
  subst hcc
  have oj:fv E.w (if p then E.Zf else E.ZL) (.sl false l) v fz:=by
   cases o with
   |false=>exact hr
   |true=>exact hr.fL (fun b hb=>hb) (fun b hb=>by simp at hb)
  obtain ⟨_,A,cap,h1,h2,h3⟩:=oj
  refine ⟨A,cap,h1,h2,fun hn=> ?_⟩
  obtain ⟨ad,e1,e2,e3⟩:=h3 (by intro h;subst h;exact hn rfl)
  refine ⟨ad,e1,e2,l.map (fun n=>Value.int .i64 n),fun j hj=> ?_,?_⟩
  ·simp[Row.cells] at hj
   rw[e3 j l[j] (List.getElem?_eq_getElem hj)]
   simp[hj]
  ·simp only[Row.cells]
   clear h1 h2 h3 e3 hn hr hc
   induction l with
   |nil=>rfl
   |cons n l ih=>exact ⟨fz,fz,⟨rfl,rfl⟩,ih,(cp _).symm⟩
 cases r with
 |ints k l=>
  simp[Row.size] at hf;subst hf
  simp[Row.len] at hi
  simp[Row.cells,Row.size,hi] at hc
  subst hc
  obtain ⟨h1,_⟩:=hr
  show v=_
  rw[h1];simp[hi]
 |du l=>
  simp[Row.size] at hf;subst hf
  simp[Row.len] at hi
  simp[Row.cells,Row.size,hi] at hc
  subst hc
  obtain ⟨h1,_⟩:=hr
  show v=_
  rw[h1];simp[hi]
 |strs l=>
  simp[Row.size] at hf;subst hf
  simp[Row.len] at hi
  simp[Row.cells,Row.size,hi] at hc
  subst hc
  obtain ⟨h1,_⟩:=hr
  show v=_
  rw[h1];simp[hi]
 |rows o l=>
  simp[Row.size] at hf;subst hf
  simp[Row.len] at hi
  simp[Row.cells,Row.size,hi] at hc
  have:=inner o l[i] hc.symm
  show eS E (.val p (.ints .i64 (l.getD i []))) v
  simpa[hi] using this
 |dw sg o l=>
  simp only[Row.size] at hf hc
  simp only[Row.len] at hi
  have e2:sg[f]? =some sg[f]:=List.getElem?_eq_getElem hf
  rw[qV sg o l i f hf,e2,List.getElem?_eq_getElem hi] at hc
  cases hb:sg[f] with
  |true=>
   rw[hb] at e2
   show gy E (match sg[f]? with|some true=>_|some false=>_|none=>_) v
   rw[e2]
   simp[hb] at hc
   have:=inner o (gl l[i] f) hc.symm
   show eS E (.val p (.ints .i64 (gl (l.getD i []) f))) v
   simpa[hi] using this
  |false=>
   rw[hb] at e2
   show gy E (match sg[f]? with|some true=>_|some false=>_|none=>_) v
   rw[e2]
   simp[hb] at hc
   subst hc
   obtain ⟨h1,_⟩:=hr
   show v=_
   rw[h1];simp[hi]
theorem bj.of {E:Env}: ∀ {xs:List LV} {vs:List Value},xs.length=vs.length->(∀(j:Nat) (x:LV) (v:Value),xs[j]? =some x->vs[j]? =some v->eS E x v)->bj E xs vs
 | [],[],_,_=>trivial
 | [],_::_,h,_=>by simp at h
 |_::_,[],h,_=>by simp at h
 |x::xs,v::vs,h,hh=>⟨hh 0 x v rfl rfl,bj.of (by simpa using h) (fun j y u h1 h2=>hh (j+1) y u (by simpa using h1) (by simpa using h2))⟩
theorem GA {n i len:Nat} (hi:i<len):i*n+n<=len*n:=by
 have:(i+1)*n<=len*n:=Nat.mul_le_mul_right _ hi
 rw[Nat.succ_mul] at this
 exact this
theorem rm (sg:List Bool) (o:Bool) (l:List (List gR)):(Row.dw sg o l).cells.length=l.length*sg.length:=Row.eG _
theorem R5 {E:Env} {id ver e i:Nat} {sg:List Bool} {o:Bool} {l:List (List gR)} (hid:id<E.nx) (ao:E.hp id=some (.row e ver (.dw sg o l))) {b cap:Nat} (hρ:E.ρ id=some (b,cap)) (hi:i<l.length) {arr:List Value} {F:FP} (oZ:aj E.w E.ZL (Row.dw sg o l).cells arr F) (hb: ∀j v,arr[j]? =some v->E.w.cell? ⟨b,j,none⟩=some v):
 ∃vs:List Value,vs.length=sg.length/\(∀j v,vs[j]? =some v->E.w.cell? ⟨b,i*sg.length+j,none⟩=some v)/\bj E (sg.zipIdx.map fun (b,f)=>bif b then .inner id ver i f else .i .i64 (gi (l.getD i []) f)) vs:=by
 have hlen:=oZ.length
 rw[rm] at hlen
 have hle:=GA (n:=sg.length) hi
 have Yi:((arr.drop (i*sg.length)).take sg.length).length=sg.length:=by simp;omega
 have ou: ∀j v,((arr.drop (i*sg.length)).take sg.length)[j]? =some v->j<sg.length/\arr[i*sg.length+j]? =some v:=fun j v hj=>by
  rw[List.getElem?_take] at hj
  split at hj
  ·rw[List.getElem?_drop] at hj;exact ⟨‹_›,hj⟩
  ·cases hj
 refine ⟨(arr.drop (i*sg.length)).take sg.length,Yi,fun j v hj=>hb _ _ (ou j v hj).2,bj.of (by simp;omega) fun j x v hx hv=> ?_⟩
 obtain ⟨hj,hv⟩:=ou j v hv
 have EO:i*sg.length+j<(Row.dw sg o l).cells.length:=by rw[rm];omega
 obtain ⟨v',F1,F2,k1,k2,k3,_⟩:=oZ.get (List.getElem?_eq_getElem EO)
 rw[hv] at k1;cases k1
 have:=xW (r:= .dw sg o l) (f:=j) (ver:=ver) hid ao hρ hi hj (List.getElem?_eq_getElem EO) (hb _ _ hv) k2 (.inr trivial)
 have e2:sg[j]? =some sg[j]:=List.getElem?_eq_getElem hj
 simp only[List.getElem?_map,List.getElem?_zipIdx,e2,Option.map_some,Option.some.injEq,Nat.zero_add] at hx
 subst hx
 simp only[Gr,cond_false,e2] at this
 cases hb:sg[j]<;>rw[hb] at this<;>exact this
theorem R6 {E:Env} {p:Bool} {i:Nat} {sg:List Bool} {o:Bool} {l:List (List gR)} (hi:i<l.length) {arr:List Value} (oZ:aj E.w (if p then E.Zf else E.ZL) (Row.dw sg o l).cells arr fz):
 bj E (sg.zipIdx.map fun (b,f)=>bif b then .val p (.ints .i64 (gl (l.getD i []) f)) else .i .i64 (gi (l.getD i []) f)) ((arr.drop (i*sg.length)).take sg.length):=by
 have hlen:=oZ.length
 rw[rm] at hlen
 have hle:=GA (n:=sg.length) hi
 have ou: ∀j v,((arr.drop (i*sg.length)).take sg.length)[j]? =some v->j<sg.length/\arr[i*sg.length+j]? =some v:=fun j v hj=>by
  rw[List.getElem?_take] at hj
  split at hj
  ·rw[List.getElem?_drop] at hj;exact ⟨‹_›,hj⟩
  ·cases hj
 refine bj.of (by simp;omega) fun j x v hx hv=> ?_
 obtain ⟨hj,hv⟩:=ou j v hv
 have EO:i*sg.length+j<(Row.dw sg o l).cells.length:=by rw[rm];omega
 obtain ⟨v',F1,F2,k1,k2,k3,_⟩:=oZ.get (List.getElem?_eq_getElem EO)
 have Oe:F1=fz:=by
  funext q
  have:=congrFun k3 q
  simp at this ⊢
  omega
 subst Oe
 rw[hv] at k1;cases k1
 have:=xX (E:=E) (p:=p) (r:= .dw sg o l) (f:=j) hi hj (List.getElem?_eq_getElem EO) k2
 have e2:sg[j]? =some sg[j]:=List.getElem?_eq_getElem hj
 simp only[List.getElem?_map,List.getElem?_zipIdx,e2,Option.map_some,Option.some.injEq,Nat.zero_add] at hx
 subst hx
 simp only[Gt,cond_false,e2] at this
 cases hb:sg[j]<;>rw[hb] at this<;>exact this
theorem xY {r:Row} (h:r.qC=true): ∃sg o l,r= .dw sg o l:=by
 cases r<;>first|exact ⟨_,_,_,rfl⟩|cases h
theorem GB (T:mW P tt) (h:bb C S a w ρ Fs) {o:Oper} {t:Nat} {x:Operand} (ho:o.op= .load t x) {E:iy} (he:sj (R:=iy) tt S.hp n t (St.rd C.N S.sl x) some=some E): ∃u,Out P C S o E a w w ρ Fs u:=by
 have fin: ∀u,(Instr.loadAt t (a.eval x)).run P w= .ok u w->(execOp a.eval o).run P w= .ok (.value u) w:=fun u hu=>by
  simp only[execOp,ho];exact py hu
 unfold sj at he
 split at he
 ·rename_i id k hx
  obtain ⟨gr,u9,b,cap,hρ,hv⟩:=iv h hx
  split at he
  ·rename_i bt cells ao
   obtain ⟨b',pF,vs,ty,g1,g2,g3,g4⟩:=h.mem.roots id _ ao
   simp only[Cx.env] at hρ g1 g2
   rw[hρ] at g1;cases g1
   cases jn:eg tt t with
   |true=>
    rw[jn] at he
    obtain ⟨hle,he⟩:=ak he
    cases he
    have hle:=Nat.le_of_ble_eq_true hle
    obtain ⟨fields,i,d1,d2,d3⟩:=mZ T jn
    have hlen:=g3.length
    refine ⟨.agg ((vs.toList.drop k).take (bz tt t)).toArray,Out.pure h rfl (fin _ ?_) ⟨_,rfl,(g3.drop k).take _⟩⟩
    rw[hv]
    refine lZ d1 d2 (by rw[d3];simp at hlen ⊢;omega) fun j v hj=> ?_
    rw[ef,bO g2]
    rw[List.getElem?_take] at hj
    split at hj
    ·rw[List.getElem?_drop] at hj;simpa using hj
    ·cases hj
   |false=>
    rw[jn] at he
    obtain ⟨hsc,he⟩:=ak he
    split at he
    ·rename_i y hy
     cases he
     obtain ⟨v,k1,k2⟩:=g3.get hy
     obtain ⟨d,d1,d2⟩:=ni T hsc
     refine ⟨v,Out.pure h rfl (fin _ ?_) k2⟩
     rw[hv]
     exact l_ d1 d2 (by rw[bO g2];simpa using k1)
    ·cases he
  ·cases he
 ·rename_i id i f hx
  obtain ⟨gr,uU⟩:=iv h hx
  split at he
  ·rename_i e ver r ao
   obtain ⟨r',e1,hi,b,cap,hρ,hv⟩:=uU _ ao
   cases e1
   obtain ⟨hc,he⟩:=ak he
   cases he
   cases jn:eg tt t with
   |true=>
    rw[jn] at hc
    obtain ⟨Wi,N4⟩:=aE hc
    obtain ⟨MF,UT⟩:=aE Wi
    have MF:=eq_of_beq MF
    have UT:=eq_of_beq UT
    subst UT
    obtain ⟨sg,o',l,rfl⟩:=xY N4
    obtain ⟨fields,ti,d1,d2,d3⟩:=mZ T jn
    have mX:=h.mem.roots id _ ao
    rcases mX with ⟨_,h0,_⟩| ⟨b',pF,arr,ty,F',g1,g2,g3,g4,g5,g6⟩
    ·simp only[Row.len] at h0 hi;omega
    ·simp only[Cx.env] at hρ g1 g2
     rw[hρ] at g1;cases g1
     have Mz: ∀j v,arr.toList[j]? =some v->w.cell? ⟨b,j,none⟩=some v:=fun j v hj=>by rw[bO g2];simpa using hj
     obtain ⟨vs,k1,k2,k3⟩:=R5 (E:=C.env w ρ S.hp S.nx Fs) (ver:=ver) gr ao hρ hi g5 Mz
     refine ⟨.agg vs.toArray,Out.pure h rfl (fin _ ?_) ⟨vs,rfl,k3⟩⟩
     rw[hv]
     refine lZ d1 d2 (by rw[d3,k1];exact MF.symm) fun j v hj=> ?_
     rw[ef]
     exact k2 j v hj
   |false=>
    rw[jn] at hc
    obtain ⟨hsc,hf⟩:=aE hc
    have hf:f<r.size:=by simpa[Nat.blt_eq] using hf
    have EO:i*r.size+f<r.cells.length:=by
     rw[Row.eG]
     have:(i+1)*r.size<=r.len*r.size:=Nat.mul_le_mul_right _ hi
     rw[Nat.succ_mul] at this
     omega
    obtain ⟨v,F1,b',pF,k1,k2,k3,k4⟩:=B2 h.mem ao (List.getElem?_eq_getElem EO)
    simp only[Cx.env] at hρ
    rw[hρ] at k1;cases k1
    obtain ⟨d,d1,d2⟩:=ni T hsc
    refine ⟨v,Out.pure h rfl (fin _ (by rw[hv];exact l_ d1 d2 k2)) ?_⟩
    exact xW (E:=C.env w ρ S.hp S.nx Fs) gr ao hρ hi hf (List.getElem?_eq_getElem EO) k2 k3 (.inr trivial)
  ·cases he
 ·rename_i p r i f hx
  obtain ⟨hi,ad,hv,Vj⟩:=iv h hx
  obtain ⟨hc,he⟩:=ak he
  cases he
  obtain ⟨hz,vs,RX,oZ⟩:=Vj
  cases jn:eg tt t with
  |true=>
   rw[jn] at hc
   obtain ⟨Wi,N4⟩:=aE hc
   obtain ⟨MF,UT⟩:=aE Wi
   have MF:=eq_of_beq MF
   have UT:=eq_of_beq UT
   subst UT
   obtain ⟨sg,o',l,rfl⟩:=xY N4
   obtain ⟨fields,ti,d1,d2,d3⟩:=mZ T jn
   have hlen:=oZ.length
   have hle:=GA (n:=sg.length) hi
   refine ⟨.agg ((vs.drop (i*sg.length)).take sg.length).toArray,Out.pure h rfl (fin _ ?_) ⟨_,rfl,R6 (E:=C.env w ρ S.hp S.nx Fs) hi oZ⟩⟩
   rw[rm] at hlen
   simp only[Row.len] at hi hle
   rw[hv]
   refine lZ d1 d2 (by rw[d3];simp[Row.size] at MF ⊢;omega) fun j v hj=> ?_
   rw[List.getElem?_take] at hj
   split at hj
   ·rw[List.getElem?_drop] at hj
    rw[add_add,<- hj]
    exact RX _ (by rw[rm];simp only[Row.size];omega)
   ·cases hj
  |false=>
   rw[jn] at hc
   obtain ⟨hsc,hf⟩:=aE hc
   have hf:f<r.size:=by simpa[Nat.blt_eq] using hf
   have EO:i*r.size+f<r.cells.length:=by
    rw[Row.eG]
    have:(i+1)*r.size<=r.len*r.size:=Nat.mul_le_mul_right _ hi
    rw[Nat.succ_mul] at this
    omega
   obtain ⟨v,F1,F2,k1,k2,k3,_⟩:=oZ.get (List.getElem?_eq_getElem EO)
   have Oe:F1=fz:=by
    funext q
    have:=congrFun k3 q
    simp at this ⊢
    omega
   subst Oe
   obtain ⟨d,d1,d2⟩:=ni T hsc
   refine ⟨v,Out.pure h rfl (fin _ (by rw[hv];exact l_ d1 d2 ((RX _ EO).trans k1))) ?_⟩
   exact xX (E:=C.env w ρ S.hp S.nx Fs) hi hf (List.getElem?_eq_getElem EO) k2
 ·rename_i id ver i f j hx
  obtain ⟨gr,uU⟩:=iv h hx
  split at he
  ·rename_i e v' r ao
   obtain ⟨hc,he⟩:=ak he
   cases he
   obtain ⟨ER,hsc⟩:=aE hc
   have:=eq_of_beq ER
   subst this
   obtain ⟨_,_,Ig⟩:=uU _ ao
   obtain ⟨k1,k2,k3,A,n,cap,k4,hv⟩:=Ig e r rfl
   obtain ⟨F1,ow,jz,_⟩:=ri h.mem ao k1 k2 k4
   obtain ⟨A',pF,hhv,hA⟩:=Cs jz
   obtain ⟨A'',e2,SX⟩:=hA (by omega)
   subst e2
   cases hhv
   obtain ⟨d,d1,d2⟩:=ni T hsc
   have:=SX j _ (List.getElem?_eq_getElem k3)
   refine ⟨_,Out.pure h rfl (fin _ (by rw[hv];exact l_ d1 d2 this)) ?_⟩
   show _=_
   simp[k3]
  ·cases he
 ·cases he
end
section
variable {P:Program} {tt:TT} {C:Cx} {S:St} {a:Act} {w:World} {ρ:Place} {Fs:Nat->FP} {n:Nat}
theorem o0 {w:World} {Z:Zs} {k:IntKind}: ∀l:List Int,aj w Z (Row.ints k l).cells (l.map fun n=>Value.int k n) fz
 | []=>rfl
 |x::l=>⟨fz,fz,⟨rfl,rfl⟩,o0 l,(cp _).symm⟩
theorem IL (m:iM C S.hp S.nx w ρ Fs) {id e ver:Nat} {r:Row} (h:S.hp id=some (.row e ver r)): ∃A cap,hdr (ρ id) r.len= .slice A r.len cap/\r.len<=cap/\(∀b,A=some b-> ∃b' pF,ρ id=some (b',pF)/\pF=cap/\b=⟨b',0,none⟩)/\(ρ id=none->r.len=0/\A=none/\cap=0)/\(r.len≠0-> ∃ad,A=some ad/\pK w (fun b=>C.ZL w (ar S.nx Fs) b\/1<=Fs id b) ad r.fL.cells):=by
 rcases m.roots id _ h with ⟨h1,h2,h3⟩| ⟨b,cap,arr,ty,F',h1,h2,h3,h4,h5,h6⟩
 ·simp only[Cx.env] at h1
  refine ⟨none,0,by rw[h1,h2];rfl,by omega,fun b hb=>(by cases hb),fun _=>⟨h2,rfl,rfl⟩,fun hn=>absurd h2 hn⟩
 ·simp only[Cx.env] at h1 h2
  refine ⟨some ⟨b,0,none⟩,cap,by rw[h1];rfl,h3,fun b' hb=>(by cases hb;exact ⟨b,cap,h1,rfl,rfl⟩),fun hn=>(by rw[h1] at hn;cases hn),fun _=>⟨_,rfl,.inr (by show 1<=Fs id b;rw[h6];simp),arr.toList,fun j hj=> ?_,?_⟩⟩
  ·rw[ef,bO h2];simp
  ·rw[y8]
   exact h5.fL (fun b hb=> .inl hb) (fun b' hb=> .inr (by rw[h6];simp;omega))
theorem nV (m:iM C S.hp S.nx w ρ Fs) {x:LV} {r:Row} {rc:List Nat} (he:ib S.hp x=some (r,rc)) {v:Value} (hv:eS (C.env w ρ S.hp S.nx Fs) x v):fw w (fun b=>C.ZL w (ar S.nx Fs) b\/ ∃id∈rc,1<=Fs id b) r v:=by
 unfold ib at he
 split at he
 ·rename_i p r'
  cases he
  obtain ⟨A,cap,h1,h2,h3⟩:=hv
  refine ⟨A,cap,h1,h2,fun hn=> ?_⟩
  obtain ⟨ad,e,h0,vs,h4,h5⟩:=h3 hn
  have hz: ∀b,(if p then (C.env w ρ S.hp S.nx Fs).Zf else (C.env w ρ S.hp S.nx Fs).ZL) b->C.ZL w (ar S.nx Fs) b:=fun b hb=>by
   cases p
   ·exact hb
   ·exact .inr hb
  exact ⟨ad,e,.inl (hz _ h0),vs,h4,h5.mono (fun b hb=>⟨.inl (hz b hb),rfl⟩) (fun b _=>rfl)⟩
 ·rename_i id
  split at he
  ·rename_i e ver r' ao
   cases he
   obtain ⟨gr,hx⟩:=hv
   obtain ⟨Xd,e1,e2⟩:=hx _ ao
   cases e1
   obtain ⟨A,cap,k1,k2,_,_,k3⟩:=IL m ao
   refine ⟨A,cap,by rw[e2,kz];exact k1,by rw[kz];exact k2,fun hn=> ?_⟩
   rw[kz] at hn
   obtain ⟨ad,e,g0,vs,g1,g2⟩:=k3 hn
   have hz: ∀b,(C.ZL w (ar S.nx Fs) b\/1<=Fs id b)->C.ZL w (ar S.nx Fs) b\/ ∃i∈[id],1<=Fs i b:=fun b hb=>hb.imp (fun h=>h) (fun h=>⟨id,by simp,h⟩)
   exact ⟨ad,e,hz _ g0,vs,g1,g2.mono (fun b hb=>⟨hz b hb,rfl⟩) (fun b _=>rfl)⟩
  ·cases he
 ·rename_i id lo hi
  split at he
  ·rename_i e ver r' ao
   cases he
   obtain ⟨gr,hx⟩:=hv
   obtain ⟨Xd,e1,l1,l2,e2⟩:=hx _ ao
   cases e1
   obtain ⟨A,cap,k1,k2,kA,kn,k3⟩:=IL m ao
   have:=wb (w:=w) (Z:=fun b=>C.ZL w (ar S.nx Fs) b\/ ∃i∈[id],1<=Fs i b) (r:=r'.fL) (A:=A) (cap:=cap) (by rw[kz];exact k2) (fun hn=>by
    rw[kz] at hn
    obtain ⟨ad,e,g0,vs,g1,g2⟩:=k3 hn
    have hz: ∀b,(C.ZL w (ar S.nx Fs) b\/1<=Fs id b)->C.ZL w (ar S.nx Fs) b\/ ∃i∈[id],1<=Fs i b:=fun b hb=>hb.imp (fun h=>h) (fun h=>⟨id,by simp,h⟩)
    exact ⟨ad,e,hz _ g0,vs,g1,g2.mono (fun b hb=>⟨hz b hb,rfl⟩) (fun b _=>rfl)⟩) lo hi l1 (by rw[kz];exact l2)
   rw[e2]
   simp only[Cx.env]
   cases hρ:ρ id with
   |none=>
    obtain ⟨z1,z2,z3⟩:=kn hρ
    have:lo=0:=by omega
    have:hi=0:=by omega
    subst lo hi z2 z3
    simpa[lD] using this
   |some q=>
    obtain ⟨b,pF⟩:=q
    rw[hρ] at k1
    simp only[hdr,Value.slice.injEq] at k1
    obtain ⟨rfl,_,rfl⟩:=k1
    simp only[lD]
    rw[Ij] at this
    have e3:(if pF=lo then some (⟨b,0,none⟩:Addr) else (some (⟨b,0,none⟩:Addr)).map (·.add (lo*r'.size)))=some (if pF=lo then ⟨b,0,none⟩ else ⟨b,lo*r'.size,none⟩):=by
     split
     ·rfl
     ·simp[ef]
    rw[e3] at this
    exact this
  ·cases he
 ·rename_i id ver i f
  have fin: ∀e r',S.hp id=some (.row e ver r')->r'.deep=true->r= .ints .i64 (eB r' i f)->rc=[id]->fw w (fun b=>C.ZL w (ar S.nx Fs) b\/ ∃id∈rc,1<=Fs id b) r v:=fun e r' ao _ hr SY=>by
   subst hr SY
   obtain ⟨gr,hx⟩:=hv
   obtain ⟨_,_,Ig⟩:=hx _ ao
   obtain ⟨k1,k2,k4⟩:=Ig e r' rfl
   obtain ⟨F1,ow,jz,hle⟩:=ri m ao k1 k2 k4
   have jz:fv w (fun b=>C.ZL w (ar S.nx Fs) b\/ ∃i∈[id],1<=Fs i b) (.sl false (eB r' i f)) v fz:=jz.fL (fun b hb=> .inl hb) (fun b hb=> .inr ⟨id,by simp,Nat.le_trans hb (hle b)⟩)
   obtain ⟨_,A,cap,h1,h2,h3⟩:=jz
   refine ⟨A,cap,h1,h2,fun hn=> ?_⟩
   obtain ⟨ad,e1,e2,e3⟩:=h3 (by intro h;rw[h] at hn;exact hn rfl)
   refine ⟨ad,e1,e2,(eB r' i f).map (fun n=>Value.int .i64 n),fun j hj=> ?_,o0 _⟩
   simp only[Row.cells,List.length_map] at hj
   rw[e3 j _ (List.getElem?_eq_getElem hj)]
   simp[hj]
  split at he
  ·rename_i e v' o l ao
   obtain ⟨h1,h2⟩:=ak he
   have:=eq_of_beq h1
   subst this
   cases h2
   exact fin _ _ ao rfl rfl rfl
  ·rename_i e v' sg o l ao
   obtain ⟨h1,h2⟩:=ak he
   have:=eq_of_beq h1
   subst this
   cases h2
   exact fin _ _ ao rfl rfl rfl
  ·cases he
 ·cases he
theorem IM (m:iM C S.hp S.nx w ρ Fs) {x:LV} {k:Nat} {rl rc:List Nat} (he:lenOf S.hp x=some (k,rl,rc)) {v:Value} (hv:eS (C.env w ρ S.hp S.nx Fs) x v): ∃A cap,v= .slice A k cap:=by
 unfold lenOf at he
 split at he
 ·cases he;exact ⟨_,_,hv⟩
 ·cases he;obtain ⟨A,cap,h,_⟩:=hv;exact ⟨A,cap,h⟩
 ·rename_i id
  split at he
  ·rename_i r hr
   cases he
   obtain ⟨root,h1,h2⟩:=qb hr
   obtain ⟨_,hx⟩:=hv
   obtain ⟨r',e1,e2⟩:=hx _ h1
   rw[h2] at e1;cases e1
   rw[e2]
   simp only[Cx.env]
   cases hρ:ρ id with
   |none=>
    rcases Nat.eq_zero_or_pos r.len with h0|h0
    ·rw[h0];exact ⟨_,_,rfl⟩
    ·obtain ⟨b,cap,k1,_⟩:=ld m h1 h2 h0
     rw[hρ] at k1;cases k1
   |some q=>exact ⟨_,_,rfl⟩
  ·cases he
 ·rename_i id lo hi
  split at he
  ·rename_i r hr
   cases he
   obtain ⟨root,h1,h2⟩:=qb hr
   obtain ⟨_,hx⟩:=hv
   obtain ⟨r',e1,l1,l2,e2⟩:=hx _ h1
   rw[h2] at e1;cases e1
   rw[e2]
   simp only[Cx.env]
   cases hρ:ρ id with
   |none=>
    rcases Nat.eq_zero_or_pos r.len with h0|h0
    ·have:hi-lo=0:=by omega
     rw[this];exact ⟨_,_,rfl⟩
    ·obtain ⟨b,cap,k1,_⟩:=ld m h1 h2 h0
     rw[hρ] at k1;cases k1
   |some q=>exact ⟨_,_,rfl⟩
  ·cases he
 ·rename_i id ver i f
  have he':lenOf S.hp (.inner id ver i f)=some (k,rl,rc):=he
  obtain ⟨root,e,r,h1,h2,h3⟩:=EG he'
  subst h2
  obtain ⟨_,hx⟩:=hv
  obtain ⟨_,_,Ig⟩:=hx _ h1
  obtain ⟨k1,k2,k4⟩:=Ig e r rfl
  obtain ⟨F1,ow,jz,hle⟩:=ri m h1 k1 k2 k4
  obtain ⟨A,cap,h,_⟩:=Cs jz
  exact ⟨A,cap,by rw[h3];exact h⟩
 ·cases he
theorem Dl (T:mW P tt) (h:bb C S a w ρ Fs) {o:Oper} {t:Nat} {x ix:Operand} (ho:o.op= .index t x ix) {E:iy} (he:uR (R:=iy) tt n t (St.rd C.N S.sl x) (St.rd C.N S.sl ix) some=some E): ∃u,Out P C S o E a w w ρ Fs u:=by
 unfold uR at he
 split at he
 ·rename_i s hx
  split at he
  ·rename_i sz bs hq
   obtain ⟨k,i,QO,he⟩:=lT he
   obtain ⟨hc,he⟩:=fp he
   obtain ⟨h0,h1⟩:=aE hc
   have h0:=of_decide_eq_true h0
   have h1:=of_decide_eq_true h1
   cases he
   have hv:a.eval x= .string s:=iv h hx
   have hi:a.eval ix= .int k i:=iv h QO
   refine ⟨_,Out.pure h rfl ?_ rfl⟩
   simp only[execOp,ho]
   refine py ?_
   rw[hv,hi]
   exact Dj (T t _ hq).desc s k i h0 h1
  ·cases he
 ·cases he
theorem IN (T:mW P tt) {t:Nat} (h:dT tt t=true):(P.underlying t).isSome=true:=by
 obtain ⟨d,h1,_⟩:=ni T h
 rw[h1];rfl
theorem Qo (l:List Int):l.foldl (fun r n=>r.push (UInt8.ofNat n.toNat)) ByteArray.empty=strOf l:=by
 have: ∀(l:List Int) (s:ByteArray),l.foldl (fun r n=>r.push (UInt8.ofNat n.toNat)) s=⟨s.data++(l.map fun n=>UInt8.ofNat n.toNat).toArray⟩:=by
  intro l
  induction l with
  |nil=>intro s;simp
  |cons x l ih=>
   intro s
   rw[List.foldl_cons,ih]
   congr 1
   show (s.data.push _)++_=_
   apply Array.ext'
   simp
 rw[this l ByteArray.empty]
 unfold strOf
 congr 1
 apply Array.ext'
 simp
theorem AD (T:mW P tt) (h:bb C S a w ρ Fs) {o:Oper} {src dst:Nat} {x:Operand} (ho:o.op= .convert src dst x) {E:iy} (he:ln (R:=iy) tt S.hp n src dst (St.rd C.N S.sl x) some=some E): ∃u,Out P C S o E a w w ρ Fs u:=by
 unfold ln at he
 obtain ⟨hs,he⟩:=ak he
 have SZ:=IN T hs
 have fin: ∀u,(convert src dst (a.eval x)).run P w= .ok u w->(execOp a.eval o).run P w= .ok (.value u) w:=fun u hu=>by
  simp only[execOp,ho];exact py hu
 split at he
 ·rename_i k n' hx
  have hv:a.eval x= .int k n':=iv h hx
  split at he
  ·rename_i k' sz bs hq
   cases he
   have hd:P.underlying dst=some (.int k'):=(T dst _ hq).desc
   refine ⟨_,Out.pure h rfl (fin _ ?_) rfl⟩
   rw[hv]
   have hk:P.intKind dst=k':=by simp[Program.intKind,hd]
   have:=run_convert_int (P:=P) w src dst k n' SZ (by rw[hk];exact hd)
   rw[this,hk]
  ·cases he
 ·rename_i s hx
  have hv:a.eval x= .string s:=iv h hx
  split at he
  ·rename_i sz bs hq
   cases he
   have hd:P.underlying dst=some .string:=(T dst _ hq).desc
   obtain ⟨d,hd'⟩:=Option.isSome_iff_exists.mp SZ
   refine ⟨_,Out.pure h rfl (fin _ ?_) rfl⟩
   rw[hv]
   simp[convert,run_underlying hd',run_underlying hd]
  ·cases he
 ·rename_i x' _ _ hx
  split at he
  ·rename_i sz bs l rc hq ES
   split at he
   ·rename_i sz' Vq hb
    cases he
    obtain ⟨e,WK,Em⟩:=Option.bind_eq_some_iff.1 hb
    have hd:P.underlying dst=some .string:=(T dst _ hq).desc
    have xh:=lc T WK
    have oF:P.underlying e=some (.int .u8):=(T e _ Em).desc
    obtain ⟨A,cap,k1,k2,k3⟩:=nV h.mem ES (iv h hx)
    refine ⟨_,Out.pure h rfl (fin (.string (strOf l)) ?_) rfl⟩
    rw[k1,run_convert_bytes_string w src dst e A _ cap xh oF hd]
    simp only[Row.len] at k3 ⊢
    rcases Nat.eq_zero_or_pos l.length with h0|h0
    ·have ZE:l=[]:=List.eq_nil_of_length_eq_zero h0
     subst ZE
     cases A with
     |none=>rfl
     |some ad=>
      have:=run_bytesToString (P:=P) w ad 0 cap [] (run_loadCells_list w ad [] (fun j v hj=>by simp at hj))
      exact this
    ·obtain ⟨ad,rfl,hz,vs,g1,g2⟩:=k3 (by omega)
     have jz: ∀(j:Nat) (v:Value),(l.map (Value.int .u8))[j]? =some v->w.cell? (ad.add j)=some v:=fun j v hj=>by
      rw[List.getElem?_map] at hj
      cases Ax:l[j]? with
      |none=>rw[Ax] at hj;cases hj
      |some z=>
       rw[Ax] at hj
       have EO:j<l.length:=(List.getElem?_eq_some_iff.1 Ax).1
       obtain ⟨v',F1,F2,q1,q2,_⟩:=g2.get (j:=j) (c:= .sc (.int .u8 z)) (by simp[Row.cells,Ax])
       rw[g1 j (by simpa[Row.cells] using EO),q1]
       obtain ⟨rfl,_⟩:=q2
       exact hj
     have:=run_bytesToString (P:=P) w ad l.length cap l (by
      have:=run_loadCells_list (P:=P) w ad (l.map (Value.int .u8)) jz
      simpa using this)
     rw[this,Qo]
   ·cases he
  ·cases he
 ·cases he
end
section
variable {P:Program} {tt:TT} {C:Cx} {S:St} {a:Act} {w:World} {ρ:Place} {Fs:Nat->FP} {n:Nat}
theorem xZ {hp:Nat->Option aw} {id:Nat} (h:(kE hp id).isSome=true): ∃root r,hp id=some root/\root.row? =some r:=by
 obtain ⟨r,hr⟩:=Option.isSome_iff_exists.1 h
 obtain ⟨root,h1,h2⟩:=qb hr
 exact ⟨root,r,h1,h2⟩
theorem GC (q:Option (Nat×Nat)) (n:Nat):(hdr q n).oneCell' =true:=by cases q<;>rfl
theorem KD (q:Option (Nat×Nat)) (s lo hi:Nat):(lD q s lo hi).oneCell' =true:=by cases q<;>rfl
theorem oT {v:Value} (h:v.oneCell' =true):v.cells= #[v]:=by cases v<;>first|rfl|cases h
theorem x_ (m:iM C S.hp S.nx w ρ Fs) {x:LV} (hs:storable S.hp x=true) {v:Value} (hv:eS (C.env w ρ S.hp S.nx Fs) x v):v.oneCell' =true:=by
 cases x with
 |any=>cases hs
 |undef=>cases hs
 |i k n=>rw[hv];rfl
 |b x=>rw[hv];rfl
 |s x=>rw[hv];rfl
 |nil=>rw[hv];rfl
 |val p r=>obtain ⟨A,cap,h,_⟩:=hv;rw[h];rfl
 |own id=>
  obtain ⟨root,r,h1,h2⟩:=xZ hs
  obtain ⟨_,hx⟩:=hv
  obtain ⟨r',_,e⟩:=hx _ h1
  rw[e];exact GC _ _
 |sub id lo hi=>
  obtain ⟨root,r,h1,h2⟩:=xZ hs
  obtain ⟨_,hx⟩:=hv
  obtain ⟨r',_,_,_,e⟩:=hx _ h1
  rw[e];exact KD _ _ _ _
 |inner id ver i f=>
  obtain ⟨_,hx⟩:=hv
  simp only[storable] at hs
  split at hs
  ·rename_i e v' r ao
   have:=eq_of_beq hs
   subst this
   obtain ⟨_,_,Ig⟩:=hx _ ao
   obtain ⟨k1,k2,k4⟩:=Ig e r rfl
   obtain ⟨F1,ow,jz,hle⟩:=ri m ao k1 k2 k4
   obtain ⟨A,cap,h,_⟩:=Cs jz
   rw[h];rfl
  ·cases hs
 |fP id k=>obtain ⟨_,_,b,cap,_,h⟩:=hv;rw[h];rfl
 |arr id k=>
  obtain ⟨root,r,h1,h2⟩:=xZ hs
  obtain ⟨_,hx⟩:=hv
  obtain ⟨r',_,_,b,cap,_,e⟩:=hx _ h1
  rw[e];rfl
 |q_ id i f=>
  obtain ⟨root,r,h1,h2⟩:=xZ hs
  obtain ⟨_,hx⟩:=hv
  obtain ⟨r',_,_,b,cap,_,e⟩:=hx _ h1
  rw[e];rfl
 |Gb p r i f=>obtain ⟨_,ad,h,_⟩:=hv;rw[h];rfl
 |zd id ver i f j=>
  obtain ⟨_,hx⟩:=hv
  simp only[storable] at hs
  split at hs
  ·rename_i e v' r ao
   have:=eq_of_beq hs
   subst this
   obtain ⟨_,_,Ig⟩:=hx _ ao
   obtain ⟨_,_,_,A,_,_,_,h⟩:=Ig e r rfl
   rw[h];rfl
  ·cases hs
 |er b=>cases b<;>first| (obtain ⟨t,x,h⟩:=hv;rw[h];rfl)| (rw[hv];rfl)
 |fn f=>rw[hv];rfl
theorem bj.mem {E:Env}: ∀ {xs:List LV} {vs:List Value},bj E xs vs-> ∀u∈vs,∃x∈xs,eS E x u
 | [],[],_,u,hu=>by cases hu
 |x::xs,v::vs,h,u,hu=>by
  rcases List.mem_cons.1 hu with rfl|hu
  ·exact ⟨x,by simp,h.1⟩
  ·obtain ⟨y,h1,h2⟩:=bj.mem h.2 u hu
   exact ⟨y,by simp[h1],h2⟩
theorem pD (m:iM C S.hp S.nx w ρ Fs) {x:AV} {xs:List LV} (he:nf S.hp x=some xs) {v:Value} (hv:gy (C.env w ρ S.hp S.nx Fs) x v):bj (C.env w ρ S.hp S.nx Fs) xs v.cells.toList/\ ∀u∈v.cells.toList,u.oneCell' =true:=by
 unfold nf at he
 split at he
 ·obtain ⟨h1,h2⟩:=ak he
  cases h2
  have ho:=x_ m h1 hv
  rw[oT ho]
  exact ⟨⟨hv,trivial⟩,fun u hu=>by simp at hu;subst hu;exact ho⟩
 ·obtain ⟨h1,h2⟩:=ak he
  cases h2
  obtain ⟨vs,rfl,hr⟩:=hv
  refine ⟨hr,fun u hu=> ?_⟩
  obtain ⟨y,k1,k2⟩:=hr.mem u hu
  exact x_ m (List.all_eq_true.1 h1 y k1) k2
 ·cases he
theorem Cu (E:Env) (tt:TT) (t:Nat):eS E (ol tt t) (zeroV tt t):=by
 unfold ol zeroV
 cases tt t with
 |none=>trivial
 |some e=>
  obtain ⟨k,sz,bs⟩:=e
  cases k<;>first|rfl|trivial
theorem zm (E:Env) (tt:TT): ∀l:List Nat,bj E (l.map (ol tt)) (l.map (zeroV tt))
 | []=>trivial
 |t::l=>⟨Cu E tt t,zm E tt l⟩
theorem mr (T:mW P tt) {t:Nat} {e:TE} (h:tt t=some e) (hk: ∀n x,e.k≠ .array n x): ∃i z,P.info? t=some i/\i.zero=some z/\z.cells.toList=(aK tt depth t).map (zeroV tt)/\i.size=e.size/\i.bytes=e.bytes/\e.size=(aK tt depth t).length:=by
 obtain ⟨i,h1,h2,h3,z,h4,h5⟩:=(T t e h).Cn
 refine ⟨i,z,h1,h4,?_,h2,h3,(T t e h).cells hk⟩
 obtain ⟨k,sz,bs⟩:=e
 cases k<;>first|exact h5|exact absurd rfl (hk _ _)
theorem iw {t:Nat} (h:dT tt t=true):aK tt depth t=[t]:=by
 unfold dT at h
 show aK tt (5+1) t=[t]
 unfold aK
 split at h<;>first|cases h|skip
 all_goals (rename_i hq;rw[hq])
theorem bb.Qp (h:bb C S a w ρ Fs) (hg:S.hp n=some .eW) (t:Nat) (cells:List LV) (vs:Array Value) (ty:TypeId) (hc:bj (C.env w ρ S.hp S.nx Fs) cells vs.toList):
 bb C ⟨S.sl,fV S.hp [(n,some (.box t cells))],S.nx⟩ a (w.alloc (.cells vs ty)) (iQ ρ n (some (w.heap.size,1))) (gC (dX Fs []) n (f1 w.heap.size)):=by
 have:=h.make hg [] (by simp) (by simp) (.box t cells) (some (w.heap.size,1)) (f1 w.heap.size) (w.alloc (.cells vs ty)) (by rw[pz];omega) rfl rfl rfl (fun b hb _=>xR w _ hb) (fun b=>by
  rw[pz,zU];simp[dH];split<;>split<;>omega) (fun M=>⟨w.heap.size,1,vs,ty,fi ..,xS w _,hc.mono M,rfl⟩)
 exact this
theorem vw {t:TypeId} {i:TypeInfo} {z:Value} (hi:P.info? t=some i) (hz:i.zero=some z) (w:World):(Instr.alloc t true (.tuple #[])).run P w= .ok (.pointer (some ⟨w.heap.size,0,none⟩)) (w.alloc (.cells z.cells t)):=by
 simp[Instr.alloc,zeroValue,typeInfo,hi,hz,newVar,newRow]
theorem IP (t:TypeId) (v:Value) (w:World):(Instr.box t v).run P w= .ok (.pointer (some ⟨w.heap.size,0,none⟩)) (w.alloc (.cells v.cells t)):=by
 simp[Instr.box,newVar,newRow]
theorem IQ (T:mW P tt) (h:bb C S a w ρ Fs) {o:Oper} {t:Nat} {x:Operand} (ho:o.op= .box t x) {E:iy} (he:tV (R:=iy) tt S.hp n t (St.rd C.N S.sl x) some=some E) (hg:S.hp n=some .eW): ∃w' ρ' Fs' u,Out P C S o E a w w' ρ' Fs' u:=by
 unfold tV at he
 split at he
 ·cases he
 ·split at he
  ·rename_i xs A5
   cases he
   obtain ⟨h1,h2⟩:=pD h.mem A5 (h.rd x)
   refine ⟨_,_,_,.pointer (some ⟨w.heap.size,0,none⟩),.inl ?_,bb.Qp h hg t xs (a.eval x).cells t h1,?_⟩
   ·simp only[execOp,ho];exact py (IP t _ w)
   ·exact ⟨dA h.mem hg,fun root hr=>by simp[Cx.env,fV] at hr;subst hr;trivial,w.heap.size,1,fi ..,rfl⟩
  ·cases he
 ·cases he
def Zu (C:Cx) (w:World) (nx:Nat) (Fs:Nat->FP) (ks:List Nat) (F:FP):Zs:=fun b=>C.ZL w (ar nx Fs) b\/(1<=dH Fs ks b/\F b=0)
theorem bb.newRow (h:bb C S a w ρ Fs) (hg:S.hp n=some .eW) (ks:List Nat) (u_:ks.Nodup) (lC: ∀k∈ks,∃r,S.hp k=some r/\r.real) (e:Nat) (r:Row) (arr:Array Value) (ty:TypeId) (cap:Nat) (F:FP)
 (hc:aj w (Zu C w S.nx Fs ks F) r.cells arr.toList F) (hF: ∀b,F b<=dH Fs ks b) (h1:r.len<=cap) (h2:cap*r.size<=arr.size) (w':World) (hw:w'.heap=w.heap.push (.cells arr ty (0,0))) (Nx:w'.os=w.os) (Ny:w'.tape=w.tape) (zk:w'.output=w.output):
 bb C ⟨S.sl,fV S.hp (dJ ks++[(n,some (.row e 0 r))]),S.nx⟩ a w' (iQ ρ n (some (w.heap.size,cap))) (gC (dX Fs ks) n (dh (f1 w.heap.size) F)):=by
 have gr: ∀b,b<w.heap.size->w'.heap[b]? =w.heap[b]? :=fun b hb=>by rw[hw,Array.getElem?_push,if_neg (Nat.ne_of_lt hb)]
 have mL:w'.heap.size=w.heap.size+1:=by rw[hw,Array.size_push]
 have hk: ∀k∈ks,k<S.nx:=fun k h'=>by
  obtain ⟨r,k1,_⟩:=lC k h'
  exact dA h.mem k1
 have own: ∀b,1<=dH Fs ks b->b<w.heap.size/\(C.w0.heap.size<=b\/1<=C.F0 b):=fun b hb=>h.mem.qw b (Nat.le_trans hb (lj Fs b S.nx u_ hk))
 refine h.make hg ks u_ lC (.row e 0 r) (some (w.heap.size,cap)) _ w' (by omega) Nx Ny zk (fun b hb _=>gr b hb) (fun b=> ?_) (fun M=> ?_)
 ·have:=hF b
  by_cases e:b=w.heap.size
  ·subst e
   have:F w.heap.size=0:=by
    rcases Nat.eq_zero_or_pos (F w.heap.size) with h0|h0
    ·exact h0
    ·have:=(own _ (Nat.le_trans h0 (hF _))).1;omega
   rw[if_pos (by omega)]
   simp;omega
  ·simp[zU,e];omega
 ·refine .inr ⟨w.heap.size,cap,arr,ty,F,fi ..,?_,h1,h2,hc.mono (fun b hb=> ?_) (fun b hb=>gr b (own b (Nat.le_trans hb (hF b))).1),rfl⟩
  ·show w'.heap[w.heap.size]? =_
   rw[hw,Array.getElem?_push,if_pos rfl]
  ·rcases hb with hb| ⟨sG,AK⟩
   ·exact M.zl b hb
   ·obtain ⟨o1,o2⟩:=own b sG
    refine ⟨.inr (.inr ⟨o2,by show b<w'.heap.size;omega,?_⟩),gr b o1⟩
    have g1:=fN (dX Fs ks) (dh (f1 w.heap.size) F) b (dA h.mem hg)
    have g2:=ll Fs b S.nx ks u_ hk
    have g3:=h.mem.one b
    have g4:f1 w.heap.size b=0:=by rw[zU,if_neg (by omega)]
    have g5:=j9 (dX Fs ks) b (dA h.mem hg)
    simp[g4] at g1
    omega
theorem aj.J8 {w:World} {Z:Zs}: ∀ {cs:List Cell} {vs:List Value},(∀(j:Nat) (c:Cell),cs[j]? =some c-> ∃v,vs[j]? =some v/\fv w Z c v fz)->aj w Z cs vs fz
 | [],_,_=>rfl
 |c::cs,[],h=>by obtain ⟨v,hv,_⟩:=h 0 c rfl;cases hv
 |c::cs,v::vs,h=>by
  obtain ⟨v',hv,hr⟩:=h 0 c rfl
  cases hv
  exact ⟨fz,fz,hr,aj.J8 (fun j c hc=>by simpa using h (j+1) c (by simpa using hc)),(cp _).symm⟩
theorem nZ {e:Nat} {r:Row} (T:mW P tt) (h:di tt e=some r): ∃te,tt e=some te/\te.size=r.size/\(∀n x,te.k≠ .array n x)/\0<te.size:=by
 unfold di at h
 split at h
 all_goals try (cases h;done)
 ·rename_i k sz bs hq
  cases h
  refine ⟨_,hq,?_,by simp,(T e _ hq).some.1⟩
  have:=(T e _ hq).cells (by simp)
  rw[iw (by simp[dT,hq])] at this
  simpa[Row.size] using this
 ·rename_i sz bs hq
  cases h
  refine ⟨_,hq,?_,by simp,(T e _ hq).some.1⟩
  have:=(T e _ hq).cells (by simp)
  rw[iw (by simp[dT,hq])] at this
  simpa[Row.size] using this
 ·rename_i sz bs hq
  cases h
  refine ⟨_,hq,?_,by simp,(T e _ hq).some.1⟩
  have:=(T e _ hq).cells (by simp)
  rw[iw (by simp[dT,hq])] at this
  simpa[Row.size] using this
 ·rename_i e' sz bs hq
  cases h
  refine ⟨_,hq,?_,by simp,(T e _ hq).some.1⟩
  have:=(T e _ hq).cells (by simp)
  rw[iw (by simp[dT,hq])] at this
  simpa[Row.size] using this
 ·rename_i fs sz bs hq
  obtain ⟨_,h⟩:=ak h
  cases h
  refine ⟨_,hq,?_,by simp,(T e _ hq).some.1⟩
  have:=(T e _ hq).cells (by simp)
  simpa[Row.size] using this
theorem IR (sg:List Bool) (f:Nat):gi (sg.map xL) f=0:=by
 unfold gi
 rw[List.getElem?_map]
 cases sg[f]? with
 |none=>rfl
 |some b=>cases b<;>rfl
theorem IS (sg:List Bool) (f:Nat):gl (sg.map xL) f=[]:=by
 unfold gl
 rw[List.getElem?_map]
 cases sg[f]? with
 |none=>rfl
 |some b=>cases b<;>rfl
theorem tZ (m:Nat) (r:Row):(gM m r).len=m:=by cases r<;>simp[gM,Row.len]
theorem su (m:Nat) (r:Row):(gM m r).size=r.size:=by cases r<;>rfl
theorem EH {e:Nat} {r:Row} (T:mW P tt) (h:di tt e=some r) {w:World} {Z:Zs} (m i f:Nat) (hi:i<m) (hf:f<r.size): ∃c v,(gM m r).cells[i*r.size+f]? =some c/\((aK tt depth e).map (zeroV tt))[f]? =some v/\fv w Z c v fz:=by
 unfold di at h
 split at h
 all_goals try (cases h;done)
 ·rename_i k sz bs hq
  cases h
  have:f=0:=by simp[Row.size] at hf;exact hf
  subst this
  rw[iw (by simp[dT,hq])]
  exact ⟨.sc (.int k 0),.int k 0,by simp[gM,Row.cells,Row.size,hi],by simp[zeroV,hq],rfl,rfl⟩
 ·rename_i sz bs hq
  cases h
  have:f=0:=by simp[Row.size] at hf;exact hf
  subst this
  rw[iw (by simp[dT,hq])]
  exact ⟨.sc (.bool false),.bool false,by simp[gM,Row.cells,Row.size,hi],by simp[zeroV,hq],rfl,rfl⟩
 ·rename_i sz bs hq
  cases h
  have:f=0:=by simp[Row.size] at hf;exact hf
  subst this
  rw[iw (by simp[dT,hq])]
  exact ⟨.sc (.string ByteArray.empty),.string ByteArray.empty,by simp[gM,Row.cells,Row.size,hi],by simp[zeroV,hq],rfl,rfl⟩
 ·rename_i e' sz bs hq
  cases h
  have:f=0:=by simp[Row.size] at hf;exact hf
  subst this
  rw[iw (by simp[dT,hq])]
  exact ⟨.sl true [],.slice none 0 0,by simp[gM,Row.cells,Row.size,hi],by simp[zeroV,hq],.inl ⟨rfl,rfl,rfl⟩⟩
 ·rename_i fs sz bs hq
  obtain ⟨sV,h⟩:=ak h
  cases h
  simp only[Row.size,List.length_map] at hf
  have Wm:((aK tt depth e).map (zeroV tt))[f]? =some (zeroV tt (aK tt depth e)[f]):=by simp[hf]
  have AA:=List.all_eq_true.1 sV _ (List.getElem_mem hf)
  simp only[gM]
  have Nz:=qV ((aK tt depth e).map (zh tt)) true (List.replicate m (((aK tt depth e).map (zh tt)).map xL)) i f (by simpa using hf)
  simp only[Row.size] at Nz ⊢
  rw[Nz,Wm]
  simp only[List.getElem?_replicate,hi,if_true,Option.bind_some,IR,IS,List.getElem?_map,List.getElem?_eq_getElem hf,Option.map_some]
  refine ⟨_,_,rfl,rfl,?_⟩
  generalize (aK tt depth e)[f] =t at AA
  unfold tU at AA
  split at AA
  ·rename_i e' sz' Vq Xg
   simp only[zh,Xg,if_true,zeroV]
   exact .inl ⟨rfl,rfl,rfl⟩
  ·rename_i k sz' Vq Xg
   have:=of_decide_eq_true AA
   subst this
   simp only[zh,Xg,zeroV]
   exact ⟨rfl,rfl⟩
  ·cases AA
theorem Qq (z:Array Value) (m j:Nat) (hj:j<m) (hz:0<z.size):(madeCells z m).toList[j]? =z.toList[j%z.size]? :=by
 have hm:j%z.size<z.size:=Nat.mod_lt _ hz
 simp[madeCells,hj,hm,getElem!_pos]
theorem Qr {e:Nat} {r:Row} (T:mW P tt) (h:di tt e=some r) {w:World} {Z:Zs} (z:Array Value) (hz:z.toList=(aK tt depth e).map (zeroV tt)) (hs:z.size=r.size) (hp:0<r.size) (m:Nat):aj w Z (gM m r).cells (madeCells z (m*r.size)).toList fz:=by
 refine aj.J8 fun j c hc=> ?_
 have hj:j<m*r.size:=by
  have:=(List.getElem?_eq_some_iff.1 hc).1
  rwa [Row.eG,tZ,su] at this
 have hi:j/r.size<m:=(Nat.div_lt_iff_lt_mul hp).2 hj
 have hf:j%r.size<r.size:=Nat.mod_lt _ hp
 obtain ⟨c',v,h1,h2,h3⟩:=EH T h (w:=w) (Z:=Z) m _ _ hi hf
 rw[Nat.mul_comm,Nat.div_add_mod] at h1
 rw[hc] at h1;cases h1
 exact ⟨v,by rw[Qq z _ _ hj (by omega),hs,hz];exact h2,h3⟩
theorem LJ {C:Cx} {w':World} {ρ':Place} {hp':Nat->Option aw} {nx:Nat} {Fs':Nat->FP} {id b cap:Nat} (gr:id<nx) (hρ:ρ' id=some (b,cap)) {e v:Nat} {r:Row} (ao:hp' id=some (.row e v r)):gy (C.env w' ρ' hp' nx Fs') (.l (.own id)) (.slice (some ⟨b,0,none⟩) r.len cap):=
 ⟨gr,fun root hr=>by
  simp only[Cx.env] at hr ⊢
  rw[ao] at hr;cases hr
  exact ⟨r,rfl,by rw[hρ];rfl⟩⟩
theorem ya (T:mW P tt) (h:bb C S a w ρ Fs) {o:Oper} {t:Nat} {l c:Operand} (ho:o.op= .makeSlice t l c) {E:iy} (he:kj (R:=iy) tt n t l c (St.rd C.N S.sl l) some=some E) (hg:S.hp n=some .eW): ∃w' ρ' Fs' u,Out P C S o E a w w' ρ' Fs' u:=by
 unfold kj at he
 obtain ⟨rn,he⟩:=ak he
 split at he
 ·rename_i e oF
  split at he
  ·rename_i r hr
   obtain ⟨k,m,hl,he⟩:=lT he
   obtain ⟨hc,he⟩:=fp he
   obtain ⟨h0,h1⟩:=aE hc
   have h0:=of_decide_eq_true h0
   have h1:=of_decide_eq_true h1
   cases he
   have hv:a.eval l= .int k m:=iv h hl
   have KZ: ∃k',a.eval c= .int k' m:=by
    cases l with
    |tmp x=>cases c with
     |tmp y=>simp only[tW] at rn;have:=eq_of_beq rn;subst this;exact ⟨k,hv⟩
     |_=>cases rn
    |const x=>cases x with
     |int k1 a1=>cases c with
      |const y=>cases y with
       |int k2 a2=>
        simp only[tW] at rn
        have:=eq_of_beq rn
        subst this
        have Az:Value.int k1 a1= .int k m:=hv
        cases Az
        exact ⟨k2,rfl⟩
       |_=>cases rn
      |_=>cases rn
     |_=>cases c<;>cases rn
    |_=>cases c<;>cases rn
   obtain ⟨k',KZ⟩:=KZ
   obtain ⟨te,q1,q2,q3,q4⟩:=nZ T hr
   obtain ⟨i,z,z1,z2,z3,z4,z5,z6⟩:=mr T q1 q3
   have hb:bytesOf tt e=i.bytes:=by simp[bytesOf,q1,z5]
   have S0:z.cells.size=r.size:=by
    have:=congrArg List.length z3
    simp only[Array.length_toList,List.length_map] at this
    omega
   rw[hb] at h1
   have VA:0<i.bytes:=by rw[z5];exact (T e te q1).some.2
   have hm:m.toNat<=room:=Nat.le_trans (Nat.le_mul_of_pos_right _ VA) h1
   simp only[room] at hm h1
   have lU:=run_make (P:=P) w t e i z (lc T oF) z1 z2 k k' m m h0 (Int.le_refl _) (by
    have:((i.bytes*m.toNat:Nat):Int)<=281474976710656:=by rw[Nat.mul_comm];omega
    rw[Int.natCast_mul] at this
    rwa [Int.toNat_of_nonneg h0] at this) (by omega)
   have hlen:(gM m.toNat r).len=m.toNat:=tZ _ _
   have mL:(gM m.toNat r).size=r.size:=su _ _
   refine ⟨_,_,_,.slice (some ⟨w.heap.size,0,none⟩) m.toNat m.toNat,.inl ?_,bb.newRow h hg [] (by simp) (by simp) e (gM m.toNat r) (madeCells z.cells (m.toNat*i.size)) e m.toNat fz ?_ (by simp) (by rw[hlen];exact Nat.le_refl _) (by rw[mL,size_madeCells];rw[z4,q2];exact Nat.le_refl _) (w.alloc (.cells (madeCells z.cells (m.toNat*i.size)) e)) rfl rfl rfl rfl,?_⟩
   ·simp only[execOp,ho]
    refine py ?_
    rw[hv,KZ]
    exact lU
   ·rw[z4,q2]
    exact Qr T hr z.cells z3 S0 (by omega) _
   ·have:=LJ (C:=C) (w':=w.alloc (.cells (madeCells z.cells (m.toNat*i.size)) e)) (ρ':=iQ ρ n (some (w.heap.size,m.toNat))) (hp':=fV S.hp [(n,some (.row e 0 (gM m.toNat r)))]) (nx:=S.nx) (Fs':=gC (dX Fs []) n (dh (f1 w.heap.size) fz)) (dA h.mem hg) (fi ..) (e:=e) (v:=0) (r:=gM m.toNat r) (by simp[fV])
    rw[hlen] at this
    exact this
  ·cases he
 ·cases he
end
section
variable {P:Program} {tt:TT} {C:Cx} {S:St} {a:Act} {w:World} {ρ:Place} {Fs:Nat->FP} {n:Nat}
theorem Qs {C:Cx} {w':World} {ρ':Place} {hp':Nat->Option aw} {nx:Nat} {Fs':Nat->FP} {id b cap:Nat} (gr:id<nx) (hρ:ρ' id=some (b,cap)) {root:aw} (ao:hp' id=some root) (u9:root.real):gy (C.env w' ρ' hp' nx Fs') (.l (.fP id 0)) (.pointer (some ⟨b,0,none⟩)):=
 ⟨gr,fun r hr=>by simp only[Cx.env] at hr;rw[ao] at hr;cases hr;exact u9,b,cap,hρ,rfl⟩
theorem Dm (T:mW P tt) (h:bb C S a w ρ Fs) {o:Oper} {t:Nat} (ho:o.op= .alloc t) {E:iy} (he:p_ (R:=iy) tt n t some=some E) (hg:S.hp n=some .eW): ∃w' ρ' Fs' u,Out P C S o E a w w' ρ' Fs' u:=by
 have box: ∀(e:TE),tt t=some e->(∀n x,e.k≠ .array n x)-> ∃w' ρ' Fs' u,Out P C S o ⟨.l (.fP n 0),[(n,some (.box t ((aK tt depth t).map (ol tt))))],n+1,[],[]⟩ a w w' ρ' Fs' u:=fun e hq hk=>by
  obtain ⟨i,z,z1,z2,z3,z4,z5,z6⟩:=mr T hq hk
  refine ⟨_,_,_,.pointer (some ⟨w.heap.size,0,none⟩),.inl ?_,bb.Qp h hg t _ z.cells t (by rw[z3];exact zm _ tt _),Qs (root:= .box t ((aK tt depth t).map (ol tt))) (dA h.mem hg) (fi ..) (by simp[fV]) trivial⟩
  simp only[execOp,ho]
  exact py (vw z1 z2 w)
 unfold p_ at he
 split at he
 ·rename_i fs sz bs hq
  cases he
  exact box _ hq (by simp)
 ·rename_i m e sz bs hq
  split at he
  ·rename_i r hr
   obtain ⟨hc,he⟩:=ak he
   obtain ⟨hc,h3⟩:=aE hc
   obtain ⟨h1,h2⟩:=aE hc
   cases he
   obtain ⟨i,i1,i2,i3,z,z1,z2⟩:=(T t _ hq).Cn
   have h2:=eq_of_beq h2
   have QQ:z.cells.toList=List.replicate m (zeroV tt e):=z2
   obtain ⟨te,q1,q2,q3,q4⟩:=nZ T hr
   have hlf:aK tt depth e=[e]/\(∀j,j<m-> ∃c,(gM m r).cells[j]? =some c/\fv w (Zu C w S.nx Fs [] fz) c (zeroV tt e) fz):=by
    have hl:=(T e te q1).cells q3
    obtain ⟨i',z',_,_,_,_,_,y6⟩:=mr T q1 q3
    have:(aK tt depth e).length=1:=by omega
    have lP:aK tt depth e=[e]:=by
     unfold di at hr
     split at hr
     all_goals try (cases hr;done)
     all_goals first
      | (obtain ⟨_,hr⟩:=ak hr;cases hr;simp[Row.deep] at h3;done)
      | (rename_i Xg;exact iw (by simp[dT,Xg]))
    refine ⟨lP,fun j hj=> ?_⟩
    obtain ⟨c,v,k1,k2,k3⟩:=EH T hr (w:=w) (Z:=Zu C w S.nx Fs [] fz) m j 0 hj (by omega)
    rw[lP] at k2
    simp at k2
    subst k2
    rw[h2,Nat.mul_one,Nat.add_zero] at k1
    exact ⟨c,k1,k3⟩
   have hlen:(gM m r).len=m:=tZ _ _
   have mL:(gM m r).size=1:=by rw[su];exact h2
   have S0:z.cells.size=m:=by
    have:=congrArg List.length QQ
    simpa using this
   refine ⟨_,_,_,.pointer (some ⟨w.heap.size,0,none⟩),.inl ?_,bb.newRow h hg [] (by simp) (by simp) t (gM m r) z.cells t m fz ?_ (by simp) (by rw[hlen];exact Nat.le_refl _) (by rw[mL,S0];omega) (w.alloc (.cells z.cells t)) rfl rfl rfl rfl,?_⟩
   ·simp only[execOp,ho]
    exact py (vw i1 z1 w)
   ·refine aj.J8 fun j c hc=> ?_
    have hj:j<m:=by
     have:=(List.getElem?_eq_some_iff.1 hc).1
     rw[Row.eG,hlen,mL] at this
     omega
    obtain ⟨c',k1,k2⟩:=hlf.2 j hj
    rw[hc] at k1;cases k1
    exact ⟨_,by rw[QQ];simp[hj],k2⟩
   ·refine ⟨dA h.mem hg,fun root oj=> ?_⟩
    simp only[Cx.env] at oj ⊢
    have:fV S.hp [(n,some (.row t 0 (gM m r)))] n=some (.row t 0 (gM m r)):=by simp[fV]
    rw[this] at oj
    cases oj
    exact ⟨_,rfl,hlen,w.heap.size,m,fi ..,rfl⟩
  ·cases he
 ·rename_i e WD hk2 hq
  obtain ⟨hs,he⟩:=ak he
  cases he
  rw[show [ol tt t] =(aK tt depth t).map (ol tt) by rw[iw hs];rfl]
  refine box e hq fun n x hx=> ?_
  obtain ⟨k,sz,bs⟩:=e
  simp only at hx
  subst hx
  simp[dT,hq] at hs
 ·cases he
theorem IT {E:Env}: ∀(xs:List LV) (us:List Value),bj E xs us-> ∀(zs:List LV) (vs:List Value) (k:Nat),bj E zs vs->bj E (lm zs k xs) ((us.zipIdx 0).foldl (fun cs (x:Value×Nat)=>cs.set (k+x.2) x.1) vs):=by
 have gen: ∀(xs:List LV) (us:List Value) (s:Nat),bj E xs us-> ∀(zs:List LV) (vs:List Value) (k:Nat),bj E zs vs->bj E (lm zs (k+s) xs) ((us.zipIdx s).foldl (fun cs (x:Value×Nat)=>cs.set (k+x.2) x.1) vs):=by
  intro xs
  induction xs with
  |nil=>intro us s h zs vs k hz;cases us with
   |nil=>exact hz
   |cons u us=>exact absurd h id
  |cons x xs ih=>intro us s h zs vs k hz;cases us with
   |nil=>exact absurd h id
   |cons u us=>
    simp only[List.zipIdx_cons,List.foldl_cons,lm]
    refine ih us (s+1) h.2 _ _ k ?_
    have: ∀(zs:List LV) (vs:List Value) (k:Nat),bj E zs vs->bj E (zs.set k x) (vs.set k u):=by
     intro zs
     induction zs with
     |nil=>intro vs k hz;cases vs with
      |nil=>exact hz
      |cons v vs=>exact absurd hz id
     |cons z zs Uw=>intro vs k hz;cases vs with
      |nil=>exact absurd hz id
      |cons v vs=>cases k with
       |zero=>exact ⟨h.1,hz.2⟩
       |succ k=>exact ⟨hz.1,Uw vs k hz.2⟩
    exact this zs vs _ hz
 intro xs us h zs vs k hz
 exact gen xs us 0 h zs vs k hz
theorem EI (k:Nat): ∀(us:List Value) (s:Nat) (cs:Array Value),((us.zipIdx s).foldl (fun cs (x:Value×Nat)=>cs.setIfInBounds (k+x.2) x.1) cs).toList=(us.zipIdx s).foldl (fun cs (x:Value×Nat)=>cs.set (k+x.2) x.1) cs.toList
 | [],s,cs=>rfl
 |u::us,s,cs=>by
  simp only[List.zipIdx_cons,List.foldl_cons]
  rw[EI k us (s+1)]
  simp
theorem KE (T:mW P tt) (m:iM C S.hp S.nx w ρ Fs) {fs:List (Nat×Nat)} {fields:Array Field} (hf:fields.toList.map (fun f=>(f.offset,f.type))=fs) (places:List (Nat×Nat)) (QN:fields.toList.mapM (fun f=>(P.info? f.type).map fun i=>(f.offset,i.size))=some places) (env:Operand->Value) (N6: ∀x,gy (C.env w ρ S.hp S.nx Fs) (St.rd C.N S.sl x) (env x)):
 ∀(ps:List (Nat×Operand)) (zero:List LV) (zs:Array Value) (xs:List LV),bj (C.env w ρ S.hp S.nx Fs) zero zs.toList->mE tt S.hp fs zero (ps.map fun p=>(p.1,St.rd C.N S.sl p.2))=some xs->
 ∃cells,Instr.fill (places.toArray[·]?) zs (ps.map fun p=>(p.1,env p.2))=some cells/\bj (C.env w ρ S.hp S.nx Fs) xs cells.toList:=by
 have Xh: ∀(i off ft:Nat) (e:TE),fs[i]? =some (off,ft)->tt ft=some e->places.toArray[i]? =some (off,e.size):=by
  intro i off ft e h1 h2
  subst hf
  rw[List.getElem?_map] at h1
  cases XT:fields.toList[i]? with
  |none=>rw[XT] at h1;cases h1
  |some f=>
   rw[XT] at h1
   simp only[Option.map_some,Option.some.injEq,Prod.mk.injEq] at h1
   obtain ⟨rfl,rfl⟩:=h1
   obtain ⟨ti,t1,t2,_⟩:=(T _ _ h2).Cn
   have: ∀(l:List Field) (ps:List (Nat×Nat)),l.mapM (fun f=>(P.info? f.type).map fun i=>(f.offset,i.size))=some ps-> ∀j:Nat,l[j]? =some f->ps[j]? =some (f.offset,ti.size):=by
    intro l
    induction l with
    |nil=>intro ps _ j hj;simp at hj
    |cons g l ih=>
     intro ps R7 j hj
     simp only[List.mapM_cons,Option.bind_eq_bind,Option.pure_def] at R7
     cases hi:P.info? g.type with
     |none=>simp[hi] at R7
     |some gi=>
      cases hr:l.mapM (fun f=>(P.info? f.type).map fun i=>(f.offset,i.size)) with
      |none=>simp[hi,hr] at R7
      |some rest=>
       simp[hi,hr] at R7
       subst R7
       cases j with
       |zero=>
        simp at hj
        subst hj
        rw[t1] at hi;cases hi
        rfl
       |succ j=>simpa using ih rest hr j (by simpa using hj)
   rw[List.getElem?_toArray,this _ _ QN i XT,t2]
 intro ps
 induction ps with
 |nil=>intro zero zs xs hz he;simp only[List.map_nil,mE,Option.some.injEq] at he;subst he;exact ⟨zs,rfl,hz⟩
 |cons p ps ih=>
  intro zero zs xs hz he
  obtain ⟨i,x⟩:=p
  simp only[List.map_cons,mE] at he
  split at he
  ·rename_i off ft ys h1 h2
   split at he
   ·rename_i e h3
    obtain ⟨h4,he⟩:=ak he
    obtain ⟨h5,h6⟩:=aE h4
    have h5:=eq_of_beq h5
    have h6:=Nat.le_of_ble_eq_true h6
    obtain ⟨hr,_⟩:=pD m h2 (N6 x)
    have hl:=hr.length
    have QQ:=hz.length
    simp only[Array.length_toList] at hl QQ
    have LD:=IT ys _ hr zero zs.toList off hz
    rw[<- EI] at LD
    obtain ⟨cells,g1,g2⟩:=ih _ _ xs LD he
    refine ⟨cells,?_,g2⟩
    simp only[List.map_cons]
    unfold Instr.fill
    rw[Xh i off ft e h1 h3]
    simp only[]
    rw[if_neg (by simp;omega)]
    rw[<- g1]
    congr 1
    rw[<- Array.foldl_toList,Array.toList_zipIdx]
   ·cases he
  ·cases he
theorem Dn (T:mW P tt) (h:bb C S a w ρ Fs) {o:Oper} {t:Nat} {ps:Array (Nat×Operand)} (ho:o.op= .build t ps) {E:iy} (he:oI (R:=iy) tt S.hp n t (ps.toList.map fun p=>(p.1,St.rd C.N S.sl p.2)) some=some E): ∃u,Out P C S o E a w w ρ Fs u:=by
 unfold oI at he
 split at he
 ·rename_i fs sz bs hq
  split at he
  ·rename_i xs A5
   cases he
   obtain ⟨fields,f1,f2,f3⟩:=(T t _ hq).desc
   obtain ⟨i,z,z1,z2,z3,z4,z5,z6⟩:=mr T hq (by simp)
   have QN: ∃places,fields.toList.mapM (fun f=>(P.info? f.type).map fun i=>(f.offset,i.size))=some places:=by
    have: ∀l:List Field,(∀f∈l,∃i,P.info? f.type=some i/\i.size≠0)-> ∃places,l.mapM (fun f=>(P.info? f.type).map fun i=>(f.offset,i.size))=some places:=by
     intro l
     induction l with
     |nil=>intro _;exact ⟨[],rfl⟩
     |cons f l ih=>
      intro hl
      obtain ⟨i,hi,_⟩:=hl f (by simp)
      obtain ⟨ps,R7⟩:=ih (fun g hg=>hl g (by simp[hg]))
      exact ⟨(f.offset,i.size)::ps,by simp[List.mapM_cons,hi,R7]⟩
    exact this _ f3
   obtain ⟨places,QN⟩:=QN
   obtain ⟨cells,c1,c2⟩:=KE T h.mem f2 places QN a.eval h.rd ps.toList _ z.cells xs (by rw[z3];exact zm _ tt _) A5
   refine ⟨.agg cells,Out.pure h rfl ?_ ⟨cells.toList,by simp,c2⟩⟩
   simp only[execOp,ho]
   refine py (run_build w t _ cells ?_)
   simp only[Program.built,z1,f1,z2,QN]
   simpa using c1
  ·cases he
 ·rename_i m e sz bs hq
  split at he
  ·rename_i te R7 G6
   cases he
   obtain ⟨i,i1,i2,i3,z,z1,z2⟩:=(T t _ hq).Cn
   have QQ:z.cells.toList=List.replicate m (zeroV tt e):=z2
   obtain ⟨ie,e1,_⟩:=(T e _ G6).Cn
   have hd:P.underlying t=some (.array m e):=(T t _ hq).desc
   have ZF:ps.toList=[]:=by simpa using R7
   refine ⟨.agg z.cells,Out.pure h rfl ?_ ⟨z.cells.toList,by simp,?_⟩⟩
   ·simp only[execOp,ho]
    refine py (run_build w t _ z.cells ?_)
    simp only[Program.built,i1,hd,z1,e1]
    simp[ZF,Instr.fill]
   ·rw[QQ]
    have: ∀k,bj (C.env w ρ S.hp S.nx Fs) (List.replicate k (ol tt e)) (List.replicate k (zeroV tt e)):=by
     intro k
     induction k with
     |zero=>trivial
     |succ k ih=>exact ⟨Cu _ tt e,ih⟩
    exact this m
  ·cases he
 ·cases he
end
section
variable {P:Program} {tt:TT} {C:Cx} {S:St} {a:Act} {w:World} {ρ:Place} {Fs:Nat->FP} {n:Nat}
def lu (hp':Nat->Option aw) (ks:List Nat):Prop:=ks.Nodup/\ ∀k∈ks,∃e v r,hp' k=some (.row e v r)
def Sub (hp' hp:Nat->Option aw):Prop:= ∀j r,hp' j=some r->hp j=some r
theorem Sub.refl (hp:Nat->Option aw):Sub hp hp:=fun _ _ h=>h
theorem Sub.kill {hp' hp:Nat->Option aw} (h:Sub hp' hp) (ks:List Nat):Sub (kill hp' ks) hp:=fun j r hj=>h j r (uS hj).2
theorem lu.nil (hp':Nat->Option aw):lu hp' []:=⟨by simp,by simp⟩
theorem lu.join {hp':Nat->Option aw} {ks ks':List Nat} (h:lu hp' ks) (h':lu (kill hp' ks) ks'):lu hp' (ks++ks'):=by
 refine ⟨List.nodup_append.2 ⟨h.1,h'.1,fun a ha b hb=> ?_⟩,fun k hk=> ?_⟩
 ·rintro rfl
  obtain ⟨e,v,r,h2⟩:=h'.2 a hb
  exact (uS h2).1 ha
 ·rcases List.mem_append.1 hk with hk|hk
  ·exact h.2 k hk
  ·obtain ⟨e,v,r,h2⟩:=h'.2 k hk
   exact ⟨e,v,r,(uS h2).2⟩
theorem lu.live {hp' hp:Nat->Option aw} {ks:List Nat} (h:lu hp' ks) (hs:Sub hp' hp): ∀k∈ks,∃r,hp k=some r/\r.real:=fun k hk=>by
 obtain ⟨e,v,r,h2⟩:=h.2 k hk
 exact ⟨_,hs _ _ h2,trivial⟩
theorem lu.lt (m:iM C S.hp S.nx w ρ Fs) {hp':Nat->Option aw} {ks:List Nat} (h:lu hp' ks) (hs:Sub hp' S.hp): ∀k∈ks,k<S.nx:=fun k hk=>by
 obtain ⟨r,h2,_⟩:=h.live hs k hk
 exact dA m h2
theorem eT (Fs:Nat->FP) (b:Nat): ∀ks ks':List Nat,dH Fs (ks++ks') b=dH Fs ks b+dH Fs ks' b
 | [],ks'=>by simp[dH]
 |k::ks,ks'=>by simp[dH,eT Fs b ks ks',Nat.add_assoc]
theorem wu {w:World} {Z:Zs}: ∀ {cs:List Cell} {vs:List Value} {F:FP},(∀c∈cs,∃v,c= .sc v)->aj w Z cs vs F->F=fz
 | [],_,_,_,h=>h
 |c::cs,v::vs,F,hc,⟨F1,F2,h1,h2,hF⟩=>by
  obtain ⟨u,rfl⟩:=hc c (by simp)
  have:=wu (fun c' Hf=>hc c' (by simp[Hf])) h2
  rw[hF,h1.2,this,cp]
theorem IU (m:iM C S.hp S.nx w ρ Fs) {id e ver:Nat} {l:List Int} (ao:S.hp id=some (.row e ver (.ints .i64 l))) (hi:Nat) (Ej:hi<=l.length) {v:Value} (hv:v=hdr (ρ id) hi) {Z:Zs}: ∃F,fv w Z (.sl true (l.take hi)) v F/\ ∀b,F b<=Fs id b:=by
 rcases m.roots id _ ao with ⟨h1,h2,h3⟩| ⟨b,cap,arr,ty,F',h1,h2,h3,h4,h5,h6⟩
 ·simp only[Cx.env] at h1
  simp only[Row.len] at h2
  have hl:l=[]:=List.eq_nil_of_length_eq_zero h2
  subst hl
  exact ⟨fz,.inl ⟨by rw[hv,h1];rfl,by simp,rfl⟩,fun b=>by simp⟩
 ·simp only[Cx.env] at h1 h2
  have SL:F' =fz:=wu (fun c hc=>by simp only[Row.cells,List.mem_map] at hc;obtain ⟨x,_,rfl⟩:=hc;exact ⟨_,rfl⟩) h5
  simp only[Row.len,Row.size,Nat.mul_one] at h3 h4
  refine ⟨f1 b,.inr ⟨b,cap,arr,ty,?_,h2,by simp;omega,h4,fun j z hj=> ?_,rfl⟩,fun b'=>by rw[h6,SL,cp];exact Nat.le_refl _⟩
  ·rw[hv,h1]
   simp only[hdr,List.length_take]
   rw[Nat.min_eq_left Ej]
  ·rw[List.getElem?_take] at hj
   split at hj
   ·obtain ⟨v',F1,F2,q1,q2,_⟩:=h5.get (j:=j) (c:= .sc (.int .i64 z)) (by simp[Row.cells,hj])
    obtain ⟨rfl,_⟩:=q2
    simpa using q1
   ·cases hj
theorem sw (m:iM C S.hp S.nx w ρ Fs) {hp':Nat->Option aw} (hs:Sub hp' S.hp) {x:LV} {o:Bool} {l:List Int} {ks:List Nat} (he:qD hp' x=some (o,l,ks)) {v:Value} (hv:eS (C.env w ρ S.hp S.nx Fs) x v): ∃F,fv w (C.ZL w (ar S.nx Fs)) (.sl o l) v F/\(∀b,F b<=dH Fs ks b)/\lu hp' ks/\(F≠fz->o=true)/\v.oneCell' =true:=by
 unfold qD at he
 split at he
 ·cases he
  exact ⟨fz,.inl ⟨hv,rfl,rfl⟩,fun b=>by simp,lu.nil _,fun h=>absurd rfl h,by rw[hv];rfl⟩
 ·rename_i p l'
  cases he
  obtain ⟨A,cap,h1,h2,h3⟩:=hv
  refine ⟨fz,⟨rfl,A,cap,h1,h2,fun lG=> ?_⟩,fun b=>by simp,lu.nil _,fun h=>absurd rfl h,by rw[h1];rfl⟩
  obtain ⟨ad,e,h0,vs,h4,h5⟩:=h3 (by simp only[Row.len];intro h;exact lG (List.eq_nil_of_length_eq_zero h))
  refine ⟨ad,e,?_,fun j z hj=> ?_⟩
  ·cases p
   ·exact h0
   ·exact .inr h0
  ·obtain ⟨v',F1,F2,q1,q2,_⟩:=h5.get (j:=j) (c:= .sc (.int .i64 z)) (by simp[Row.cells,hj])
   obtain ⟨rfl,_⟩:=q2
   have:=h4 j (by simp[Row.cells];exact (List.getElem?_eq_some_iff.1 hj).1)
   rw[q1] at this
   exact this
 ·rename_i id
  split at he
  ·rename_i e ver l' ao
   cases he
   obtain ⟨_,hx⟩:=hv
   obtain ⟨r',e1,e2⟩:=hx _ (hs _ _ ao)
   cases e1
   obtain ⟨F,h1,h2⟩:=IU m (hs _ _ ao) l.length (Nat.le_refl _) e2 (Z:=C.ZL w (ar S.nx Fs))
   rw[List.take_length] at h1
   exact ⟨F,h1,fun b=>by have:=h2 b;simp[dH];exact this,⟨by simp,fun k hk=>by simp at hk;subst hk;exact ⟨_,_,_,ao⟩⟩,fun _=>rfl,by rw[e2];exact GC _ _⟩
  ·cases he
 ·rename_i id hi
  split at he
  ·rename_i e ver l' ao
   cases he
   obtain ⟨_,hx⟩:=hv
   obtain ⟨r',e1,_,e3,e2⟩:=hx _ (hs _ _ ao)
   cases e1
   have e4:v=hdr (ρ id) hi:=by
    rw[e2]
    simp only[Cx.env]
    cases hρ:ρ id with
    |none=>rfl
    |some q=>
     obtain ⟨b,cap⟩:=q
     simp only[lD,hdr,Row.size,Nat.zero_mul,Nat.sub_zero]
     split<;>rfl
   obtain ⟨F,h1,h2⟩:=IU m (hs _ _ ao) hi e3 e4 (Z:=C.ZL w (ar S.nx Fs))
   exact ⟨F,h1,fun b=>by have:=h2 b;simp[dH];exact this,⟨by simp,fun k hk=>by simp at hk;subst hk;exact ⟨_,_,_,ao⟩⟩,fun _=>rfl,by rw[e4];exact GC _ _⟩
  ·cases he
 ·cases he
theorem join_le (m:iM C S.hp S.nx w ρ Fs) {hp':Nat->Option aw} (hs:Sub hp' S.hp) {ks ks':List Nat} (h:lu hp' (ks++ks')) (b:Nat):dH Fs ks b+dH Fs ks' b<=1:=by
 have h1:=lj Fs b S.nx h.1 (h.lt m hs)
 have h2:=m.one b
 rw[eT] at h1
 omega
theorem wv (m:iM C S.hp S.nx w ρ Fs) {hp':Nat->Option aw} (hs:Sub hp' S.hp) {ks ks':List Nat} (ht:lu hp' (ks++ks')) {cs Yg:List Cell} {vs Ay:List Value} {F F':FP}
 (h:aj w (Zu C w S.nx Fs ks F) cs vs F) (hl:vs.length=cs.length) (h':aj w (Zu C w S.nx Fs ks' F') Yg Ay F') (hF: ∀b,F b<=dH Fs ks b) (SL: ∀b,F' b<=dH Fs ks' b):
 aj w (Zu C w S.nx Fs (ks++ks') (dh F F')) (cs++Yg) (vs++Ay) (dh F F')/\ ∀b,dh F F' b<=dH Fs (ks++ks') b:=by
 refine ⟨aj.append (h.mono (fun b hb=>⟨?_,rfl⟩) (fun b _=>rfl)) hl (h'.mono (fun b hb=>⟨?_,rfl⟩) (fun b _=>rfl)),fun b=> ?_⟩
 ·rcases hb with hb| ⟨h1,h2⟩
  ·exact .inl hb
  ·have:=join_le m hs ht b
   have:=SL b
   exact .inr ⟨by rw[eT];omega,by simp;omega⟩
 ·rcases hb with hb| ⟨h1,h2⟩
  ·exact .inl hb
  ·have:=join_le m hs ht b
   have:=hF b
   exact .inr ⟨by rw[eT];omega,by simp;omega⟩
 ·have:=hF b
  have:=SL b
  rw[eT];simp;omega
theorem GD {ks:List Nat} {cs:List Cell} {vs:List Value} {F:FP} (h:aj w (Zu C w S.nx Fs ks F) cs vs F) (hF: ∀b,F b<=dH Fs ks b):aj w (Zu C w S.nx Fs ks fz) (cs.map Cell.fL) vs fz:=
 h.fL (fun b hb=>hb.imp (fun h=>h) (fun h=>⟨h.1,rfl⟩)) (fun b hb=> .inr ⟨Nat.le_trans hb (hF b),rfl⟩)
theorem wx {ks:List Nat} {cs ct cf:List Cell} {vs:List Value} {F:FP} (h:aj w (Zu C w S.nx Fs ks F) cs vs F) (hF: ∀b,F b<=dH Fs ks b) (o:Bool) (h1:o=true->ct=cs) (h2:o=false->cf=cs.map Cell.fL): ∃F',aj w (Zu C w S.nx Fs ks F') (if o then ct else cf) vs F' /\ ∀b,F' b<=dH Fs ks b:=by
 cases o with
 |true=>rw[h1 rfl];exact ⟨F,h,hF⟩
 |false=>rw[h2 rfl];exact ⟨fz,GD h hF,fun b=>by simp⟩
theorem Cv {c:Cell} {v:Value} {F:FP} {ks:List Nat} (h:fv w (C.ZL w (ar S.nx Fs)) c v F):aj w (Zu C w S.nx Fs ks F) [c] [v] F:=
 ⟨F,fz,h.mono (fun b hb=>⟨.inl hb,rfl⟩) (fun b _=>rfl),rfl,(cp _).symm⟩
theorem lV (o:Bool) (x:gR) (r:List gR): ∀(sg:List Bool) (f:Nat),bD o (x::r) (f+1) sg=bD o r f sg
 | [],_=>rfl
 |true::sg,f=>by simp only[bD,lV o x r sg];simp[gl]
 |false::sg,f=>by simp only[bD,lV o x r sg];simp[gi]
theorem lx (o:Bool) (r:List gR): ∀(sg:List Bool) (f:Nat),(bD o r f sg).map Cell.fL=bD false r f sg
 | [],_=>rfl
 |true::sg,f=>by simp[bD,lx o r sg,Cell.fL]
 |false::sg,f=>by simp[bD,lx o r sg,Cell.fL]
theorem GF (o o':Bool) (r:List gR) (sg:List Bool) (f:Nat):(if o then bD true r f sg else bD false r f sg)=bD o r f sg:=by cases o<;>rfl
theorem vx (m:iM C S.hp S.nx w ρ Fs): ∀(sg:List Bool) (hp':Nat->Option aw) (xs:List LV) (vs:List Value) (o:Bool) (r:List gR) (ks:List Nat),Sub hp' S.hp->ig hp' sg xs=some (o,r,ks)->bj (C.env w ρ S.hp S.nx Fs) xs vs->
 ∃F,aj w (Zu C w S.nx Fs ks F) (bD o r 0 sg) vs F/\(∀b,F b<=dH Fs ks b)/\lu hp' ks/\vs.length=sg.length/\ ∀u∈vs,u.oneCell' =true:=by
 intro sg
 induction sg with
 |nil=>
  intro hp' xs vs o r ks hs he hv
  cases xs with
  |nil=>
   cases vs with
   |nil=>simp only[ig,Option.some.injEq,Prod.mk.injEq] at he;obtain ⟨rfl,rfl,rfl⟩:=he;exact ⟨fz,rfl,fun b=>by simp,lu.nil _,rfl,by simp⟩
   |cons v vs=>exact absurd hv id
  |cons x xs=>simp[ig] at he
 |cons b sg ih=>
  intro hp' xs vs o r ks hs he hv
  cases xs with
  |nil=>cases b<;>simp[ig] at he
  |cons x xs=>
   cases vs with
   |nil=>exact absurd hv id
   |cons v vs=>
    cases b with
    |false=>
     cases x with
     |i k z=>
      cases k with
      |i64=>
       simp only[ig] at he
       split at he
       ·rename_i o' r' ks' hq
        cases he
        obtain ⟨F,h1,h2,h3,h4,h5⟩:=ih hp' xs vs _ _ _ hs hq hv.2
        have ER:v= .int .i64 z:=hv.1
        refine ⟨F,?_,h2,h3,by simp[h4],fun u hu=> ?_⟩
        ·simp only[bD,lV,gi,Nat.zero_add]
         exact ⟨fz,F,⟨ER,rfl⟩,h1,(jy F).symm⟩
        ·rcases List.mem_cons.1 hu with rfl|hu
         ·rw[ER];rfl
         ·exact h5 u hu
       ·cases he
      |_=>simp[ig] at he
     |_=>simp[ig] at he
    |true=>
     simp only[ig] at he
     split at he
     ·rename_i o1 l Na Xi
      split at he
      ·rename_i o2 r' Vs Jk
       cases he
       obtain ⟨F1,a1,a2,a3,a4,a5⟩:=sw m hs Xi hv.1
       obtain ⟨F2,b1,b2,b3,b4,b5⟩:=ih _ xs vs _ _ _ (hs.kill Na) Jk hv.2
       have ht:=a3.join b3
       obtain ⟨j1,j2⟩:=wv m hs ht (Cv a1) rfl b1 a2 b2
       obtain ⟨F',s1,s2⟩:=wx j1 j2 (o1&&o2) (ct:=bD true (.ints l::r') 0 (true::sg)) (cf:=bD false (.ints l::r') 0 (true::sg))
        (fun ho=>by obtain ⟨rfl,rfl⟩:=aE ho;simp[bD,lV,gl])
        (fun _=>by simp[bD,lV,gl,lx,Cell.fL])
       refine ⟨F',?_,s2,ht,by simp[b4],fun u hu=> ?_⟩
       ·rw[GF _ true] at s1;exact s1
       ·rcases List.mem_cons.1 hu with rfl|hu
        ·exact a5
        ·exact b5 u hu
      ·cases he
     ·cases he
def gD (E:Env):List AV->List Value->Prop
 | [],[]=>True
 |x::xs,v::vs=>gy E x v/\gD E xs vs
 |_,_=>False
abbrev flat (vs:List Value):List Value:=vs.flatMap fun v=>v.cells.toList
theorem mG (v:Value) (vs:List Value):flat (v::vs)=v.cells.toList++flat vs:=by simp[flat]
theorem yb {r:Row} (h:r.len=0):r.cells=[]:=List.eq_nil_of_length_eq_zero (by rw[Row.eG,h,Nat.zero_mul])
theorem KF {hp:Nat->Option aw} {k:IntKind} {xs:List AV} {r:Row} {ks:List Nat} (h:rowOf hp (.ints k []) xs=some (r,ks)): ∃l,r= .ints k l:=by
 cases xs with
 |nil=>simp only[rowOf,Option.some.injEq,Prod.mk.injEq] at h;exact ⟨_,h.1.symm⟩
 |cons x xs=>
  cases x with
  |G4 _=>simp[rowOf] at h
  |one x=>cases x with
   |agg _=>simp[rowOf] at h
   |l x=>cases x with
    |i k' z=>
     simp only[rowOf] at h
     obtain ⟨_,h⟩:=ak h
     split at h
     ·simp only[Option.some.injEq,Prod.mk.injEq] at h;exact ⟨_,h.1.symm⟩
     ·cases h
    |_=>simp[rowOf] at h
theorem KG {hp:Nat->Option aw} {sg:List Bool} {xs:List AV} {r:Row} {ks:List Nat} (h:rowOf hp (.dw sg true []) xs=some (r,ks)): ∃o l,r= .dw sg o l:=by
 cases xs with
 |nil=>simp only[rowOf,Option.some.injEq,Prod.mk.injEq] at h;exact ⟨_,_,h.1.symm⟩
 |cons x xs=>
  cases x with
  |G4 _=>simp[rowOf] at h
  |one x=>cases x with
   |l _=>simp[rowOf] at h
   |agg x=>
    simp only[rowOf] at h
    split at h
    ·split at h
     ·simp only[Option.some.injEq,Prod.mk.injEq] at h;exact ⟨_,_,h.1.symm⟩
     ·cases h
    ·cases h
theorem Al (m:iM C S.hp S.nx w ρ Fs): ∀(xs:List AV) (vs:List Value) (hp':Nat->Option aw) (r0 r:Row) (ks:List Nat),Sub hp' S.hp->r0.len=0->rowOf hp' r0 xs=some (r,ks)->gD (C.env w ρ S.hp S.nx Fs) xs vs->
 ∃F,aj w (Zu C w S.nx Fs ks F) r.cells (flat vs) F/\(∀b,F b<=dH Fs ks b)/\lu hp' ks/\r.len=xs.length/\r.size=r0.size/\(∀v∈vs,v.cells.size=r0.size)/\vs.length=xs.length/\(∀u∈flat vs,u.oneCell' =true)/\r.deep=r0.deep/\(r0.qC=false-> ∀v∈vs,v.oneCell' =true):=by
 intro xs
 induction xs with
 |nil=>
  intro vs hp' r0 r ks hs h0 he hv
  cases vs with
  |cons v vs=>exact absurd hv id
  |nil=>
   have:r0=r/\ks=[]:=by
    cases r0<;>simp only[rowOf,Option.some.injEq,Prod.mk.injEq] at he<;>exact ⟨he.1,he.2.symm⟩
   obtain ⟨rfl,rfl⟩:=this
   rw[yb h0]
   exact ⟨fz,rfl,fun b=>by simp,lu.nil _,h0,rfl,by simp,rfl,by simp[flat],rfl,by simp⟩
 |cons x xs ih=>
  intro vs hp' r0 r ks hs h0 he hv
  cases vs with
  |nil=>exact absurd hv id
  |cons v vs=>
   obtain ⟨ER,KZ⟩:=hv
   have plain: ∀(c:Cell) (r1 r2:Row) (ks':List Nat) (u:Value),v=u->u.oneCell' =true->(∀Z,fv w Z c u fz)->r1.len=0->r1.size=1->r0.size=1->r1.qC=false->r.deep=r0.deep->rowOf hp' r1 xs=some (r2,ks')->r.cells=c::r2.cells->ks=ks'->r.len=r2.len+1->r.size=1->
    ∃F,aj w (Zu C w S.nx Fs ks F) r.cells (flat (v::vs)) F/\(∀b,F b<=dH Fs ks b)/\lu hp' ks/\r.len=(x::xs).length/\r.size=r0.size/\(∀v' ∈v::vs,v'.cells.size=r0.size)/\(v::vs).length=(x::xs).length/\(∀u∈flat (v::vs),u.oneCell' =true)/\r.deep=r0.deep/\(r0.qC=false-> ∀u∈v::vs,u.oneCell' =true):=by
    intro c r1 r2 ks' u hvu lP hc hr1 QT ZG ZH Ng hq BX u_ hlen t_
    obtain ⟨F,h1,h2,h3,h4,h5,h6,h7,h8,h9,N1⟩:=ih vs hp' r1 r2 ks' hs hr1 hq KZ
    subst u_ hvu
    have ui:v.cells= #[v]:=oT lP
    refine ⟨F,?_,h2,h3,by simp[hlen,h4],by rw[t_,ZG],fun v' Az=> ?_,by simp[h7],fun u hu=> ?_,Ng,fun _ u hu=> ?_⟩
    ·rw[BX,mG,ui]
     exact ⟨fz,F,hc _,h1,(jy F).symm⟩
    ·rcases List.mem_cons.1 Az with rfl|Az
     ·rw[ui,ZG];rfl
     ·rw[h6 v' Az,QT,ZG]
    ·rw[mG,ui] at hu
     rcases List.mem_append.1 hu with hu|hu
     ·simp at hu;subst hu;exact lP
     ·exact h8 u hu
    ·rcases List.mem_cons.1 hu with rfl|hu
     ·exact lP
     ·exact N1 ZH u hu
   unfold rowOf at he
   split at he
   ·rename_i Cw;cases Cw
   ·rename_i k _ k' z VB Cw
    cases Cw
    by_cases hk:k=k'
    ·subst hk
     simp only[decide_true,cond_true] at he
     split at he
     ·rename_i k2 l ks' hq
      simp only[Option.some.injEq,Prod.mk.injEq] at he
      obtain ⟨rfl,rfl⟩:=he
      obtain ⟨_,e⟩:=KF hq
      cases e
      exact plain (.sc (.int k z)) (.ints k []) (.ints k l) _ (.int k z) ER rfl (fun Z=>⟨rfl,rfl⟩) rfl rfl rfl rfl rfl hq rfl rfl rfl rfl
     ·cases he
    ·simp[hk] at he
   ·rename_i z VB Cw
    cases Cw
    split at he
    ·rename_i l ks' hq
     cases he
     exact plain (.sc (.bool z)) (.du []) (.du l) _ (.bool z) ER rfl (fun Z=>⟨rfl,rfl⟩) rfl rfl rfl rfl rfl hq rfl rfl rfl rfl
    ·cases he
   ·rename_i z VB Cw
    cases Cw
    split at he
    ·rename_i l ks' hq
     cases he
     exact plain (.sc (.string z)) (.strs []) (.strs l) _ (.string z) ER rfl (fun Z=>⟨rfl,rfl⟩) rfl rfl rfl rfl rfl hq rfl rfl rfl rfl
    ·cases he
   ·rename_i z VB Cw
    cases Cw
    split at he
    ·rename_i o1 y Na Xi
     split at he
     ·rename_i o2 l Vs Jk
      cases he
      obtain ⟨F1,a1,a2,a3,a4,a5⟩:=sw m hs Xi ER
      obtain ⟨F2,b1,b2,b3,b4,b5,b6,b7,b8,b9,b10⟩:=ih vs _ _ _ _ (hs.kill Na) rfl Jk KZ
      have ht:=a3.join b3
      have ui:v.cells= #[v]:=oT a5
      obtain ⟨j1,j2⟩:=wv m hs ht (Cv a1) rfl b1 a2 b2
      obtain ⟨F',s1,s2⟩:=wx j1 j2 (o1&&o2) (ct:=(Row.rows true (y::l)).cells) (cf:=(Row.rows false (y::l)).cells)
       (fun ho=>by obtain ⟨rfl,rfl⟩:=aE ho;simp[Row.cells])
       (fun _=>by simp[Row.cells,Cell.fL,Function.comp_def])
      refine ⟨F',?_,s2,ht,by simp only[Row.len] at b4 ⊢;simp[b4],rfl,fun v' Az=> ?_,by simp[b7],fun u hu=> ?_,rfl,fun _ u hu=> ?_⟩
      ·rw[mG,ui]
       have:(if (o1&&o2)=true then (Row.rows true (y::l)).cells else (Row.rows false (y::l)).cells)=(Row.rows (o1&&o2) (y::l)).cells:=by cases (o1&&o2)<;>rfl
       rw[this] at s1
       exact s1
      ·rcases List.mem_cons.1 Az with rfl|Az
       ·rw[ui];rfl
       ·rw[b6 v' Az];rfl
      ·rw[mG,ui] at hu
       rcases List.mem_append.1 hu with hu|hu
       ·simp at hu;subst hu;exact a5
       ·exact b8 u hu
      ·rcases List.mem_cons.1 hu with rfl|hu
       ·exact a5
       ·exact b10 rfl u hu
     ·cases he
    ·cases he
   ·rename_i sg _ _ z VB Cw
    cases Cw
    split at he
    ·rename_i o1 y Na Xi
     split at he
     ·rename_i _ o2 l Vs Jk
      cases he
      obtain ⟨us,rfl,Xj⟩:=ER
      obtain ⟨F1,a1,a2,a3,a4,a5⟩:=vx m _ _ _ _ _ _ _ hs Xi Xj
      obtain ⟨F2,b1,b2,b3,b4,b5,b6,b7,b8,b9,b10⟩:=ih vs _ _ _ _ (hs.kill Na) rfl Jk KZ
      have ht:=a3.join b3
      obtain ⟨_,_,e⟩:=KG Jk
      cases e
      obtain ⟨j1,j2⟩:=wv m hs ht a1 (by rw[c_,a4]) b1 a2 b2
      obtain ⟨F',s1,s2⟩:=wx j1 j2 (o1&&o2) (ct:=(Row.dw sg true (y::l)).cells) (cf:=(Row.dw sg false (y::l)).cells)
       (fun ho=>by obtain ⟨rfl,rfl⟩:=aE ho;simp[Row.cells])
       (fun _=>by
         have:=y8 (Row.dw sg o2 l)
         simp only[Row.fL] at this
         simp only[Row.cells,List.flatMap_cons,List.map_append,lx] at this ⊢
         rw[<- this])
      refine ⟨F',?_,s2,ht,by simp only[Row.len] at b4 ⊢;simp[b4],rfl,fun v' Az=> ?_,by simp[b7],fun u hu=> ?_,rfl,fun hh=>by cases hh⟩
      ·rw[mG]
       have:(if (o1&&o2)=true then (Row.dw sg true (y::l)).cells else (Row.dw sg false (y::l)).cells)=(Row.dw sg (o1&&o2) (y::l)).cells:=by cases (o1&&o2)<;>rfl
       rw[this] at s1
       exact s1
      ·rcases List.mem_cons.1 Az with rfl|Az
       ·simp[Value.cells,Row.size,a4]
       ·rw[b6 v' Az];rfl
      ·rw[mG] at hu
       rcases List.mem_append.1 hu with hu|hu
       ·exact a5 u (by simpa[Value.cells] using hu)
       ·exact b8 u hu
     ·cases he
    ·cases he
   ·cases he
end
end Go.Proofs.YtbmmhdmljajcfaaGreatDoor.V
