/- What a walk by hand needs of contracts: calls with lent arguments, in a grown world. Conditions: as each theorem says. -/
import Derived.Test.YtbmmhdmljajcfaaGreatDoorVExt
import Derived.WalkKit
set_option linter.unusedVariables false
set_option linter.unusedSimpArgs false
namespace Go.Proofs.YtbmmhdmljajcfaaGreatDoor.V
open Go Go.RowKit
def I4 (w:World):Zs:=fun b=>b<w.heap.size
def Kt (C:Cx) (w:World) (hb:Below C.w0.heap.size C.w0 w):Cx:={P0:=C.P0,w0:=w,F0:=fz,Zl:=I4 w,Zf0:=I4 w,N:=0,kv:=[],good:=fun b hb=>⟨hb.elim id id,rfl⟩,gnd:=C.gnd.mono fun b h=>⟨Nat.lt_of_lt_of_le (C.good b (.inr h)).1 hb.size,hb.block b (C.good b (.inr h)).1⟩}
theorem Frame.below {C:Cx} {w:World} (h:Frame C w) (hF:C.F0=fz):Below C.w0.heap.size C.w0 w:=⟨h.os,h.tape,h.output,h.size,fun k hk=>h.block k hk (by rw[hF];rfl)⟩
theorem ML {P:Program} {C:Cx} {w:World} {f:FuncId} {g:pL} {ds rs:List DV} {args:List Value} (hc:fM P f g ds rs) (yf:pP g.gj=true) (hP:C.P0=P) (hb:Below C.w0.heap.size C.w0 w) (ha:dY w (I4 w) (I4 w) ds args fz):
 Calls P f args.toArray w fun e w'=> ∃vs F',e= .returned (pack vs)/\vs.length=g.results.length/\Below w.heap.size w w' /\(∀b,1<=F' b->b<w'.heap.size)/\dY w' ((Kt C w hb).Zf w' F') ((Kt C w hb).ZL w' F') rs vs F':=by
 have h:=hc (Kt C w hb) args hP ha (fun b=>by show fz b<=1;simp) (fun b hb=>by have:1<=fz b:=hb;simp at this)
 refine Calls.mono h fun e w' he=> ?_
 obtain ⟨vs,F',rfl,hlen,FG,h1,h2,hrel⟩:=he
 rw[gm _ _ yf,List.append_nil] at hrel
 exact ⟨vs,F',rfl,hlen,FG.below rfl,fun b hb=>(h2 b hb).1,hrel⟩
def tb (w:World) (v:Value) (l:List Int):Prop:=ea w (I4 w) (.ints .i64 l) v
def t_ (w:World) (v:Value) (l:List (List Int)):Prop:=ea w (I4 w) (.rows false l) v
theorem ua {w w':World} {r:Row} {v:Value} (h:ea w (I4 w) r v) (hb:Below w.heap.size w w'):ea w' (I4 w') r v:=by
 obtain ⟨A,cap,hv,Cg,mg⟩:=h
 refine ⟨A,cap,hv,Cg,fun hl=> ?_⟩
 obtain ⟨ad,hA,hz,vs,hj,np⟩:=mg hl
 have fJ:ad.block<w.heap.size:=hz
 refine ⟨ad,hA,Nat.lt_of_lt_of_le fJ hb.size,vs,fun j Ch=> ?_,np.mono (fun b nv=>⟨Nat.lt_of_lt_of_le nv hb.size,hb.block b nv⟩) (fun b nv=>by simp at nv)⟩
 rw[<- hj j Ch]
 exact lF (by rw[mF];exact hb.block _ fJ)
theorem tb.below {w w':World} {v:Value} {l:List Int} (h:tb w v l) (hb:Below w.heap.size w w'):tb w' v l:=ua h hb
theorem t_.below {w w':World} {v:Value} {l:List (List Int)} (h:t_ w v l) (hb:Below w.heap.size w w'):t_ w' v l:=ua h hb
theorem tb.form {w:World} {v:Value} {l:List Int} (h:tb w v l): ∃A cap,v= .slice A l.length cap/\l.length<=cap:=by
 obtain ⟨A,cap,hv,Cg,_⟩:=h
 exact ⟨A,cap,hv,Cg⟩
theorem t_.form {w:World} {v:Value} {l:List (List Int)} (h:t_ w v l): ∃A cap,v= .slice A l.length cap:=by
 obtain ⟨A,cap,hv,_⟩:=h
 exact ⟨A,cap,hv⟩
theorem tb.dl {w:World} {v:Value} {l:List Int} {Z:Zs} (h:tb w v l):jU w Z (I4 w) (.sl .aZ (.ints .i64 l)) v fz:=⟨h,rfl⟩
theorem tb.cells {w:World} {l:List Int} {ad:Option Addr} {n cap:Nat} (h:tb w (.slice ad n cap) l):n=l.length/\(l≠[]-> ∃a,ad=some a/\GU w a l):=by
 obtain ⟨A,nr,hv,Cg,mg⟩:=h
 cases hv
 refine ⟨rfl,fun hl=> ?_⟩
 obtain ⟨a,hA,hz,vs,hj,np⟩:=mg (fun e=>hl (List.eq_nil_of_length_eq_zero e))
 refine ⟨a,hA,fun j n hn=> ?_⟩
 have fJ:j<l.length:=(List.getElem?_eq_some_iff.1 hn).1
 have OA:(Row.ints .i64 l).cells[j]? =some (.sc (.int .i64 n)):=by simp[Row.cells,hn]
 obtain ⟨v',G1,G2,m1,m2,_⟩:=np.get OA
 have:v' = .int .i64 n:=m2.1
 subst this
 rw[hj j (by simpa[Row.cells] using fJ)]
 exact m1
theorem t_.cells {w:World} {l:List (List Int)} {ad:Option Addr} {n cap:Nat} (h:t_ w (.slice ad n cap) l):n=l.length/\(l≠[]-> ∃a,ad=some a/\ ∀(j:Nat) (x:List Int),l[j]? =some x-> ∃u,w.cell? (a.add j)=some u/\tb w u x):=by
 obtain ⟨A,nr,hv,Cg,mg⟩:=h
 cases hv
 refine ⟨rfl,fun hl=> ?_⟩
 obtain ⟨a,hA,hz,vs,hj,np⟩:=mg (fun e=>hl (List.eq_nil_of_length_eq_zero e))
 refine ⟨a,hA,fun j x hx=> ?_⟩
 have fJ:j<l.length:=(List.getElem?_eq_some_iff.1 hx).1
 have OA:(Row.rows false l).cells[j]? =some (.sl false x):=by simp[Row.cells,hx]
 obtain ⟨u,G1,G2,m1,⟨_,B,wz,hu,MM,hi⟩,_⟩:=np.get OA
 refine ⟨u,by rw[hj j (by simpa[Row.cells] using fJ)];exact m1,B,wz,hu,MM,fun TS=> ?_⟩
 obtain ⟨a2,e2,P2,Wa⟩:=hi (fun e=>TS (by subst e;rfl))
 refine ⟨a2,e2,P2,x.map fun n=>Value.int .i64 n,fun j hj=> ?_,mM x⟩
 have FH:j<x.length:=by simpa[Row.cells] using hj
 rw[Wa j x[j] (List.getElem?_eq_getElem FH)]
 simp[FH]
theorem Bm {w:World} {a:Addr} {u:Value} (h:w.cell? (a.add 0)=some u):a=⟨a.block,a.off,none⟩:=by
 obtain ⟨bk,o,sp⟩:=a
 cases sp with
 |none=>rfl
 |some n=>
  simp only[World.cell?,Addr.add] at h
  split at h
  ·simp at h
  ·cases h
theorem tb.out {w:World} {v:Value} {l:List Int} (h:tb w v l) (hl:l≠[]): ∃b off cap,v= .slice (some ⟨b,off,none⟩) l.length cap/\l.length<=cap/\ ∀j,j<l.length->w.cell? ⟨b,off+j,none⟩=some (.int .i64 (l.getD j 0)):=by
 obtain ⟨A,cap,rfl,Cg⟩:=h.form
 obtain ⟨a,rfl,hi⟩:=h.cells.2 hl
 obtain ⟨x,hx⟩: ∃x,l[0]? =some x:=⟨l[0]'(List.length_pos_iff.2 hl),List.getElem?_eq_getElem _⟩
 have e:=Bm (hi 0 x hx)
 refine ⟨a.block,a.off,cap,by rw[<- e],Cg,fun j hj=> ?_⟩
 have:=hi j l[j] (List.getElem?_eq_getElem hj)
 rw[e,dr] at this
 rw[this]
 simp[hj]
theorem t_.out {w:World} {v:Value} {l:List (List Int)} (h:t_ w v l) (hl:l≠[]): ∃b off cap,v= .slice (some ⟨b,off,none⟩) l.length cap/\l.length<=cap/\ ∀j,j<l.length-> ∃u,w.cell? ⟨b,off+j,none⟩=some u/\tb w u (l.getD j []):=by
 have h0:=h
 obtain ⟨A,cap,rfl,Cg,_⟩:=h0
 obtain ⟨a,rfl,hi⟩:=h.cells.2 hl
 obtain ⟨x,hx⟩: ∃x,l[0]? =some x:=⟨l[0]'(List.length_pos_iff.2 hl),List.getElem?_eq_getElem _⟩
 obtain ⟨u0,Wb,_⟩:=hi 0 x hx
 have e:=Bm Wb
 refine ⟨a.block,a.off,cap,by rw[<- e];rfl,Cg,fun j hj=> ?_⟩
 obtain ⟨u,hu,Wc⟩:=hi j l[j] (List.getElem?_eq_getElem hj)
 rw[e,dr] at hu
 exact ⟨u,hu,by rw[show l.getD j [] =l[j] by simp[hj]];exact Wc⟩
theorem OB {w:World} {Zf ZL:Zs} {x:ByteArray} {vs:List Value} {F:FP} (h:dY w Zf ZL [.l (.s x)] vs F):pack vs= .string x:=by
 match vs,h with
 | [v],⟨F1,F2,⟨hv,_⟩,_⟩=>exact hv
section
variable {P:Program} {C:Cx} {w:World} {f:FuncId} {g:pL} {ds:List DV} {args:List Value}
theorem Ku {x:ByteArray} (hc:fM P f g ds [.l (.s x)]) (yf:pP g.gj=true) (hP:C.P0=P) (hb:Below C.w0.heap.size C.w0 w) (ha:dY w (I4 w) (I4 w) ds args fz):Calls P f args.toArray w fun e w'=>e= .returned (.string x)/\Below w.heap.size w w':=
 (ML hc yf hP hb ha).mono fun e w' ⟨vs,F',he,_,TU,_,hr⟩=>⟨by rw[he,OB hr],TU⟩
theorem NY {v:Value} {l:List Int} (h:tb w v l):dY w (I4 w) (I4 w) [.l (.sl .aZ (.ints .i64 l))] [v] fz:=⟨fz,fz,⟨h,rfl⟩,rfl,(b_ _).symm⟩
end
end Go.Proofs.YtbmmhdmljajcfaaGreatDoor.V
