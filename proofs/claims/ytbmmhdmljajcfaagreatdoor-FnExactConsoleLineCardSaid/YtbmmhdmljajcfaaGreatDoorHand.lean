/- What a walk by hand needs of contracts: calls with lent arguments, in a grown world. Conditions: as each theorem says. -/
import Derived.Test.YtbmmhdmljajcfaaGreatDoorVExt
set_option linter.unusedVariables false
set_option linter.unusedSimpArgs false
namespace Go.Proofs.YtbmmhdmljajcfaaGreatDoor.V
open Go Go.RowKit
def Av (w:World):Zs:=fun b=>b<w.heap.size
def OX (C:Cx) (w:World) (hb:Below C.w0.heap.size C.w0 w):Cx:={P0:=C.P0,w0:=w,F0:=fz,Zl:=Av w,Zf0:=Av w,N:=0,kv:=[],good:=fun b hb=>⟨hb.elim id id,rfl⟩,gnd:=C.gnd.mono fun b h=>⟨bR (C.good b (.inr h)).1 hb.size,hb.block b (C.good b (.inr h)).1⟩}
theorem Frame.below {C:Cx} {w:World} (h:Frame C w) (hF:C.F0=fz):Below C.w0.heap.size C.w0 w:=⟨h.os,h.tape,h.output,h.size,fun k hk=>h.block k hk (by rw[hF];rfl)⟩
theorem AA {P:Program} {C:Cx} {w:World} {f:FuncId} {g:yb} {ds rs:List DV} {args:List Value} (hc:eP P f g ds rs) (yc:wN g.kS=true) (hP:C.P0=P) (hb:Below C.w0.heap.size C.w0 w) (ha:fR w (Av w) (Av w) ds args fz):
 Calls P f args.toArray w fun e w'=> ∃vs F',e= .returned (pack vs)/\vs.length=g.results.length/\Below w.heap.size w w' /\(∀b,1<=F' b->b<w'.heap.size)/\fR w' ((OX C w hb).Zf w' F') ((OX C w hb).ZL w' F') rs vs F':=by
 have h:=hc (OX C w hb) args hP ha (fun b=>by show fz b<=1;simp) (fun b hb=>by have:1<=fz b:=hb;simp at this)
 refine Calls.mono h fun e w' he=> ?_
 obtain ⟨vs,F',rfl,hlen,OY,h1,h2,hrel⟩:=he
 rw[ky _ _ yc,cm] at hrel
 exact ⟨vs,F',rfl,hlen,OY.below rfl,fun b hb=>(h2 b hb).1,hrel⟩
theorem H5 {C:Cx} {w w':World} {hb:Below C.w0.heap.size C.w0 w} (h:Below w.heap.size w w') {F:FP} (b:Nat) (hz:(OX C w hb).ZL w' F b):Av w' b:=by
 rcases hz with h1|h1| ⟨_,h1,_⟩
 ·exact bR h1 h.size
 ·exact bR h1 h.size
 ·exact h1
def rE (w:World) (v:Value) (l:LI):Prop:=iq w (Av w) (.ints .i64 l) v
def wB (w:World) (v:Value) (l:LL):Prop:=iq w (Av w) (.rows false l) v
theorem AB {w w':World} {r:Row} {v:Value} (h:iq w (Av w) r v) (hb:Below w.heap.size w w'):iq w' (Av w') r v:=by
 obtain ⟨A,cap,hv,GO,nL⟩:=h
 refine ⟨A,cap,hv,GO,fun hl=> ?_⟩
 obtain ⟨ad,hA,hz,vs,hj,sf⟩:=nL hl
 have iS:ad.block<w.heap.size:=hz
 refine ⟨ad,hA,bR iS hb.size,vs,fun j Jk=> ?_,sf.mono (fun b tq=>⟨bR tq hb.size,hb.block b tq⟩) (fun b tq=>by simp at tq)⟩
 rw[<- hj j Jk]
 exact qL (by rw[rR];exact hb.block _ iS)
theorem rE.below {w w':World} {v:Value} {l:LI} (h:rE w v l) (hb:Below w.heap.size w w'):rE w' v l:=AB h hb
theorem wB.below {w w':World} {v:Value} {l:LL} (h:wB w v l) (hb:Below w.heap.size w w'):wB w' v l:=AB h hb
theorem rE.form {w:World} {v:Value} {l:LI} (h:rE w v l): ∃A cap,v= .slice A l.length cap/\l.length<=cap:=by
 obtain ⟨A,cap,hv,GO,_⟩:=h
 exact ⟨A,cap,hv,GO⟩
theorem wB.form {w:World} {v:Value} {l:LL} (h:wB w v l): ∃A cap,v= .slice A l.length cap:=by
 obtain ⟨A,cap,hv,_⟩:=h
 exact ⟨A,cap,hv⟩
theorem rE.dl {w:World} {v:Value} {l:LI} {Z:Zs} (h:rE w v l):oJ w Z (Av w) (.sl .bi (.ints .i64 l)) v fz:=⟨h,rfl⟩
theorem rE.cells {w:World} {l:LI} {ad:Option Addr} {n cap:Nat} (h:rE w (.slice ad n cap) l):n=l.length/\(l≠[]-> ∃a,ad=some a/\Ng w a l):=by
 obtain ⟨A,th,hv,GO,nL⟩:=h
 cases hv
 refine ⟨rfl,fun hl=> ?_⟩
 obtain ⟨a,hA,hz,vs,hj,sf⟩:=nL (fun e=>hl (bG e))
 refine ⟨a,hA,fun j n hn=> ?_⟩
 have iS:j<l.length:=(List.getElem?_eq_some_iff.1 hn).1
 have Xi:(Row.ints .i64 l).cells[j]? =some (.sc (.int .i64 n)):=by simp[Row.cells,hn]
 obtain ⟨v',G1,G2,m1,m2,_⟩:=sf.get Xi
 have:v' = .int .i64 n:=m2.1
 subst this
 rw[hj j (by simpa[Row.cells] using iS)]
 exact m1
theorem wB.cells {w:World} {l:LL} {ad:Option Addr} {n cap:Nat} (h:wB w (.slice ad n cap) l):n=l.length/\(l≠[]-> ∃a,ad=some a/\ ∀(j:Nat) (x:LI),l[j]? =some x-> ∃u,w.cell? (a.add j)=some u/\rE w u x):=by
 obtain ⟨A,th,hv,GO,nL⟩:=h
 cases hv
 refine ⟨rfl,fun hl=> ?_⟩
 obtain ⟨a,hA,hz,vs,hj,sf⟩:=nL (fun e=>hl (bG e))
 refine ⟨a,hA,fun j x hx=> ?_⟩
 have iS:j<l.length:=(List.getElem?_eq_some_iff.1 hx).1
 have Xi:(Row.rows false l).cells[j]? =some (.sl false x):=by simp[Row.cells,hx]
 obtain ⟨u,G1,G2,m1,⟨_,B,Cc,hu,Ry,hi⟩,_⟩:=sf.get Xi
 refine ⟨u,by rw[hj j (by simpa[Row.cells] using iS)];exact m1,B,Cc,hu,Ry,fun abV=> ?_⟩
 obtain ⟨a2,e2,YV,hia⟩:=hi (fun e=>abV (by subst e;rfl))
 refine ⟨a2,e2,YV,x.map fun n=>Value.int .i64 n,fun j hj=> ?_,si x⟩
 have M3:j<x.length:=by simpa[Row.cells] using hj
 rw[hia j x[j] (aw M3)]
 simp[M3]
theorem H6 {w:World} {a:Addr} {u:Value} (h:w.cell? (a.add 0)=some u):a=⟨a.block,a.off,none⟩:=by
 obtain ⟨bk,o,sp⟩:=a
 cases sp with
 |none=>rfl
 |some n=>
  simp only[World.cell?,Addr.add] at h
  split at h
  ·simp at h
  ·cases h
theorem rE.out {w:World} {v:Value} {l:LI} (h:rE w v l) (hl:l≠[]): ∃b off cap,v= .slice (some ⟨b,off,none⟩) l.length cap/\l.length<=cap/\ ∀j,j<l.length->w.cell? ⟨b,off+j,none⟩=some (.int .i64 (l.getD j 0)):=by
 obtain ⟨A,cap,rfl,GO⟩:=h.form
 obtain ⟨a,rfl,hi⟩:=h.cells.2 hl
 obtain ⟨x,hx⟩: ∃x,l[0]? =some x:=⟨l[0]'(List.length_pos_iff.2 hl),aw _⟩
 have e:=H6 (hi 0 x hx)
 refine ⟨a.block,a.off,cap,by rw[<- e],GO,fun j hj=> ?_⟩
 have:=hi j l[j] (aw hj)
 rw[e,fS] at this
 rw[this]
 simp[hj]
theorem wB.out {w:World} {v:Value} {l:LL} (h:wB w v l) (hl:l≠[]): ∃b off cap,v= .slice (some ⟨b,off,none⟩) l.length cap/\l.length<=cap/\ ∀j,j<l.length-> ∃u,w.cell? ⟨b,off+j,none⟩=some u/\rE w u (l.getD j []):=by
 have h0:=h
 obtain ⟨A,cap,rfl,GO,_⟩:=h0
 obtain ⟨a,rfl,hi⟩:=h.cells.2 hl
 obtain ⟨x,hx⟩: ∃x,l[0]? =some x:=⟨l[0]'(List.length_pos_iff.2 hl),aw _⟩
 obtain ⟨u0,hu0,_⟩:=hi 0 x hx
 have e:=H6 hu0
 refine ⟨a.block,a.off,cap,by rw[<- e];rfl,GO,fun j hj=> ?_⟩
 obtain ⟨u,hu,ZA⟩:=hi j l[j] (aw hj)
 rw[e,fS] at hu
 exact ⟨u,hu,by rw[show l.getD j [] =l[j] by simp[hj]];exact ZA⟩
theorem Xj {w:World} {Zf ZL:Zs} {x:Bool} {vs:List Value} {F:FP} (h:fR w Zf ZL [.l (.b x)] vs F):pack vs= .bool x:=by
 match vs,h with
 | [v],⟨F1,F2,⟨hv,_⟩,_⟩=>exact hv
theorem Xk {w:World} {Zf ZL:Zs} {x:Int} {vs:List Value} {F:FP} (h:fR w Zf ZL [.l (.i .i64 x)] vs F):pack vs= .int .i64 x:=by
 match vs,h with
 | [v],⟨F1,F2,⟨hv,_⟩,_⟩=>exact hv
theorem Xl {w:World} {Zf ZL:Zs} {x:BA} {vs:List Value} {F:FP} (h:fR w Zf ZL [.l (.s x)] vs F):pack vs= .string x:=by
 match vs,h with
 | [v],⟨F1,F2,⟨hv,_⟩,_⟩=>exact hv
theorem OZ {w:World} {Z Z':Zs} {q:Option (Nat×Nat)} {cs:List Cell} {len size:Nat} {F:FP} (h:kh w Z q cs len size F) (oX:size=1) (yd:cs.length=len) (hz: ∀b,Z b->Z' b) (hf: ∀b,1<=F b->Z' b): ∃A cap,hdr q len= .slice A len cap/\len<=cap/\(len≠0-> ∃ad,A=some ad/\tr w Z' ad (cs.map Cell.jw)):=by
 rcases h with ⟨rfl,h0,_⟩| ⟨b,cap,arr,ty,F',rfl,hb,GO,hca,sf,hF⟩
 ·exact ⟨none,0,by rw[h0];rfl,by omega,fun h=>absurd h0 h⟩
 ·refine ⟨some ⟨b,0,none⟩,cap,rfl,GO,fun _=>⟨⟨b,0,none⟩,rfl,hf b (by rw[hF];simp),arr.toList,fun j hj=> ?_,sf.jw hz fun b' tq=>hf b' (by rw[hF];simp;omega)⟩⟩
  rw[fS,cY hb]
  simp
theorem PX {w:World} {Zf ZL:Zs} {l:LI} {vs:List Value} {F:FP} (h:fR w Zf ZL [.l (.sl .own (.ints .i64 l))] vs F) (hz: ∀b,ZL b->Av w b) (hf: ∀b,1<=F b->Av w b): ∃v,pack vs=v/\rE w v l:=by
 match vs,h with
 | [v],⟨F1,F2,⟨q,hv,hr⟩,Rz,hF⟩=>
   have Rz:F2=fz:=Rz
   subst Rz
   rw[dw] at hF
   subst hF
   refine ⟨v,rfl,?_⟩
   obtain ⟨A,cap,e,h1,h2⟩:=OZ (Z':=Av w) hr rfl (by simp[Row.cells,Row.len]) hz hf
   refine ⟨A,cap,by rw[hv,e],h1,fun nL=> ?_⟩
   obtain ⟨ad,hA,rF⟩:=h2 nL
   refine ⟨ad,hA,?_⟩
   have:(Row.ints .i64 l).cells.map Cell.jw=(Row.ints .i64 l).cells:=by simp[Row.cells,Cell.jw]
   rw[this] at rF
   exact rF
theorem PY {w:World} {Zf ZL:Zs} {l:LL} {vs:List Value} {F:FP} (h:fR w Zf ZL [.l (.sl .own (.rows true l))] vs F) (hz: ∀b,ZL b->Av w b) (hf: ∀b,1<=F b->Av w b): ∃v,pack vs=v/\wB w v l:=by
 match vs,h with
 | [v],⟨F1,F2,⟨q,hv,hr⟩,Rz,hF⟩=>
   have Rz:F2=fz:=Rz
   subst Rz
   rw[dw] at hF
   subst hF
   refine ⟨v,rfl,?_⟩
   obtain ⟨A,cap,e,h1,h2⟩:=OZ (Z':=Av w) hr rfl (by simp[Row.cells,Row.len]) hz hf
   refine ⟨A,cap,by rw[hv,e];rfl,h1,fun nL=> ?_⟩
   obtain ⟨ad,hA,rF⟩:=h2 nL
   refine ⟨ad,hA,?_⟩
   have:(Row.rows true l).cells.map Cell.jw=(Row.rows false l).cells:=by simp[Row.cells,Cell.jw]
   rw[this] at rF
   exact rF
section
variable {P:Program} {C:Cx} {w:World} {f:FuncId} {g:yb} {ds:List DV} {args:List Value}
theorem Jl {x:Bool} (hc:eP P f g ds [.l (.b x)]) (yc:wN g.kS=true) (hP:C.P0=P) (hb:Below C.w0.heap.size C.w0 w) (ha:fR w (Av w) (Av w) ds args fz):Calls P f args.toArray w fun e w'=>e= .returned (.bool x)/\Below w.heap.size w w':=
 (AA hc yc hP hb ha).mono fun e w' ⟨vs,F',he,_,PZ,_,hr⟩=>⟨by rw[he,Xj hr],PZ⟩
theorem Xm {x:Int} (hc:eP P f g ds [.l (.i .i64 x)]) (yc:wN g.kS=true) (hP:C.P0=P) (hb:Below C.w0.heap.size C.w0 w) (ha:fR w (Av w) (Av w) ds args fz):Calls P f args.toArray w fun e w'=>e= .returned (.int .i64 x)/\Below w.heap.size w w':=
 (AA hc yc hP hb ha).mono fun e w' ⟨vs,F',he,_,PZ,_,hr⟩=>⟨by rw[he,Xk hr],PZ⟩
theorem R2 {x:BA} (hc:eP P f g ds [.l (.s x)]) (yc:wN g.kS=true) (hP:C.P0=P) (hb:Below C.w0.heap.size C.w0 w) (ha:fR w (Av w) (Av w) ds args fz):Calls P f args.toArray w fun e w'=>e= .returned (.string x)/\Below w.heap.size w w':=
 (AA hc yc hP hb ha).mono fun e w' ⟨vs,F',he,_,PZ,_,hr⟩=>⟨by rw[he,Xl hr],PZ⟩
theorem Nh {x:LI} (hc:eP P f g ds [.l (.sl .own (.ints .i64 x))]) (yc:wN g.kS=true) (hP:C.P0=P) (hb:Below C.w0.heap.size C.w0 w) (ha:fR w (Av w) (Av w) ds args fz):Calls P f args.toArray w fun e w'=> ∃v,e= .returned v/\rE w' v x/\Below w.heap.size w w':=
 (AA hc yc hP hb ha).mono fun e w' ⟨vs,F',he,_,PZ,oX,hr⟩=>by
   obtain ⟨v,hv,hi⟩:=PX hr (fun b hz=>H5 PZ b hz) oX
   exact ⟨v,by rw[he,hv],hi,PZ⟩
theorem UR {x:LL} (hc:eP P f g ds [.l (.sl .own (.rows true x))]) (yc:wN g.kS=true) (hP:C.P0=P) (hb:Below C.w0.heap.size C.w0 w) (ha:fR w (Av w) (Av w) ds args fz):Calls P f args.toArray w fun e w'=> ∃v,e= .returned v/\wB w' v x/\Below w.heap.size w w':=
 (AA hc yc hP hb ha).mono fun e w' ⟨vs,F',he,_,PZ,oX,hr⟩=>by
   obtain ⟨v,hv,hi⟩:=PY hr (fun b hz=>H5 PZ b hz) oX
   exact ⟨v,by rw[he,hv],hi,PZ⟩
theorem C7 {v:Value} {l:LI} (h:rE w v l):fR w (Av w) (Av w) [.l (.sl .bi (.ints .i64 l))] [v] fz:=⟨fz,fz,⟨h,rfl⟩,rfl,(dw _).symm⟩
theorem Ni {v:Value} {l:LI} {n:Int} (h:rE w v l):fR w (Av w) (Av w) [.l (.sl .bi (.ints .i64 l)),.l (.i .i64 n)] [v,.int .i64 n] fz:=⟨fz,fz,⟨h,rfl⟩,⟨fz,fz,⟨rfl,rfl⟩,rfl,(dw _).symm⟩,(dw _).symm⟩
end
