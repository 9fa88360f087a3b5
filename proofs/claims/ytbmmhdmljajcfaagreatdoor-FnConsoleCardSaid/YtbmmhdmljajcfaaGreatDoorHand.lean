/- What a walk by hand needs of contracts: calls with lent arguments, in a grown world. Conditions: as each theorem says. -/
import Derived.Test.YtbmmhdmljajcfaaGreatDoorVExt
import Derived.WalkKit
set_option linter.unusedVariables false
set_option linter.unusedSimpArgs false
namespace Go.Proofs.YtbmmhdmljajcfaaGreatDoor.V
open Go Go.RowKit
def wE (w:World):Zs:=fun b=>b<w.heap.size
def KT (C:Cx) (w:World) (hb:Below C.w0.heap.size C.w0 w):Cx:={P0:=C.P0,w0:=w,F0:=fz,Zl:=wE w,Zf0:=wE w,N:=0,kv:=[],good:=fun b hb=>⟨hb.elim id id,rfl⟩,gnd:=C.gnd.mono fun b h=>⟨Nat.lt_of_lt_of_le (C.good b (.inr h)).1 hb.size,hb.block b (C.good b (.inr h)).1⟩}
theorem Frame.below {C:Cx} {w:World} (h:Frame C w) (hF:C.F0=fz):Below C.w0.heap.size C.w0 w:=⟨h.os,h.tape,h.output,h.size,fun k hk=>h.block k hk (by rw[hF];rfl)⟩
theorem wN {P:Program} {C:Cx} {w:World} {f:FuncId} {g:ug} {ds rs:List DV} {args:List Value} (hc:dt P f g ds rs) (uh:sP g.iH=true) (hP:C.P0=P) (hb:Below C.w0.heap.size C.w0 w) (ha:dV w (wE w) (wE w) ds args fz):
 Calls P f args.toArray w fun e w'=> ∃vs F',e= .returned (pack vs)/\vs.length=g.results.length/\Below w.heap.size w w' /\(∀b,1<=F' b->b<w'.heap.size)/\dV w' ((KT C w hb).Zf w' F') ((KT C w hb).ZL w' F') rs vs F':=by
 have h:=hc (KT C w hb) args hP ha (fun b=>by show fz b<=1;simp) (fun b hb=>by have:1<=fz b:=hb;simp at this)
 refine Calls.mono h fun e w' he=> ?_
 obtain ⟨vs,F',rfl,hlen,KU,h1,h2,hrel⟩:=he
 rw[ik _ _ uh,List.append_nil] at hrel
 exact ⟨vs,F',rfl,hlen,KU.below rfl,fun b hb=>(h2 b hb).1,hrel⟩
theorem DB {C:Cx} {w w':World} {hb:Below C.w0.heap.size C.w0 w} (h:Below w.heap.size w w') {F:FP} (b:Nat) (hz:(KT C w hb).ZL w' F b):wE w' b:=by
 rcases hz with h1|h1| ⟨_,h1,_⟩
 ·exact Nat.lt_of_lt_of_le h1 h.size
 ·exact Nat.lt_of_lt_of_le h1 h.size
 ·exact h1
def ot (w:World) (v:Value) (l:List Int):Prop:=fw w (wE w) (.ints .i64 l) v
def sE (w:World) (v:Value) (l:List (List Int)):Prop:=fw w (wE w) (.rows false l) v
theorem wO {w w':World} {r:Row} {v:Value} (h:fw w (wE w) r v) (hb:Below w.heap.size w w'):fw w' (wE w') r v:=by
 obtain ⟨A,cap,hv,CT,lG⟩:=h
 refine ⟨A,cap,hv,CT,fun hl=> ?_⟩
 obtain ⟨ad,hA,hz,vs,hj,oZ⟩:=lG hl
 have gr:ad.block<w.heap.size:=hz
 refine ⟨ad,hA,Nat.lt_of_lt_of_le gr hb.size,vs,fun j EO=> ?_,oZ.mono (fun b pJ=>⟨Nat.lt_of_lt_of_le pJ hb.size,hb.block b pJ⟩) (fun b pJ=>by simp at pJ)⟩
 rw[<- hj j EO]
 exact nL (by rw[oN];exact hb.block _ gr)
theorem ot.below {w w':World} {v:Value} {l:List Int} (h:ot w v l) (hb:Below w.heap.size w w'):ot w' v l:=wO h hb
theorem sE.below {w w':World} {v:Value} {l:List (List Int)} (h:sE w v l) (hb:Below w.heap.size w w'):sE w' v l:=wO h hb
theorem ot.form {w:World} {v:Value} {l:List Int} (h:ot w v l): ∃A cap,v= .slice A l.length cap/\l.length<=cap:=by
 obtain ⟨A,cap,hv,CT,_⟩:=h
 exact ⟨A,cap,hv,CT⟩
theorem sE.form {w:World} {v:Value} {l:List (List Int)} (h:sE w v l): ∃A cap,v= .slice A l.length cap:=by
 obtain ⟨A,cap,hv,_⟩:=h
 exact ⟨A,cap,hv⟩
theorem ot.dl {w:World} {v:Value} {l:List Int} {Z:Zs} (h:ot w v l):ly w Z (wE w) (.sl .aS (.ints .i64 l)) v fz:=⟨h,rfl⟩
theorem ot.cells {w:World} {l:List Int} {ad:Option Addr} {n cap:Nat} (h:ot w (.slice ad n cap) l):n=l.length/\(l≠[]-> ∃a,ad=some a/\Jl w a l):=by
 obtain ⟨A,pF,hv,CT,lG⟩:=h
 cases hv
 refine ⟨rfl,fun hl=> ?_⟩
 obtain ⟨a,hA,hz,vs,hj,oZ⟩:=lG (fun e=>hl (List.eq_nil_of_length_eq_zero e))
 refine ⟨a,hA,fun j n hn=> ?_⟩
 have gr:j<l.length:=(List.getElem?_eq_some_iff.1 hn).1
 have Ts:(Row.ints .i64 l).cells[j]? =some (.sc (.int .i64 n)):=by simp[Row.cells,hn]
 obtain ⟨v',G1,G2,m1,m2,_⟩:=oZ.get Ts
 have:v' = .int .i64 n:=m2.1
 subst this
 rw[hj j (by simpa[Row.cells] using gr)]
 exact m1
theorem sE.cells {w:World} {l:List (List Int)} {ad:Option Addr} {n cap:Nat} (h:sE w (.slice ad n cap) l):n=l.length/\(l≠[]-> ∃a,ad=some a/\ ∀(j:Nat) (x:List Int),l[j]? =some x-> ∃u,w.cell? (a.add j)=some u/\ot w u x):=by
 obtain ⟨A,pF,hv,CT,lG⟩:=h
 cases hv
 refine ⟨rfl,fun hl=> ?_⟩
 obtain ⟨a,hA,hz,vs,hj,oZ⟩:=lG (fun e=>hl (List.eq_nil_of_length_eq_zero e))
 refine ⟨a,hA,fun j x hx=> ?_⟩
 have gr:j<l.length:=(List.getElem?_eq_some_iff.1 hx).1
 have Ts:(Row.rows false l).cells[j]? =some (.sl false x):=by simp[Row.cells,hx]
 obtain ⟨u,G1,G2,m1,⟨_,B,yp,hu,N4,hi⟩,_⟩:=oZ.get Ts
 refine ⟨u,by rw[hj j (by simpa[Row.cells] using gr)];exact m1,B,yp,hu,N4,fun Ys=> ?_⟩
 obtain ⟨a2,e2,Vg,hia⟩:=hi (fun e=>Ys (by subst e;rfl))
 refine ⟨a2,e2,Vg,x.map fun n=>Value.int .i64 n,fun j hj=> ?_,o0 x⟩
 have Jf:j<x.length:=by simpa[Row.cells] using hj
 rw[hia j x[j] (List.getElem?_eq_getElem Jf)]
 simp[Jf]
theorem DC {w:World} {a:Addr} {u:Value} (h:w.cell? (a.add 0)=some u):a=⟨a.block,a.off,none⟩:=by
 obtain ⟨bk,o,sp⟩:=a
 cases sp with
 |none=>rfl
 |some n=>
  simp only[World.cell?,Addr.add] at h
  split at h
  ·simp at h
  ·cases h
theorem ot.out {w:World} {v:Value} {l:List Int} (h:ot w v l) (hl:l≠[]): ∃b off cap,v= .slice (some ⟨b,off,none⟩) l.length cap/\l.length<=cap/\ ∀j,j<l.length->w.cell? ⟨b,off+j,none⟩=some (.int .i64 (l.getD j 0)):=by
 obtain ⟨A,cap,rfl,CT⟩:=h.form
 obtain ⟨a,rfl,hi⟩:=h.cells.2 hl
 obtain ⟨x,hx⟩: ∃x,l[0]? =some x:=⟨l[0]'(List.length_pos_iff.2 hl),List.getElem?_eq_getElem _⟩
 have e:=DC (hi 0 x hx)
 refine ⟨a.block,a.off,cap,by rw[<- e],CT,fun j hj=> ?_⟩
 have:=hi j l[j] (List.getElem?_eq_getElem hj)
 rw[e,ef] at this
 rw[this]
 simp[hj]
theorem sE.out {w:World} {v:Value} {l:List (List Int)} (h:sE w v l) (hl:l≠[]): ∃b off cap,v= .slice (some ⟨b,off,none⟩) l.length cap/\l.length<=cap/\ ∀j,j<l.length-> ∃u,w.cell? ⟨b,off+j,none⟩=some u/\ot w u (l.getD j []):=by
 have h0:=h
 obtain ⟨A,cap,rfl,CT,_⟩:=h0
 obtain ⟨a,rfl,hi⟩:=h.cells.2 hl
 obtain ⟨x,hx⟩: ∃x,l[0]? =some x:=⟨l[0]'(List.length_pos_iff.2 hl),List.getElem?_eq_getElem _⟩
 obtain ⟨u0,hu0,_⟩:=hi 0 x hx
 have e:=DC hu0
 refine ⟨a.block,a.off,cap,by rw[<- e];rfl,CT,fun j hj=> ?_⟩
 obtain ⟨u,hu,V6⟩:=hi j l[j] (List.getElem?_eq_getElem hj)
 rw[e,ef] at hu
 exact ⟨u,hu,by rw[show l.getD j [] =l[j] by simp[hj]];exact V6⟩
theorem Tt {w:World} {Zf ZL:Zs} {x:Bool} {vs:List Value} {F:FP} (h:dV w Zf ZL [.l (.b x)] vs F):pack vs= .bool x:=by
 match vs,h with
 | [v],⟨F1,F2,⟨hv,_⟩,_⟩=>exact hv
theorem Tu {w:World} {Zf ZL:Zs} {x:Int} {vs:List Value} {F:FP} (h:dV w Zf ZL [.l (.i .i64 x)] vs F):pack vs= .int .i64 x:=by
 match vs,h with
 | [v],⟨F1,F2,⟨hv,_⟩,_⟩=>exact hv
theorem Tv {w:World} {Zf ZL:Zs} {x:ByteArray} {vs:List Value} {F:FP} (h:dV w Zf ZL [.l (.s x)] vs F):pack vs= .string x:=by
 match vs,h with
 | [v],⟨F1,F2,⟨hv,_⟩,_⟩=>exact hv
theorem KV {w:World} {Z Z':Zs} {q:Option (Nat×Nat)} {cs:List Cell} {len size:Nat} {F:FP} (h:gY w Z q cs len size F) (mL:size=1) (ui:cs.length=len) (hz: ∀b,Z b->Z' b) (hf: ∀b,1<=F b->Z' b): ∃A cap,hdr q len= .slice A len cap/\len<=cap/\(len≠0-> ∃ad,A=some ad/\pK w Z' ad (cs.map Cell.fL)):=by
 rcases h with ⟨rfl,h0,_⟩| ⟨b,cap,arr,ty,F',rfl,hb,CT,hca,oZ,hF⟩
 ·exact ⟨none,0,by rw[h0];rfl,by omega,fun h=>absurd h0 h⟩
 ·refine ⟨some ⟨b,0,none⟩,cap,rfl,CT,fun _=>⟨⟨b,0,none⟩,rfl,hf b (by rw[hF];simp),arr.toList,fun j hj=> ?_,oZ.fL hz fun b' pJ=>hf b' (by rw[hF];simp;omega)⟩⟩
  rw[ef,bO hb]
  simp
theorem Mx {w:World} {Zf ZL:Zs} {l:List Int} {vs:List Value} {F:FP} (h:dV w Zf ZL [.l (.sl .own (.ints .i64 l))] vs F) (hz: ∀b,ZL b->wE w b) (hf: ∀b,1<=F b->wE w b): ∃v,pack vs=v/\ot w v l:=by
 match vs,h with
 | [v],⟨F1,F2,⟨q,hv,hr⟩,N5,hF⟩=>
   have N5:F2=fz:=N5
   subst N5
   rw[cp] at hF
   subst hF
   refine ⟨v,rfl,?_⟩
   obtain ⟨A,cap,e,h1,h2⟩:=KV (Z':=wE w) hr rfl (by simp[Row.cells,Row.len]) hz hf
   refine ⟨A,cap,by rw[hv,e],h1,fun lG=> ?_⟩
   obtain ⟨ad,hA,ou⟩:=h2 lG
   refine ⟨ad,hA,?_⟩
   have:(Row.ints .i64 l).cells.map Cell.fL=(Row.ints .i64 l).cells:=by simp[Row.cells,Cell.fL]
   rw[this] at ou
   exact ou
theorem My {w:World} {Zf ZL:Zs} {l:List (List Int)} {vs:List Value} {F:FP} (h:dV w Zf ZL [.l (.sl .own (.rows true l))] vs F) (hz: ∀b,ZL b->wE w b) (hf: ∀b,1<=F b->wE w b): ∃v,pack vs=v/\sE w v l:=by
 match vs,h with
 | [v],⟨F1,F2,⟨q,hv,hr⟩,N5,hF⟩=>
   have N5:F2=fz:=N5
   subst N5
   rw[cp] at hF
   subst hF
   refine ⟨v,rfl,?_⟩
   obtain ⟨A,cap,e,h1,h2⟩:=KV (Z':=wE w) hr rfl (by simp[Row.cells,Row.len]) hz hf
   refine ⟨A,cap,by rw[hv,e];rfl,h1,fun lG=> ?_⟩
   obtain ⟨ad,hA,ou⟩:=h2 lG
   refine ⟨ad,hA,?_⟩
   have:(Row.rows true l).cells.map Cell.fL=(Row.rows false l).cells:=by simp[Row.cells,Cell.fL]
   rw[this] at ou
   exact ou
section
variable {P:Program} {C:Cx} {w:World} {f:FuncId} {g:ug} {ds:List DV} {args:List Value}
theorem EP {x:Bool} (hc:dt P f g ds [.l (.b x)]) (uh:sP g.iH=true) (hP:C.P0=P) (hb:Below C.w0.heap.size C.w0 w) (ha:dV w (wE w) (wE w) ds args fz):Calls P f args.toArray w fun e w'=>e= .returned (.bool x)/\Below w.heap.size w w':=
 (wN hc uh hP hb ha).mono fun e w' ⟨vs,F',he,_,Mz,_,hr⟩=>⟨by rw[he,Tt hr],Mz⟩
theorem Tw {x:Int} (hc:dt P f g ds [.l (.i .i64 x)]) (uh:sP g.iH=true) (hP:C.P0=P) (hb:Below C.w0.heap.size C.w0 w) (ha:dV w (wE w) (wE w) ds args fz):Calls P f args.toArray w fun e w'=>e= .returned (.int .i64 x)/\Below w.heap.size w w':=
 (wN hc uh hP hb ha).mono fun e w' ⟨vs,F',he,_,Mz,_,hr⟩=>⟨by rw[he,Tu hr],Mz⟩
theorem Ov {x:ByteArray} (hc:dt P f g ds [.l (.s x)]) (uh:sP g.iH=true) (hP:C.P0=P) (hb:Below C.w0.heap.size C.w0 w) (ha:dV w (wE w) (wE w) ds args fz):Calls P f args.toArray w fun e w'=>e= .returned (.string x)/\Below w.heap.size w w':=
 (wN hc uh hP hb ha).mono fun e w' ⟨vs,F',he,_,Mz,_,hr⟩=>⟨by rw[he,Tv hr],Mz⟩
theorem Jm {x:List Int} (hc:dt P f g ds [.l (.sl .own (.ints .i64 x))]) (uh:sP g.iH=true) (hP:C.P0=P) (hb:Below C.w0.heap.size C.w0 w) (ha:dV w (wE w) (wE w) ds args fz):Calls P f args.toArray w fun e w'=> ∃v,e= .returned v/\ot w' v x/\Below w.heap.size w w':=
 (wN hc uh hP hb ha).mono fun e w' ⟨vs,F',he,_,Mz,mL,hr⟩=>by
   obtain ⟨v,hv,hi⟩:=Mx hr (fun b hz=>DB Mz b hz) mL
   exact ⟨v,by rw[he,hv],hi,Mz⟩
theorem QZ {x:List (List Int)} (hc:dt P f g ds [.l (.sl .own (.rows true x))]) (uh:sP g.iH=true) (hP:C.P0=P) (hb:Below C.w0.heap.size C.w0 w) (ha:dV w (wE w) (wE w) ds args fz):Calls P f args.toArray w fun e w'=> ∃v,e= .returned v/\sE w' v x/\Below w.heap.size w w':=
 (wN hc uh hP hb ha).mono fun e w' ⟨vs,F',he,_,Mz,mL,hr⟩=>by
   obtain ⟨v,hv,hi⟩:=My hr (fun b hz=>DB Mz b hz) mL
   exact ⟨v,by rw[he,hv],hi,Mz⟩
theorem zx {v:Value} {l:List Int} (h:ot w v l):dV w (wE w) (wE w) [.l (.sl .aS (.ints .i64 l))] [v] fz:=⟨fz,fz,⟨h,rfl⟩,rfl,(cp _).symm⟩
theorem Jn {v:Value} {l:List Int} {n:Int} (h:ot w v l):dV w (wE w) (wE w) [.l (.sl .aS (.ints .i64 l)),.l (.i .i64 n)] [v,.int .i64 n] fz:=⟨fz,fz,⟨h,rfl⟩,⟨fz,fz,⟨rfl,rfl⟩,rfl,(cp _).symm⟩,(cp _).symm⟩
end
end Go.Proofs.YtbmmhdmljajcfaaGreatDoor.V
