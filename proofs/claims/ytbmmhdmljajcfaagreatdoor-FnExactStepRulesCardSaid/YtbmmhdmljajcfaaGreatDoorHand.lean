/- What a walk by hand needs of contracts: calls with lent arguments, in a grown world. Conditions: as each theorem says. -/
import Derived.Test.YtbmmhdmljajcfaaGreatDoorVExt
import Derived.WalkKit
set_option linter.unusedVariables false
set_option linter.unusedSimpArgs false
namespace Go.Proofs.YtbmmhdmljajcfaaGreatDoor.V
open Go Go.RowKit
def Zat (w:World):Zs:=fun b=>b<w.heap.size
def subCx (C:Cx) (w:World) (hb:Below C.w0.heap.size C.w0 w):Cx:={P0:=C.P0,w0:=w,F0:=fz,Zl:=Zat w,Zf0:=Zat w,N:=0,kv:=[],good:=fun b hb=>⟨hb.elim id id,rfl⟩,gnd:=C.gnd.mono fun b h=>⟨Nat.lt_of_lt_of_le (C.good b (.inr h)).1 hb.size,hb.block b (C.good b (.inr h)).1⟩}
theorem Frame.below {C:Cx} {w:World} (h:Frame C w) (hF:C.F0=fz):Below C.w0.heap.size C.w0 w:=⟨h.os,h.tape,h.output,h.size,fun k hk=>h.block k hk (by rw[hF];rfl)⟩
theorem call_of {P:Program} {C:Cx} {w:World} {f:FuncId} {g:Sig} {ds rs:List DV} {args:List Value} (hc:Contract P f g ds rs) (hio:noIO g.modes=true) (hP:C.P0=P) (hb:Below C.w0.heap.size C.w0 w) (ha:DVsRel w (Zat w) (Zat w) ds args fz):
 Calls P f args.toArray w fun e w'=> ∃vs F',e= .returned (pack vs)/\vs.length=g.results.length/\Below w.heap.size w w' /\(∀b,1<=F' b->b<w'.heap.size)/\DVsRel w' ((subCx C w hb).Zf w' F') ((subCx C w hb).ZL w' F') rs vs F':=by
 have h:=hc (subCx C w hb) args hP ha (fun b=>by show fz b<=1;simp) (fun b hb=>by have:1<=fz b:=hb;simp at this)
 refine Calls.mono h fun e w' he=> ?_
 obtain ⟨vs,F',rfl,hlen,hfr,h1,h2,hrel⟩:=he
 rw[ioVals_none _ _ hio,List.append_nil] at hrel
 exact ⟨vs,F',rfl,hlen,hfr.below rfl,fun b hb=>(h2 b hb).1,hrel⟩
def Ints (w:World) (v:Value) (l:List Int):Prop:=FrzRow w (Zat w) (.ints .i64 l) v
def Lists (w:World) (v:Value) (l:List (List Int)):Prop:=FrzRow w (Zat w) (.rows false l) v
theorem frzRow_below {w w':World} {r:Row} {v:Value} (h:FrzRow w (Zat w) r v) (hb:Below w.heap.size w w'):FrzRow w' (Zat w') r v:=by
 obtain ⟨A,cap,hv,hlc,hne⟩:=h
 refine ⟨A,cap,hv,hlc,fun hl=> ?_⟩
 obtain ⟨ad,hA,hz,vs,hj,hcs⟩:=hne hl
 have hlt:ad.block<w.heap.size:=hz
 refine ⟨ad,hA,Nat.lt_of_lt_of_le hlt hb.size,vs,fun j hjl=> ?_,hcs.mono (fun b hb'=>⟨Nat.lt_of_lt_of_le hb' hb.size,hb.block b hb'⟩) (fun b hb'=>by simp at hb')⟩
 rw[<- hj j hjl]
 exact cell?_of_heap (by rw[add_block];exact hb.block _ hlt)
theorem Ints.below {w w':World} {v:Value} {l:List Int} (h:Ints w v l) (hb:Below w.heap.size w w'):Ints w' v l:=frzRow_below h hb
theorem Lists.below {w w':World} {v:Value} {l:List (List Int)} (h:Lists w v l) (hb:Below w.heap.size w w'):Lists w' v l:=frzRow_below h hb
theorem Ints.form {w:World} {v:Value} {l:List Int} (h:Ints w v l): ∃A cap,v= .slice A l.length cap/\l.length<=cap:=by
 obtain ⟨A,cap,hv,hlc,_⟩:=h
 exact ⟨A,cap,hv,hlc⟩
theorem Lists.form {w:World} {v:Value} {l:List (List Int)} (h:Lists w v l): ∃A cap,v= .slice A l.length cap:=by
 obtain ⟨A,cap,hv,_⟩:=h
 exact ⟨A,cap,hv⟩
theorem Ints.dl {w:World} {v:Value} {l:List Int} {Z:Zs} (h:Ints w v l):DLRel w Z (Zat w) (.sl .lent (.ints .i64 l)) v fz:=⟨h,rfl⟩
theorem Ints.cells {w:World} {l:List Int} {ad:Option Addr} {n cap:Nat} (h:Ints w (.slice ad n cap) l):n=l.length/\(l≠[]-> ∃a,ad=some a/\IntsAt w a l):=by
 obtain ⟨A,cap',hv,hlc,hne⟩:=h
 cases hv
 refine ⟨rfl,fun hl=> ?_⟩
 obtain ⟨a,hA,hz,vs,hj,hcs⟩:=hne (fun e=>hl (List.eq_nil_of_length_eq_zero e))
 refine ⟨a,hA,fun j n hn=> ?_⟩
 have hlt:j<l.length:=(List.getElem?_eq_some_iff.1 hn).1
 have hcj:(Row.ints .i64 l).cells[j]? =some (.sc (.int .i64 n)):=by simp[Row.cells,hn]
 obtain ⟨v',G1,G2,m1,m2,_⟩:=hcs.get hcj
 have:v' = .int .i64 n:=m2.1
 subst this
 rw[hj j (by simpa[Row.cells] using hlt)]
 exact m1
theorem Lists.cells {w:World} {l:List (List Int)} {ad:Option Addr} {n cap:Nat} (h:Lists w (.slice ad n cap) l):n=l.length/\(l≠[]-> ∃a,ad=some a/\ ∀(j:Nat) (x:List Int),l[j]? =some x-> ∃u,w.cell? (a.add j)=some u/\Ints w u x):=by
 obtain ⟨A,cap',hv,hlc,hne⟩:=h
 cases hv
 refine ⟨rfl,fun hl=> ?_⟩
 obtain ⟨a,hA,hz,vs,hj,hcs⟩:=hne (fun e=>hl (List.eq_nil_of_length_eq_zero e))
 refine ⟨a,hA,fun j x hx=> ?_⟩
 have hlt:j<l.length:=(List.getElem?_eq_some_iff.1 hx).1
 have hcj:(Row.rows false l).cells[j]? =some (.sl false x):=by simp[Row.cells,hx]
 obtain ⟨u,G1,G2,m1,⟨_,B,cap2,hu,hc2,hi⟩,_⟩:=hcs.get hcj
 refine ⟨u,by rw[hj j (by simpa[Row.cells] using hlt)];exact m1,B,cap2,hu,hc2,fun hne2=> ?_⟩
 obtain ⟨a2,e2,hz2,hia⟩:=hi (fun e=>hne2 (by subst e;rfl))
 refine ⟨a2,e2,hz2,x.map fun n=>Value.int .i64 n,fun j hj=> ?_,ints_cells x⟩
 have hj':j<x.length:=by simpa[Row.cells] using hj
 rw[hia j x[j] (List.getElem?_eq_getElem hj')]
 simp[hj']
theorem spot_none {w:World} {a:Addr} {u:Value} (h:w.cell? (a.add 0)=some u):a=⟨a.block,a.off,none⟩:=by
 obtain ⟨bk,o,sp⟩:=a
 cases sp with
 |none=>rfl
 |some n=>
  simp only[World.cell?,Addr.add] at h
  split at h
  ·simp at h
  ·cases h
theorem Ints.out {w:World} {v:Value} {l:List Int} (h:Ints w v l) (hl:l≠[]): ∃b off cap,v= .slice (some ⟨b,off,none⟩) l.length cap/\l.length<=cap/\ ∀j,j<l.length->w.cell? ⟨b,off+j,none⟩=some (.int .i64 (l.getD j 0)):=by
 obtain ⟨A,cap,rfl,hlc⟩:=h.form
 obtain ⟨a,rfl,hi⟩:=h.cells.2 hl
 obtain ⟨x,hx⟩: ∃x,l[0]? =some x:=⟨l[0]'(List.length_pos_iff.2 hl),List.getElem?_eq_getElem _⟩
 have e:=spot_none (hi 0 x hx)
 refine ⟨a.block,a.off,cap,by rw[<- e],hlc,fun j hj=> ?_⟩
 have:=hi j l[j] (List.getElem?_eq_getElem hj)
 rw[e,plain_add] at this
 rw[this]
 simp[hj]
theorem Lists.out {w:World} {v:Value} {l:List (List Int)} (h:Lists w v l) (hl:l≠[]): ∃b off cap,v= .slice (some ⟨b,off,none⟩) l.length cap/\l.length<=cap/\ ∀j,j<l.length-> ∃u,w.cell? ⟨b,off+j,none⟩=some u/\Ints w u (l.getD j []):=by
 have h0:=h
 obtain ⟨A,cap,rfl,hlc,_⟩:=h0
 obtain ⟨a,rfl,hi⟩:=h.cells.2 hl
 obtain ⟨x,hx⟩: ∃x,l[0]? =some x:=⟨l[0]'(List.length_pos_iff.2 hl),List.getElem?_eq_getElem _⟩
 obtain ⟨u0,hu0,_⟩:=hi 0 x hx
 have e:=spot_none hu0
 refine ⟨a.block,a.off,cap,by rw[<- e];rfl,hlc,fun j hj=> ?_⟩
 obtain ⟨u,hu,hui⟩:=hi j l[j] (List.getElem?_eq_getElem hj)
 rw[e,plain_add] at hu
 exact ⟨u,hu,by rw[show l.getD j [] =l[j] by simp[hj]];exact hui⟩
theorem back_s {w:World} {Zf ZL:Zs} {x:ByteArray} {vs:List Value} {F:FP} (h:DVsRel w Zf ZL [.l (.s x)] vs F):pack vs= .string x:=by
 match vs,h with
 | [v],⟨F1,F2,⟨hv,_⟩,_⟩=>exact hv
section
variable {P:Program} {C:Cx} {w:World} {f:FuncId} {g:Sig} {ds:List DV} {args:List Value}
theorem call_s {x:ByteArray} (hc:Contract P f g ds [.l (.s x)]) (hio:noIO g.modes=true) (hP:C.P0=P) (hb:Below C.w0.heap.size C.w0 w) (ha:DVsRel w (Zat w) (Zat w) ds args fz):Calls P f args.toArray w fun e w'=>e= .returned (.string x)/\Below w.heap.size w w':=
 (call_of hc hio hP hb ha).mono fun e w' ⟨vs,F',he,_,hbl,_,hr⟩=>⟨by rw[he,back_s hr],hbl⟩
theorem arg_v {v:Value} {l:List Int} (h:Ints w v l):DVsRel w (Zat w) (Zat w) [.l (.sl .lent (.ints .i64 l))] [v] fz:=⟨fz,fz,⟨h,rfl⟩,rfl,(fadd_fz _).symm⟩
end
end Go.Proofs.YtbmmhdmljajcfaaGreatDoor.V
