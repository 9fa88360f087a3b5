/- The abstract evaluator and its soundness: part VCode. Conditions: as each section says. -/
import Derived.Test.YtbmmhdmljajcfaaGreatDoorVOpP
import Derived.Orders
import Derived.Tactics
import Derived.LoopN
set_option linter.unusedVariables false
set_option linter.unusedSimpArgs false
namespace Go.Proofs.YtbmmhdmljajcfaaGreatDoor.V
open Go
def ly (w:World) (Zf ZL:Zs):DL->Value->FP->Prop
 | .i k n,v,F=>v= .int k n/\F=fz
 | .b x,v,F=>v= .bool x/\F=fz
 | .s x,v,F=>v= .string x/\F=fz
 | .er true,v,F=>v= .nilIface/\F=fz
 | .er false,v,F=>(∃t x,v= .iface t x)/\F=fz
 | .sl .fL r,v,F=>fw w Zf r v/\F=fz
 | .sl .aS r,v,F=>fw w ZL r v/\F=fz
 | .sl .own r,v,F=> ∃q,v=hdr q r.len/\gY w ZL q r.cells r.len r.size F
def kx (w:World) (Zf ZL:Zs):List DL->List Value->FP->Prop
 | [],[],F=>F=fz
 |d::ds,v::vs,F=> ∃F1 F2,ly w Zf ZL d v F1/\kx w Zf ZL ds vs F2/\F=dh F1 F2
 |_,_,_=>False
def pi (w:World) (Zf ZL:Zs):DV->Value->FP->Prop
 | .l d,v,F=>ly w Zf ZL d v F
 | .agg ds,v,F=> ∃vs:List Value,v= .agg vs.toArray/\kx w Zf ZL ds vs F
 | .ptr ds,v,F=> ∃b vs ty F',v= .pointer (some ⟨b,0,none⟩)/\w.heap[b]? =some (.cells vs ty (0,0))/\kx w Zf ZL ds vs.toList F' /\F=dh (f1 b) F'
def dV (w:World) (Zf ZL:Zs):List DV->List Value->FP->Prop
 | [],[],F=>F=fz
 |d::ds,v::vs,F=> ∃F1 F2,pi w Zf ZL d v F1/\dV w Zf ZL ds vs F2/\F=dh F1 F2
 |_,_,_=>False
theorem gz (hp:Nat->Option aw): ∀(up:List (Nat×Option aw)) {j:Nat},(∀p∈up,p.1≠j)->fV hp up j=hp j:=by
 intro up
 induction up generalizing hp with
 |nil=>intro j _;rfl
 |cons p up ih=>
  intro j h
  obtain ⟨i,r⟩:=p
  rw[fV,ih _ (fun q hq=>h q (by simp[hq]))]
  have:(j==i)=false:=by have:=h (i,r) (by simp);simpa using Ne.symm this
  simp[this]
theorem BY: ∀(up:List (Nat×Option aw)) {hp hp':Nat->Option aw} {j:Nat},hp j=hp' j->fV hp up j=fV hp' up j:=by
 intro up
 induction up with
 |nil=>intro hp hp' j h;exact h
 |cons p up ih=>
  intro hp hp' j h
  obtain ⟨i,r⟩:=p
  simp only[fV]
  refine ih ?_
  cases j==i
  ·exact h
  ·rfl
def tC:Nat->Option aw:=fun _=>none
structure Ext (w:World) (Zf ZL:Zs) (n n':Nat) (up:List (Nat×Option aw)) (ρ1:Place) (E:Env):Prop where
 w:E.w=w
 zf: ∀b,Zf b->E.Zf b
 zl: ∀b,ZL b->E.ZL b
 ρ: ∀j,n<=j->j<n'->E.ρ j=ρ1 j
 hp: ∀j,n<=j->j<n'->E.hp j=fV tC up j
 nx:n' <=E.nx
structure pj (w:World) (Zf ZL:Zs) (n n':Nat) (up:List (Nat×Option aw)) (F:FP) (ρ1:Place) (oq:Nat->FP):Prop where
 le:n<=n'
 out: ∀j,j<n\/n' <=j->oq j=fz
 sum: ∀b,ar n' oq b=F b
 keys: ∀p∈up,n<=p.1/\p.1<n'
 dead: ∀j,fV tC up j=none->oq j=fz
 roots: ∀E,Ext w Zf ZL n n' up ρ1 E-> ∀j root,fV tC up j=some root->jj E j root (oq j)
section
variable {w:World} {Zf ZL:Zs}
theorem tD (n:Nat) (b:Nat) (Fs:Nat->FP) (h: ∀j,j<n->Fs j=fz):ar n Fs b=0:=by
 have:ar n Fs b=ar n (fun _=>fz) b:=n_ b (fun j hj=>by rw[h j hj])
 rw[this]
 induction n with
 |zero=>rfl
 |succ n ih=>simp[ar,ih (fun j hj=>h j (by omega)) (n_ b fun j hj=>by rw[h j (by omega)])]
theorem uH (n:Nat) (b:Nat) (Fs Gs:Nat->FP):ar n (fun j=>dh (Fs j) (Gs j)) b=ar n Fs b+ar n Gs b:=by
 induction n with
 |zero=>rfl
 |succ n ih=>simp[ar,ih];omega
theorem pj.nil (n:Nat) (ρ1:Place):pj w Zf ZL n n [] fz ρ1 (fun _=>fz):=
 ⟨Nat.le_refl _,fun _ _=>rfl,fun b=>tD n b _ (fun _ _=>rfl),by simp,fun _ _=>rfl,fun E h j root hj=>by simp[fV,tC] at hj⟩
theorem pj.join {n m n':Nat} {up gQ:List (Nat×Option aw)} {F F':FP} {ρ1 ρ2:Place} {oq X8:Nat->FP} (h:pj w Zf ZL n m up F ρ1 oq) (h':pj w Zf ZL m n' gQ F' ρ2 X8):
 pj w Zf ZL n n' (up++gQ) (dh F F') (fun j=>if j<m then ρ1 j else ρ2 j) (fun j=>dh (oq j) (X8 j))/\
 (∀E,Ext w Zf ZL n n' (up++gQ) (fun j=>if j<m then ρ1 j else ρ2 j) E->Ext w Zf ZL n m up ρ1 E/\Ext w Zf ZL m n' gQ ρ2 E):=by
 have AW: ∀j,j<m->fV tC (up++gQ) j=fV tC up j:=fun j hj=>by
  rw[ch]
  exact gz _ _ (fun p hp e=>by have:=(h'.keys p hp).1;omega)
 have Ej: ∀j,m<=j->fV tC (up++gQ) j=fV tC gQ j:=fun j hj=>by
  rw[ch]
  refine BY _ ?_
  exact gz _ _ (fun p hp e=>by have:=(h.keys p hp).2;omega)
 have C8: ∀E,Ext w Zf ZL n n' (up++gQ) (fun j=>if j<m then ρ1 j else ρ2 j) E->Ext w Zf ZL n m up ρ1 E/\Ext w Zf ZL m n' gQ ρ2 E:=fun E e=>by
  have l1:=h.le
  have l2:=h'.le
  refine ⟨⟨e.w,e.zf,e.zl,fun j a b=> ?_,fun j a b=> ?_,by have:=e.nx;omega⟩,⟨e.w,e.zf,e.zl,fun j a b=> ?_,fun j a b=> ?_,e.nx⟩⟩
  ·rw[e.ρ j a (by omega),if_pos b]
  ·rw[e.hp j a (by omega),AW j b]
  ·rw[e.ρ j (by omega) b,if_neg (by omega)]
  ·rw[e.hp j (by omega) b,Ej j a]
 have hle:=h.le
 have YU:=h'.le
 refine ⟨⟨by omega,fun j hj=> ?_,fun b=> ?_,fun p hp=> ?_,fun j hj=> ?_,fun E e j root hj=> ?_⟩,C8⟩
 ·rw[h.out j (by omega),h'.out j (by omega),cp]
 ·rw[uH,h'.sum b]
  have:=rU (Fs:=oq) b YU (fun j h1 _=>by rw[h.out j (.inr h1)];rfl)
  rw[this,h.sum b]
  rfl
 ·rcases List.mem_append.1 hp with hp|hp
  ·have:=h.keys p hp;omega
  ·have:=h'.keys p hp;omega
 ·by_cases e:j<m
  ·rw[AW j e] at hj
   rw[h.dead j hj,h'.out j (.inl e),cp]
  ·rw[Ej j (by omega)] at hj
   rw[h'.dead j hj,h.out j (.inr (by omega)),cp]
 ·obtain ⟨e1,e2⟩:=C8 E e
  by_cases e:j<m
  ·rw[AW j e] at hj
   rw[h'.out j (.inl e),cp]
   exact h.roots E e1 j root hj
  ·rw[Ej j (by omega)] at hj
   rw[h.out j (.inr (by omega)),jy]
   exact h'.roots E e2 j root hj
theorem fw.grow {Z Z':Zs} {r:Row} {v:Value} (h:fw w Z r v) (hz: ∀b,Z b->Z' b):fw w Z' r v:=h.mono (fun b hb=>⟨hz b hb,rfl⟩)
theorem pj.row {n e:Nat} {r:Row} {q:Option (Nat×Nat)} {F:FP} (h:gY w ZL q r.cells r.len r.size F):pj w Zf ZL n (n+1) [(n,some (.row e 0 r))] F (fun _=>q) (gC (fun _=>fz) n F):=by
 refine ⟨Nat.le_succ _,fun j hj=>dQ _ _ (by omega),fun b=> ?_,by simp,fun j hj=> ?_,fun E ex j root hj=> ?_⟩
 ·rw[C9,tD n b _ (fun _ _=>rfl)];omega
 ·rw[gA] at hj
  split at hj
  ·cases hj
  ·exact dQ _ _ ‹_›
 ·rw[gA] at hj
  split at hj
  ·rename_i e'
   subst e'
   cases hj
   rw[iC]
   show gY E.w E.ZL (E.ρ j) r.cells r.len r.size F
   rw[ex.ρ j (Nat.le_refl _) (Nat.lt_succ_self _),ex.w]
   exact h.mono (fun b hb=>⟨ex.zl b hb,rfl⟩) (fun b _=>rfl)
  ·cases hj
theorem xr {tt:TT} {t n n':Nat} {d:DL} {x:LV} {up:List (Nat×Option aw)} (hi:rV tt t d n=some (x,up,n')) {v:Value} {F:FP} (hd:ly w Zf ZL d v F):
 ∃ρ1 oq,pj w Zf ZL n n' up F ρ1 oq/\ ∀E,Ext w Zf ZL n n' up ρ1 E->eS E x v:=by
 have plain:F=fz->up=[]->n' =n->(∀E,Ext w Zf ZL n n' up (fun _=>none) E->eS E x v)-> ∃ρ1 oq,pj w Zf ZL n n' up F ρ1 oq/\ ∀E,Ext w Zf ZL n n' up ρ1 E->eS E x v:=fun h1 h2 h3 h4=>by
  subst h1 h2 h3
  exact ⟨_,_,pj.nil n' _,h4⟩
 cases d with
 |i k z=>cases hi;exact plain hd.2 rfl rfl (fun E _=>hd.1)
 |b z=>cases hi;exact plain hd.2 rfl rfl (fun E _=>hd.1)
 |s z=>cases hi;exact plain hd.2 rfl rfl (fun E _=>hd.1)
 |er z=>cases z<;>(cases hi;exact plain hd.2 rfl rfl (fun E _=>hd.1))
 |sl c r=>
  cases c with
  |fL=>cases hi;exact plain hd.2 rfl rfl (fun E ex=>by show fw E.w E.Zf r v;rw[ex.w];exact hd.1.grow ex.zf)
  |aS=>cases hi;exact plain hd.2 rfl rfl (fun E ex=>by show fw E.w E.ZL r v;rw[ex.w];exact hd.1.grow ex.zl)
  |own=>
   simp only[rV] at hi
   split at hi
   ·rename_i e he
    cases hi
    obtain ⟨q,hv,hr⟩:=hd
    refine ⟨_,_,pj.row hr,fun E ex=>⟨by have:=ex.nx;omega,fun root ao=> ?_⟩⟩
    rw[ex.hp n (Nat.le_refl _) (Nat.lt_succ_self _),gA,if_pos rfl] at ao
    cases ao
    exact ⟨r,rfl,by rw[ex.ρ n (Nat.le_refl _) (Nat.lt_succ_self _)];exact hv⟩
   ·cases hi
theorem qu {tt:TT}: ∀(ts:List Nat) (ds:List DL) (n n':Nat) (xs:List LV) (up:List (Nat×Option aw)) (vs:List Value) (F:FP),kM tt ts ds n=some (xs,up,n')->kx w Zf ZL ds vs F->
 ∃ρ1 oq,pj w Zf ZL n n' up F ρ1 oq/\ ∀E,Ext w Zf ZL n n' up ρ1 E->bj E xs vs
 | [],[],n,n',xs,up,vs,F,hi,hd=>by
   simp only[kM,Option.some.injEq,Prod.mk.injEq] at hi
   obtain ⟨rfl,rfl,rfl⟩:=hi
   cases vs with
   |nil=>have:F=fz:=hd
         subst this
         exact ⟨_,_,pj.nil n (fun _=>none),fun _ _=>trivial⟩
   |cons v vs=>exact absurd hd id
 | [],_::_,_,_,_,_,_,_,hi,_=>by simp[kM] at hi
 |_::_,[],_,_,_,_,_,_,hi,_=>by simp[kM] at hi
 |t::ts,d::ds,n,n',xs,up,vs,F,hi,hd=>by
  simp only[kM] at hi
  split at hi
  ·rename_i x RE m h1
   split at hi
   ·rename_i ys X9 n2 h2
    simp only[Option.some.injEq,Prod.mk.injEq] at hi
    obtain ⟨rfl,rfl,rfl⟩:=hi
    cases vs with
    |nil=>exact absurd hd id
    |cons v vs=>
     obtain ⟨F1,F2,d1,d2,rfl⟩:=hd
     obtain ⟨ρ1,oq,f1,r1⟩:=xr h1 d1
     obtain ⟨ρ2,X8,f2,r2⟩:=qu ts ds _ _ _ _ _ _ h2 d2
     obtain ⟨f3,e3⟩:=f1.join f2
     exact ⟨_,_,f3,fun E ex=>⟨r1 E (e3 E ex).1,r2 E (e3 E ex).2⟩⟩
   ·cases hi
  ·cases hi
theorem pj.box {n n' t:Nat} {up:List (Nat×Option aw)} {F':FP} {ρ1:Place} {oq:Nat->FP} (h:pj w Zf ZL (n+1) n' up F' ρ1 oq) {b:Nat} {vs:Array Value} {ty:TypeId} (hb:w.heap[b]? =some (.cells vs ty (0,0))) {xs:List LV} (hx: ∀E,Ext w Zf ZL (n+1) n' up ρ1 E->bj E xs vs.toList):
 pj w Zf ZL n n' (up++[(n,some (.box t xs))]) (dh (f1 b) F') (fun j=>if j=n then some (b,1) else ρ1 j) (gC oq n (f1 b))/\
 (∀E,Ext w Zf ZL n n' (up++[(n,some (.box t xs))]) (fun j=>if j=n then some (b,1) else ρ1 j) E->eS E (.fP n 0) (.pointer (some ⟨b,0,none⟩))):=by
 have hle:=h.le
 have ou: ∀j,fV tC (up++[(n,some (.box t xs))]) j=if j=n then some (.box t xs) else fV tC up j:=fun j=>by rw[ch,gA]
 have hnn:fV tC up n=none:=gz _ _ (fun p hp e=>by have:=(h.keys p hp).1;omega)
 have hFn:oq n=fz:=h.out n (.inl (by omega))
 have C8: ∀E,Ext w Zf ZL n n' (up++[(n,some (.box t xs))]) (fun j=>if j=n then some (b,1) else ρ1 j) E->Ext w Zf ZL (n+1) n' up ρ1 E:=fun E e=>
  ⟨e.w,e.zf,e.zl,fun j a c=>by rw[e.ρ j (by omega) c,if_neg (by omega)],fun j a c=>by rw[e.hp j (by omega) c,ou,if_neg (by omega)],e.nx⟩
 refine ⟨⟨by omega,fun j hj=> ?_,fun b'=> ?_,fun p hp=> ?_,fun j hj=> ?_,fun E e j root hj=> ?_⟩,fun E e=> ?_⟩
 ·rw[dQ _ _ (by omega)]
  exact h.out j (by omega)
 ·have h1:=fN oq (f1 b) b' (n:=n') (id:=n) (by omega)
  have h2:=h.sum b'
  rw[hFn] at h1
  simp at h1 ⊢
  omega
 ·rcases List.mem_append.1 hp with hp|hp
  ·have:=h.keys p hp;omega
  ·simp at hp;subst hp;simp;omega
 ·rw[ou] at hj
  split at hj
  ·cases hj
  ·rw[dQ _ _ ‹_›];exact h.dead j hj
 ·rw[ou] at hj
  split at hj
  ·rename_i e'
   subst e'
   cases hj
   rw[iC]
   exact ⟨b,1,vs,ty,by rw[e.ρ j (Nat.le_refl _) (by omega),if_pos rfl],by rw[e.w];exact hb,hx E (C8 E e),rfl⟩
  ·rename_i e'
   rw[dQ _ _ e']
   exact h.roots E (C8 E e) j root hj
 ·refine ⟨by have:=e.nx;omega,fun root hr=> ?_,b,1,by rw[e.ρ n (Nat.le_refl _) (by omega),if_pos rfl],rfl⟩
  rw[e.hp n (Nat.le_refl _) (by omega),ou,if_pos rfl] at hr
  cases hr
  trivial
theorem If {tt:TT} {t n n':Nat} {d:DV} {x:AV} {up:List (Nat×Option aw)} (hi:qU tt t d n=some (x,up,n')) {v:Value} {F:FP} (hd:pi w Zf ZL d v F):
 ∃ρ1 oq,pj w Zf ZL n n' up F ρ1 oq/\ ∀E,Ext w Zf ZL n n' up ρ1 E->gy E x v:=by
 cases d with
 |l d=>
  simp only[qU] at hi
  split at hi
  ·rename_i y RE m h1
   simp only[Option.some.injEq,Prod.mk.injEq] at hi
   obtain ⟨rfl,rfl,rfl⟩:=hi
   exact xr h1 hd
  ·cases hi
 |agg ds=>
  simp only[qU] at hi
  split at hi
  ·rename_i ys RE m h1
   simp only[Option.some.injEq,Prod.mk.injEq] at hi
   obtain ⟨rfl,rfl,rfl⟩:=hi
   obtain ⟨vs,rfl,hd⟩:=hd
   obtain ⟨ρ1,oq,f1,r1⟩:=qu _ _ _ _ _ _ _ _ h1 hd
   exact ⟨ρ1,oq,f1,fun E ex=>⟨vs,rfl,r1 E ex⟩⟩
  ·cases hi
 |ptr ds=>
  simp only[qU] at hi
  split at hi
  ·rename_i e sz bs hq
   split at hi
   ·rename_i ys RE m h1
    simp only[Option.some.injEq,Prod.mk.injEq] at hi
    obtain ⟨rfl,rfl,rfl⟩:=hi
    obtain ⟨b,vs,ty,F',rfl,hb,hd,rfl⟩:=hd
    obtain ⟨ρ1,oq,f1',r1⟩:=qu _ _ _ _ _ _ _ _ h1 hd
    obtain ⟨f2,r2⟩:=f1'.box (t:=e) hb r1
    exact ⟨_,_,f2,r2⟩
   ·cases hi
  ·cases hi
theorem rW {tt:TT}: ∀(ts:List Nat) (ds:List DV) (n n':Nat) (xs:List AV) (up:List (Nat×Option aw)) (vs:List Value) (F:FP),ir tt ts ds n=some (xs,up,n')->dV w Zf ZL ds vs F->
 ∃ρ1 oq,pj w Zf ZL n n' up F ρ1 oq/\ ∀E,Ext w Zf ZL n n' up ρ1 E->gD E xs vs
 | [],[],n,n',xs,up,vs,F,hi,hd=>by
   simp only[ir,Option.some.injEq,Prod.mk.injEq] at hi
   obtain ⟨rfl,rfl,rfl⟩:=hi
   cases vs with
   |nil=>have:F=fz:=hd
         subst this
         exact ⟨_,_,pj.nil n (fun _=>none),fun _ _=>trivial⟩
   |cons v vs=>exact absurd hd id
 | [],_::_,_,_,_,_,_,_,hi,_=>by simp[ir] at hi
 |_::_,[],_,_,_,_,_,_,hi,_=>by simp[ir] at hi
 |t::ts,d::ds,n,n',xs,up,vs,F,hi,hd=>by
  simp only[ir] at hi
  split at hi
  ·rename_i x RE m h1
   split at hi
   ·rename_i ys X9 n2 h2
    simp only[Option.some.injEq,Prod.mk.injEq] at hi
    obtain ⟨rfl,rfl,rfl⟩:=hi
    cases vs with
    |nil=>exact absurd hd id
    |cons v vs=>
     obtain ⟨F1,F2,d1,d2,rfl⟩:=hd
     obtain ⟨ρ1,oq,f1,r1⟩:=If h1 d1
     obtain ⟨ρ2,X8,f2,r2⟩:=rW ts ds _ _ _ _ _ _ h2 d2
     obtain ⟨f3,e3⟩:=f1.join f2
     exact ⟨_,_,f3,fun E ex=>⟨r1 E (e3 E ex).1,r2 E (e3 E ex).2⟩⟩
   ·cases hi
  ·cases hi
theorem pj.start {C:Cx} {n:Nat} {up:List (Nat×Option aw)} {ρ1:Place} {oq:Nat->FP} (h:pj C.w0 C.Zf0 C.Zl 0 n up C.F0 ρ1 oq) (h1: ∀b,C.F0 b<=1) (h2: ∀b,1<=C.F0 b->b<C.w0.heap.size):
 iM C (fV tC up) n C.w0 ρ1 oq/\Ext C.w0 C.Zf0 C.Zl 0 n up ρ1 (C.env C.w0 ρ1 (fV tC up) n oq):=by
 have hex:Ext C.w0 C.Zf0 C.Zl 0 n up ρ1 (C.env C.w0 ρ1 (fV tC up) n oq):=⟨rfl,fun b hb=> .inl hb,fun b hb=> .inl hb,fun _ _ _=>rfl,fun _ _ _=>rfl,Nat.le_refl _⟩
 refine ⟨⟨fun id hid=> ?_,fun id root hid=>h.roots _ hex id root hid,h.dead,fun b=> ?_,fun b hb=> ?_,⟨Nat.le_refl _,rfl,rfl,rfl,fun _ _ _=>rfl⟩⟩,hex⟩
 ·exact gz _ _ (fun p hp e=>by have:=(h.keys p hp).2;omega)
 ·rw[h.sum b];exact h1 b
 ·rw[h.sum b] at hb
  exact ⟨h2 b hb,.inr hb⟩
end
section
variable {tt:TT} {C:Cx} {S:St} {w:World} {ρ:Place} {Fs:Nat->FP}
theorem ly.grow {Zf ZL PF PG:Zs} (hf: ∀b,Zf b->PF b) (hl: ∀b,ZL b->PG b) {d:DL} {v:Value} {F:FP} (h:ly w Zf ZL d v F):ly w PF PG d v F:=by
 cases d with
 |sl c r=>
  cases c with
  |fL=>exact ⟨h.1.grow hf,h.2⟩
  |aS=>exact ⟨h.1.grow hl,h.2⟩
  |own=>obtain ⟨q,h1,h2⟩:=h;exact ⟨q,h1,h2.mono (fun b hb=>⟨hl b hb,rfl⟩) (fun b _=>rfl)⟩
 |er b=>cases b<;>exact h
 |_=>exact h
theorem kx.grow {Zf ZL PF PG:Zs} (hf: ∀b,Zf b->PF b) (hl: ∀b,ZL b->PG b): ∀ {ds:List DL} {vs:List Value} {F:FP},kx w Zf ZL ds vs F->kx w PF PG ds vs F
 | [],[],_,h=>h
 |d::ds,v::vs,F,⟨F1,F2,h1,h2,h3⟩=>⟨F1,F2,h1.grow hf hl,h2.grow hf hl,h3⟩
theorem pi.grow {Zf ZL PF PG:Zs} (hf: ∀b,Zf b->PF b) (hl: ∀b,ZL b->PG b) {d:DV} {v:Value} {F:FP} (h:pi w Zf ZL d v F):pi w PF PG d v F:=by
 cases d with
 |l d=>exact ly.grow hf hl h
 |agg ds=>obtain ⟨vs,h1,h2⟩:=h;exact ⟨vs,h1,h2.grow hf hl⟩
 |ptr ds=>obtain ⟨b,vs,ty,F',h1,h2,h3,h4⟩:=h;exact ⟨b,vs,ty,F',h1,h2,h3.grow hf hl,h4⟩
theorem dV.grow {Zf ZL PF PG:Zs} (hf: ∀b,Zf b->PF b) (hl: ∀b,ZL b->PG b): ∀ {ds:List DV} {vs:List Value} {F:FP},dV w Zf ZL ds vs F->dV w PF PG ds vs F
 | [],[],_,h=>h
 |d::ds,v::vs,F,⟨F1,F2,h1,h2,h3⟩=>⟨F1,F2,h1.grow hf hl,h2.grow hf hl,h3⟩
theorem xt (m:iM C S.hp S.nx w ρ Fs) {id e ver:Nat} {r:Row} (ao:S.hp id=some (.row e ver r)) {hi:Nat} (Ej:hi<=r.len): ∃F,gY w (C.ZL w (ar S.nx Fs)) (ρ id) (r.take hi).cells (r.take hi).len (r.take hi).size F/\ ∀b,F b<=Fs id b:=by
 have hl:(r.take hi).len=hi:=by rw[take_len];omega
 rcases m.roots id _ ao with ⟨g1,g2,g3⟩| ⟨b,cap,arr,ty,F',g1,g2,g3,g4,g5,g6⟩
 ·simp only[Cx.env] at g1
  exact ⟨fz,.inl ⟨g1,by omega,rfl⟩,fun b=>by simp⟩
 ·simp only[Cx.env] at g1 g2
  obtain ⟨F1,t1,t2⟩:=g5.take (hi*r.size)
  rw[<- rX] at t1
  refine ⟨dh (f1 b) F1,.inr ⟨b,cap,arr,ty,F1,g1,g2,by omega,by rw[take_size];exact g4,?_,rfl⟩,fun b'=>by have:=t2 b';rw[g6];simp;omega⟩
  have:arr.toList=arr.toList.take (hi*r.size)++arr.toList.drop (hi*r.size):=(List.take_append_drop ..).symm
  rw[this]
  exact t1.more _
theorem FK {Z:Zs} {r:Row} (h:r.len=0):gY w Z none r.cells r.len r.size fz:= .inl ⟨rfl,h,rfl⟩
theorem rY {Z:Zs} {r:Row} (h:r.len=0):fw w Z r (.slice none 0 0):=⟨none,0,by rw[h],by omega,fun hn=>absurd h hn⟩
def lN (C:Cx) (w:World) (nx:Nat) (Fs:Nat->FP) (rc:List Nat):Zs:=fun b=>C.ZL w (ar nx Fs) b\/ ∃id∈rc,1<=Fs id b
theorem lN.left {rc Oc:List Nat} {b:Nat} (h:lN C w S.nx Fs rc b):lN C w S.nx Fs (rc++Oc) b:=h.imp (fun h=>h) (fun ⟨i,h1,h2⟩=>⟨i,by simp[h1],h2⟩)
theorem lN.right {rc Oc:List Nat} {b:Nat} (h:lN C w S.nx Fs Oc b):lN C w S.nx Fs (rc++Oc) b:=h.imp (fun h=>h) (fun ⟨i,h1,h2⟩=>⟨i,by simp[h1],h2⟩)
def aw.Ek:aw->Prop
 | .row _ _ _=>True
 | .box _ _=>True
 |_=>False
theorem J7 {root:aw} (h:root.Ek):root.real:=by cases root<;>first|trivial|exact h.elim
def j8 (hp:Nat->Option aw) (ks:List Nat):Prop:= ∀k∈ks,∃root,hp k=some root/\root.Ek
theorem M_ {E:Env} {x:LV} {d:DL} {v:Value} (h:PH x=some d) (hv:eS E x v) (ZL:Zs):ly E.w E.Zf ZL d v fz:=by
 unfold PH at h
 split at h
 ·cases h;exact ⟨hv,rfl⟩
 ·cases h;exact ⟨hv,rfl⟩
 ·cases h;exact ⟨hv,rfl⟩
 ·cases h;exact ⟨hv,rfl⟩
 ·cases h
theorem BZ {E:Env} (ZL:Zs): ∀ {xs:List LV} {ds:List DL} {vs:List Value},FN xs=some ds->bj E xs vs->kx E.w E.Zf ZL ds vs fz
 | [],ds,[],h,_=>by cases h;rfl
 |x::xs,ds,v::vs,h,hv=>by
  simp only[FN] at h
  split at h
  ·rename_i d h1
   split at h
   ·rename_i wF h2
    cases h
    exact ⟨fz,fz,M_ h1 hv.1 ZL,BZ ZL h2 hv.2,(cp _).symm⟩
   ·cases h
  ·cases h
theorem v_ {x:LV} {id:Nat} (h:El x=some id):x= .fP id 0:=by
 unfold El at h
 split at h
 ·cases h;rfl
 ·cases h
theorem zW (m:iM C S.hp S.nx w ρ Fs) {t id:Nat} {ds:List DL} (he:B0 tt S.hp t id=some ds) {v:Value} (hv:eS (C.env w ρ S.hp S.nx Fs) (.fP id 0) v) (ZL:Zs):
 pi w (C.Zf w (ar S.nx Fs)) ZL (.ptr ds) v (Fs id)/\ ∃root,S.hp id=some root/\root.Ek:=by
 unfold B0 at he
 cases hp:PI tt t with
 |false=>rw[hp] at he;cases he
 |true=>
  rw[hp,cond_true] at he
  split at he
  ·rename_i bt cells ao
   obtain ⟨_,_,b,cap,hρ,rfl⟩:=hv
   obtain ⟨b',pF,vs,ty,g1,g2,g3,g4⟩:=m.roots id _ ao
   simp only[Cx.env] at hρ g1 g2
   rw[hρ] at g1;cases g1
   exact ⟨⟨b,vs,ty,fz,rfl,g2,BZ ZL he g3,by rw[cp];exact g4⟩,_,ao,trivial⟩
  ·cases he
theorem tE {r:Row} {i f:Nat} (ho:r.owned=true) (hs:r.kZ f=true) (hi:i<r.len):r.cells[i*r.size+f]? =some (.sl true (eB r i f)):=by
 cases r with
 |rows o l=>
  simp only[Row.owned] at ho
  subst ho
  simp only[Row.kZ] at hs
  have:=eq_of_beq hs
  subst this
  simp only[Row.len] at hi
  simp[Row.cells,Row.size,eB,hi]
 |dw sg o l=>
  simp only[Row.owned] at ho
  subst ho
  have hf:=FO hs
  simp only[Row.kZ] at hs
  simp only[Row.size] at hf
  simp only[Row.len] at hi
  have hsf:sg[f]? =some true:=by
   cases hq:sg[f]? with
   |none=>rw[hq] at hs;cases hs
   |some b=>rw[hq] at hs;simp at hs;rw[hs]
  have:=qV sg true l i f hf
  rw[List.getElem?_eq_getElem hi,hsf] at this
  simp only[Row.size]
  rw[this]
  simp[eB,hi]
 |_=>cases hs
theorem B1 (m:iM C S.hp S.nx w ρ Fs) {md:Mode} {t:Nat} {x:LV} {d:DL} {ks io rc:List Nat} (he:wa tt S.hp md t x=some (d,ks,io,rc)) {v:Value} (hv:eS (C.env w ρ S.hp S.nx Fs) x v):
 ∃F,ly w (C.Zf w (ar S.nx Fs)) (lN C w S.nx Fs rc) d v F/\(∀b,F b<=dH Fs (ks++io) b)/\j8 S.hp (ks++io):=by
 have hz: ∀b,C.ZL w (ar S.nx Fs) b->lN C w S.nx Fs rc b:=fun b hb=> .inl hb
 have view:(match ib S.hp x with|some (r,rc)=>some (DL.sl .aS r,([]:List Nat),([]:List Nat),rc)|none=>none)=some (d,ks,io,rc)-> ∃F,ly w (C.Zf w (ar S.nx Fs)) (lN C w S.nx Fs rc) d v F/\(∀b,F b<=dH Fs (ks++io) b)/\j8 S.hp (ks++io):=fun he=>by
  split at he
  ·rename_i r Oc ES
   cases he
   exact ⟨fz,⟨nV m ES hv,rfl⟩,fun b=>by simp,fun k hk=>by simp at hk⟩
  ·cases he
 cases x with
 |i k z=>cases he;exact ⟨fz,⟨hv,rfl⟩,fun b=>by simp,fun k hk=>by simp at hk⟩
 |b z=>cases he;exact ⟨fz,⟨hv,rfl⟩,fun b=>by simp,fun k hk=>by simp at hk⟩
 |s z=>cases he;exact ⟨fz,⟨hv,rfl⟩,fun b=>by simp,fun k hk=>by simp at hk⟩
 |er z=>cases he;cases z<;>exact ⟨fz,⟨hv,rfl⟩,fun b=>by simp,fun k hk=>by simp at hk⟩
 |nil=>
  have hv:v= .slice none 0 0:=hv
  simp only[wa] at he
  split at he
  ·split at he
   ·rename_i r hr
    have h0:=ky hr
    cases md with
    |mS=>
     cases he
     exact ⟨fz,⟨by rw[hv];exact rY (by rw[kz];exact h0),rfl⟩,fun b=>by simp,fun k hk=>by simp at hk⟩
    |DD=>
     cases he
     exact ⟨fz,⟨none,by rw[hv];rfl,FK h0⟩,fun b=>by simp,fun k hk=>by simp at hk⟩
    |io=>
     cases he
     exact ⟨fz,⟨none,by rw[hv];rfl,FK h0⟩,fun b=>by simp,fun k hk=>by simp at hk⟩
    |fL=>
     cases he
     exact ⟨fz,⟨by rw[hv];exact rY (by rw[kz];exact h0),rfl⟩,fun b=>by simp,fun k hk=>by simp at hk⟩
   ·cases he
  ·cases he
 |val p r=>
  cases md with
  |mS=>exact view he
  |DD=>cases he
  |io=>cases he
  |fL=>
   cases p with
   |true=>cases he;exact ⟨fz,⟨hv,rfl⟩,fun b=>by simp,fun k hk=>by simp at hk⟩
   |false=>cases he
 |own id=>
  cases md with
  |mS=>exact view he
  |fL=>cases he
  |DD=>
   simp only[wa] at he
   split at he
   ·rename_i e ver r ao
    replace he:=ak he
    obtain ⟨ho,he⟩:=he
    cases he
    obtain ⟨_,hx⟩:=hv
    obtain ⟨r',e1,e2⟩:=hx _ ao
    cases e1
    obtain ⟨F,k1,k2⟩:=xt m ao (Nat.le_refl r.len)
    rw[qW] at k1
    exact ⟨F,⟨ρ id,e2,k1.mono (fun b hb=>⟨hz b hb,rfl⟩) (fun b _=>rfl)⟩,fun b=>by have:=k2 b;simp[dH];exact this,fun k hk=>by simp at hk;subst hk;exact ⟨_,ao,trivial⟩⟩
   ·cases he
  |io=>
   simp only[wa] at he
   split at he
   ·rename_i e ver r ao
    replace he:=ak he
    obtain ⟨ho,he⟩:=he
    cases he
    obtain ⟨_,hx⟩:=hv
    obtain ⟨r',e1,e2⟩:=hx _ ao
    cases e1
    obtain ⟨F,k1,k2⟩:=xt m ao (Nat.le_refl r.len)
    rw[qW] at k1
    exact ⟨F,⟨ρ id,e2,k1.mono (fun b hb=>⟨hz b hb,rfl⟩) (fun b _=>rfl)⟩,fun b=>by have:=k2 b;simp[dH];exact this,fun k hk=>by simp at hk;subst hk;exact ⟨_,ao,trivial⟩⟩
   ·cases he
 |sub id lo hi=>
  cases md with
  |mS=>exact view he
  |fL=>cases he
  |DD=>
   cases lo with
   |succ lo=>cases he
   |zero=>
    simp only[wa] at he
    split at he
    ·rename_i e ver r ao
     replace he:=ak he
     obtain ⟨ho,he⟩:=he
     cases he
     obtain ⟨_,hx⟩:=hv
     obtain ⟨r',e1,_,l2,e2⟩:=hx _ ao
     cases e1
     obtain ⟨F,k1,k2⟩:=xt m ao l2
     exact ⟨F,⟨ρ id,by rw[e2,AX,take_len,Nat.min_eq_left l2];rfl,k1.mono (fun b hb=>⟨hz b hb,rfl⟩) (fun b _=>rfl)⟩,fun b=>by have:=k2 b;simp[dH];exact this,fun k hk=>by simp at hk;subst hk;exact ⟨_,ao,trivial⟩⟩
    ·cases he
  |io=>cases he
 |inner id ver i f=>
  cases md with
  |mS=>exact view he
  |fL=>cases he
  |DD=>cases he
  |io=>
   simp only[wa] at he
   split at he
   ·rename_i e u6 r ao
    have ho:=(ak he).1
    have Em:=(ak he).2
    clear he
    obtain ⟨X7,ho2⟩:=aE ho
    have FQ:=eq_of_beq X7
    simp only[Option.some.injEq,Prod.mk.injEq] at Em
    obtain ⟨rfl,rfl,rfl,rfl⟩:=Em
    obtain ⟨_,hx⟩:=hv
    obtain ⟨_,_,Ig⟩:=hx _ ao
    obtain ⟨k1,k2,k4⟩:=Ig e r (by rw[FQ])
    obtain ⟨v',F1,b1,ab5,c1,c2,jz,hle⟩:=B2 m ao (tE ho2 k1 k2)
    simp only[Cx.env] at k4
    rw[c1] at k4
    simp only[cellAt] at k4
    rw[c2] at k4
    cases k4
    refine ⟨F1,?_,fun b=>by have:=hle b;simp[dH];exact this,fun k hk=>by simp at hk;subst hk;exact ⟨_,ao,trivial⟩⟩
    rcases jz with ⟨p1,p2,p3⟩| ⟨b2,yp,u7,Od,q1,q2,q3,q4,q5,q6⟩
    ·exact ⟨none,by rw[p1];rfl,.inl ⟨rfl,by simp[Row.len,p2],p3⟩⟩
    ·refine ⟨some (b2,yp),by rw[q1];rfl,.inr ⟨b2,yp,u7,Od,fz,rfl,q2,by simpa[Row.len] using q3,by simpa[Row.size] using q4,?_,by rw[cp];exact q6⟩⟩
     refine aj.J8 fun j c hj=> ?_
     simp only[Row.cells,List.getElem?_map] at hj
     cases Ax:(eB r i f)[j]? with
     |none=>rw[Ax] at hj;cases hj
     |some z=>
      rw[Ax] at hj
      cases hj
      exact ⟨_,by simpa using q5 j z Ax,rfl,rfl⟩
   ·cases he
 |_=>cases md<;>simp[wa,ib] at he
theorem Ih (Fs:Nat->FP) (b:Nat) (ks ks' io io':List Nat):dH Fs (ks++ks' ++(io++io')) b=dH Fs (ks++io) b+dH Fs (ks' ++io') b:=by
 simp only[eT];omega
theorem j8.QP {hp:Nat->Option aw} {ks ks' io io':List Nat} (h:j8 hp (ks++io)) (h':j8 hp (ks' ++io')):j8 hp (ks++ks' ++(io++io')):=fun k hk=>by
 simp only[List.mem_append] at hk
 rcases hk with (hk|hk)| (hk|hk)
 ·exact h k (by simp[hk])
 ·exact h' k (by simp[hk])
 ·exact h k (by simp[hk])
 ·exact h' k (by simp[hk])
theorem zX (m:iM C S.hp S.nx w ρ Fs) {md:Mode}: ∀(ts:List Nat) (xs:List LV) (ds:List DL) (ks io rc:List Nat) (vs:List Value),sL tt S.hp md ts xs=some (ds,ks,io,rc)->bj (C.env w ρ S.hp S.nx Fs) xs vs->
 ∃F,kx w (C.Zf w (ar S.nx Fs)) (lN C w S.nx Fs rc) ds vs F/\(∀b,F b<=dH Fs (ks++io) b)/\j8 S.hp (ks++io)
 | [],[],ds,ks,io,rc,vs,he,hv=>by
   simp only[sL,Option.some.injEq,Prod.mk.injEq] at he
   obtain ⟨rfl,rfl,rfl,rfl⟩:=he
   cases vs with
   |nil=>exact ⟨fz,rfl,fun b=>by simp,fun k hk=>by simp at hk⟩
   |cons v vs=>exact absurd hv id
 | [],_::_,_,_,_,_,_,he,_=>by simp[sL] at he
 |_::_,[],_,_,_,_,_,he,_=>by simp[sL] at he
 |t::ts,x::xs,ds,ks,io,rc,vs,he,hv=>by
  simp only[sL] at he
  split at he
  ·rename_i d Na YV YW h1
   split at he
   ·rename_i PJ Vs io2 rc2 h2
    simp only[Option.some.injEq,Prod.mk.injEq] at he
    obtain ⟨rfl,rfl,rfl,rfl⟩:=he
    cases vs with
    |nil=>exact absurd hv id
    |cons v vs=>
     obtain ⟨F1,a1,a2,a3⟩:=B1 m h1 hv.1
     obtain ⟨F2,b1,b2,b3⟩:=zX m ts xs _ _ _ _ _ h2 hv.2
     refine ⟨dh F1 F2,⟨F1,F2,a1.grow (fun b h=>h) (fun b h=>lN.left (S:=S) h),b1.grow (fun b h=>h) (fun b h=>lN.right (S:=S) h),rfl⟩,fun b=> ?_,a3.QP b3⟩
     have:=a2 b;have:=b2 b
     rw[Ih];simp;omega
   ·cases he
  ·cases he
theorem J9 (m:iM C S.hp S.nx w ρ Fs) {md:Mode} {t:Nat} {x:AV} {d:DV} {ks io rc:List Nat} (he:Ii tt S.hp md t x=some (d,ks,io,rc)) {v:Value} (hv:gy (C.env w ρ S.hp S.nx Fs) x v):
 ∃F,pi w (C.Zf w (ar S.nx Fs)) (lN C w S.nx Fs rc) d v F/\(∀b,F b<=dH Fs (ks++io) b)/\j8 S.hp (ks++io):=by
 cases x with
 |G4 xs=>cases he
 |one x=>
  cases x with
  |l x=>
   simp only[Ii] at he
   split at he
   ·rename_i id hid
    obtain rfl:=v_ hid
    cases md with
    |io=>
     simp only[PK] at he
     split at he
     ·rename_i wF h1
      simp only[Option.some.injEq,Prod.mk.injEq] at he
      obtain ⟨rfl,rfl,rfl,rfl⟩:=he
      obtain ⟨a1,root,a2,a3⟩:=zW m h1 hv (lN C w S.nx Fs [])
      exact ⟨_,a1,fun b=>by simp[dH],fun k hk=>by simp at hk;subst hk;exact ⟨root,a2,a3⟩⟩
     ·cases he
    |_=>cases he
   ·split at he
    ·rename_i d' Na YV YW h1
     simp only[Option.some.injEq,Prod.mk.injEq] at he
     obtain ⟨rfl,rfl,rfl,rfl⟩:=he
     exact B1 m h1 hv
    ·cases he
  |agg xs=>
   simp only[Ii] at he
   split at he
   ·rename_i d' Na YV YW h1
    simp only[Option.some.injEq,Prod.mk.injEq] at he
    obtain ⟨rfl,rfl,rfl,rfl⟩:=he
    obtain ⟨vs,rfl,hv⟩:=hv
    obtain ⟨F,a1,a2,a3⟩:=zX m _ _ _ _ _ _ _ h1 hv
    exact ⟨F,⟨vs,rfl,a1⟩,a2,a3⟩
   ·cases he
theorem zY (m:iM C S.hp S.nx w ρ Fs): ∀(ms:List Mode) (ts:List Nat) (xs:List AV) (ds:List DV) (ks io rc:List Nat) (vs:List Value),qX tt S.hp ms ts xs=some (ds,ks,io,rc)->gD (C.env w ρ S.hp S.nx Fs) xs vs->
 ∃F,dV w (C.Zf w (ar S.nx Fs)) (lN C w S.nx Fs rc) ds vs F/\(∀b,F b<=dH Fs (ks++io) b)/\j8 S.hp (ks++io)
 |ms,[],[],ds,ks,io,rc,vs,he,hv=>by
  simp only[qX,Option.some.injEq,Prod.mk.injEq] at he
  obtain ⟨rfl,rfl,rfl,rfl⟩:=he
  cases vs with
  |nil=>exact ⟨fz,rfl,fun b=>by simp,fun k hk=>by simp at hk⟩
  |cons v vs=>exact absurd hv id
 |_,[],_::_,_,_,_,_,_,he,_=>by simp[qX] at he
 |_,_::_,[],_,_,_,_,_,he,_=>by simp[qX] at he
 |ms,t::ts,x::xs,ds,ks,io,rc,vs,he,hv=>by
  simp only[qX] at he
  split at he
  ·rename_i d Na YV YW h1
   split at he
   ·rename_i PJ Vs io2 rc2 h2
    simp only[Option.some.injEq,Prod.mk.injEq] at he
    obtain ⟨rfl,rfl,rfl,rfl⟩:=he
    cases vs with
    |nil=>exact absurd hv id
    |cons v vs=>
     obtain ⟨F1,a1,a2,a3⟩:=J9 m h1 hv.1
     obtain ⟨F2,b1,b2,b3⟩:=zY m _ ts xs _ _ _ _ _ h2 hv.2
     refine ⟨dh F1 F2,⟨F1,F2,a1.grow (fun b h=>h) (fun b h=>lN.left (S:=S) h),b1.grow (fun b h=>h) (fun b h=>lN.right (S:=S) h),rfl⟩,fun b=> ?_,a3.QP b3⟩
     have:=a2 b;have:=b2 b
     rw[Ih];simp;omega
   ·cases he
  ·cases he
end
section
variable {tt:TT} {C:Cx} {S:St} {w:World} {ρ:Place} {Fs:Nat->FP}
def k9 (Z:Zs) (Fs:Nat->FP) (fk:List Nat):Zs:=fun b=>Z b\/1<=dH Fs fk b
theorem k9.left {Z:Zs} {fk Jj:List Nat} {b:Nat} (h:k9 Z Fs fk b):k9 Z Fs (fk++Jj) b:=h.imp (fun h=>h) (fun h=>by rw[eT];omega)
theorem k9.right {Z:Zs} {fk Jj:List Nat} {b:Nat} (h:k9 Z Fs Jj b):k9 Z Fs (fk++Jj) b:=h.imp (fun h=>h) (fun h=>by rw[eT];omega)
theorem tF {r:Row} (h:r.owned=true): ∀c∈r.cells,(∃v,c= .sc v)\/ ∃l,c= .sl true l:=by
 intro c hc
 cases r with
 |ints k l=>simp only[Row.cells,List.mem_map] at hc;obtain ⟨x,_,rfl⟩:=hc;exact .inl ⟨_,rfl⟩
 |du l=>simp only[Row.cells,List.mem_map] at hc;obtain ⟨x,_,rfl⟩:=hc;exact .inl ⟨_,rfl⟩
 |strs l=>simp only[Row.cells,List.mem_map] at hc;obtain ⟨x,_,rfl⟩:=hc;exact .inl ⟨_,rfl⟩
 |rows o l=>cases o with
  |false=>cases h
  |true=>simp only[Row.cells,List.mem_map] at hc;obtain ⟨x,_,rfl⟩:=hc;exact .inr ⟨_,rfl⟩
 |dw sg o l=>cases o with
  |false=>cases h
  |true=>
   simp only[Row.cells,List.mem_flatMap] at hc
   obtain ⟨x,_,hc⟩:=hc
   obtain ⟨j,hj⟩:=List.getElem?_of_mem hc
   rw[ic] at hj
   cases hs:sg[j]? with
   |none=>rw[hs] at hj;cases hj
   |some b=>rw[hs] at hj;cases b<;>(simp at hj;subst hj)<;>first|exact .inl ⟨_,rfl⟩|exact .inr ⟨_,rfl⟩
theorem uI {w:World} {Z Z':Zs}: ∀ {cs:List Cell} {vs:List Value} {F:FP},(∀c∈cs,(∃v,c= .sc v)\/ ∃l,c= .sl true l)->aj w Z cs vs F->aj w Z' cs vs F
 | [],_,_,_,h=>h
 |c::cs,v::vs,F,hc,⟨F1,F2,h1,h2,hF⟩=>by
  refine ⟨F1,F2,?_,uI (fun c' Hf=>hc c' (by simp[Hf])) h2,hF⟩
  rcases hc c (by simp) with ⟨u,rfl⟩| ⟨l,rfl⟩<;>exact h1
theorem AY (m:iM C S.hp S.nx w ρ Fs) {id e ver:Nat} {r:Row} (ao:S.hp id=some (.row e ver r)) (Z:Zs) (hz:r.owned=true\/ ∀b,C.ZL w (ar S.nx Fs) b->Z b):fw w (k9 Z Fs [id]) r.fL (hdr (ρ id) r.len):=by
 have YX: ∀b,1<=Fs id b->k9 Z Fs [id] b:=fun b hb=> .inr (by simp[dH];exact hb)
 rcases m.roots id _ ao with ⟨g1,g2,g3⟩| ⟨b,cap,arr,ty,F',g1,g2,g3,g4,g5,g6⟩
 ·simp only[Cx.env] at g1
  rw[g1,show hdr none r.len= .slice none 0 0 from rfl]
  exact rY (by rw[kz];exact g2)
 ·simp only[Cx.env] at g1 g2
  rw[g1]
  refine ⟨some ⟨b,0,none⟩,cap,by rw[kz];rfl,by rw[kz];exact g3,fun _=>⟨_,rfl,YX b (by rw[g6];simp),arr.toList,fun j hj=>by rw[ef,bO g2];simp,?_⟩⟩
  rw[y8]
  rcases hz with ho|hz
  ·exact (uI (Z':=Z) (tF ho) g5).fL (fun b hb=> .inl hb) (fun b' hb=>YX b' (by rw[g6];simp;omega))
  ·exact g5.fL (fun b hb=> .inl (hz b hb)) (fun b' hb=>YX b' (by rw[g6];simp;omega))
theorem vm (m:iM C S.hp S.nx w ρ Fs) {oc:lO} {t:Nat} {x:LV} {d:DL} {ks fk:List Nat} (he:uJ tt S.hp oc t x=some (d,ks,fk)) {v:Value} (hv:eS (C.env w ρ S.hp S.nx Fs) x v):
 ∃F,ly w (k9 (C.Zf w (ar S.nx Fs)) Fs fk) (k9 (C.ZL w (ar S.nx Fs)) Fs fk) d v F/\(∀b,F b<=dH Fs ks b)/\j8 S.hp (ks++fk):=by
 have hz: ∀b,C.ZL w (ar S.nx Fs) b->k9 (C.ZL w (ar S.nx Fs)) Fs fk b:=fun b hb=> .inl hb
 have J_: ∀b,C.Zf w (ar S.nx Fs) b->k9 (C.Zf w (ar S.nx Fs)) Fs fk b:=fun b hb=> .inl hb
 have hsc: ∀ {d':DL},some (d',([]:List Nat),([]:List Nat))=some (d,ks,fk)->ly w (k9 (C.Zf w (ar S.nx Fs)) Fs fk) (k9 (C.ZL w (ar S.nx Fs)) Fs fk) d' v fz-> ∃F,ly w (k9 (C.Zf w (ar S.nx Fs)) Fs fk) (k9 (C.ZL w (ar S.nx Fs)) Fs fk) d v F/\(∀b,F b<=dH Fs ks b)/\j8 S.hp (ks++fk):=fun he hd=>by
  simp only[Option.some.injEq,Prod.mk.injEq] at he
  obtain ⟨rfl,rfl,rfl⟩:=he
  exact ⟨fz,hd,fun b=>by simp,fun k hk=>by simp at hk⟩
 cases x with
 |i k z=>exact hsc he ⟨hv,rfl⟩
 |b z=>exact hsc he ⟨hv,rfl⟩
 |s z=>exact hsc he ⟨hv,rfl⟩
 |er z=>cases z<;>exact hsc he ⟨hv,rfl⟩
 |nil=>
  have hv:v= .slice none 0 0:=hv
  simp only[uJ] at he
  split at he
  ·split at he
   ·rename_i r hr
    have h0:=ky hr
    cases oc with
    |own=>exact hsc he ⟨none,by rw[hv];rfl,FK h0⟩
    |fL=>exact hsc he ⟨by rw[hv];exact rY (by rw[kz];exact h0),rfl⟩
    |aS=>exact hsc he ⟨by rw[hv];exact rY (by rw[kz];exact h0),rfl⟩
   ·cases he
  ·cases he
 |val p r=>
  cases oc with
  |own=>cases he
  |fL=>
   cases p with
   |true=>exact hsc he ⟨fw.grow hv J_,rfl⟩
   |false=>cases he
  |aS=>
   refine hsc (d':= .sl .aS r) he ⟨?_,rfl⟩
   cases p with
   |true=>exact fw.grow hv (fun b hb=>hz b (.inr hb))
   |false=>exact fw.grow hv hz
 |own id=>
  simp only[uJ] at he
  split at he
  ·rename_i e ver r ao
   obtain ⟨_,hx⟩:=hv
   obtain ⟨r',e1,e2⟩:=hx _ ao
   cases e1
   simp only[Cx.env] at e2
   have mX:j8 S.hp [id]:=fun k hk=>by simp at hk;subst hk;exact ⟨_,ao,trivial⟩
   cases oc with
   |own=>
    have Em:=(ak he).2
    clear he
    simp only[Option.some.injEq,Prod.mk.injEq] at Em
    obtain ⟨rfl,rfl,rfl⟩:=Em
    obtain ⟨F,k1,k2⟩:=xt m ao (Nat.le_refl r.len)
    rw[qW] at k1
    exact ⟨F,⟨ρ id,e2,k1.mono (fun b hb=>⟨hz b hb,rfl⟩) (fun b _=>rfl)⟩,fun b=>by have:=k2 b;simp[dH];exact this,mX⟩
   |fL=>
    have WK:=(ak he).1
    have Em:=(ak he).2
    clear he
    simp only[Option.some.injEq,Prod.mk.injEq] at Em
    obtain ⟨rfl,rfl,rfl⟩:=Em
    exact ⟨fz,⟨by rw[e2];exact AY m ao _ (.inl WK),rfl⟩,fun b=>by simp,mX⟩
   |aS=>
    simp only[Option.some.injEq,Prod.mk.injEq] at he
    obtain ⟨rfl,rfl,rfl⟩:=he
    exact ⟨fz,⟨by rw[e2];exact AY m ao _ (.inr fun b hb=>hb),rfl⟩,fun b=>by simp,mX⟩
  ·cases he
 |sub id lo hi=>
  simp only[uJ] at he
  split at he
  ·rename_i e ver r ao
   cases oc with
    |own=>
     have Em:=(ak he).2
     have AW:lo=0:=Nat.eq_of_beq_eq_true (aE (ak he).1).1
     clear he
     subst AW
     simp only[Option.some.injEq,Prod.mk.injEq] at Em
     obtain ⟨rfl,rfl,rfl⟩:=Em
     obtain ⟨_,hx⟩:=hv
     obtain ⟨r',e1,_,l2,e2⟩:=hx _ ao
     cases e1
     obtain ⟨F,k1,k2⟩:=xt m ao l2
     exact ⟨F,⟨ρ id,by rw[e2,AX,take_len,Nat.min_eq_left l2];rfl,k1.mono (fun b hb=>⟨hz b hb,rfl⟩) (fun b _=>rfl)⟩,fun b=>by have:=k2 b;simp[dH];exact this,fun k hk=>by simp at hk;subst hk;exact ⟨_,ao,trivial⟩⟩
    |fL=>
     have WK:=(ak he).1
     have Em:=(ak he).2
     clear he
     simp only[Option.some.injEq,Prod.mk.injEq] at Em
     obtain ⟨rfl,rfl,rfl⟩:=Em
     obtain ⟨_,hx⟩:=hv
     obtain ⟨r',e1,l1,l2,e2⟩:=hx _ ao
     cases e1
     refine ⟨fz,⟨?_,rfl⟩,fun b=>by simp,fun k hk=>by simp at hk;subst hk;exact ⟨_,ao,trivial⟩⟩
     have KU:=AY m ao (C.Zf w (ar S.nx Fs)) (.inl WK)
     rw[e2]
     simp only[Cx.env]
     cases hρ:ρ id with
     |none=>
      have h0:r.len=0:=by
       rcases m.roots id _ ao with ⟨_,g2,_⟩| ⟨b,cap,arr,ty,F',g1,_⟩
       ·exact g2
       ·simp only[Cx.env] at g1;rw[hρ] at g1;cases g1
      have:fw w (k9 (C.Zf w (ar S.nx Fs)) Fs [id]) ((r.fL.take hi).drop lo) (.slice none 0 0):=rY (by rw[pn,take_len,kz];omega)
      exact this
     |some q=>
      obtain ⟨b,cap⟩:=q
      rw[hρ] at KU
      obtain ⟨A,pF,k1,k2,k3⟩:=KU
      simp only[hdr,Value.slice.injEq] at k1
      obtain ⟨rfl,_,rfl⟩:=k1
      have:=wb (w:=w) (Z:=k9 (C.Zf w (ar S.nx Fs)) Fs [id]) (r:=r.fL) (A:=some ⟨b,0,none⟩) (cap:=cap) k2 k3 lo hi l1 (by rw[kz];exact l2)
      simp only[lD]
      rw[Ij] at this
      have e3:(if cap=lo then some (⟨b,0,none⟩:Addr) else (some (⟨b,0,none⟩:Addr)).map (·.add (lo*r.size)))=some (if cap=lo then ⟨b,0,none⟩ else ⟨b,lo*r.size,none⟩):=by
       split
       ·rfl
       ·simp[ef]
      rw[e3] at this
      exact this
    |aS=>cases he
  ·cases he
 |_=>cases he
theorem tG (m:iM C S.hp S.nx w ρ Fs) {oc:lO}: ∀(ts:List Nat) (xs:List LV) (ds:List DL) (ks fk:List Nat) (vs:List Value),po tt S.hp oc ts xs=some (ds,ks,fk)->bj (C.env w ρ S.hp S.nx Fs) xs vs->
 ∃F,kx w (k9 (C.Zf w (ar S.nx Fs)) Fs fk) (k9 (C.ZL w (ar S.nx Fs)) Fs fk) ds vs F/\(∀b,F b<=dH Fs ks b)/\j8 S.hp (ks++fk)
 | [],[],ds,ks,fk,vs,he,hv=>by
   simp only[po,Option.some.injEq,Prod.mk.injEq] at he
   obtain ⟨rfl,rfl,rfl⟩:=he
   cases vs with
   |nil=>exact ⟨fz,rfl,fun b=>by simp,fun k hk=>by simp at hk⟩
   |cons v vs=>exact absurd hv id
 | [],_::_,_,_,_,_,he,_=>by simp[po] at he
 |_::_,[],_,_,_,_,he,_=>by simp[po] at he
 |t::ts,x::xs,ds,ks,fk,vs,he,hv=>by
  simp only[po] at he
  split at he
  ·rename_i d Na YY h1
   split at he
   ·rename_i PJ Vs fk2 h2
    simp only[Option.some.injEq,Prod.mk.injEq] at he
    obtain ⟨rfl,rfl,rfl⟩:=he
    cases vs with
    |nil=>exact absurd hv id
    |cons v vs=>
     obtain ⟨F1,a1,a2,a3⟩:=vm m h1 hv.1
     obtain ⟨F2,b1,b2,b3⟩:=tG m ts xs _ _ _ _ h2 hv.2
     refine ⟨dh F1 F2,⟨F1,F2,a1.grow (fun b h=>k9.left h) (fun b h=>k9.left h),b1.grow (fun b h=>k9.right h) (fun b h=>k9.right h),rfl⟩,fun b=> ?_,a3.QP b3⟩
     have:=a2 b;have:=b2 b
     rw[eT];simp;omega
   ·cases he
  ·cases he
theorem FR (m:iM C S.hp S.nx w ρ Fs) {oc:lO} {t:Nat} {x:AV} {d:DV} {ks fk:List Nat} (he:FU tt S.hp oc t x=some (d,ks,fk)) {v:Value} (hv:gy (C.env w ρ S.hp S.nx Fs) x v):
 ∃F,pi w (k9 (C.Zf w (ar S.nx Fs)) Fs fk) (k9 (C.ZL w (ar S.nx Fs)) Fs fk) d v F/\(∀b,F b<=dH Fs ks b)/\j8 S.hp (ks++fk):=by
 cases x with
 |G4 xs=>cases he
 |one x=>
  cases x with
  |l x=>
   simp only[FU] at he
   split at he
   ·rename_i id hid
    obtain rfl:=v_ hid
    split at he
    ·rename_i wF h1
     simp only[Option.some.injEq,Prod.mk.injEq] at he
     obtain ⟨rfl,rfl,rfl⟩:=he
     obtain ⟨a1,root,a2,a3⟩:=zW m h1 hv (k9 (C.ZL w (ar S.nx Fs)) Fs [])
     exact ⟨_,a1.grow (fun b hb=> .inl hb) (fun b hb=>hb),fun b=>by simp[dH],fun k hk=>by simp at hk;subst hk;exact ⟨root,a2,a3⟩⟩
    ·cases he
   ·split at he
    ·rename_i d' Na YY h1
     simp only[Option.some.injEq,Prod.mk.injEq] at he
     obtain ⟨rfl,rfl,rfl⟩:=he
     exact vm m h1 hv
    ·cases he
  |agg xs=>
   simp only[FU] at he
   split at he
   ·rename_i d' Na YY h1
    simp only[Option.some.injEq,Prod.mk.injEq] at he
    obtain ⟨rfl,rfl,rfl⟩:=he
    obtain ⟨vs,rfl,hv⟩:=hv
    obtain ⟨F,a1,a2,a3⟩:=tG m _ _ _ _ _ _ h1 hv
    exact ⟨F,⟨vs,rfl,a1⟩,a2,a3⟩
   ·cases he
theorem qv (m:iM C S.hp S.nx w ρ Fs) {oc:lO}: ∀(ts:List Nat) (xs:List AV) (ds:List DV) (ks fk:List Nat) (vs:List Value),pV tt S.hp oc ts xs=some (ds,ks,fk)->gD (C.env w ρ S.hp S.nx Fs) xs vs->
 ∃F,dV w (k9 (C.Zf w (ar S.nx Fs)) Fs fk) (k9 (C.ZL w (ar S.nx Fs)) Fs fk) ds vs F/\(∀b,F b<=dH Fs ks b)/\j8 S.hp (ks++fk)
 | [],[],ds,ks,fk,vs,he,hv=>by
   simp only[pV,Option.some.injEq,Prod.mk.injEq] at he
   obtain ⟨rfl,rfl,rfl⟩:=he
   cases vs with
   |nil=>exact ⟨fz,rfl,fun b=>by simp,fun k hk=>by simp at hk⟩
   |cons v vs=>exact absurd hv id
 | [],_::_,_,_,_,_,he,_=>by simp[pV] at he
 |_::_,[],_,_,_,_,he,_=>by simp[pV] at he
 |t::ts,x::xs,ds,ks,fk,vs,he,hv=>by
  simp only[pV] at he
  split at he
  ·rename_i d Na YY h1
   split at he
   ·rename_i PJ Vs fk2 h2
    simp only[Option.some.injEq,Prod.mk.injEq] at he
    obtain ⟨rfl,rfl,rfl⟩:=he
    cases vs with
    |nil=>exact absurd hv id
    |cons v vs=>
     obtain ⟨F1,a1,a2,a3⟩:=FR m h1 hv.1
     obtain ⟨F2,b1,b2,b3⟩:=qv m ts xs _ _ _ _ h2 hv.2
     refine ⟨dh F1 F2,⟨F1,F2,a1.grow (fun b h=>k9.left h) (fun b h=>k9.left h),b1.grow (fun b h=>k9.right h) (fun b h=>k9.right h),rfl⟩,fun b=> ?_,a3.QP b3⟩
     have:=a2 b;have:=b2 b
     rw[eT];simp;omega
   ·cases he
  ·cases he
end
section
variable {C:Cx} {S:St} {a:Act} {w:World} {ρ:Place} {Fs:Nat->FP}
theorem bb.y9 (h:bb C S a w ρ Fs) (t:Nat) (x:AV) (hx:gy (C.env w ρ S.hp S.nx Fs) x (C.val a t)):bb C ⟨fun j=>bif j==t then x else S.sl j,S.hp,S.nx⟩ a w ρ Fs:=by
 refine ⟨h.mem,h.defers,h.size,fun j=> ?_⟩
 show gy _ (bif j==t then x else S.sl j) _
 cases e:j==t with
 |true=>have:=eq_of_beq e;subst this;exact hx
 |false=>exact h.qY j
theorem bb.PL (h:bb C S a w ρ Fs) {id e ver:Nat} {r:Row} (hr:S.hp id=some (.row e ver r)):bb C ⟨S.sl,fun j=>bif j==id then none else S.hp j,S.nx⟩ a w ρ (gC Fs id fz)/\fw w (C.ZL w (ar S.nx (gC Fs id fz))) r.fL (hdr (ρ id) r.len):=by
 have gr:=dA h.mem hr
 have jY: ∀b,ar S.nx (gC Fs id fz) b+Fs id b=ar S.nx Fs b:=fun b=>by
  have e1:=fN Fs fz b gr
  simp at e1
  omega
 have hz: ∀b,C.Zf w (ar S.nx Fs) b->C.Zf w (ar S.nx (gC Fs id fz)) b:=fun b hb=>by
  rcases hb with hb| ⟨h1,h2,h3⟩
  ·exact .inl hb
  ·exact .inr ⟨h1,h2,by have:=jY b;omega⟩
 refine ⟨?_,?_⟩
 ·refine h.gen _ _ w _ _ (fun _=>False) (Nat.le_refl _) rfl rfl rfl (fun _ _ _=>rfl) (fun _ h=>h.elim) (Nat.le_refl _) (fun j hj u9=>rfl) (fun j hj=> ?_) (fun j hj=> .inl ⟨?_,?_⟩) (fun b'=>by have:=jY b';have:=h.mem.one b';omega) (fun b' pJ=> .inl (by have:=jY b';omega))
  ·by_cases e1:j=id
   ·subst e1;exact .gone (by simp) (iC ..)
   ·have e2:(j==id)=false:=by simp[e1]
    exact .same (by simp[e2]) (by rw[dQ _ _ e1]) (fun _ _ h=>h)
  ·have e1:j≠id:=by omega
   have e2:(j==id)=false:=by simp[e1]
   simp only[e2,cond_false];exact h.mem.fresh j hj
  ·rw[dQ _ _ (by omega)];exact h.mem.dead j (h.mem.fresh j hj)
 ·refine (AY h.mem hr (C.ZL w (ar S.nx Fs)) (.inr fun b hb=>hb)).grow fun b hb=> ?_
  rcases hb with hb|hb
  ·rcases hb with hb|hb
   ·exact .inl hb
   ·exact .inr (hz b hb)
  ·have hb:1<=Fs id b:=by simpa[dH] using hb
   have h1:=jY b
   have h2:=h.mem.one b
   obtain ⟨h3,h4⟩:=h.mem.qw b (by omega)
   exact .inr (.inr ⟨h4,h3,by omega⟩)
theorem bb.WL (h:bb C S a w ρ Fs) {id e ver:Nat} {r:Row} (hr:S.hp id=some (.row e ver r)) (b:Nat) (hb:C.ZL w (ar S.nx Fs) b\/ ∃i∈[id],1<=Fs i b):C.ZL w (ar S.nx (gC Fs id fz)) b:=by
 have gr:=dA h.mem hr
 have jY: ∀b,ar S.nx (gC Fs id fz) b+Fs id b=ar S.nx Fs b:=fun b=>by
  have e1:=fN Fs fz b gr
  simp at e1
  omega
 have hz: ∀b,C.Zf w (ar S.nx Fs) b->C.Zf w (ar S.nx (gC Fs id fz)) b:=fun b hb=>by
  rcases hb with hb| ⟨h1,h2,h3⟩
  ·exact .inl hb
  ·exact .inr ⟨h1,h2,by have:=jY b;omega⟩
 rcases hb with hb| ⟨i,hi,hb⟩
 ·rcases hb with hb|hb
  ·exact .inl hb
  ·exact .inr (hz b hb)
 ·obtain rfl:=List.mem_singleton.1 hi
  have h1:=jY b
  have h2:=h.mem.one b
  obtain ⟨h3,h4⟩:=h.mem.qw b (by omega)
  exact .inr (.inr ⟨h4,h3,by omega⟩)
theorem bb.leaf (h:bb C S a w ρ Fs) {x y:LV} {o:Option Nat} (hl:AZ S.hp x=some (y,o)): ∃Fs',bb C ⟨S.sl,pp S.hp o,S.nx⟩ a w ρ Fs' /\(∀j,pp S.hp o j=S.hp j\/pp S.hp o j=none)/\(∀id,o=some id-> ∃e v r,S.hp id=some (.row e v r))/\(∀id t c,S.hp id=some (.box t c)->pp S.hp o id=some (.box t c))/\ ∀v,eS (C.env w ρ S.hp S.nx Fs) x v->eS (C.env w ρ (pp S.hp o) S.nx Fs') y v:=by
 unfold AZ at hl
 split at hl
 ·rename_i id
  split at hl
  ·rename_i e ver r hr
   simp only[Option.some.injEq,Prod.mk.injEq] at hl
   obtain ⟨rfl,rfl⟩:=hl
   obtain ⟨h1,h2⟩:=h.PL hr
   refine ⟨_,h1,fun j=> ?_,(fun i hi=>by cases hi;exact ⟨_,_,_,hr⟩),fun i t c hi=> ?_,fun v hv=> ?_⟩
   ·by_cases e1:j=id
    ·right;simp[pp,e1]
    ·have e2:(j==id)=false:=by simp[e1]
     left;simp only[pp,e2,cond_false]
   ·have e1:i≠id:=by rintro rfl;rw[hr] at hi;cases hi
    have e2:(i==id)=false:=by simp[e1]
    simp only[pp,e2,cond_false];exact hi
   ·obtain ⟨_,hv⟩:=hv
    obtain ⟨r',oj,hv⟩:=hv _ hr
    cases oj
    rw[hv]
    exact h2
  ·cases hl
 ·rename_i p r
  simp only[Option.some.injEq,Prod.mk.injEq] at hl
  obtain ⟨rfl,rfl⟩:=hl
  refine ⟨Fs,h,fun j=> .inl rfl,(fun i hi=>by cases hi),fun i t c hi=>hi,fun v hv=> ?_⟩
  cases p with
  |false=>exact hv
  |true=>exact fw.grow hv fun b hb=> .inr hb
 ·cases hl
theorem bb.Ka (h:bb C S a w ρ Fs) (t j:Nat): ∃Fs',bb C (Ka t j S) a w ρ Fs':=by
 have ht:=h.qY t
 unfold V.Ka
 split
 ·rename_i xs hs
  split
  ·rename_i x hx
   split
   ·rename_i y o hl
    obtain ⟨F1,h1,_,_,_,hy⟩:=h.leaf hl
    have XW:=h1.qY t
    simp only[] at XW
    rw[hs] at ht XW
    refine ⟨F1,h1.y9 t (.one (.agg (xs.set j y))) ?_⟩
    obtain ⟨vs,e,hv⟩:=ht
    obtain ⟨vs1,e1,ER⟩:=XW
    have:vs=vs1:=by rw[e] at e1;simpa using e1
    subst this
    refine ⟨vs,e,?_⟩
    have key: ∀ {xs:List LV} {vs:List Value} {j:Nat},bj (C.env w ρ S.hp S.nx Fs) xs vs->bj (C.env w ρ (pp S.hp o) S.nx F1) xs vs->xs[j]? =some x->bj (C.env w ρ (pp S.hp o) S.nx F1) (xs.set j y) vs:=by
     intro xs
     induction xs with
     |nil=>intro vs j _ _ hx;simp at hx
     |cons z xs ih=>
      intro vs j g1 g2 hx
      cases vs with
      |nil=>exact g1.elim
      |cons v vs=>
       cases j with
       |zero=>simp at hx;subst hx;exact ⟨hy v g1.1,g2.2⟩
       |succ j=>exact ⟨g2.1,ih g1.2 g2.2 (by simpa using hx)⟩
    exact key hv ER hx
   ·exact ⟨Fs,h⟩
  ·exact ⟨Fs,h⟩
 ·rename_i id k hs
  split
  ·rename_i bt cells hb
   split
   ·rename_i x hx
    split
    ·rename_i y o hl
     obtain ⟨F1,h1,_,_,YZ,hy⟩:=h.leaf hl
     have sG:pp S.hp o id=some (.box bt cells):=YZ _ _ _ hb
     have mC:id<S.nx:=dA h.mem hb
     obtain ⟨b,cap,vs,ty,g1,g2,g3,g4⟩:=h.mem.roots id _ hb
     obtain ⟨b',pF,Ay,ty',Uj,Uk,Y0,Vt⟩:=h1.mem.roots id _ sG
     simp only[Cx.env] at g1 g2 Uj Uk
     rw[g1] at Uj;cases Uj
     rw[g2] at Uk;cases Uk
     have key: ∀ {xs:List LV} {vs:List Value} {j:Nat},bj (C.env w ρ S.hp S.nx Fs) xs vs->bj (C.env w ρ (pp S.hp o) S.nx F1) xs vs->xs[j]? =some x->bj (C.env w ρ (pp S.hp o) S.nx F1) (xs.set j y) vs:=by
      intro xs
      induction xs with
      |nil=>intro vs j _ _ hx;simp at hx
      |cons z xs ih=>
       intro vs j g1 g2 hx
       cases vs with
       |nil=>exact g1.elim
       |cons v vs=>
        cases j with
        |zero=>simp at hx;subst hx;exact ⟨hy v g1.1,g2.2⟩
        |succ j=>exact ⟨g2.1,ih g1.2 g2.2 (by simpa using hx)⟩
     have oZ:=key g3 Y0 hx
     refine ⟨F1,h1.gen _ _ w _ _ (fun _=>False) (Nat.le_refl _) rfl rfl rfl (fun _ _ _=>rfl) (fun _ h=>h.elim) (Nat.le_refl _) (fun j hj u9=>rfl) (fun i hi=> ?_) (fun i hi=> .inl ⟨?_,h1.mem.dead i (h1.mem.fresh i hi)⟩) h1.mem.one (fun b' pJ=> .inl pJ)⟩
     ·by_cases e1:i=id
      ·subst e1
       refine .mn (.box bt cells) (.box bt (cells.set j y)) sG (by simp) trivial (fun M=> ?_)
       exact ⟨b,cap,vs,ty,g1,g2,oZ.mono M,Vt⟩
      ·have e2:(i==id)=false:=by simp[e1]
       exact .same (by simp[e2]) rfl (fun _ _ h=>h)
     ·have e1:i≠id:=by rintro rfl;have:S.nx<=i:=hi;omega
      have e2:(i==id)=false:=by simp[e1]
      simp only[e2,cond_false];exact h1.mem.fresh i hi
    ·exact ⟨Fs,h⟩
   ·exact ⟨Fs,h⟩
  ·exact ⟨Fs,h⟩
 ·exact ⟨Fs,h⟩
theorem bb.PM (t:Nat): ∀(l:List Nat) {S:St} {Fs:Nat->FP},bb C S a w ρ Fs-> ∃Fs',bb C (l.foldl (fun S j=>V.Ka t j S) S) a w ρ Fs'
 | [],_,Fs,h=>⟨Fs,h⟩
 |j::l,_,_,h=>by
  obtain ⟨F1,h1⟩:=h.Ka t j
  exact bb.PM t l h1
theorem bb.Nb (h:bb C S a w ρ Fs) (t:Nat): ∃Fs',bb C (Nb t S) a w ρ Fs':=by
 have ht:=h.qY t
 unfold V.Nb
 split
 ·rename_i id hs
  split
  ·rename_i e ver r hr
   rw[hs] at ht
   obtain ⟨_,ht⟩:=ht
   obtain ⟨r',oj,hv⟩:=ht _ hr
   cases oj
   obtain ⟨h1,h2⟩:=h.PL hr
   refine ⟨_,h1.y9 t (.one (.l (.val false r.fL))) ?_⟩
   rw[hv]
   exact h2
  ·exact ⟨Fs,h⟩
 ·rename_i id lo hi hs
  split
  ·rename_i e ver r hr
   rw[hs] at ht
   have hv:=nV (x:= .sub id lo hi) (v:=C.val a t) (r:=(r.fL.take hi).drop lo) (rc:=[id]) h.mem (by show (match S.hp id with|some (.row _ _ r)=>some (((r.fL).take hi).drop lo,[id])|_=>none)=_;rw[hr]) ht
   obtain ⟨h1,h2⟩:=h.PL hr
   exact ⟨_,h1.y9 t (.one (.l (.val false ((r.fL.take hi).drop lo)))) (hv.grow (h.WL hr))⟩
  ·exact ⟨Fs,h⟩
 ·rename_i p r hs
  rw[hs] at ht
  refine ⟨Fs,h.y9 t (.one (.l (.val false r))) ?_⟩
  cases p with
  |false=>exact ht
  |true=>exact fw.grow ht fun b hb=> .inr hb
 ·exact bb.PM t _ h
 ·split
  ·exact bb.PM t _ h
  ·exact ⟨Fs,h⟩
 ·exact ⟨Fs,h⟩
theorem Nc (n:Nat):(PN n).len=0:=by unfold PN;split<;>rfl
theorem bb.Ul (h:bb C S a w ρ Fs) {r:Row} (hr:r.len=0):bb C ⟨S.sl,fun i=>bif i==S.nx then some (.row 0 0 r) else S.hp i,S.nx+1⟩ a w (iQ ρ S.nx none) Fs/\
 qZ (C.env w ρ S.hp S.nx Fs) (C.env w (iQ ρ S.nx none) (fun i=>bif i==S.nx then some (.row 0 0 r) else S.hp i) (S.nx+1) Fs):=by
 have hF:Fs S.nx=fz:=h.mem.dead S.nx (h.mem.fresh S.nx (Nat.le_refl _))
 have jY: ∀b,ar (S.nx+1) Fs b=ar S.nx Fs b:=fun b=>by simp[ar,hF]
 refine h.Um _ _ w _ _ (fun _=>False) (Nat.le_refl _) rfl rfl rfl (fun _ _ _=>rfl) (fun _ h=>h.elim) (Nat.le_succ _) (fun j hj _=>oa _ _ (by omega)) (fun j hj=> .same ?_ rfl (fun _ _ h=>h)) (fun j hj=> ?_) (fun b=>by rw[jY];exact h.mem.one b) (fun b hb=> .inl (by rw[jY] at hb;exact hb))
 ·have e:(j==S.nx)=false:=by simp;omega
  simp only[e,cond_false]
 ·by_cases e:j=S.nx
  ·subst e
   refine .inr ⟨Nat.lt_succ_self _,.row 0 0 r,by simp,fun _=> ?_⟩
   show gY w _ (iQ ρ S.nx none S.nx) r.cells r.len r.size (Fs S.nx)
   rw[fi,hF]
   exact .inl ⟨rfl,hr,rfl⟩
  ·have e2:(j==S.nx)=false:=by simp[e]
   refine .inl ⟨?_,h.mem.dead j (h.mem.fresh j hj)⟩
   simp only[e2,cond_false];exact h.mem.fresh j hj
theorem RF (h:bb C S a w ρ Fs) {r:Row} (hr:r.len=0) {v:Value} (hv:eS (C.env w ρ S.hp S.nx Fs) .nil v):eS (C.env w (iQ ρ S.nx none) (fun i=>bif i==S.nx then some (.row 0 0 r) else S.hp i) (S.nx+1) Fs) (.own S.nx) v:=by
 have hv:v= .slice none 0 0:=hv
 refine ⟨Nat.lt_succ_self _,fun root ao=> ?_⟩
 simp only[Cx.env,beq_self_eq_true,cond_true] at ao
 cases ao
 refine ⟨r,rfl,?_⟩
 rw[hv]
 show _=hdr (iQ ρ S.nx none S.nx) r.len
 rw[fi];rfl
theorem Lq {E E':Env} {x y:LV} (hy: ∀v,eS E x v->eS E' y v): ∀ {xs:List LV} {vs:List Value} {j:Nat},bj E xs vs->bj E' xs vs->xs[j]? =some x->bj E' (xs.set j y) vs:=by
 intro xs
 induction xs with
 |nil=>intro vs j _ _ hx;simp at hx
 |cons z xs ih=>
  intro vs j g1 g2 hx
  cases vs with
  |nil=>exact g1.elim
  |cons v vs=>
   cases j with
   |zero=>simp at hx;subst hx;exact ⟨hy v g1.1,g2.2⟩
   |succ j=>exact ⟨g2.1,ih g1.2 g2.2 (by simpa using hx)⟩
theorem bb.Ik (h:bb C S a w ρ Fs) (t j:Nat) {r:Row} (hr:r.len=0): ∃ρ' Fs',bb C (Ik t j r S) a w ρ' Fs':=by
 have ht:=h.qY t
 obtain ⟨h1,hM⟩:=h.Ul hr
 have hy:=fun v=>RF h hr (v:=v)
 unfold V.Ik
 split
 ·rename_i hs
  rw[hs] at ht
  exact ⟨_,_,h1.y9 t (.one (.l (.own S.nx))) (hy _ ht)⟩
 ·rename_i xs hs
  split
  ·rename_i hx
   rw[hs] at ht
   obtain ⟨vs,e,hv⟩:=ht
   exact ⟨_,_,h1.y9 t (.one (.agg (xs.set j (.own S.nx)))) ⟨vs,e,Lq hy hv (hv.mono hM) hx⟩⟩
  ·exact ⟨_,_,h⟩
 ·rename_i id k hs
  split
  ·rename_i bt cells hb
   split
   ·rename_i hx
    have mC:id<S.nx:=dA h.mem hb
    have lG:(id==S.nx)=false:=by simp;omega
    have sG:(fun i=>bif i==S.nx then some (aw.row 0 0 r) else S.hp i) id=some (.box bt cells):=by simp only[lG,cond_false];exact hb
    obtain ⟨b,cap,vs,ty,g1,g2,g3,g4⟩:=h.mem.roots id _ hb
    obtain ⟨b',pF,Ay,ty',Uj,Uk,Y0,Vt⟩:=h1.mem.roots id _ sG
    simp only[Cx.env] at g1 g2 Uj Uk
    have g1b:iQ ρ S.nx none id=some (b,cap):=by rw[oa _ _ (by omega)];exact g1
    rw[g1b] at Uj;cases Uj
    rw[g2] at Uk;cases Uk
    have oZ:=Lq hy g3 Y0 hx
    refine ⟨iQ ρ S.nx none,Fs,h1.gen _ _ w _ _ (fun _=>False) (Nat.le_refl _) rfl rfl rfl (fun _ _ _=>rfl) (fun _ h=>h.elim) (Nat.le_refl _) (fun j hj u9=>rfl) (fun i hi=> ?_) (fun i hi=> .inl ⟨?_,h1.mem.dead i (h1.mem.fresh i hi)⟩) h1.mem.one (fun b' pJ=> .inl pJ)⟩
    ·by_cases e1:i=id
     ·subst e1
      refine .mn (.box bt cells) (.box bt (cells.set j (.own S.nx))) sG (by simp) trivial (fun M=> ?_)
      exact ⟨b,cap,vs,ty,g1b,g2,oZ.mono M,Vt⟩
     ·have e2:(i==id)=false:=by simp[e1]
      exact .same (by simp only[e2,cond_false]) rfl (fun _ _ h=>h)
    ·have hi:S.nx+1<=i:=hi
     have e1:(i==id)=false:=by simp;omega
     simp only[e1,cond_false];exact h1.mem.fresh i hi
   ·exact ⟨_,_,h⟩
  ·exact ⟨_,_,h⟩
 ·exact ⟨_,_,h⟩
theorem bb.qx: ∀(ts:List Nat) {S:St} {ρ:Place} {Fs:Nat->FP},bb C S a w ρ Fs-> ∃ρ' Fs',bb C (qx ts S) a w ρ' Fs'
 | [],_,ρ,Fs,h=>⟨ρ,Fs,h⟩
 |t::ts,S,ρ,Fs,h=>by
  show ∃ρ' Fs',bb C (ts.foldl _ (bif Nat.blt 999999999 t then WM (t-1000000000) S else V.Nb t S)) a w ρ' Fs'
  cases Nat.blt 999999999 t with
  |true=>
   obtain ⟨ρ1,F1,h1⟩:=h.Ik ((t-1000000000)%4096) ((t-1000000000)/4096%64) (Nc ((t-1000000000)/262144))
   exact bb.qx ts h1
  |false=>
   obtain ⟨F1,h1⟩:=h.Nb t
   exact bb.qx ts h1
end
def pack:List Value->Value
 | [v]=>v
 |vs=> .tuple vs.toArray
def gu:List Mode->List Value->List Value
 |m::ms,v::vs=>(match m with| .io=>[v]|_=>[])++gu ms vs
 |_,_=>[]
def Ends (C:Cx) (g:ug) (args:List Value) (rs:List DV) (e:Ending) (w':World):Prop:=
 ∃vs F',e= .returned (pack vs)/\vs.length=g.results.length/\Frame C w' /\(∀b,F' b<=1)/\(∀b,1<=F' b->b<w'.heap.size/\(C.w0.heap.size<=b\/1<=C.F0 b))/\dV w' (C.Zf w' F') (C.ZL w' F') rs (vs++gu g.iH args) F'
def dt (P:Program) (f:FuncId) (g:ug) (ds rs:List DV):Prop:=
 ∀(C:Cx) (args:List Value),C.P0=P->dV C.w0 C.Zf0 C.Zl ds args C.F0->(∀b,C.F0 b<=1)->(∀b,1<=C.F0 b->b<C.w0.heap.size)->Calls P f args.toArray C.w0 (Ends C g args rs)
section
variable {P:Program} {tt:TT} {C:Cx} {S:St} {a:Act} {w:World} {ρ:Place} {Fs:Nat->FP}
theorem gD.append {E:Env}: ∀ {xs ys:List AV} {us vs:List Value},gD E xs us->gD E ys vs->gD E (xs++ys) (us++vs)
 | [],_,[],_,_,h=>h
 |x::xs,_,u::us,_,h,h'=>⟨h.1,gD.append h.2 h'⟩
theorem gD.length {E:Env}: ∀ {xs:List AV} {us:List Value},gD E xs us->xs.length=us.length
 | [],[],_=>rfl
 |x::xs,u::us,h=>by simp[gD.length h.2]
theorem dV.append {w:World} {Zf ZL:Zs}: ∀ {ds es:List DV} {us vs:List Value} {F G:FP},dV w Zf ZL ds us F->dV w Zf ZL es vs G->dV w Zf ZL (ds++es) (us++vs) (dh F G)
 | [],_,[],_,F,G,h,h'=>by have:F=fz:=h
                          subst this
                          rw[jy];exact h'
 |d::ds,_,u::us,_,F,G,⟨F1,F2,h1,h2,h3⟩,h'=>⟨F1,dh F2 G,h1,dV.append h2 h',by rw[h3,rZ]⟩
def y_ (a:Act):ResultVar->Sem Value
 | .tmp t=>pure (a.tmps.getD t undef)
 | .cell p t=>do loadVar t (<- asAddr (a.tmps.getD p undef))
theorem qy (T:mW P tt) (h:bb C S a w ρ Fs): ∀(rs:List ResultVar) (xs:List AV),mY tt C.N S rs=some xs-> ∃vs:List Value,(rs.mapM (y_ a)).run P w= .ok vs w/\gD (C.env w ρ S.hp S.nx Fs) xs vs
 | [],xs,he=>by
   simp only[mY,Option.some.injEq] at he
   subst he
   exact ⟨[],by simp,trivial⟩
 | .tmp t::rs,xs,he=>by
   simp only[mY] at he
   obtain ⟨h1,he⟩:=ak he
   have h1:t<C.N:=by simpa[Nat.blt_eq] using h1
   split at he
   ·rename_i ys RG
    simp only[Option.some.injEq] at he
    subst he
    obtain ⟨vs,k1,k2⟩:=qy T h rs ys RG
    have:=h.qY t
    simp only[Cx.val,if_pos h1] at this
    exact ⟨a.tmps.getD t undef::vs,by simp[List.mapM_cons,y_,k1],this,k2⟩
   ·cases he
 | .cell p t::rs,xs,he=>by
   simp only[mY] at he
   obtain ⟨h1,he⟩:=ak he
   obtain ⟨h1,jn⟩:=aE h1
   have h1:p<C.N:=by simpa[Nat.blt_eq] using h1
   split at he
   ·rename_i id xh
    split at he
    ·rename_i bt cells ao
     obtain ⟨mL,he⟩:=ak he
     have mL:=eq_of_beq mL
     split at he
     ·rename_i ys RG
      simp only[Option.some.injEq] at he
      subst he
      obtain ⟨vs,k1,k2⟩:=qy T h rs ys RG
      have hp:=h.qY p
      simp only[Cx.val,if_pos h1,xh] at hp
      obtain ⟨_,_,b,cap,hρ,hv⟩:=hp
      obtain ⟨b',pF,us,ty,g1,g2,g3,g4⟩:=h.mem.roots id _ ao
      simp only[Cx.env] at hρ g1 g2
      rw[hρ] at g1;cases g1
      obtain ⟨fields,i,d1,d2,d3⟩:=mZ T jn
      have hl:=g3.length
      have PO:=lZ (P:=P) (w:=w) d1 d2 (a:=⟨b,0,none⟩) (vs:=us.toList) (by rw[d3,<- mL,hl]) (fun j v hj=>by
       rw[ef,bO g2];simpa using hj)
      unfold Instr.loadAt at PO
      rw[dR (x:=(⟨b,0,none⟩:Addr)) (w':=w) rfl] at PO
      refine ⟨.agg us.toList.toArray::vs,?_,⟨us.toList,rfl,g3⟩,k2⟩
      simp[List.mapM_cons,y_,hv,asAddr,PO,k1]
     ·cases he
    ·cases he
   ·cases he
theorem r_: ∀ {l:List Nat},B3 l=true->l.Nodup
 | [],_=>by simp
 |x::l,h=>by
  obtain ⟨h1,h2⟩:=aE h
  refine List.nodup_cons.2 ⟨fun hx=> ?_,r_ h2⟩
  rw[List.elem_iff.2 hx] at h1
  cases h1
theorem j8.lt (m:iM C S.hp S.nx w ρ Fs) {ks:List Nat} (h:j8 S.hp ks): ∀k∈ks,k<S.nx:=fun k hk=>by
 obtain ⟨root,h2,_⟩:=h k hk
 exact dA m h2
theorem B4 (h:bb C S a w ρ Fs): ∀(ms:List Mode) (ts:List Nat) (vs:List Value) (i:Nat),ts.length=vs.length->(∀j v,vs[j]? =some v->C.val a (i+j)=v)->gD (C.env w ρ S.hp S.nx Fs) ((tH i ms ts).map fun p=>S.sl p.2) (gu ms vs)
 | [],ts,vs,i,hl,hv=>by
   have e1:tH i [] ts=[]:=by simp[tH]
   have e2:gu [] vs=[]:=by simp[gu]
   rw[e1,e2];trivial
 |m::ms,[],[],i,hl,hv=>by
  have e1:tH i (m::ms) [] =[]:=by simp[tH]
  have e2:gu (m::ms) [] =[]:=by simp[gu]
  rw[e1,e2];trivial
 |m::ms,[],v::vs,i,hl,hv=>by simp at hl
 |m::ms,t::ts,[],i,hl,hv=>by simp at hl
 |m::ms,t::ts,v::vs,i,hl,hv=>by
  simp only[tH,gu,List.map_append]
  refine gD.append ?_ (B4 h ms ts vs (i+1) (by simpa using hl) (fun j u hj=>by have:=hv (j+1) u (by simpa using hj);rwa [show i+(j+1)=i+1+j by omega] at this))
  cases m with
  |io=>
   have:=h.qY i
   have e:=hv 0 v rfl
   rw[Nat.add_zero] at e
   rw[e] at this
   exact ⟨this,trivial⟩
  |_=>trivial
theorem Il {fn:Func} {a:Act} {w:World} {vs:List Value} (h:(fn.results.toList.mapM (y_ a)).run P w= .ok vs w):(results fn a.tmps).run P w= .ok (pack vs) w:=by
 have e:(fn.results.mapM (y_ a)).run P w= .ok vs.toArray w:=by
  rw[Array.mapM_eq_mapM_toList]
  simp[h]
 have e2:results fn a.tmps=(do let vs <- fn.results.mapM (y_ a);pure (if h:vs.size=1 then vs[0] else .tuple vs)):=by
  unfold results
  congr 1
 rw[e2,dR e]
 match vs with
 | []=>rfl
 | [v]=>rfl
 |u::v::vs=>
  have: ¬((u::v::vs).toArray.size=1):=by simp
  simp only[this,dif_neg,not_false_iff]
  try rfl
theorem FV (T:mW P tt) (h:bb C S a w ρ Fs) {g:ug} {fn:Func} (hN:C.N=fn.ntmps) {args:List Value} (hkv:C.kv=args) (hlen:g.params.length=args.length) (PP:fn.results.size=g.results.length) {rs:List DV} (he:finish (R:=List DV) tt g fn S some=some rs):
 ∃v,(results fn a.tmps).run P w= .ok v w/\Ends C g args rs (.returned v) w:=by
 unfold finish at he
 split at he
 ·cases he
 ·rename_i xs A5
  split at he
  ·cases he
  ·rename_i ds ks fk Y1
   simp only[] at he
   split at he
   ·cases he
   ·rename_i wF ks' Jj Un
    obtain ⟨qh,he⟩:=ak he
    cases he
    have qh:=r_ qh
    rw[<- hN] at A5
    obtain ⟨vs,k1,k2⟩:=qy (P:=P) T h _ xs A5
    obtain ⟨F1,a1,a2,a3⟩:=qv h.mem _ _ _ _ _ _ Y1 k2
    have uh:=B4 h g.iH g.params args C.N hlen (fun j v hj=>by
     simp only[Cx.val,if_neg (show ¬C.N+j<C.N by omega),Nat.add_sub_cancel_left,hkv]
     simp[List.getD_eq_getElem?_getD,hj])
    rw[hN] at uh
    obtain ⟨F2,b1,b2,b3⟩:=qv h.mem _ _ _ _ _ _ Un uh
    have WN:=j8.QP (ks:=ks) (ks':=ks') (io:=fk) (io':=Jj) a3 b3
    have gr:=WN.lt h.mem
    have yy: ∀b,dH Fs (ks++ks') b+dH Fs (fk++Jj) b<=ar S.nx Fs b:=fun b=>by
     have:=lj Fs b S.nx qh gr
     rw[eT] at this
     exact this
    have hF: ∀b,dh F1 F2 b<=dH Fs (ks++ks') b:=fun b=>by
     have:=a2 b;have:=b2 b;rw[eT];simp;omega
    have hle: ∀b,dh F1 F2 b<=ar S.nx Fs b:=fun b=>by have:=hF b;have:=yy b;omega
    have J_: ∀b,k9 (C.Zf w (ar S.nx Fs)) Fs (fk++Jj) b->C.Zf w (dh F1 F2) b:=fun b hb=>by
     rcases hb with (hb| ⟨c1,c2,c3⟩)|hb
     ·exact .inl hb
     ·exact .inr ⟨c1,c2,by have:=hle b;omega⟩
     ·have:=yy b
      have:=h.mem.one b
      obtain ⟨o1,o2⟩:=h.mem.qw b (by omega)
      exact .inr ⟨o2,o1,by have:=hF b;omega⟩
    have QQ: ∀b,k9 (C.ZL w (ar S.nx Fs)) Fs (fk++Jj) b->C.ZL w (dh F1 F2) b:=fun b hb=>by
     rcases hb with (hb|hb)|hb
     ·exact .inl hb
     ·exact .inr (J_ b (.inl hb))
     ·exact .inr (J_ b (.inr hb))
    refine ⟨pack vs,Il k1,vs,dh F1 F2,rfl,?_,h.mem.frame,fun b=>by have:=hle b;have:=h.mem.one b;omega,fun b hb=>h.mem.qw b (by have:=hle b;omega),?_⟩
    ·rw[<- k2.length,<- PP]
     have: ∀(l:List ResultVar) (xs:List AV),mY tt C.N S l=some xs->xs.length=l.length:=by
      intro l
      induction l with
      |nil=>intro xs hx;simp only[mY,Option.some.injEq] at hx;subst hx;rfl
      |cons r l ih=>
       intro xs hx
       cases r with
       |tmp t=>
        simp only[mY] at hx
        obtain ⟨_,hx⟩:=ak hx
        split at hx
        ·rename_i ys RG;cases hx;simp[ih ys RG]
        ·cases hx
       |cell p t=>
        simp only[mY] at hx
        obtain ⟨_,hx⟩:=ak hx
        split at hx
        ·split at hx
         ·obtain ⟨_,hx⟩:=ak hx
          split at hx
          ·rename_i ys RG;cases hx;simp[ih ys RG]
          ·cases hx
         ·cases hx
        ·cases hx
     rw[this _ _ A5,Array.length_toList]
    ·exact dV.append (a1.grow (fun b hb=>J_ b hb.left) (fun b hb=>QQ b hb.left)) (b1.grow (fun b hb=>J_ b hb.right) (fun b hb=>QQ b hb.right))
end
section
variable {R:Type} {tt:TT}
theorem FW {k:IntKind} {d:DL} {K:Int->Option R} {r:R} (h:dI k d K=some r): ∃n,d= .i k n/\K n=some r:=by
 cases d with
 |i k' n=>
  simp only[dI] at h
  obtain ⟨h1,h2⟩:=ak h
  have e:k=k':=of_decide_eq_true h1
  subst e;exact ⟨n,rfl,h2⟩
 |_=>cases h
theorem FX {d:DL} {K:Bool->Option R} {r:R} (h:dB d K=some r): ∃x,d= .b x/\K x=some r:=by
 cases d with
 |b x=>exact ⟨x,rfl,h⟩
 |_=>cases h
theorem FY {d:DL} {K:ByteArray->Option R} {r:R} (h:dS d K=some r): ∃x,d= .s x/\K x=some r:=by
 cases d with
 |s x=>exact ⟨x,rfl,h⟩
 |_=>cases h
theorem Lr {d:DL} {K:Bool->Option R} {r:R} (h:dE d K=some r): ∃x,d= .er x/\K x=some r:=by
 cases d with
 |er x=>exact ⟨x,rfl,h⟩
 |_=>cases h
theorem sa {oc:lO} {k:IntKind} {d:DL} {K:List Int->Option R} {r:R} (h:xu oc k d K=some r): ∃l,d= .sl oc (.ints k l)/\K l=some r:=by
 unfold xu at h
 split at h
 ·obtain ⟨h1,h2⟩:=ak h
  obtain ⟨h1,h3⟩:=aE h1
  have e:=of_decide_eq_true h1
  have e3:=of_decide_eq_true h3
  subst e;subst e3;exact ⟨_,rfl,h2⟩
 ·cases h
theorem tI {oc:lO} {d:DL} {K:List Bool->Option R} {r:R} (h:tJ oc d K=some r): ∃l,d= .sl oc (.du l)/\K l=some r:=by
 unfold tJ at h
 split at h
 ·obtain ⟨h1,h2⟩:=ak h
  have e:=of_decide_eq_true h1
  subst e;exact ⟨_,rfl,h2⟩
 ·cases h
theorem aab {oc:lO} {d:DL} {K:List ByteArray->Option R} {r:R} (h:zZ oc d K=some r): ∃l,d= .sl oc (.strs l)/\K l=some r:=by
 unfold zZ at h
 split at h
 ·obtain ⟨h1,h2⟩:=ak h
  have e:=of_decide_eq_true h1
  subst e;exact ⟨_,rfl,h2⟩
 ·cases h
theorem we {oc:lO} {d:DL} {K:List (List Int)->Option R} {r:R} (h:z7 oc d K=some r): ∃l,d= .sl oc (.rows (decide (oc= .own)) l)/\K l=some r:=by
 unfold z7 at h
 split at h
 ·obtain ⟨h1,h2⟩:=ak h
  obtain ⟨h1,h3⟩:=aE h1
  have e:=of_decide_eq_true h1
  have e3:=eq_of_beq h3
  subst e;subst e3;exact ⟨_,rfl,h2⟩
 ·cases h
theorem wg {oc:lO} {sg:List Bool} {d:DL} {K:List (List gR)->Option R} {r:R} (h:z_ oc sg d K=some r): ∃l,d= .sl oc (.dw sg (decide (oc= .own)) l)/\K l=some r:=by
 unfold z_ at h
 split at h
 ·obtain ⟨h1,h2⟩:=ak h
  obtain ⟨h1,h4⟩:=aE h1
  obtain ⟨h1,h3⟩:=aE h1
  have e:=of_decide_eq_true h1
  have e3:=eq_of_beq h3
  have e4:=eq_of_beq h4
  subst e;subst e3;subst e4;exact ⟨_,rfl,h2⟩
 ·cases h
theorem k_ {ds:List DV} {K:DV->List DV->Option R} {r:R} (h:xw ds K=some r): ∃d wF,ds=d::wF/\K d wF=some r:=by
 cases ds with
 |nil=>cases h
 |cons d wF=>exact ⟨d,wF,rfl,h⟩
theorem uK {ds:List DV} {K:Option R} {r:R} (h:Nd ds K=some r):ds=[]/\K=some r:=by
 cases ds with
 |nil=>exact ⟨rfl,h⟩
 |cons d wF=>cases h
theorem sd {ds:List DL} {K:DL->List DL->Option R} {r:R} (h:Im ds K=some r): ∃d wF,ds=d::wF/\K d wF=some r:=by
 cases ds with
 |nil=>cases h
 |cons d wF=>exact ⟨d,wF,rfl,h⟩
theorem uL {ds:List DL} {K:Option R} {r:R} (h:PQ ds K=some r):ds=[]/\K=some r:=by
 cases ds with
 |nil=>exact ⟨rfl,h⟩
 |cons d wF=>cases h
theorem xx {d:DV} {K:DL->Option R} {r:R} (h:dL d K=some r): ∃x,d= .l x/\K x=some r:=by
 cases d with
 |l x=>exact ⟨x,rfl,h⟩
 |_=>cases h
theorem q7 {d:DV} {K:List DL->Option R} {r:R} (h:Kb d K=some r): ∃x,d= .ptr x/\K x=some r:=by
 cases d with
 |ptr x=>exact ⟨x,rfl,h⟩
 |_=>cases h
theorem q8 {d:DV} {K:List DL->Option R} {r:R} (h:PR d K=some r): ∃x,d= .agg x/\K x=some r:=by
 cases d with
 |agg x=>exact ⟨x,rfl,h⟩
 |_=>cases h
def Io (oc:lO):DL->Prop
 | .sl c r=>c=oc/\(oc= .own->r.owned=true)
 |_=>True
def Ip (oc:lO):DV->Prop
 | .l d=>Io oc d
 | .agg ds=> ∀d∈ds,Io oc d
 | .ptr ds=> ∀d∈ds,Io .fL d
theorem tK {oc:lO} {t e n:Nat} {K:LV->List (Nat×Option aw)->Nat->Option R} {r:R} (oF:kB tt t=some e) (row:Row) (hk:(match oc with
 | .own=>K (.own n) [(n,some (.row e 0 row))] (n+1)
 | .fL=>K (.val true row) [] n
 | .aS=>K (.val false row) [] n)=some r) (ho:oc= .own->row.owned=true): ∃x up n',rV tt t (.sl oc row) n=some (x,up,n')/\Io oc (.sl oc row)/\K x up n' =some r:=by
 cases oc with
 |own=>exact ⟨_,_,_,by simp only[rV,oF],⟨rfl,ho⟩,hk⟩
 |fL=>exact ⟨_,_,_,rfl,⟨rfl,ho⟩,hk⟩
 |aS=>exact ⟨_,_,_,rfl,⟨rfl,ho⟩,hk⟩
theorem Aa {oc:lO} {t:Nat} {d:DL} {n:Nat} {K:LV->List (Nat×Option aw)->Nat->Option R} {r:R} (h:FZ tt oc t d n K=some r): ∃x up n',rV tt t d n=some (x,up,n')/\Io oc d/\K x up n' =some r:=by
 unfold FZ at h
 split at h
 ·obtain ⟨z,rfl,h2⟩:=FW h;exact ⟨_,_,_,rfl,trivial,h2⟩
 ·obtain ⟨z,rfl,h2⟩:=FX h;exact ⟨_,_,_,rfl,trivial,h2⟩
 ·obtain ⟨z,rfl,h2⟩:=FY h;exact ⟨_,_,_,rfl,trivial,h2⟩
 ·obtain ⟨z,rfl,h2⟩:=Lr h;exact ⟨_,_,_,rfl,trivial,h2⟩
 ·rename_i e sz bs ht
  have oF:kB tt t=some e:=by unfold kB;rw[ht]
  simp only[] at h
  split at h
  ·obtain ⟨l,rfl,h2⟩:=sa h;exact tK oF _ h2 (fun _=>rfl)
  ·obtain ⟨l,rfl,h2⟩:=tI h;exact tK oF _ h2 (fun _=>rfl)
  ·obtain ⟨l,rfl,h2⟩:=aab h;exact tK oF _ h2 (fun _=>rfl)
  ·obtain ⟨l,rfl,h2⟩:=we h;exact tK oF _ h2 (fun e=>by simp[Row.owned,e])
  ·obtain ⟨l,rfl,h2⟩:=wg h;exact tK oF _ h2 (fun e=>by simp[Row.owned,e])
  ·cases h
 ·cases h
theorem se {oc:lO} {r:R}: ∀ {ts:List Nat} {ds:List DL} {n:Nat} {K:List LV->List (Nat×Option aw)->Nat->Option R},A9 tt oc ts ds n K=some r-> ∃xs up n',kM tt ts ds n=some (xs,up,n')/\(∀d∈ds,Io oc d)/\K xs up n' =some r
 | [],ds,n,K,h=>by
   obtain ⟨rfl,h0⟩:=uL h
   exact ⟨_,_,_,rfl,by simp,h0⟩
 |t::ts,ds,n,K,h=>by
  obtain ⟨d,wF,rfl,h0⟩:=sd h
  obtain ⟨x,up,n1,h1,c1,h3⟩:=Aa h0
  obtain ⟨xs,gQ,n2,h2,c2,h4⟩:=se h3
  exact ⟨_,_,_,by simp only[kM,h1,h2],by simp only[List.mem_cons,forall_eq_or_imp];exact ⟨c1,c2⟩,h4⟩
theorem Iq {oc:lO} {t:Nat} {d:DV} {n:Nat} {K:A1->List (Nat×Option aw)->Nat->Option R} {r:R} (h:Kc tt oc t d n K=some r): ∃x up n',qU tt t d n=some (.one x,up,n')/\Ip oc d/\K x up n' =some r:=by
 unfold Kc at h
 split at h
 ·obtain ⟨ds,rfl,h0⟩:=q8 h
  obtain ⟨xs,up,n',h1,c,h2⟩:=se h0
  exact ⟨_,_,_,by simp only[qU,h1],c,h2⟩
 ·rename_i e sz bs ht
  obtain ⟨ds,rfl,h0⟩:=q7 h
  obtain ⟨xs,up,n',h1,c,h2⟩:=se h0
  exact ⟨_,_,_,by simp only[qU,ht,h1],c,h2⟩
 ·obtain ⟨d',rfl,h0⟩:=xx h
  obtain ⟨x,up,n',h1,c,h2⟩:=Aa h0
  exact ⟨_,_,_,by simp only[qU,h1],c,h2⟩
theorem xy {oc:lO} {r:R}: ∀ {ts:List Nat} {ds:List DV} {n:Nat} {K:List A1->List (Nat×Option aw)->Nat->List DV->Option R},F5 tt oc ts ds n K=some r-> ∃SI PJ xs up n',ds=SI++PJ/\ir tt ts SI n=some (xs.map AV.one,up,n')/\(∀d∈SI,Ip oc d)/\K xs up n' PJ=some r
 | [],ds,n,K,h=>⟨[],ds,[],[],n,rfl,rfl,by simp,h⟩
 |t::ts,ds,n,K,h=>by
  obtain ⟨d,wF,rfl,h0⟩:=k_ h
  obtain ⟨x,up,n1,h1,c1,h3⟩:=Iq h0
  obtain ⟨SI,PJ,xs,gQ,n2,rfl,h2,c2,h4⟩:=xy h3
  exact ⟨d::SI,PJ,x::xs,_,_,rfl,by simp only[ir,h1,h2,List.map_cons],by simp only[List.mem_cons,forall_eq_or_imp];exact ⟨c1,c2⟩,h4⟩
section
variable {w:World} {Zf ZL Z:Zs}
theorem ly.pq {oc:lO} (ho:oc≠ .aS) {d:DL} (hc:Io oc d) {v:Value} {F:FP} (h:ly w Zf ZL d v F):ly w Zf Z d v F:=by
 cases d with
 |sl c r=>
  obtain ⟨rfl,h2⟩:=hc
  cases c with
  |aS=>exact absurd rfl ho
  |fL=>exact h
  |own=>
   obtain ⟨q,e1,e2⟩:=h
   refine ⟨q,e1,?_⟩
   rcases e2 with e2| ⟨b,cap,arr,ty,F',g1,g2,g3,g4,g5,g6⟩
   ·exact .inl e2
   ·exact .inr ⟨b,cap,arr,ty,F',g1,g2,g3,g4,uI (tF (h2 rfl)) g5,g6⟩
 |er x=>cases x<;>exact h
 |_=>exact h
theorem kx.pq {oc:lO} (ho:oc≠ .aS): ∀ {ds:List DL} {vs:List Value} {F:FP},(∀d∈ds,Io oc d)->kx w Zf ZL ds vs F->kx w Zf Z ds vs F
 | [],[],_,_,h=>h
 |d::ds,v::vs,F,hc,⟨F1,F2,h1,h2,h3⟩=>⟨F1,F2,h1.pq ho (hc d (by simp)),kx.pq ho (fun d hd=>hc d (by simp[hd])) h2,h3⟩
theorem pi.pq {oc:lO} (ho:oc≠ .aS) {d:DV} (hc:Ip oc d) {v:Value} {F:FP} (h:pi w Zf ZL d v F):pi w Zf Z d v F:=by
 cases d with
 |l d=>exact ly.pq ho hc h
 |agg ds=>obtain ⟨vs,e,h⟩:=h;exact ⟨vs,e,kx.pq ho hc h⟩
 |ptr ds=>obtain ⟨b,vs,ty,F',e1,e2,h,e3⟩:=h;exact ⟨b,vs,ty,F',e1,e2,kx.pq (oc:= .fL) (by decide) hc h,e3⟩
theorem dV.pq {oc:lO} (ho:oc≠ .aS): ∀ {ds:List DV} {vs:List Value} {F:FP},(∀d∈ds,Ip oc d)->dV w Zf ZL ds vs F->dV w Zf Z ds vs F
 | [],[],_,_,h=>h
 |d::ds,v::vs,F,hc,⟨F1,F2,h1,h2,h3⟩=>⟨F1,F2,h1.pq ho (hc d (by simp)),dV.pq ho (fun d hd=>hc d (by simp[hd])) h2,h3⟩
end
theorem ik: ∀(ms:List Mode) (vs:List Value),sP ms=true->gu ms vs=[]
 | [],_,_=>by simp[gu]
 |m::ms,[],_=>by simp[gu]
 | .io::ms,v::vs,h=>by cases h
 | .mS::ms,v::vs,h=>by simp[gu,ik ms vs h]
 | .DD::ms,v::vs,h=>by simp[gu,ik ms vs h]
 | .fL::ms,v::vs,h=>by simp[gu,ik ms vs h]
theorem mq.of {E:Env}: ∀ {xs:List A1} {vs:List Value},gD E (xs.map AV.one) vs->mq E xs vs
 | [],[],_=>trivial
 |x::xs,v::vs,h=>⟨h.1,mq.of h.2⟩
theorem Nf {E:Env} {xs:List A1} {vs:List Value} (h:gD E (xs.map AV.one) vs):gy E (Ls xs) (pack vs):=by
 match xs,vs,h with
 | [],[],h=>exact ⟨[],rfl,trivial⟩
 | [x],[v],h=>exact h.1
 |x::y::xs,u::v::vs,h=>exact ⟨u::v::vs,rfl,mq.of h⟩
end
section
variable {P:Program} {tt:TT} {C:Cx} {S:St} {a:Act} {w:World} {ρ:Place} {Fs:Nat->FP}
def F6 (C:Cx) (S:St) (w:World) (Fs:Nat->FP) (F:FP) (rc:List Nat) (hg:Ground C.P0 w (C.Zf w (ar S.nx Fs))) (h: ∀b,lN C w S.nx Fs rc b\/C.Zf w (ar S.nx Fs) b->b<w.heap.size/\F b=0):Cx:=
 {P0:=C.P0,gnd:=hg,w0:=w,F0:=F,Zl:=lN C w S.nx Fs rc,Zf0:=C.Zf w (ar S.nx Fs),N:=0,kv:=[],good:=h}
theorem iM.old (m:iM C S.hp S.nx w ρ Fs) {b:Nat} (h:C.Zl b\/C.Zf0 b):b<w.heap.size/\ar S.nx Fs b=0:=by
 obtain ⟨g1,g2⟩:=C.good b h
 have:=m.frame.size
 refine ⟨by omega,?_⟩
 rcases Nat.eq_zero_or_pos (ar S.nx Fs b) with e|e
 ·exact e
 ·obtain ⟨_,k⟩:=m.qw b e;omega
theorem la: ∀ {l m:List Nat},pr l m=true-> ∀x∈l,x∉m
 | [],m,_,x,hx=>by simp at hx
 |y::l,m,h,x,hx=>by
  obtain ⟨h1,h2⟩:=aE h
  rcases List.mem_cons.1 hx with rfl|hx
  ·intro hm;rw[List.elem_iff.2 hm] at h1;cases h1
  ·exact la h2 x hx
theorem PS (m:iM C S.hp S.nx w ρ Fs) {id b:Nat} (h:1<=Fs id b):id<S.nx:=by
 rcases Nat.lt_or_ge id S.nx with k|k
 ·exact k
 ·rw[m.dead id (m.fresh id k)] at h;simp at h
theorem za (m:iM C S.hp S.nx w ρ Fs) {F:FP} {ks rc:List Nat} (hk:ks.Nodup) (gr: ∀k∈ks,k<S.nx) (hF: ∀b,F b<=dH Fs ks b) (hd: ∀k∈ks,k∉rc): ∀b,lN C w S.nx Fs rc b\/C.Zf w (ar S.nx Fs) b->b<w.heap.size/\F b=0:=by
 intro b hb
 have hle:=lj Fs b S.nx hk gr
 have RH:=hF b
 have zf:C.Zf w (ar S.nx Fs) b->b<w.heap.size/\F b=0:=fun h=>by
  rcases h with h| ⟨_,h1,h2⟩
  ·obtain ⟨k1,k2⟩:=m.old (.inr h);exact ⟨k1,by omega⟩
  ·exact ⟨h1,by omega⟩
 rcases hb with (hb| ⟨id,hid,hb⟩)|hb
 ·rcases hb with hb|hb
  ·obtain ⟨k1,k2⟩:=m.old (.inl hb);exact ⟨k1,by omega⟩
  ·exact zf hb
 ·have hi:=PS m hb
  have h1:=q9 Fs b S.nx hk gr hi (fun h=>hd id h hid)
  have h2:=m.one b
  have h3:=m.qw b (by have:=j9 Fs b hi;omega)
  exact ⟨h3.1,by omega⟩
 ·exact zf hb
theorem sf (hp:Nat->Option aw) (oc:lO) (rc:List Nat):fV hp (m_ oc rc)=kill hp (match oc with| .aS=>rc|_=>[]):=by
 cases oc with
 |aS=>exact ob hp rc
 |_=>funext j;simp[m_,fV,kill]
def xz (oc:lO) (ks rc:List Nat):List Nat:=ks++(match oc with| .aS=>rc|_=>[])
theorem zb (hp:Nat->Option aw) (ks ls:List Nat):kill (kill hp ks) ls=kill hp (ks++ls):=by
 funext j
 simp only[kC,List.mem_append]
 by_cases h1:j∈ls<;>by_cases h2:j∈ks<;>simp[h1,h2]
def pt (n n':Nat) (up:List (Nat×Option aw)):Prop:=n<=n' /\(∀p∈up,n<=p.1/\p.1<n')/\ ∀j,n<=j->j<n'-> ∃p∈up,p.1=j
theorem pt.nil (n:Nat):pt n n []:=⟨Nat.le_refl _,by simp,fun j h1 h2=>by omega⟩
theorem pt.join {n m n':Nat} {up gQ:List (Nat×Option aw)} (h:pt n m up) (h':pt m n' gQ):pt n n' (up++gQ):=by
 obtain ⟨a1,a2,a3⟩:=h
 obtain ⟨b1,b2,b3⟩:=h'
 refine ⟨by omega,fun p hp=> ?_,fun j h1 h2=> ?_⟩
 ·rcases List.mem_append.1 hp with hp|hp
  ·have:=a2 p hp;omega
  ·have:=b2 p hp;omega
 ·rcases Nat.lt_or_ge j m with k|k
  ·obtain ⟨p,hp,e⟩:=a3 j h1 k;exact ⟨p,by simp[hp],e⟩
  ·obtain ⟨p,hp,e⟩:=b3 j k h2;exact ⟨p,by simp[hp],e⟩
theorem xA {tt:TT} {t n n':Nat} {d:DL} {x:LV} {up:List (Nat×Option aw)} (hi:rV tt t d n=some (x,up,n')):pt n n' up:=by
 cases d with
 |sl c r=>
  cases c with
  |own=>
   simp only[rV] at hi
   split at hi
   ·cases hi
    exact ⟨by omega,by simp,fun j h1 h2=>⟨_,List.mem_singleton.2 rfl,by show n=j;omega⟩⟩
   ·cases hi
  |_=>cases hi;exact pt.nil _
 |_=>cases hi;exact pt.nil _
theorem qz {tt:TT}: ∀(ts:List Nat) (ds:List DL) (n n':Nat) (xs:List LV) (up:List (Nat×Option aw)),kM tt ts ds n=some (xs,up,n')->pt n n' up
 | [],[],n,n',xs,up,hi=>by cases hi;exact pt.nil _
 | [],_::_,_,_,_,_,hi=>by simp[kM] at hi
 |_::_,[],_,_,_,_,hi=>by simp[kM] at hi
 |t::ts,d::ds,n,n',xs,up,hi=>by
  simp only[kM] at hi
  split at hi
  ·rename_i x RE m h1
   split at hi
   ·rename_i ys X9 n2 h2
    cases hi
    exact (xA h1).join (qz ts ds _ _ _ _ h2)
   ·cases hi
  ·cases hi
theorem Ir {tt:TT} {t n n':Nat} {d:DV} {x:A1} {up:List (Nat×Option aw)} {oc:lO} (hc:Ip oc d) (hi:qU tt t d n=some (.one x,up,n')):pt n n' up:=by
 cases d with
 |l d=>
  simp only[qU] at hi
  split at hi
  ·rename_i y RE m h1;cases hi;exact xA h1
  ·cases hi
 |agg ds=>
  simp only[qU] at hi
  split at hi
  ·rename_i ys RE m h1;cases hi;exact qz _ _ _ _ _ _ h1
  ·cases hi
 |ptr ds=>
  simp only[qU] at hi
  split at hi
  ·split at hi
   ·rename_i ys RE m h1
    cases hi
    obtain ⟨k1,k2,k3⟩:=qz _ _ _ _ _ _ h1
    refine ⟨by omega,fun p hp=> ?_,fun j h1 h2=> ?_⟩
    ·rcases List.mem_append.1 hp with hp|hp
     ·have:=k2 p hp;omega
     ·simp at hp;subst hp;simp;omega
    ·rcases Nat.eq_or_lt_of_le h1 with e|e
     ·exact ⟨_,List.mem_append_right _ (List.mem_singleton.2 rfl),e⟩
     ·obtain ⟨p,hp,e⟩:=k3 j e h2
      exact ⟨p,by simp[hp],e⟩
   ·cases hi
  ·cases hi
theorem oG {tt:TT} {oc:lO}: ∀(ts:List Nat) (ds:List DV) (n n':Nat) (xs:List A1) (up:List (Nat×Option aw)),(∀d∈ds,Ip oc d)->ir tt ts ds n=some (xs.map AV.one,up,n')->pt n n' up
 | [],[],n,n',xs,up,_,hi=>by
   simp only[ir,Option.some.injEq,Prod.mk.injEq] at hi
   obtain ⟨_,rfl,rfl⟩:=hi
   exact pt.nil _
 | [],_::_,_,_,_,_,_,hi=>by simp[ir] at hi
 |_::_,[],_,_,_,_,_,hi=>by simp[ir] at hi
 |t::ts,d::ds,n,n',xs,up,hc,hi=>by
  simp only[ir] at hi
  split at hi
  ·rename_i x RE m h1
   split at hi
   ·rename_i ys X9 n2 h2
    simp only[Option.some.injEq,Prod.mk.injEq] at hi
    obtain ⟨e1,rfl,rfl⟩:=hi
    cases xs with
    |nil=>simp at e1
    |cons y zs=>
     simp only[List.map_cons,List.cons.injEq] at e1
     obtain ⟨rfl,rfl⟩:=e1
     exact (Ir (hc d (by simp)) h1).join (oG ts ds _ _ _ _ (fun d hd=>hc d (by simp[hd])) h2)
   ·cases hi
  ·cases hi
theorem B5: ∀(up:List (Nat×Option aw)) {hp hp':Nat->Option aw} {j:Nat},(∃p∈up,p.1=j)->fV hp up j=fV hp' up j:=by
 intro up
 induction up with
 |nil=>rintro hp hp' j ⟨p,h,_⟩;simp at h
 |cons p up ih=>
  rintro hp hp' j ⟨q,h,e⟩
  obtain ⟨i,r⟩:=p
  simp only[fV]
  rcases List.mem_cons.1 h with rfl|h
  ·simp only[] at e
   subst e
   exact BY _ (by simp)
  ·exact ih ⟨q,h,e⟩
theorem C_ (Fs:Nat->FP) (kl:List Nat) (b:Nat) {n id:Nat} (hid:id<n) (hk:id∈kl):ar n (dX Fs kl) b+Fs id b<=ar n Fs b:=by
 have h1:=fN (dX Fs kl) (Fs id) b hid
 have h2:dX Fs kl id=fz:=by simp[dX,hk]
 rw[h2] at h1
 have h3: ∀m,ar m (gC (dX Fs kl) id (Fs id)) b<=ar m Fs b:=fun m=>by
  induction m with
  |zero=>exact Nat.le_refl _
  |succ m ih=>
   have:gC (dX Fs kl) id (Fs id) m b<=Fs m b:=by
    unfold gC
    split
    ·rename_i e;subst e;exact Nat.le_refl _
    ·exact RI Fs kl m b
   simp only[ar,F7];omega
 have:=h3 n
 simp at h1
 omega
def F8 (w':World) (Zf ZL:Zs) (q:Option (Nat×Nat)):aw->aw->FP->Prop
 | .row e ver r0,.row e' u6 r1,F=>e' =e/\u6=ver+1/\r1.len=r0.len/\r1.size=r0.size/\(∀f,r1.kZ f=r0.kZ f)/\r1.owned=true/\gY w' ZL q r1.cells r1.len r1.size F
 | .box _ _,.box _ c1,F=> ∃b cap vs ty,q=some (b,cap)/\w'.heap[b]? =some (.cells vs ty (0,0))/\(∀E:Env,E.w=w'->(∀b,Zf b->E.Zf b)->bj E c1 vs.toList)/\F=f1 b
 |_,_,_=>False
theorem F8.Ek {w':World} {Zf ZL:Zs} {q:Option (Nat×Nat)} {root bn:aw} {F:FP} (h:F8 w' Zf ZL q root bn F):root.Ek:=by
 cases root<;>first|trivial| (cases bn<;>exact h.elim)
structure lb (C:Cx) (S:St) (w:World) (ρ:Place) (w':World) (Zf ZL:Zs) (ids:List Nat) (up:List (Nat×Option aw)) (F:FP) (Gk:Nat->FP):Prop where
 out: ∀j,j∉ids->Gk j=fz
 sum: ∀b,ar S.nx Gk b=F b
 keys: ∀p∈up,p.1∈ids
 roots: ∀id∈ids,∃root bn,S.hp id=some root/\(∀hp,fV hp up id=some bn)/\F8 w' Zf ZL (ρ id) root bn (Gk id)
theorem lb.nil {w':World} {Zf ZL:Zs}:lb C S w ρ w' Zf ZL [] [] fz (fun _=>fz):=
 ⟨fun _ _=>rfl,fun b=>tD _ b _ (fun _ _=>rfl),by simp,by simp⟩
theorem lb.join {w':World} {Zf ZL:Zs} {ids PT:List Nat} {up gQ:List (Nat×Option aw)} {F F':FP} {Gk X_:Nat->FP} (h:lb C S w ρ w' Zf ZL ids up F Gk) (h':lb C S w ρ w' Zf ZL PT gQ F' X_) (qh:(ids++PT).Nodup):lb C S w ρ w' Zf ZL (ids++PT) (up++gQ) (dh F F') (fun j=>dh (Gk j) (X_ j)):=by
 obtain ⟨n1,n2,n3⟩:=List.nodup_append.1 qh
 refine ⟨fun j hj=> ?_,fun b=> ?_,fun p hp=> ?_,fun id hid=> ?_⟩
 ·have h1:j∉ids:=fun hh=>hj (by simp[hh])
  have h2:j∉PT:=fun hh=>hj (by simp[hh])
  rw[h.out j h1,h'.out j h2,cp]
 ·rw[uH,h.sum,h'.sum];rfl
 ·rcases List.mem_append.1 hp with hp|hp
  ·simp[h.keys p hp]
  ·simp[h'.keys p hp]
 ·rcases List.mem_append.1 hid with hi|hi
  ·have Da:id∉PT:=fun hh=>n3 id hi id hh rfl
   obtain ⟨root,bn,g1,g2,g3⟩:=h.roots id hi
   refine ⟨root,bn,g1,fun hp=> ?_,by rw[h'.out id Da,cp];exact g3⟩
   rw[ch,gz _ _ (fun p hp e2=>Da (by rw[<- e2];exact h'.keys p hp))]
   exact g2 hp
  ·have Da:id∉ids:=fun hh=>n3 id hh id hi rfl
   obtain ⟨root,bn,g1,g2,g3⟩:=h'.roots id hi
   refine ⟨root,bn,g1,fun hp=> ?_,by rw[h.out id Da,jy];exact g3⟩
   rw[ch]
   exact g2 _
theorem RJ {q q':Option (Nat×Nat)} {n n':Nat} (h:hdr q n=hdr q' n') (h0:q=none->n=0) (Vu:q' =none->n' =0):q=q' /\n=n':=by
 cases q with
 |none=>cases q' with
  |none=>exact ⟨rfl,by rw[h0 rfl,Vu rfl]⟩
  |some p=>obtain ⟨b,c⟩:=p;simp[hdr] at h
 |some p=>
  obtain ⟨b,c⟩:=p
  cases q' with
  |none=>simp[hdr] at h
  |some p'=>
   obtain ⟨b',c'⟩:=p'
   simp only[hdr,Value.slice.injEq,Option.some.injEq,Addr.mk.injEq] at h
   obtain ⟨⟨rfl,_⟩,rfl,rfl⟩:=h
   exact ⟨rfl,rfl⟩
theorem gY.Lt {w:World} {Z:Zs} {q:Option (Nat×Nat)} {cs:List Cell} {len size:Nat} {F:FP} (h:gY w Z q cs len size F) (hq:q=none):len=0:=by
 rcases h with h| ⟨b,cap,arr,ty,F',g1,_⟩
 ·exact h.2.1
 ·rw[hq] at g1;cases g1
theorem gY.Y2 {w:World} {Z Z':Zs} {q:Option (Nat×Nat)} {r:Row} {F:FP} (h:gY w Z q r.cells r.len r.size F) (ho:r.owned=true):gY w Z' q r.cells r.len r.size F:=by
 rcases h with h| ⟨b,cap,arr,ty,F',g1,g2,g3,g4,g5,g6⟩
 ·exact .inl h
 ·exact .inr ⟨b,cap,arr,ty,F',g1,g2,g3,g4,uI (tF ho) g5,g6⟩
theorem vn {R:Type} {r:R} (m:iM C S.hp S.nx w ρ Fs) {w':World} {Zf ZL:Zs} {x:LV} {d:DL} {v:Value} {F:FP} {K:List (Nat×Option aw)->Option R} (hx:eS (C.env w ρ S.hp S.nx Fs) x v) (hd:ly w' Zf ZL d v F) (h:je S.hp x d K=some r):
 ∃up Gk,K up=some r/\lb C S w ρ w' Zf ZL (sM x) up F Gk:=by
 have plain:F=fz->sM x=[]->K [] =some r-> ∃up Gk,K up=some r/\lb C S w ρ w' Zf ZL (sM x) up F Gk:=fun h1 h2 h3=>by
  subst h1;rw[h2];exact ⟨[],_,h3,lb.nil⟩
 cases x with
 |i k n=>
  have hx:v= .int k n:=hx
  subst hx
  refine plain ?_ rfl h
  cases d with
  |i k' n'=>exact hd.2
  |b z=>exact hd.2
  |s z=>exact hd.2
  |er z=>cases z<;>exact hd.2
  |sl c r=>
   cases c with
   |fL=>exact hd.2
   |aS=>exact hd.2
   |own=>obtain ⟨q,e,_⟩:=hd;cases q<;>cases e
 |b z=>
  have hx:v= .bool z:=hx
  subst hx
  refine plain ?_ rfl h
  cases d with
  |i k' n'=>exact hd.2
  |b z=>exact hd.2
  |s z=>exact hd.2
  |er z=>cases z<;>exact hd.2
  |sl c r=>
   cases c with
   |fL=>exact hd.2
   |aS=>exact hd.2
   |own=>obtain ⟨q,e,_⟩:=hd;cases q<;>cases e
 |s z=>
  have hx:v= .string z:=hx
  subst hx
  refine plain ?_ rfl h
  cases d with
  |i k' n'=>exact hd.2
  |b z=>exact hd.2
  |s z=>exact hd.2
  |er z=>cases z<;>exact hd.2
  |sl c r=>
   cases c with
   |fL=>exact hd.2
   |aS=>exact hd.2
   |own=>obtain ⟨q,e,_⟩:=hd;cases q<;>cases e
 |er z=>
  refine plain ?_ rfl h
  cases d with
  |i k' n'=>exact hd.2
  |b z=>exact hd.2
  |s z=>exact hd.2
  |er z=>cases z<;>exact hd.2
  |sl c r=>
   cases c with
   |fL=>exact hd.2
   |aS=>exact hd.2
   |own=>
    obtain ⟨q,e,_⟩:=hd
    cases z with
    |true=>have hx:v= .nilIface:=hx;subst hx;cases q<;>cases e
    |false=>obtain ⟨t,y,hx⟩:=(show ∃t x,v= .iface t x from hx);subst hx;cases q<;>cases e
 |nil=>
  have hx:v= .slice none 0 0:=hx
  subst hx
  refine plain ?_ rfl h
  cases d with
  |i k' n'=>exact hd.2
  |b z=>exact hd.2
  |s z=>exact hd.2
  |er z=>cases z<;>exact hd.2
  |sl c r=>
   cases c with
   |fL=>exact hd.2
   |aS=>exact hd.2
   |own=>
    obtain ⟨q,e,hr⟩:=hd
    cases q with
    |some p=>obtain ⟨b,c⟩:=p;simp[hdr] at e
    |none=>
     rcases hr with hr| ⟨b,cap,arr,ty,F',g1,_⟩
     ·exact hr.2.2
     ·cases g1
 |own id=>
  obtain ⟨gr,hx⟩:=hx
  have gr:id<S.nx:=gr
  have fin: ∀(e ver:Nat) (r0 r1:Row),S.hp id=some (.row e ver r0)->d= .sl .own r1->r1.size=r0.size->(∀f,r1.kZ f=r0.kZ f)->r1.owned=true->K [(id,some (.row e (ver+1) r1))] =some r-> ∃up Gk,K up=some r/\lb C S w ρ w' Zf ZL (sM (.own id)) up F Gk:=fun e ver r0 r1 hr Ng hs xh how hK=>by
   subst Ng
   obtain ⟨q,hv,Nh⟩:=hd
   obtain ⟨r',e1,e2⟩:=hx _ hr
   cases e1
   have h0:=m.roots id _ hr
   have Vu:gY w (C.ZL w (ar S.nx Fs)) (ρ id) r0.cells r0.len r0.size (Fs id):=h0
   obtain ⟨rfl,hlen⟩:=RJ (e2.symm.trans hv) (fun hq=>Vu.Lt hq) (fun hq=>Nh.Lt hq)
   refine ⟨_,gC (fun _=>fz) id F,hK,fun j hj=> ?_,fun b=> ?_,?_,?_⟩
   ·exact dQ _ _ (fun e=>hj (by simp[sM,e]))
   ·have:=fN (fun _=>fz) F b gr
    rw[tD _ b _ (fun _ _=>rfl)] at this
    simpa using this
   ·simp[sM]
   ·intro i hi
    simp only[sM,List.mem_singleton] at hi
    subst hi
    exact ⟨_,.row e (ver+1) r1,hr,fun hp=>by rw[gA,if_pos rfl],rfl,rfl,hlen.symm,hs,xh,how,by rw[iC];exact Nh⟩
  simp only[je] at h
  split at h
  ·rename_i e ver k l hr
   obtain ⟨l',Ng,hK⟩:=sa h
   exact fin _ _ _ _ hr Ng rfl (fun _=>rfl) rfl hK
  ·rename_i e ver l hr
   obtain ⟨l',Ng,hK⟩:=tI h
   exact fin _ _ _ _ hr Ng rfl (fun _=>rfl) rfl hK
  ·rename_i e ver l hr
   obtain ⟨l',Ng,hK⟩:=aab h
   exact fin _ _ _ _ hr Ng rfl (fun _=>rfl) rfl hK
  ·rename_i e ver l hr
   obtain ⟨l',Ng,hK⟩:=we h
   exact fin _ _ _ _ hr Ng rfl (fun _=>rfl) rfl hK
  ·rename_i e ver sg l hr
   obtain ⟨l',Ng,hK⟩:=wg h
   exact fin _ _ _ _ hr Ng rfl (fun _=>rfl) rfl hK
  ·cases h
 |_=>cases h
theorem tL {R:Type} {r:R} (m:iM C S.hp S.nx w ρ Fs) {w':World} {Zf ZL:Zs}: ∀ {xs:List LV} {ds:List DL} {vs:List Value} {F:FP} {K:List (Nat×Option aw)->Option R},bj (C.env w ρ S.hp S.nx Fs) xs vs->kx w' Zf ZL ds vs F->gO S.hp xs ds K=some r->(xs.flatMap sM).Nodup->
 ∃up Gk,K up=some r/\lb C S w ρ w' Zf ZL (xs.flatMap sM) up F Gk
 | [],ds,[],F,K,_,hd,h,_=>by
   obtain ⟨rfl,hK⟩:=uL h
   have:F=fz:=hd
   subst this
   exact ⟨[],_,hK,lb.nil⟩
 |x::xs,ds,v::vs,F,K,hx,hd,h,qh=>by
  obtain ⟨d,wF,rfl,h1⟩:=sd h
  obtain ⟨F1,F2,d1,d2,rfl⟩:=hd
  obtain ⟨up,Gk,h2,b1⟩:=vn m hx.1 d1 h1
  rw[List.flatMap_cons] at qh ⊢
  obtain ⟨gQ,X_,h3,b2⟩:=tL m hx.2 d2 h2 (List.nodup_append.1 qh).2.1
  exact ⟨_,_,h3,b1.join b2 qh⟩
theorem Db {R:Type} {r:R} {E:Env} {w':World} {Zf ZL:Zs} {x:LV} {d:DL} {v:Value} {F:FP} {K:LV->Option R} (hd:ly w' Zf ZL d v F) (h:od x d K=some r):
 ∃y,K y=some r/\F=fz/\ ∀E:Env,E.w=w'->(∀b,Zf b->E.Zf b)->eS E y v:=by
 unfold od at h
 split at h
 ·obtain ⟨n,rfl,h1⟩:=FW h
  exact ⟨_,h1,hd.2,fun _ _ _=>hd.1⟩
 ·obtain ⟨n,rfl,h1⟩:=FX h
  exact ⟨_,h1,hd.2,fun _ _ _=>hd.1⟩
 ·obtain ⟨n,rfl,h1⟩:=FY h
  exact ⟨_,h1,hd.2,fun _ _ _=>hd.1⟩
 ·obtain ⟨n,rfl,h1⟩:=sa h
  exact ⟨_,h1,hd.2,fun E hw hz=>by show fw E.w E.Zf _ v;rw[hw];exact hd.1.grow hz⟩
 ·cases h
theorem tM {R:Type} {r:R} {w':World} {Zf ZL:Zs}: ∀ {xs:List LV} {ds:List DL} {vs:List Value} {F:FP} {K:List LV->Option R},kx w' Zf ZL ds vs F->nH xs ds K=some r->
 ∃ys,K ys=some r/\F=fz/\ ∀E:Env,E.w=w'->(∀b,Zf b->E.Zf b)->bj E ys vs
 | [],ds,vs,F,K,hd,h=>by
   obtain ⟨rfl,h1⟩:=uL h
   cases vs with
   |nil=>exact ⟨_,h1,hd,fun _ _ _=>trivial⟩
   |cons v vs=>exact hd.elim
 |x::xs,ds,vs,F,K,hd,h=>by
  obtain ⟨d,wF,rfl,h1⟩:=sd h
  cases vs with
  |nil=>exact hd.elim
  |cons v vs=>
   obtain ⟨F1,F2,d1,d2,rfl⟩:=hd
   obtain ⟨y,h2,rfl,r1⟩:=Db (E:=⟨w',Zf,ZL,fun _=>none,fun _=>none,0⟩) d1 h1
   obtain ⟨ys,h3,rfl,r2⟩:=tM d2 h2
   exact ⟨_,h3,cp _,fun E hw hz=>⟨r1 E hw hz,r2 E hw hz⟩⟩
theorem F9 {R:Type} {r:R} (m:iM C S.hp S.nx w ρ Fs) {w':World} {Zf ZL:Zs} {id:Nat} {d:DV} {v:Value} {F:FP} {K:List (Nat×Option aw)->Option R} (hx:eS (C.env w ρ S.hp S.nx Fs) (.fP id 0) v) (hd:pi w' Zf ZL d v F) (h:uM S.hp id d K=some r):
 ∃up Gk,K up=some r/\lb C S w ρ w' Zf ZL [id] up F Gk:=by
 obtain ⟨ds,rfl,h1⟩:=q7 h
 split at h1
 ·rename_i t cells ao
  obtain ⟨gr,_,b,cap,hρ,rfl⟩:=hx
  have gr:id<S.nx:=gr
  have hρ:ρ id=some (b,cap):=hρ
  obtain ⟨b',vs,ty,F',e1,e2,hd,rfl⟩:=hd
  simp only[Value.pointer.injEq,Option.some.injEq,Addr.mk.injEq] at e1
  obtain ⟨rfl,_⟩:=e1
  obtain ⟨cs,h2,rfl,oZ⟩:=tM hd h1
  refine ⟨_,gC (fun _=>fz) id (f1 b),h2,fun j hj=>dQ _ _ (fun e=>hj (by simp[e])),fun b'=> ?_,by simp,fun i hi=> ?_⟩
  ·have:=fN (fun _=>fz) (f1 b) b' gr
   rw[tD _ b' _ (fun _ _=>rfl)] at this
   rw[cp]
   simpa using this
  ·simp only[List.mem_singleton] at hi
   subst hi
   exact ⟨_,.box t cs,ao,fun hp=>by rw[gA,if_pos rfl],b,cap,vs,ty,hρ,e2,oZ,iC ..⟩
 ·cases h1
theorem Is {R:Type} {r:R} (m:iM C S.hp S.nx w ρ Fs) {w':World} {Zf ZL:Zs} {x:AV} {d:DV} {v:Value} {F:FP} {K:List (Nat×Option aw)->Option R} (hx:gy (C.env w ρ S.hp S.nx Fs) x v) (hd:pi w' Zf ZL d v F) (h:na S.hp x d K=some r) (qh:(En x).Nodup):
 ∃up Gk,K up=some r/\lb C S w ρ w' Zf ZL (En x) up F Gk:=by
 match x,h with
 | .one (.l x),h=>
   simp only[na] at h
   split at h
   ·rename_i id hid
    obtain rfl:=v_ hid
    exact F9 m hx hd h
   ·rename_i hid
    obtain ⟨d',rfl,h1⟩:=xx h
    have e:En (.one (.l x))=sM x:=by simp only[En,hid]
    rw[e]
    exact vn m hx hd h1
 | .one (.agg xs),h=>
   obtain ⟨ds,rfl,h1⟩:=q8 h
   obtain ⟨vs,rfl,hx⟩:=hx
   obtain ⟨Ay,e,hd⟩:=hd
   have:vs=Ay:=by simpa using e
   subst this
   exact tL m hx hd h1 qh
theorem pu {R:Type} {r:R} (m:iM C S.hp S.nx w ρ Fs) {w':World} {Zf ZL:Zs}: ∀ {ms:List Mode} {xs:List AV} {ds:List DV} {vs:List Value} {F:FP} {K:List (Nat×Option aw)->Option R},gD (C.env w ρ S.hp S.nx Fs) xs vs->dV w' Zf ZL ds (gu ms vs) F->j_ S.hp ms xs ds K=some r->(lA ms xs).Nodup->
 ∃up Gk,K up=some r/\lb C S w ρ w' Zf ZL (lA ms xs) up F Gk
 | [],xs,ds,vs,F,K,hx,hd,h,qh=>by
   obtain ⟨rfl,hK⟩:=uK (show Nd ds (K [])=some r by simpa[j_] using h)
   have e:gu [] vs=[]:=by simp[gu]
   rw[e] at hd
   have:F=fz:=hd
   subst this
   exact ⟨[],_,hK,by simpa[lA] using lb.nil⟩
 |md::ms,[],ds,[],F,K,hx,hd,h,qh=>by
  have h:Nd ds (K [])=some r:=by cases md<;>simpa[j_] using h
  obtain ⟨rfl,hK⟩:=uK h
  have e:gu (md::ms) [] =[]:=by simp[gu]
  rw[e] at hd
  have:F=fz:=hd
  subst this
  have e2:lA (md::ms) [] =[]:=by cases md<;>simp[lA]
  exact ⟨[],_,hK,by rw[e2];exact lb.nil⟩
 | .io::ms,x::xs,ds,v::vs,F,K,hx,hd,h,qh=>by
   simp only[j_] at h
   obtain ⟨d,wF,rfl,h1⟩:=k_ h
   have e:gu (.io::ms) (v::vs)=v::gu ms vs:=by simp[gu]
   rw[e] at hd
   obtain ⟨F1,F2,d1,d2,rfl⟩:=hd
   have e2:lA (.io::ms) (x::xs)=En x++lA ms xs:=by simp[lA]
   rw[e2] at qh ⊢
   obtain ⟨up,Gk,h2,b1⟩:=Is m hx.1 d1 h1 (List.nodup_append.1 qh).1
   obtain ⟨gQ,X_,h3,b2⟩:=pu m hx.2 d2 h2 (List.nodup_append.1 qh).2.1
   exact ⟨_,_,h3,b1.join b2 qh⟩
 | .mS::ms,x::xs,ds,v::vs,F,K,hx,hd,h,qh=>by
   simp only[j_] at h
   have e:gu (.mS::ms) (v::vs)=gu ms vs:=by simp[gu]
   rw[e] at hd
   have e2:lA (.mS::ms) (x::xs)=lA ms xs:=by simp[lA]
   rw[e2] at qh ⊢
   exact pu m hx.2 hd h qh
 | .DD::ms,x::xs,ds,v::vs,F,K,hx,hd,h,qh=>by
   simp only[j_] at h
   have e:gu (.DD::ms) (v::vs)=gu ms vs:=by simp[gu]
   rw[e] at hd
   have e2:lA (.DD::ms) (x::xs)=lA ms xs:=by simp[lA]
   rw[e2] at qh ⊢
   exact pu m hx.2 hd h qh
 | .fL::ms,x::xs,ds,v::vs,F,K,hx,hd,h,qh=>by
   simp only[j_] at h
   have e:gu (.fL::ms) (v::vs)=gu ms vs:=by simp[gu]
   rw[e] at hd
   have e2:lA (.fL::ms) (x::xs)=lA ms xs:=by simp[lA]
   rw[e2] at qh ⊢
   exact pu m hx.2 hd h qh
theorem dV.split {w:World} {Zf ZL:Zs}: ∀ {ds es:List DV} {us vs:List Value} {F:FP},ds.length=us.length->dV w Zf ZL (ds++es) (us++vs) F-> ∃F1 F2,dV w Zf ZL ds us F1/\dV w Zf ZL es vs F2/\F=dh F1 F2
 | [],es,[],vs,F,_,h=>⟨fz,F,rfl,h,(jy F).symm⟩
 |d::ds,es,u::us,vs,F,hl,h=>by
  obtain ⟨F1,F2,h1,h2,rfl⟩:=h
  obtain ⟨G1,G2,g1,g2,rfl⟩:=dV.split (by simpa using hl) h2
  exact ⟨dh F1 G1,G2,⟨F1,G1,h1,g1,rfl⟩,g2,(rZ ..).symm⟩
theorem B6 {tt:TT}: ∀(ts:List Nat) (ds:List DV) (n:Nat) {xs:List AV} {up:List (Nat×Option aw)} {n':Nat},ir tt ts ds n=some (xs,up,n')->xs.length=ts.length/\ds.length=ts.length
 | [],[],n,xs,up,n',h=>by simp only[ir,Option.some.injEq,Prod.mk.injEq] at h;obtain ⟨rfl,_⟩:=h;exact ⟨rfl,rfl⟩
 | [],_::_,_,_,_,_,h=>by simp[ir] at h
 |_::_,[],_,_,_,_,h=>by simp[ir] at h
 |t::ts,d::ds,n,xs,up,n',h=>by
  simp only[ir] at h
  split at h
  ·split at h
   ·rename_i h2
    cases h
    obtain ⟨k1,k2⟩:=B6 ts ds _ h2
    exact ⟨by simp[k1],by simp[k2]⟩
   ·cases h
  ·cases h
theorem Ni {R:Type} {r:R} (h:bb C S a w ρ Fs) {g:ug} {F:FP} {ks io rc:List Nat} {args:List Value} {ax:List AV} (Vv:gD (C.env w ρ S.hp S.nx Fs) ax args) (uh:io=lA g.iH ax) (hk:(ks++io).Nodup) (u_:j8 S.hp (ks++io)) (hF: ∀b,F b<=dH Fs (ks++io) b) (hd: ∀k∈ks++io,k∉rc)
 {rs Ab:List DV} {xs:List A1} {up:List (Nat×Option aw)} {n n':Nat} (Ef:ir tt g.results rs n=some (xs.map AV.one,up,n')) (ui: ∀d∈rs,Ip g.oc d) (hn:n' <=S.nx) (hg: ∀k,n<=k->k<n'->S.hp k=some .eW)
 {K:List (Nat×Option aw)->Option R} (hK:j_ S.hp g.iH ax Ab K=some r)
 {e:Ending} {w':World} (he:Ends (F6 C S w Fs F rc (h.mem.ground _) (za h.mem hk (u_.lt h.mem) hF hd)) g args (rs++Ab) e w'):
 ∃v ρ' Fs' gQ,e= .returned v/\K gQ=some r/\(∀p∈gQ,p.1∈io)/\(∀b,b<w.heap.size->F b=0->w'.heap[b]? =w.heap[b]?)/\(∀id,id<S.nx->(∀root,S.hp id=some root->root.real)->ρ' id=ρ id)/\(∀id root bn,S.hp id=some root->root.real->id∉io->fV S.hp (dJ ks++m_ g.oc rc++up++gQ) id=some bn->Fs' id=Fs id)/\
  (∀id∈io,∃root bn,S.hp id=some root/\(∀hp,fV hp gQ id=some bn)/\ ∀e ver r0,root= .row e ver r0-> ∃r1,bn= .row e (ver+1) r1/\r1.len=r0.len)/\
  bb C ⟨S.sl,fV S.hp (dJ ks++m_ g.oc rc++up++gQ),S.nx⟩ a w' ρ' Fs' /\gy (C.env w' ρ' (fV S.hp (dJ ks++m_ g.oc rc++up++gQ)) S.nx Fs') (Ls xs) v:=by
 obtain ⟨vs,F',he,hlen,KU,lP,Eo,hrel⟩:=he
 have gr:=u_.lt h.mem
 have It:=za h.mem hk gr hF hd
 generalize PU:ks++io=kg at*
 generalize Y3:xz g.oc kg rc=kl
 obtain ⟨acd,WO,sV⟩:=oG _ _ _ _ _ _ ui Ef
 have PV: ∀k∈kg,k∈kl:=fun k hk=>by rw[<- Y3];simp[xz,hk]
 have PW: ∀k∈io,k∈kg:=fun k hk=>by rw[<- PU];simp[hk]
 have mL:w.heap.size<=w'.heap.size:=KU.size
 have hfb: ∀b,b<w.heap.size->F b=0->w'.heap[b]? =w.heap[b]? :=fun b h1 h2=>KU.block b h1 h2
 have Eo: ∀b,1<=F' b->b<w'.heap.size/\(w.heap.size<=b\/1<=F b):=Eo
 have Ya: ∀b,ar S.nx (dX Fs kl) b+F b<=ar S.nx Fs b:=fun b=>by
  have h1:=ll Fs b S.nx kg hk gr
  have h2: ∀m,ar m (dX Fs kl) b<=ar m (dX Fs kg) b:=fun m=>by
   induction m with
   |zero=>exact Nat.le_refl _
   |succ m ih=>
    have:dX Fs kl m b<=dX Fs kg m b:=by
     unfold dX
     by_cases e1:m∈kg
     ·simp[e1,PV m e1]
     ·rw[if_neg e1];split<;>simp
    simp only[ar,F7];omega
  have h3:=hF b
  have:=h2 S.nx
  omega
 have Y4: ∀k,n<=k->k<n'->Fs k=fz:=fun k h1 h2=>h.mem.roots k _ (hg k h1 h2)
 let T:FP:=fun b=>ar S.nx (dX Fs kl) b+F' b
 have Lu:=h.mem.one
 have Kd:=h.mem.qw
 have ace:=h.mem.frame.size
 have WQ: ∀b,(F6 C S w Fs F rc (h.mem.ground _) It).Zf w' F' b->C.Zf w' T b:=fun b hb=>by
  have k1:=Ya b
  have k2:=Lu b
  have k3:=Kd b
  have k4:=Eo b
  rcases hb with hb| ⟨sG,AK,Jh⟩
  ·have hb:C.Zf w (ar S.nx Fs) b:=hb
   rcases hb with hb| ⟨c1,c2,c3⟩
   ·exact .inl hb
   ·refine .inr ⟨c1,by omega,?_⟩
    show ar S.nx (dX Fs kl) b+F' b=0
    rcases Nat.eq_zero_or_pos (F' b) with z|z
    ·omega
    ·have:=k4 z;omega
  ·have sG:w.heap.size<=b\/1<=F b:=sG
   refine .inr ⟨?_,AK,?_⟩
   ·rcases sG with sG|sG
    ·exact .inl (by omega)
    ·exact (k3 (by omega)).2
   ·show ar S.nx (dX Fs kl) b+F' b=0
    rcases sG with sG|sG
    ·rcases Nat.eq_zero_or_pos (ar S.nx Fs b) with z|z
     ·omega
     ·have:=k3 z;omega
    ·omega
 obtain ⟨Fr,Fk,SJ,WR,hFF⟩:=hrel.split (by rw[(B6 _ _ _ Ef).2,hlen])
 have PP:dV w' (C.Zf w' T) (C.ZL w' T) rs vs Fr:=by
  by_cases hoc:g.oc= .aS
  ·refine SJ.grow WQ (fun b hb=> ?_)
   rcases hb with hb|hb
   ·have hb:lN C w S.nx Fs rc b:=hb
    rcases hb with hb| ⟨id,hid,hb⟩
    ·rcases hb with hb|hb
     ·exact .inl hb
     ·exact .inr (WQ b (.inl hb))
    ·obtain ⟨g1,g2⟩:=It b (.inl (.inr ⟨id,hid,hb⟩))
     have hi:=PS h.mem hb
     have V_:id∈kl:=by rw[<- Y3];simp[xz,hoc,hid]
     have k1:=C_ Fs kl b hi V_
     have k2:=Lu b
     have k3:=Kd b (by omega)
     refine .inr (.inr ⟨k3.2,by omega,?_⟩)
     show ar S.nx (dX Fs kl) b+F' b=0
     rcases Nat.eq_zero_or_pos (F' b) with z|z
     ·omega
     ·have:=Eo b z;omega
   ·exact .inr (WQ b hb)
  ·exact (SJ.pq hoc ui).grow WQ (fun b hb=>hb)
 obtain ⟨ρ1,oq,f1,r1⟩:=rW _ _ _ _ _ _ _ _ Ef PP
 obtain ⟨gQ,Gk,WS,b1⟩:=pu h.mem Vv WR hK (by rw[<- uh];rw[<- PU] at hk;exact (List.nodup_append.1 hk).2.1)
 rw[<- uh] at b1
 have RL: ∀id∈io,∃root,S.hp id=some root/\root.real:=fun id hid=>by
  obtain ⟨root,bn,g1,_,g3⟩:=b1.roots id hid
  exact ⟨_,g1,J7 g3.Ek⟩
 have WT: ∀id∈io,id<S.nx:=fun id hid=>gr id (PW id hid)
 have Uo: ∀id∈io,¬(n<=id/\id<n'):=fun id hid hh=>by
  obtain ⟨root,e1,e2⟩:=RL id hid
  rw[hg id hh.1 hh.2] at e1;cases e1;exact e2
 have WU:fV S.hp (dJ ks++m_ g.oc rc++up++gQ)=fV (fV (kill S.hp kl) up) gQ:=by
  rw[ch]
  funext j
  by_cases hj: ∃p∈gQ,p.1=j
  ·exact B5 _ hj
  ·have Jf: ∀p∈gQ,p.1≠j:=fun p hp e=>hj ⟨p,hp,e⟩
   rw[gz _ _ Jf,gz _ _ Jf]
   by_cases Iu: ∃p∈up,p.1=j
   ·rw[ch];exact B5 _ Iu
   ·have WV: ∀p∈up,p.1≠j:=fun p hp e=>Iu ⟨p,hp,e⟩
    rw[ch,gz _ _ WV,gz _ _ WV,ch,ob,sf,zb]
    have Y5:j∉io:=fun hh=>by
     obtain ⟨root,bn,g1,g2,_⟩:=b1.roots j hh
     have:=g2 (fun _=>none)
     rw[gz _ _ Jf] at this
     cases this
    rw[kC,kC]
    have:j∈kl↔j∈ks++(match g.oc with| .aS=>rc|_=>[]):=by
     rw[<- Y3,<- PU]
     simp only[xz,List.mem_append,Y5,or_false]
    by_cases hh:j∈kl
    ·rw[if_pos (this.1 hh),if_pos hh]
    ·rw[if_neg (fun h=>hh (this.2 h)),if_neg hh]
 let Fs':Nat->FP:=fun j=>dh (dX Fs kl j) (dh (oq j) (Gk j))
 let ρ':Place:=fun j=>if n<=j/\j<n' then ρ1 j else ρ j
 have jY:ar S.nx Fs' =T:=by
  funext b
  show ar S.nx (fun j=>dh (dX Fs kl j) (dh (oq j) (Gk j))) b=_
  have e1:=uH S.nx b (dX Fs kl) (fun j=>dh (oq j) (Gk j))
  have e2:=uH S.nx b oq Gk
  have e3:=rU (Fs:=oq) b hn (fun j h1 _=>by rw[f1.out j (.inr h1)];rfl)
  have e4:=f1.sum b
  have e5:=b1.sum b
  have e6:F' b=Fr b+Fk b:=by rw[hFF];rfl
  show _=ar S.nx (dX Fs kl) b+F' b
  omega
 have Up: ∀j,n<=j->j<n'->fV (fV (kill S.hp kl) up) gQ j=fV tC up j:=fun j h1 h2=>by
  rw[gz _ gQ (fun p hp e=>Uo j (by rw[<- e];exact b1.keys p hp) ⟨h1,h2⟩)]
  exact B5 _ (sV j h1 h2)
 have Lv: ∀j,¬(n<=j/\j<n')->j∉io->fV (fV (kill S.hp kl) up) gQ j=kill S.hp kl j:=fun j hj PX=>by
  rw[gz _ gQ (fun p hp e=>PX (by rw[<- e];exact b1.keys p hp))]
  exact gz _ _ (fun p hp e=>by have:=WO p hp;omega)
 have WW: ∀j,n<=j->j<n'->Fs' j=oq j:=fun j h1 h2=>by
  show dh (dX Fs kl j) (dh (oq j) (Gk j))=oq j
  have e1:dX Fs kl j=fz:=by unfold dX;split;rfl;exact Y4 j h1 h2
  have e2:Gk j=fz:=b1.out j (fun hh=>Uo j hh ⟨h1,h2⟩)
  rw[e1,e2,cp,jy]
 have WX: ∀j∈io,Fs' j=Gk j:=fun j hj=>by
  show dh (dX Fs kl j) (dh (oq j) (Gk j))=Gk j
  have e1:dX Fs kl j=fz:=by simp[dX,PV j (PW j hj)]
  have e2:oq j=fz:=f1.out j (by have:=Uo j hj;omega)
  rw[e1,e2,jy,jy]
 have Uq: ∀j,¬(n<=j/\j<n')->j∉io->Fs' j=dX Fs kl j:=fun j h1 h2=>by
  show dh (dX Fs kl j) (dh (oq j) (Gk j))=_
  rw[f1.out j (by omega),b1.out j h2,cp,cp]
 have C8:Ext w' (C.Zf w' T) (C.ZL w' T) n n' up ρ1 (C.env w' ρ' (fV (fV (kill S.hp kl) up) gQ) S.nx Fs'):=by
  refine ⟨rfl,fun b hb=> ?_,fun b hb=> ?_,fun j h1 h2=> ?_,Up,hn⟩
  ·show C.Zf w' (ar S.nx Fs') b;rw[jY];exact hb
  ·show C.ZL w' (ar S.nx Fs') b;rw[jY];exact hb
  ·show (if n<=j/\j<n' then ρ1 j else ρ j)=ρ1 j
   rw[if_pos ⟨h1,h2⟩]
 have hρ: ∀id,id<S.nx->(∀root,S.hp id=some root->root.real)->ρ' id=ρ id:=fun id hid u9=>by
  show (if n<=id/\id<n' then ρ1 id else ρ id)=ρ id
  rw[if_neg]
  rintro ⟨h1,h2⟩
  exact u9 _ (hg id h1 h2)
 have aas: ∀b,(F6 C S w Fs F rc (h.mem.ground _) It).ZL w' F' b->True:=fun _ _=>trivial
 refine ⟨pack vs,ρ',Fs',gQ,he,WS,b1.keys,hfb,hρ,fun id root bn hr u9 PY hq=> ?_,fun id hid=> ?_,?_,by rw[WU];exact Nf (r1 _ C8)⟩
 ·have Iu: ¬(n<=id/\id<n'):=fun hh=>by
   rw[hg id hh.1 hh.2] at hr;cases hr;exact u9
  rw[WU,Lv id Iu PY,kC] at hq
  have Y6:id∉kl:=fun hh=>by rw[if_pos hh] at hq;cases hq
  rw[Uq id Iu PY];simp[dX,Y6]
 ·obtain ⟨root,bn,g1,g2,g3⟩:=b1.roots id hid
  refine ⟨root,bn,g1,g2,fun e ver r0 he=> ?_⟩
  subst he
  cases bn with
  |row e' u6 r1=>obtain ⟨rfl,rfl,g4,_⟩:=g3;exact ⟨r1,rfl,g4⟩
  |_=>exact g3.elim
 rw[WU]
 refine h.gen (fV (fV (kill S.hp kl) up) gQ) S.nx w' ρ' Fs' (fun b=>1<=F b) mL KU.os KU.tape KU.output (fun b h1 h2=>hfb b h1 (by omega)) (fun b hb=>by have:=Ya b;omega) (Nat.le_refl _) hρ (fun j hj=> ?_) (fun j hj=> ?_) (fun b=> ?_) (fun b hb=> ?_)
 ·by_cases Iu:n<=j/\j<n'
  ·have WY:=WW j Iu.1 Iu.2
   cases hq:fV (fV (kill S.hp kl) up) gQ j with
   |none=>exact .gone hq (by rw[WY];exact f1.dead j (by rw[<- Up j Iu.1 Iu.2];exact hq))
   |some bn=>exact .mn .eW bn (hg j Iu.1 Iu.2) hq trivial (fun M=>by rw[WY];exact f1.roots _ C8 j bn (by rw[<- Up j Iu.1 Iu.2];exact hq))
  ·by_cases PX:j∈io
   ·obtain ⟨root,bn,g1,g2,g0⟩:=b1.roots j PX
    cases root with
    |row e ver r0=>
     cases bn with
     |row e' u6 r1=>
      obtain ⟨rfl,rfl,g3,g4,g5,g5',g6⟩:=g0
      refine .mn _ (.row e' (ver+1) r1) g1 (g2 _) ⟨g3,g4,by omega,g5,fun hh=>by omega⟩ (fun M=> ?_)
      rw[WX j PX]
      show gY w' (C.ZL w' (ar S.nx Fs')) (ρ' j) r1.cells r1.len r1.size (Gk j)
      rw[hρ j hj (fun root hr=>by rw[g1] at hr;cases hr;trivial),jY]
      exact g6.Y2 g5'
     |_=>exact g0.elim
    |box t c0=>
     cases bn with
     |box t' c1=>
      obtain ⟨b,cap,vs,ty,g3,g4,g5,g6⟩:=g0
      refine .mn _ (.box t' c1) g1 (g2 _) trivial (fun M=> ?_)
      rw[WX j PX]
      refine ⟨b,cap,vs,ty,?_,g4,g5 _ rfl (fun b hb=> ?_),g6⟩
      ·show ρ' j=_
       rw[hρ j hj (fun root hr=>by rw[g1] at hr;cases hr;trivial)];exact g3
      ·show C.Zf w' (ar S.nx Fs') b
       rw[jY];exact WQ b hb
     |_=>exact g0.elim
    |hole=>exact g0.elim
    |eW=>exact g0.elim
   ·have WY:=Uq j Iu PX
    by_cases RM:j∈kl
    ·exact .gone (by rw[Lv j Iu PX,kC,if_pos RM]) (by rw[WY];simp[dX,RM])
    ·refine .same (by rw[Lv j Iu PX,kC,if_neg RM]) (by rw[WY];simp[dX,RM]) (fun b h1 h2=> ?_)
     have:=q9 Fs b S.nx hk gr hj (fun h=>RM (PV j h))
     have:=hF b
     have:=Lu b
     omega
 ·have PX:j∉io:=fun hh=>by have:=WT j hh;omega
  refine .inl ⟨?_,?_⟩
  ·rw[Lv j (by omega) PX,kC];split;rfl;exact h.mem.fresh j hj
  ·rw[Uq j (by omega) PX]
   unfold dX;split;rfl;exact h.mem.dead j (h.mem.fresh j hj)
 ·rw[jY]
  show ar S.nx (dX Fs kl) b+F' b<=1
  have k1:=Ya b
  have k2:=Lu b
  have k3:=lP b
  rcases Nat.eq_zero_or_pos (F' b) with z|z
  ·omega
  ·have:=Eo b z
   rcases Nat.eq_zero_or_pos (ar S.nx Fs b) with z2|z2
   ·omega
   ·have:=Kd b z2;omega
 ·rw[jY] at hb
  have hb:1<=ar S.nx (dX Fs kl) b+F' b:=hb
  have k1:=Ya b
  rcases Nat.eq_zero_or_pos (F' b) with z|z
  ·left;omega
  ·have:=Eo b z;omega
end
section
variable {P:Program} {tt:TT} {C:Cx} {S:St} {a:Act} {w:World} {ρ:Place} {Fs:Nat->FP} {n:Nat}
def si (id n e ver i f:Nat) (r:Row):List (Nat×Option aw):=[(id,some (.hole e ver r i f)),(n,some (.row 0 0 (.ints .i64 (eB r i f))))]
theorem Ep (hp:Nat->Option aw) (id n e ver i f:Nat) (r:Row) (j:Nat):fV hp (si id n e ver i f r) j=if j=n then some (.row 0 0 (.ints .i64 (eB r i f))) else if j=id then some (.hole e ver r i f) else hp j:=by
 rw[show si id n e ver i f r=[(id,some (aw.hole e ver r i f))]++[(n,some (.row 0 0 (.ints .i64 (eB r i f))))] from rfl,ch,gA,gA]
theorem bb.RN (h:bb C S a w ρ Fs) (hg:S.hp n=some .eW) {id e ver i f:Nat} {r:Row} (ao:S.hp id=some (.row e ver r)) (ho:r.owned=true) (hs:r.kZ f=true) (hi:i<r.len) {v:Value} (hv:cellAt w (ρ id) (i*r.size+f)=some v):
 ∃q Fs' b cap,ρ id=some (b,cap)/\1<=Fs' id b/\bb C ⟨S.sl,fV S.hp (si id n e ver i f r),S.nx⟩ a w (iQ ρ n q) Fs' /\v=hdr q (eB r i f).length:=by
 have lG:id≠n:=by rintro rfl;rw[ao] at hg;cases hg
 have mC:=dA h.mem ao
 have Iv:=dA h.mem hg
 have Vi:Fs n=fz:=h.mem.roots n _ hg
 cases hρ:ρ id with
 |none=>rw[hρ] at hv;cases hv
 |some q=>
  obtain ⟨b,cap⟩:=q
  rw[hρ] at hv
  obtain ⟨arr,ty,F,g1,g2,g3,g4,g5,g6⟩:=pW h.mem ao hρ (by omega)
  simp only[cellAt] at hv
  rw[bO g1] at hv
  have hc:=tE ho hs hi
  obtain ⟨v',F1,F2,k1,k2,k3,k4⟩:=g4.get hc
  have Az:arr.toList[i*r.size+f]? =some v:=by simpa using hv
  rw[Az] at k1;cases k1
  have B7:=k4 .free v fz rfl
  have sT:arr.toList.set (i*r.size+f) v=arr.toList:=by
   apply List.ext_getElem?
   intro j
   rw[List.getElem?_set]
   by_cases e:i*r.size+f=j
   ·subst e;rw[if_pos rfl,if_pos (List.getElem?_eq_some_iff.1 Az).1,Az]
   ·rw[if_neg e]
  rw[sT,jy] at B7
  have PZ: ∃q,v=hdr q (eB r i f).length/\ ∀(E':Env),E'.w=w->E'.ρ n=q->jj E' n (.row 0 0 (.ints .i64 (eB r i f))) F1:=by
   rcases k2 with ⟨p1,p2,p3⟩| ⟨b2,yp,u7,Od,q1,q2,q3,q4,q5,q6⟩
   ·refine ⟨none,by rw[p1,p2];rfl,fun E' Q7 hq=> .inl ⟨hq,by rw[p2];rfl,p3⟩⟩
   ·refine ⟨some (b2,yp),by rw[q1];rfl,fun E' Q7 hq=> .inr ⟨b2,yp,u7,Od,fz,hq,by rw[Q7];exact q2,by simpa[Row.len] using q3,by simpa[Row.size] using q4,?_,by rw[cp];exact q6⟩⟩
    refine aj.J8 fun j c hj=> ?_
    simp only[Row.cells,List.getElem?_map] at hj
    cases Ax:(eB r i f)[j]? with
    |none=>rw[Ax] at hj;cases hj
    |some z=>
     rw[Ax] at hj
     cases hj
     exact ⟨_,by simpa using q5 j z Ax,rfl,rfl⟩
  obtain ⟨q,P1,Nh⟩:=PZ
  have ou:=Ep S.hp id n e ver i f r
  have jY: ∀b',ar S.nx (gC (gC Fs id (dh (f1 b) F2)) n F1) b' =ar S.nx Fs b':=fun b'=>by
   have e1:=fN (gC Fs id (dh (f1 b) F2)) F1 b' Iv
   have e2:=fN Fs (dh (f1 b) F2) b' mC
   rw[dQ _ _ (Ne.symm lG),Vi] at e1
   rw[g5,k3] at e2
   simp at e1 e2
   omega
  refine ⟨q,gC (gC Fs id (dh (f1 b) F2)) n F1,b,cap,rfl,by rw[dQ _ _ lG,iC];simp,?_,P1⟩
  refine h.gen _ _ w _ _ (fun _=>False) (Nat.le_refl _) rfl rfl rfl (fun _ _ _=>rfl) (fun _ h=>h.elim) (Nat.le_refl _) (fun j hj u9=>oa _ _ (by rintro rfl;exact u9 _ hg)) (fun j hj=> ?_) (fun j hj=> .inl ⟨by rw[ou,if_neg (by omega),if_neg (by omega)];exact h.mem.fresh j hj,by rw[dQ _ _ (by omega),dQ _ _ (by omega)];exact h.mem.dead j (h.mem.fresh j hj)⟩) (fun b'=>by rw[jY];exact h.mem.one b') (fun b' pJ=> .inl (by rw[jY] at pJ;exact pJ))
  by_cases e1:j=n
  ·subst e1
   exact .mn .eW _ hg (by rw[ou,if_pos rfl]) trivial (fun M=>by rw[iC];exact Nh _ rfl (fi ..))
  ·by_cases e2:j=id
   ·subst e2
    refine .mn _ (.hole e ver r i f) ao (by rw[ou,if_neg e1,if_pos rfl]) ⟨rfl,rfl,Nat.le_refl _⟩ (fun M=> ?_)
    rw[dQ _ _ e1,iC]
    refine ⟨hi,FO hs,.inr ⟨b,cap,arr,ty,F2,by show iQ ρ n q j=_;rw[oa _ _ e1];exact hρ,g1,g2,g3,?_,rfl⟩⟩
    exact B7.mono (fun b hb=>M.zl b hb) (fun b _=>rfl)
   ·exact .same (by rw[ou,if_neg e1,if_neg e2]) (by rw[dQ _ _ e1,dQ _ _ e2]) (fun _ _ h=>h)
theorem xB {i f:Nat} {y:List Int} {r r':Row} (h:oe i f y r=some r') (hs:r.kZ f=true) (hi:i<r.len):r'.cells=r.cells.set (i*r.size+f) (.sl true y)/\r'.len=r.len/\r'.size=r.size:=by
 unfold oe at h
 split at h
 ·rename_i l
  cases h
  have hf:f=0:=by simpa[Row.kZ] using hs
  subst hf
  exact ⟨by simp[Row.cells,Row.size],by simp[Row.len],rfl⟩
 ·rename_i sg l
  split at h
  ·rename_i WZ
   cases h
   have tN:i<l.length:=hi
   have Yb:l[i]? =some l[i]:=List.getElem?_eq_getElem tN
   have MD:l.getD i [] =l[i]:=by simp[tN]
   refine ⟨?_,by simp[Row.len],rfl⟩
   simp only[Row.cells,Row.size]
   refine tO (fun r=>bD true r 0 sg) sg.length (fun r=>c_ ..) f (List.getElem?_eq_some_iff.1 WZ).1 _ _ l i l[i] Yb ?_
   rw[MD]
   exact vo true sg l[i] f (.ints y) _ ⟨true,WZ,rfl⟩
  ·cases h
 ·cases h
theorem bb.RO (h:bb C S a w ρ Fs) {id n e ver i f:Nat} {r r':Row} (ao:S.hp id=some (.hole e ver r i f)) (hs:r.kZ f=true) {l:List Int} {e2 v2:Nat} (hn:S.hp n=some (.row e2 v2 (.ints .i64 l))) (sT:oe i f l r=some r') {v:Value} (hv:cellAt w (ρ id) (i*r.size+f)=some v) (P1:v=hdr (ρ n) l.length):
 ∃Fs',bb C ⟨S.sl,fV S.hp [(id,some (.row e (ver+1) r')),(n,none)],S.nx⟩ a w ρ Fs' /\qZ (C.env w ρ S.hp S.nx Fs) (C.env w ρ (fV S.hp [(id,some (.row e (ver+1) r')),(n,none)]) S.nx Fs'):=by
 have lG:id≠n:=by rintro rfl;rw[ao] at hn;cases hn
 have mC:=dA h.mem ao
 have Iv:=dA h.mem hn
 obtain ⟨hi,hfs,mX⟩:=h.mem.roots id _ ao
 have mX:gY w (C.ZL w (ar S.nx Fs)) (ρ id) (r.cells.set (i*r.size+f) .free) r.len r.size (Fs id):=mX
 have hrn:gY w (C.ZL w (ar S.nx Fs)) (ρ n) (Row.ints .i64 l).cells l.length 1 (Fs n):=h.mem.roots n _ hn
 obtain ⟨c1,c2,c3⟩:=xB sT hs hi
 rcases mX with ⟨z1,z2,z3⟩| ⟨b,cap,arr,ty,F,g1,g2,g3,g4,g5,g6⟩
 ·rw[z1] at hv;cases hv
 rw[g1] at hv
 simp only[cellAt] at hv
 rw[bO g2] at hv
 have Az:arr.toList[i*r.size+f]? =some v:=by simpa using hv
 have Y7:i*r.size+f<r.cells.length:=by
  rw[Row.eG]
  have:(i+1)*r.size<=r.len*r.size:=Nat.mul_le_mul_right _ hi
  rw[Nat.succ_mul] at this
  omega
 have Y8:(r.cells.set (i*r.size+f) .free)[i*r.size+f]? =some .free:=by rw[List.getElem?_set_self Y7]
 obtain ⟨v',F1,F2,k1,k2,k3,k4⟩:=g5.get Y8
 rw[Az] at k1;cases k1
 have Oe:F1=fz:=k2
 subst Oe
 have jz:fv w (C.ZL w (ar S.nx Fs)) (.sl true l) v (Fs n):=by
  rcases hrn with ⟨y1,y2,y3⟩| ⟨b2,yp,u7,Od,F',q1,q2,q3,q4,q5,q6⟩
  ·left
   refine ⟨by rw[P1,y1];rfl,?_,y3⟩
   exact List.length_eq_zero_iff.1 y2
  ·right
   have SL:F' =fz:=xC (fun c hc=>by
    simp only[Row.cells,List.mem_map] at hc
    obtain ⟨x,_,rfl⟩:=hc
    exact .inl ⟨_,rfl⟩) q5
   subst SL
   refine ⟨b2,yp,u7,Od,by rw[P1,q1];rfl,q2,q3,by simpa using q4,fun j z hj=> ?_,by rw[q6,cp]⟩
   have Ts:(Row.ints .i64 l).cells[j]? =some (.sc (.int .i64 z)):=by simp[Row.cells,hj]
   obtain ⟨u,G1,G2,m1,m2,_⟩:=q5.get Ts
   have:u= .int .i64 z:=m2.1
   subst this
   simpa using m1
 have sQ:=k4 (.sl true l) v (Fs n) jz
 have W0:arr.toList.set (i*r.size+f) v=arr.toList:=by
  apply List.ext_getElem?
  intro j
  rw[List.getElem?_set]
  by_cases e:i*r.size+f=j
  ·subst e;rw[if_pos rfl,if_pos (List.getElem?_eq_some_iff.1 Az).1,Az]
  ·rw[if_neg e]
 rw[W0,List.set_set] at sQ
 rw[jy] at k3
 have ou: ∀j,fV S.hp [(id,some (.row e (ver+1) r')),(n,none)] j=if j=n then none else if j=id then some (.row e (ver+1) r') else S.hp j:=fun j=>by
  rw[show [(id,some (aw.row e (ver+1) r')),(n,none)] =[(id,some (aw.row e (ver+1) r'))]++[(n,none)] from rfl,ch,gA,gA]
 have jY: ∀b',ar S.nx (gC (gC Fs id (dh (f1 b) (dh (Fs n) F2))) n fz) b' =ar S.nx Fs b':=fun b'=>by
  have e1:=fN (gC Fs id (dh (f1 b) (dh (Fs n) F2))) fz b' Iv
  have e2:=fN Fs (dh (f1 b) (dh (Fs n) F2)) b' mC
  rw[dQ _ _ (Ne.symm lG)] at e1
  rw[g6,k3] at e2
  simp at e1 e2
  omega
 refine ⟨gC (gC Fs id (dh (f1 b) (dh (Fs n) F2))) n fz,?_⟩
 refine h.Um _ _ w _ _ (fun _=>False) (Nat.le_refl _) rfl rfl rfl (fun _ _ _=>rfl) (fun _ h=>h.elim) (Nat.le_refl _) (fun j hj u9=>rfl) (fun j hj=> ?_) (fun j hj=> .inl ⟨by rw[ou,if_neg (by omega),if_neg (by omega)];exact h.mem.fresh j hj,by rw[dQ _ _ (by omega),dQ _ _ (by omega)];exact h.mem.dead j (h.mem.fresh j hj)⟩) (fun b'=>by rw[jY];exact h.mem.one b') (fun b' pJ=> .inl (by rw[jY] at pJ;exact pJ))
 by_cases e1:j=n
 ·subst e1
  exact .gone (by rw[ou,if_pos rfl]) (iC ..)
 ·by_cases e2:j=id
  ·subst e2
   refine .mn _ (.row e (ver+1) r') ao (by rw[ou,if_neg e1,if_pos rfl]) ⟨c2,c3,Nat.lt_succ_self _⟩ (fun M=> ?_)
   rw[dQ _ _ e1,iC]
   refine .inr ⟨b,cap,arr,ty,dh (Fs n) F2,g1,g2,by rw[c2];exact g3,by rw[c3];exact g4,?_,rfl⟩
   rw[c1]
   exact sQ.mono (fun b hb=>M.zl b hb) (fun b _=>rfl)
  ·exact .same (by rw[ou,if_neg e1,if_neg e2]) (by rw[dQ _ _ e1,dQ _ _ e2]) (fun _ _ h=>h)
end
section
variable {R:Type} {P:Program}
def Enters (P:Program) (f:FuncId):Prop:= ∃fn,P.funcs[f]? =some fn/\(fn.name== "runtime.NumGoroutine")=false/\fn.body.isNone=false
structure Of (P:Program) (G:gV R):Prop where
 tt:mW P G.tt
 call: ∀(f:FuncId) (g:ug) (ds:List DV) (K:List DV->Option R) (r:R),G.sig f=some g->G.Φ f ds K=some r->Enters P f/\ ∃rs,dt P f g ds rs/\K rs=some r
structure Ac (P:Program) (G:gV R) (f:FuncId) (g:ug) (xs:List AV) (hp:Nat->Option aw) (n:Nat) (E:iy) (ks io rc:List Nat) (ds rs Ab:List DV) (vs:List A1) (up gQ:List (Nat×Option aw)) (n':Nat):Prop where
 to:qX G.tt hp g.iH g.params xs=some (ds,ks,io,rc)
 nd:B3 (ks++io)=true
 dj:pr (ks++io) rc=true
 uh:io=lA g.iH xs
 aq:dt P f g ds (rs++Ab)
 Y9:ir G.tt g.results rs n=some (vs.map AV.one,up,n')
 cl: ∀d∈rs,Ip g.oc d
 bk:j_ hp g.iH xs Ab some=some gQ
 G5:E=⟨Ls vs,dJ ks++m_ g.oc rc++up++gQ,n',[],ks++io++rc⟩
inductive B8 (P:Program) (G:gV R) (op:Op) (sl:Nat->AV) (hp:Nat->Option aw) (n:Nat) (E:iy):Prop
 |plain (hf:B9 op=false) (he:jA G.G5 op sl hp n some=some E)
 |call (c:Call) (x:Operand) (hc:op= .call c) (hx:c.callee= .value x) (f:FuncId) (g:ug) (CV:St.rd G.nt sl x= .one (.l (.fn f))) (hg: ∃g0,G.sig f=some g0) (F_:Enters P f)
  (Da:ka g.iH (c.args.toList.map (St.rd G.nt sl))=none) {ks io rc:List Nat} {ds rs Ab:List DV} {vs:List A1} {up gQ:List (Nat×Option aw)} {n':Nat} (h0:Ac P G f g (c.args.toList.map (St.rd G.nt sl)) hp n E ks io rc ds rs Ab vs up gQ n')
 |inner (c:Call) (x:Operand) (hc:op= .call c) (hx:c.callee= .value x) (f:FuncId) (g:ug) (CV:St.rd G.nt sl x= .one (.l (.fn f))) (hg: ∃g0,G.sig f=some g0) (F_:Enters P f)
  (id ver i fl e:Nat) (r r':Row) (Da:ka g.iH (c.args.toList.map (St.rd G.nt sl))=some (id,ver,i,fl)) (hr:hp id=some (.row e ver r)) (Oz:r.owned=true) (xh:r.kZ fl=true) (hi:i<r.len)
  {E0:iy} {ks io rc:List Nat} {ds rs Ab:List DV} {vs:List A1} {up gQ:List (Nat×Option aw)} {n':Nat} (h0:Ac P G f g (zc n g.iH (c.args.toList.map (St.rd G.nt sl))) (fV hp (si id n e ver i fl r)) (n+1) E0 ks io rc ds rs Ab vs up gQ n')
  {e2 v2 e3 v3 i3 f3:Nat} {l:List Int} {r3:Row} (hl:fV (fV hp (si id n e ver i fl r)) E0.up n=some (.row e2 v2 (.ints .i64 l))) (hh:fV (fV hp (si id n e ver i fl r)) E0.up id=some (.hole e3 v3 r3 i3 f3)) (sT:oe i fl l r=some r')
  (hE:E=⟨E0.v,si id n e ver i fl r++E0.up++[(id,some (.row e (ver+1) r')),(n,none)],E0.nx,[],E0.rc⟩)
theorem B_ {A B:Type} (oc:lO) (k:IntKind) (d:DL) (K:List Int->Option A) (F:A->Option B):(xu oc k d K).bind F=xu oc k d fun l=>(K l).bind F:=by
 unfold xu;split
 ·exact bo ..
 ·rfl
theorem Iw {A B:Type} (oc:lO) (d:DL) (K:List Bool->Option A) (F:A->Option B):(tJ oc d K).bind F=tJ oc d fun l=>(K l).bind F:=by
 unfold tJ;split
 ·exact bo ..
 ·rfl
theorem Ke {A B:Type} (oc:lO) (d:DL) (K:List ByteArray->Option A) (F:A->Option B):(zZ oc d K).bind F=zZ oc d fun l=>(K l).bind F:=by
 unfold zZ;split
 ·exact bo ..
 ·rfl
theorem Kf {A B:Type} (oc:lO) (d:DL) (K:List (List Int)->Option A) (F:A->Option B):(z7 oc d K).bind F=z7 oc d fun l=>(K l).bind F:=by
 unfold z7;split
 ·exact bo ..
 ·rfl
theorem Kg {A B:Type} (oc:lO) (sg:List Bool) (d:DL) (K:List (List gR)->Option A) (F:A->Option B):(z_ oc sg d K).bind F=z_ oc sg d fun l=>(K l).bind F:=by
 unfold z_;split
 ·exact bo ..
 ·rfl
section
variable (hp:Nat->Option aw)
abbrev QR:=List (Nat×Option aw)
theorem lQ {A:Type} (x:LV) (d:DL) (K:QR->Option A):je hp x d K=(je hp x d some).bind K:=by
 unfold je
 split
 ·rfl
 ·rfl
 ·rfl
 ·rfl
 ·rfl
 ·split
  ·rw[B_];rfl
  ·rw[Iw];rfl
  ·rw[Ke];rfl
  ·rw[Kf];rfl
  ·rw[Kg];rfl
  ·rfl
 ·rfl
theorem pv: ∀ {A:Type} (xs:List LV) (ds:List DL) (K:QR->Option A),gO hp xs ds K=(gO hp xs ds some).bind K
 |_,[],ds,K=>by cases ds<;>rfl
 |_,x::xs,[],K=>rfl
 |_,x::xs,d::ds,K=>by
  show je hp x d (fun up=>gO hp xs ds fun gQ=>K (up++gQ))=(je hp x d fun up=>gO hp xs ds fun gQ=>some (up++gQ)).bind K
  rw[lQ hp x d (fun up=>gO hp xs ds fun gQ=>K (up++gQ)),lQ hp x d (fun up=>gO hp xs ds fun gQ=>some (up++gQ))]
  cases je hp x d some with
  |none=>rfl
  |some u=>
   show (gO hp xs ds fun gQ=>K (u++gQ))=(gO hp xs ds fun gQ=>some (u++gQ)).bind K
   rw[pv xs ds (fun gQ=>K (u++gQ)),pv xs ds (fun gQ=>some (u++gQ))]
   cases gO hp xs ds some<;>rfl
theorem Dc {A B:Type} (x:LV) (d:DL) (K:LV->Option A) (F:A->Option B):(od x d K).bind F=od x d fun y=>(K y).bind F:=by
 unfold od
 split
 ·cases d with
  |i k n=>simp only[dI];exact bo ..
  |_=>rfl
 ·cases d<;>rfl
 ·cases d<;>rfl
 ·rw[B_]
 ·rfl
theorem tP {A B:Type}: ∀(xs:List LV) (ds:List DL) (K:List LV->Option A) (F:A->Option B),(nH xs ds K).bind F=nH xs ds fun y=>(K y).bind F
 | [],ds,K,F=>by cases ds<;>rfl
 |x::xs,[],K,F=>rfl
 |x::xs,d::ds,K,F=>by
  show (od x d fun y=>nH xs ds fun ys=>K (y::ys)).bind F=od x d fun y=>nH xs ds fun ys=>(K (y::ys)).bind F
  rw[Dc]
  congr 1
  funext y
  exact tP xs ds _ F
theorem Ga {A:Type} (id:Nat) (d:DV) (K:QR->Option A):uM hp id d K=(uM hp id d some).bind K:=by
 cases d with
 |ptr ds=>
  simp only[uM,Kb]
  split
  ·rw[tP];rfl
  ·rfl
 |_=>rfl
theorem pX {A:Type} (x:AV) (d:DV) (K:QR->Option A):na hp x d K=(na hp x d some).bind K:=by
 unfold na
 split
 ·split
  ·exact Ga ..
  ·cases d with
   |l d=>exact lQ ..
   |_=>rfl
 ·cases d with
  |agg d=>exact pv ..
  |_=>rfl
 ·rfl
theorem nI: ∀ {A:Type} (ms:List Mode) (xs:List AV) (ds:List DV) (K:QR->Option A),j_ hp ms xs ds K=(j_ hp ms xs ds some).bind K
 |_,[],xs,ds,K=>by cases ds<;>rfl
 |_,.io::ms,[],ds,K=>by cases ds<;>rfl
 |_,.mS::ms,[],ds,K=>by cases ds<;>rfl
 |_,.DD::ms,[],ds,K=>by cases ds<;>rfl
 |_,.fL::ms,[],ds,K=>by cases ds<;>rfl
 |_,.mS::ms,x::xs,ds,K=>nI ms xs ds K
 |_,.DD::ms,x::xs,ds,K=>nI ms xs ds K
 |_,.fL::ms,x::xs,ds,K=>nI ms xs ds K
 |_,.io::ms,x::xs,[],K=>rfl
 |_,.io::ms,x::xs,d::ds,K=>by
  show na hp x d (fun up=>j_ hp ms xs ds fun gQ=>K (up++gQ))=(na hp x d fun up=>j_ hp ms xs ds fun gQ=>some (up++gQ)).bind K
  rw[pX hp x d (fun up=>j_ hp ms xs ds fun gQ=>K (up++gQ)),pX hp x d (fun up=>j_ hp ms xs ds fun gQ=>some (up++gQ))]
  cases na hp x d some with
  |none=>rfl
  |some u=>
   show (j_ hp ms xs ds fun gQ=>K (u++gQ))=(j_ hp ms xs ds fun gQ=>some (u++gQ)).bind K
   rw[nI ms xs ds (fun gQ=>K (u++gQ)),nI ms xs ds (fun gQ=>some (u++gQ))]
   cases j_ hp ms xs ds some<;>rfl
theorem Kh {ms:List Mode} {xs:List AV} {ds:List DV} {K:QR->Option R} {r:R} (h:j_ hp ms xs ds K=some r): ∃up,j_ hp ms xs ds some=some up/\K up=some r:=by
 rw[nI] at h
 exact Option.bind_eq_some_iff.1 h
end
theorem xD {G:gV R} (hG:Of P G) {f:FuncId} {g:ug} (hg:G.sig f=some g) {xs:List AV} {hp:Nat->Option aw} {n:Nat} {K:iy->Option R} {r:R} (h:A_ G hp n f g xs K=some r):
 ∃c E ks io rc ds rs Ab vs up gQ n',Ac P G f (g.to c) xs hp n E ks io rc ds rs Ab vs up gQ n' /\Enters P f/\K E=some r:=by
 unfold A_ at h
 split at h
 ·cases h
 ·rename_i ds ks io rc Y_
  obtain ⟨AA,h3⟩:=ak h
  obtain ⟨AA,uh⟩:=aE AA
  obtain ⟨qh,Yc⟩:=aE AA
  obtain ⟨F_,rs,Za,h4⟩:=hG.call _ _ _ _ _ hg h3
  obtain ⟨SI,PJ,xs,up,n',e,Ef,ui,h5⟩:=xy h4
  subst e
  obtain ⟨gQ,h6,h7⟩:=Kh _ h5
  exact ⟨Ur g.oc g.results.length (SI++PJ),_,ks,io,rc,ds,SI,PJ,xs,up,gQ,n',⟨Y_,qh,Yc,eq_of_beq uh,Za,Ef,ui,h6,rfl⟩,F_,h7⟩
theorem Nj {G:gV R} (hG:Of P G) {o:Op} {sl:Nat->AV} {hp:Nat->Option aw} {n:Nat} {K:iy->Option R} {r:R} (h:jA G o sl hp n K=some r): ∃E,B8 P G o sl hp n E/\K E=some r:=by
 cases hf:B9 o with
 |false=>
  rw[Nk K G o sl hf] at h
  obtain ⟨E,h1,h2⟩:=Option.bind_eq_some_iff.1 h
  exact ⟨E,.plain hf h1,h2⟩
 |true=>
  cases o with
  |call c=>
   simp only[B9] at hf
   simp only[jA] at h
   split at h
   ·rename_i b hc;rw[hc] at hf;cases hf
   ·rename_i x hx
    split at h
    ·rename_i f CV
     unfold P2 at h
     split at h
     ·cases h
     ·rename_i g hg
      split at h
      ·rename_i Da
       obtain ⟨cl,E,ks,io,rc,ds,rs,Ab,vs,up,gQ,n',h0,F_,hk⟩:=xD hG hg h
       exact ⟨E,.call c x rfl hx f (g.to cl) CV ⟨g,hg⟩ F_ Da h0,hk⟩
      ·rename_i id ver i fl Da
       split at h
       ·rename_i e v r0 hr
        obtain ⟨AA,h3⟩:=ak h
        obtain ⟨AA,hi⟩:=aE AA
        obtain ⟨AA,xh⟩:=aE AA
        obtain ⟨FQ,Oz⟩:=aE AA
        obtain rfl:=eq_of_beq FQ
        obtain ⟨cl,E,ks,io,rc,ds,rs,Ab,vs,up,gQ,n',h0,F_,hk⟩:=xD hG hg h3
        split at hk
        ·rename_i l _ _ _ _ _ hl hh
         split at hk
         ·rename_i r' sT
          exact ⟨_,.inner c x rfl hx f (g.to cl) CV ⟨g,hg⟩ F_ id _ i fl e r0 r' Da hr Oz xh (by simpa[Nat.blt_eq] using hi) h0 hl hh sT rfl,hk⟩
         ·cases hk
        ·cases hk
       ·cases h
    ·cases h
   ·cases h
  |_=>cases hf
variable {tt:TT} {hp hp':Nat->Option aw}
theorem Ix (hs:Sub hp hp') {m:Mode} {t:Nat} {x:LV} {r:DL×List Nat×List Nat×List Nat} (h:wa tt hp m t x=some r):wa tt hp' m t x=some r:=by
 have view: ∀x,(match ib hp x with|some (r,rc)=>some (DL.sl .aS r,([]:List Nat),([]:List Nat),rc)|none=>none)=some r->(match ib hp' x with|some (r,rc)=>some (DL.sl .aS r,([]:List Nat),([]:List Nat),rc)|none=>none)=some r:=fun x h=>by
  split at h
  ·rename_i h1;rw[Ad hs h1];exact h
  ·cases h
 cases x with
 |val p r=>exact h
 |own id=>
  cases m with
  |mS=>exact view _ h
  |fL=>cases h
  |DD=>
   simp only[wa] at h ⊢
   split at h
   ·rename_i h1;simp only[hs _ _ h1];exact h
   ·cases h
  |io=>
   simp only[wa] at h ⊢
   split at h
   ·rename_i h1;simp only[hs _ _ h1];exact h
   ·cases h
 |sub id lo hi=>
  cases m with
  |mS=>exact view _ h
  |fL=>cases h
  |DD=>
   cases lo with
   |zero=>
    simp only[wa] at h ⊢
    split at h
    ·rename_i h1;simp only[hs _ _ h1];exact h
    ·cases h
   |succ lo=>cases h
  |io=>cases h
 |inner id ver i f=>
  cases m with
  |mS=>exact view _ h
  |fL=>cases h
  |DD=>cases h
  |io=>
   simp only[wa] at h ⊢
   split at h
   ·rename_i h1;simp only[hs _ _ h1];exact h
   ·cases h
 |fP id k=>cases m<;>cases h
 |arr id k=>cases m<;>cases h
 |q_ id i f=>cases m<;>cases h
 |zd id v i f j=>cases m<;>cases h
 |Gb p r i f=>cases m<;>cases h
 |any=>cases m<;>cases h
 |undef=>cases m<;>cases h
 |fn f=>cases m<;>cases h
 |_=>exact h
theorem Er (hs:Sub hp hp') {m:Mode}: ∀ {ts:List Nat} {xs:List LV} {r:List DL×List Nat×List Nat×List Nat},sL tt hp m ts xs=some r->sL tt hp' m ts xs=some r
 | [],[],r,h=>h
 | [],_::_,_,h=>by simp[sL] at h
 |_::_,[],_,h=>by simp[sL] at h
 |t::ts,x::xs,r,h=>by
  simp only[sL] at h ⊢
  split at h
  ·rename_i h1
   split at h
   ·rename_i h2
    rw[Ix hs h1]
    simp only[]
    rw[Er hs h2]
    exact h
   ·cases h
  ·cases h
theorem Nl (hs:Sub hp hp') {t id:Nat} {ds:List DL} (h:B0 tt hp t id=some ds):B0 tt hp' t id=some ds:=by
 unfold B0 at h ⊢
 cases hq:PI tt t with
 |false=>rw[hq] at h;cases h
 |true=>
  rw[hq,cond_true] at h
  rw[cond_true]
  split at h
  ·rename_i h1;rw[hs _ _ h1];exact h
  ·cases h
theorem P3 (hs:Sub hp hp') {m:Mode} {t:Nat} {x:AV} {r:DV×List Nat×List Nat×List Nat} (h:Ii tt hp m t x=some r):Ii tt hp' m t x=some r:=by
 match x,h with
 | .one (.l x),h=>
   simp only[Ii] at h ⊢
   split at h
   ·cases m with
    |io=>
     simp only[PK] at h ⊢
     split at h
     ·rename_i h1;rw[Nl hs h1];exact h
     ·cases h
    |_=>cases h
   ·split at h
    ·rename_i h1;rw[Ix hs h1];exact h
    ·cases h
 | .one (.agg xs),h=>
   simp only[Ii] at h ⊢
   split at h
   ·rename_i h1;rw[Er hs h1];exact h
   ·cases h
theorem Es (hs:Sub hp hp'): ∀ {ms:List Mode} {ts:List Nat} {xs:List AV} {r:List DV×List Nat×List Nat×List Nat},qX tt hp ms ts xs=some r->qX tt hp' ms ts xs=some r
 |ms,[],[],r,h=>h
 |_,[],_::_,_,h=>by simp[qX] at h
 |_,_::_,[],_,h=>by simp[qX] at h
 |ms,t::ts,x::xs,r,h=>by
  simp only[qX] at h ⊢
  split at h
  ·rename_i h1
   split at h
   ·rename_i h2
    rw[P3 hs h1]
    simp only[]
    rw[Es hs h2]
    exact h
   ·cases h
  ·cases h
theorem xE (hs:Sub hp hp'): ∀(up:List (Nat×Option aw)),Sub (fV hp up) (fV hp' up):=by
 intro up
 induction up generalizing hp hp' with
 |nil=>exact hs
 |cons p up ih=>
  obtain ⟨i,r⟩:=p
  refine ih fun j r' h=> ?_
  cases e:j==i with
  |true=>simp only[e,cond_true] at h ⊢;exact h
  |false=>simp only[e,cond_false] at h ⊢;exact hs _ _ h
theorem xF (hs:Sub hp hp') {x:LV} {d:DL} {K:QR->Option R} {r:R} (h:je hp x d K=some r):je hp' x d K=some r:=by
 cases x with
 |own id=>
  simp only[je] at h ⊢
  cases hq:hp id with
  |none=>rw[hq] at h;cases h
  |some root=>rw[hs _ _ hq];rw[hq] at h;exact h
 |_=>exact h
theorem vp (hs:Sub hp hp') {r:R}: ∀ {xs:List LV} {ds:List DL} {K:QR->Option R},gO hp xs ds K=some r->gO hp' xs ds K=some r
 | [],ds,K,h=>h
 |x::xs,[],K,h=>by cases h
 |x::xs,d::ds,K,h=>by
  have h:je hp x d (fun up=>gO hp xs ds fun gQ=>K (up++gQ))=some r:=h
  show je hp' x d (fun up=>gO hp' xs ds fun gQ=>K (up++gQ))=some r
  rw[lQ] at h
  obtain ⟨u,h1,h2⟩:=Option.bind_eq_some_iff.1 h
  rw[lQ,xF hs h1]
  exact vp hs h2
theorem Ki (hs:Sub hp hp') {x:AV} {d:DV} {K:QR->Option R} {r:R} (h:na hp x d K=some r):na hp' x d K=some r:=by
 match x,h with
 | .one (.l x),h=>
   simp only[na] at h ⊢
   split at h
   ·rename_i id hid
    obtain ⟨ds,rfl,h1⟩:=q7 h
    simp only[uM,Kb]
    split at h1
    ·rename_i h2;rw[hs _ _ h2];exact h1
    ·cases h1
   ·obtain ⟨d',rfl,h1⟩:=xx h
    exact xF hs h1
 | .one (.agg x),h=>
   obtain ⟨d',rfl,h1⟩:=q8 h
   exact vp hs h1
theorem re (hs:Sub hp hp') {r:R}: ∀ {ms:List Mode} {xs:List AV} {ds:List DV} {K:QR->Option R},j_ hp ms xs ds K=some r->j_ hp' ms xs ds K=some r
 | [],_,_,_,h=>h
 | .io::ms,[],_,_,h=>h
 | .mS::ms,[],_,_,h=>h
 | .DD::ms,[],_,_,h=>h
 | .fL::ms,[],_,_,h=>h
 | .mS::ms,x::xs,ds,K,h=>re (ms:=ms) (xs:=xs) hs h
 | .DD::ms,x::xs,ds,K,h=>re (ms:=ms) (xs:=xs) hs h
 | .fL::ms,x::xs,ds,K,h=>re (ms:=ms) (xs:=xs) hs h
 | .io::ms,x::xs,[],_,h=>by cases h
 | .io::ms,x::xs,d::ds,K,h=>by
   have h:na hp x d (fun up=>j_ hp ms xs ds fun gQ=>K (up++gQ))=some r:=h
   show na hp' x d (fun up=>j_ hp' ms xs ds fun gQ=>K (up++gQ))=some r
   rw[pX] at h
   obtain ⟨u,h1,h2⟩:=Option.bind_eq_some_iff.1 h
   rw[pX,Ki hs h1]
   exact re (ms:=ms) (xs:=xs) hs h2
theorem Ac.sub {G:gV R} (hs:Sub hp hp') {f:FuncId} {g:ug} {xs:List AV} {n:Nat} {E:iy} {ks io rc:List Nat} {ds rs Ab:List DV} {vs:List A1} {up gQ:List (Nat×Option aw)} {n':Nat} (h:Ac P G f g xs hp n E ks io rc ds rs Ab vs up gQ n'):Ac P G f g xs hp' n E ks io rc ds rs Ab vs up gQ n':=
 {h with to:=Es hs h.to,bk:=re hs h.bk}
theorem B8.sub {G:gV R} (hs:Sub hp hp') {op:Op} {sl:Nat->AV} {n:Nat} {E:iy} (h:B8 P G op sl hp n E):B8 P G op sl hp' n E:=by
 cases h with
 |plain hf he=>exact .plain hf (P4 hs hf he)
 |call c x hc hx f g CV hg F_ Da h0=>exact .call c x hc hx f g CV hg F_ Da (h0.sub hs)
 |inner c x hc hx f g CV hg F_ id ver i fl e r r' Da hr Oz xh hi h0 hl hh sT hE=>
  exact .inner c x hc hx f g CV hg F_ id ver i fl e r r' Da (hs _ _ hr) Oz xh hi (h0.sub (xE hs _)) (xE (xE hs _) _ _ _ hl) (xE (xE hs _) _ _ _ hh) sT hE
theorem Kj (G:gV R) {o:Op} {sl Gc:Nat->AV} (hf:B9 o=false) {n:Nat} {K:iy->Option R} (h: ∀x∈o.operands.toList,St.rd G.nt sl x=St.rd G.nt Gc x):jA G o sl hp n K=jA G o Gc hp n K:=by
 cases o with
 |call c=>
  simp only[Op.operands,Call.operands] at h
  simp only[B9] at hf
  have ha:c.args.toList.map (St.rd G.nt sl)=c.args.toList.map (St.rd G.nt Gc):=List.map_congr_left fun x hx=>h x (by simp only[Array.toList_append,List.mem_append];exact .inr hx)
  simp only[jA]
  split
  ·rename_i b hb;simp only[ha]
  ·rename_i f hc;rw[hc] at hf;cases hf
  ·rfl
 |build t ps=>
  have ha:ps.toList.map (fun p=>(p.1,St.rd G.nt sl p.2))=ps.toList.map (fun p=>(p.1,St.rd G.nt Gc p.2)):=List.map_congr_left fun p hp=>by rw[h p.2 (by simp[Op.operands];exact ⟨p.1,by simpa using hp⟩)]
  simp only[jA,ha]
 |buildSlice t m ps=>
  have ha:ps.toList.map (fun p=>(p.1,St.rd G.nt sl p.2))=ps.toList.map (fun p=>(p.1,St.rd G.nt Gc p.2)):=List.map_congr_left fun p hp=>by rw[h p.2 (by simp[Op.operands];exact ⟨p.1,by simpa using hp⟩)]
  simp only[jA,ha]
 |slice t x lo hi mx=>
  simp only[Op.operands] at h
  have hx:St.rd G.nt sl x=St.rd G.nt Gc x:=h x (by simp)
  have AW:lo.map (St.rd G.nt sl)=lo.map (St.rd G.nt Gc):=by cases lo with
   |none=>rfl
   |some y=>simp only[Option.map_some];rw[h y (by simp)]
  have Ej:hi.map (St.rd G.nt sl)=hi.map (St.rd G.nt Gc):=by cases hi with
   |none=>rfl
   |some y=>simp only[Option.map_some];rw[h y (by simp)]
  simp only[jA,hx,AW,Ej]
 |_=>simp only[Op.operands] at h;simp[jA] at h ⊢ <;>simp[h]
theorem B8.congr {G:gV R} {op:Op} {sl Gc:Nat->AV} {n:Nat} {E:iy} (hh: ∀x∈op.operands.toList,St.rd G.nt sl x=St.rd G.nt Gc x) (h:B8 P G op sl hp n E):B8 P G op Gc hp n E:=by
 cases h with
 |plain hf he=>exact .plain hf (by rw[<- Kj G.G5 hf hh];exact he)
 |call c x hc hx f g CV hg F_ Da h0=>
  subst hc
  simp only[Op.operands,Call.operands,hx] at hh
  have ha:c.args.toList.map (St.rd G.nt sl)=c.args.toList.map (St.rd G.nt Gc):=List.map_congr_left fun y hy=>hh y (by simp only[Array.toList_append,List.mem_append];exact .inr hy)
  exact .call c x rfl hx f g (by rw[<- hh x (by simp)];exact CV) hg F_ (by rw[<- ha];exact Da) (by rw[<- ha];exact h0)
 |inner c x hc hx f g CV hg F_ id ver i fl e r r' Da hr Oz xh hi h0 hl hq sT hE=>
  subst hc
  simp only[Op.operands,Call.operands,hx] at hh
  have ha:c.args.toList.map (St.rd G.nt sl)=c.args.toList.map (St.rd G.nt Gc):=List.map_congr_left fun y hy=>hh y (by simp only[Array.toList_append,List.mem_append];exact .inr hy)
  exact .inner c x rfl hx f g (by rw[<- hh x (by simp)];exact CV) hg F_ id ver i fl e r r' (by rw[<- ha];exact Da) hr Oz xh hi (by rw[<- ha];exact h0) hl hq sT hE
end
section
variable {R:Type} {P:Program} {C:Cx} {S:St} {a:Act} {w:World} {ρ:Place} {Fs:Nat->FP}
theorem Et {ρ:Operand->Value} {o:Oper} {c:Call} {x:Operand} {f:FuncId} (h:o.op= .call c) (hx:c.callee= .value x) (hf:ρ x= .func (.func f) #[] #[]) (he:Enters P f) (w:World):(execOp ρ o).run P w= .ok (.enter f (c.args.map ρ)) w:=by
 obtain ⟨fn,h1,h2,h3⟩:=he
 have h2: ¬fn.name= "runtime.NumGoroutine" :=by simpa using h2
 have h3: ¬fn.body=none:=by intro e;rw[e] at h3;cases h3
 simp[execOp,h,resolve,hx,hf,Deferred.ofValue,invoke,callFunc,go_sem,h1,h2,h3]
theorem xG {G:gV R} (hN:G.nt=C.N) (h:bb C S a w ρ Fs): ∀xs:List Operand,gD (C.env w ρ S.hp S.nx Fs) (xs.map (St.rd G.nt S.sl)) (xs.map a.eval)
 | []=>trivial
 |x::xs=>⟨by rw[hN];exact h.rd x,xG hN h xs⟩
theorem Ac.main {G:gV R} {f:FuncId} {g:ug} {ax:List AV} {n:Nat} {E:iy} {ks io rc:List Nat} {ds rs Ab:List DV} {vs:List A1} {up gQ:List (Nat×Option aw)} {n':Nat} (h:bb C S a w ρ Fs) (h0:Ac P G f g ax S.hp n E ks io rc ds rs Ab vs up gQ n') {args:List Value} (Vv:gD (C.env w ρ S.hp S.nx Fs) ax args) (Nn:n' <=S.nx) (Og: ∀k,n<=k->k<n'->S.hp k=some .eW):
 C.P0=P->Calls P f args.toArray w fun e w'=> ∃v ρ' Fs',e= .returned v/\
  (∀id,id∉ks++io-> ∀b,1<=Fs id b->w'.heap[b]? =w.heap[b]?)/\(∀id,id<S.nx->(∀root,S.hp id=some root->root.real)->ρ' id=ρ id)/\j8 S.hp (ks++io)/\pt n n' up/\(∀p∈gQ,p.1∈io)/\
  (∀id∈io,∃root bn,S.hp id=some root/\(∀hp,fV hp gQ id=some bn)/\ ∀e ver r0,root= .row e ver r0-> ∃r1,bn= .row e (ver+1) r1/\r1.len=r0.len)/\
  bb C ⟨S.sl,fV S.hp E.up,S.nx⟩ a w' ρ' Fs' /\gy (C.env w' ρ' (fV S.hp E.up) S.nx Fs') E.v v:=by
 intro hP
 have qh:=r_ h0.nd
 have Yc:=la h0.dj
 obtain ⟨F,a1,a2,a3⟩:=zY h.mem _ _ _ _ _ _ _ _ h0.to Vv
 have gr:=a3.lt h.mem
 have It:=za h.mem qh gr a2 Yc
 have Oe: ∀b,F b<=1:=fun b=>by have:=a2 b;have:=lj Fs b S.nx qh gr;have:=h.mem.one b;omega
 have N5: ∀b,1<=F b->b<w.heap.size:=fun b hb=>(h.mem.qw b (by have:=a2 b;have:=lj Fs b S.nx qh gr;omega)).1
 have Ca:=h0.aq (F6 C S w Fs F rc (h.mem.ground _) It) _ hP a1 Oe N5
 refine Calls.mono Ca fun e w' he=> ?_
 obtain ⟨v,ρ',Fs',X9,rfl,k1,k2,k3,k4,k5,k6,k7,k8⟩:=Ni (tt:=G.tt) h Vv h0.uh qh a3 a2 Yc h0.Y9 h0.cl Nn Og h0.bk he
 cases k1
 obtain rfl:=h0.G5
 refine ⟨v,ρ',Fs',rfl,fun id hid b hb=> ?_,k4,a3,oG _ _ _ _ _ _ h0.cl h0.Y9,k2,k6,k7,k8⟩
 have hi:=PS h.mem hb
 have h1:=q9 Fs b S.nx qh gr hi hid
 have h2:=h.mem.one b
 have h3:=h.mem.qw b (by have:=j9 Fs b hi;omega)
 refine k3 b h3.1 ?_
 have:=a2 b
 omega
theorem nc {E:Env} {id ver i fl n:Nat}: ∀ {ms:List Mode} {xs:List AV} {vs:List Value},ka ms xs=some (id,ver,i,fl)->gD E xs vs->(∃v,eS E (.inner id ver i fl) v/\ ∀E',eS E' (.own n) v->gD E' xs vs->gD E' (zc n ms xs) vs)
 | [],xs,vs,h,_=>by cases xs<;>simp[ka] at h
 |m::ms,[],vs,h,_=>by cases m<;>simp[ka] at h
 |m::ms,x::xs,[],h,hv=>hv.elim
 | .mS::ms,x::xs,v::vs,h,hv=>by
   obtain ⟨u,h1,h2⟩:=nc (ms:=ms) (xs:=xs) (by simpa[ka] using h) hv.2
   exact ⟨u,h1,fun E' hu hh=>⟨hh.1,h2 E' hu hh.2⟩⟩
 | .DD::ms,x::xs,v::vs,h,hv=>by
   obtain ⟨u,h1,h2⟩:=nc (ms:=ms) (xs:=xs) (by simpa[ka] using h) hv.2
   exact ⟨u,h1,fun E' hu hh=>⟨hh.1,h2 E' hu hh.2⟩⟩
 | .fL::ms,x::xs,v::vs,h,hv=>by
   obtain ⟨u,h1,h2⟩:=nc (ms:=ms) (xs:=xs) (by simpa[ka] using h) hv.2
   exact ⟨u,h1,fun E' hu hh=>⟨hh.1,h2 E' hu hh.2⟩⟩
 | .io::ms,x::xs,v::vs,h,hv=>by
   by_cases hx: ∃a b c d,x= .one (.l (.inner a b c d))
   ·obtain ⟨a,b,c,d,rfl⟩:=hx
    simp only[ka,Option.some.injEq,Prod.mk.injEq] at h
    obtain ⟨rfl,rfl,rfl,rfl⟩:=h
    exact ⟨v,hv.1,fun E' hu hh=>⟨hu,hh.2⟩⟩
   ·have e1:ka (.io::ms) (x::xs)=ka ms xs:=by
     rcases x with (y|ys)|ys
     ·cases y<;>first|rfl|exact absurd ⟨_,_,_,_,rfl⟩ hx
     ·rfl
     ·rfl
    have e2:zc n (.io::ms) (x::xs)=x::zc n ms xs:=by
     rcases x with (y|ys)|ys
     ·cases y<;>first|rfl|exact absurd ⟨_,_,_,_,rfl⟩ hx
     ·rfl
     ·rfl
    rw[e1] at h
    obtain ⟨u,h1,h2⟩:=nc h hv.2
    exact ⟨u,h1,fun E' hu hh=>by rw[e2];exact ⟨hh.1,h2 E' hu hh.2⟩⟩
theorem B8.wp {G:gV R} (hG:Of P G) (hN:Vw P G.nt C) (h:bb C S a w ρ Fs) {o:Oper} {n:Nat} {E:iy} (hd:B8 P G o.op S.sl S.hp n E) (Og: ∀k,n<=k->k<E.nx->S.hp k=some .eW) (Nn:E.nx<=S.nx) {next:Act->World->Prop} {Q:Exit->Act->World->Prop}
 (Eu: ∀u w' ρ' Fs',bb C ⟨S.sl,fV S.hp E.up,S.nx⟩ a w' ρ' Fs'->gy (C.env w' ρ' (fV S.hp E.up) S.nx Fs') E.v u->next (a.put o.dst u) w'):o.wp P a w next Q:=by
 cases hd with
 |plain hf he=>
  obtain ⟨w',ρ',Fs',u,hr,hrel,hv⟩:=Kk (P:=P) (G:=G.G5) hG.tt hN.nt h hf he Og
  unfold Oper.wp
  rcases hr with hr| ⟨hr,rfl⟩
  ·rw[hr];exact Eu _ _ _ _ hrel hv
  ·rw[hr];exact Eu _ _ _ _ hrel hv
 |call c x hc hx f g CV hg F_ Da h0=>
  have Iy:=h.rd x
  rw[<- hN.nt,CV] at Iy
  have Iy:a.eval x= .func (.func f) #[] #[]:=Iy
  unfold Oper.wp
  rw[Et hc hx Iy F_ w]
  have gU:(c.args.toList.map a.eval).toArray=c.args.map a.eval:=by rw[<- Array.toList_map,Array.toArray_toList]
  have hE:E.nx=_:=congrArg iy.nx h0.G5
  have Ca:=h0.main h (xG hN.nt h c.args.toList) (by rw[hE] at Nn;exact Nn) (by rw[hE] at Og;exact Og) hN.p
  rw[gU] at Ca
  refine Calls.mono Ca fun e w' he=> ?_
  obtain ⟨v,ρ',Fs',rfl,_,_,_,_,_,_,h1,h2⟩:=he
  exact Eu _ _ _ _ h1 h2
 |inner c x hc hx f g CV hg F_ id ver i fl e r r' Da hr Oz xh hi h0 hl hh sT hE=>
  rename_i E0 ks io rc ds rs Ab vs up gQ n' e2 v2 e3 v3 i3 f3 l r3
  have Iy:=h.rd x
  rw[<- hN.nt,CV] at Iy
  have Iy:a.eval x= .func (.func f) #[] #[]:=Iy
  unfold Oper.wp
  rw[Et hc hx Iy F_ w]
  have gU:(c.args.toList.map a.eval).toArray=c.args.map a.eval:=by rw[<- Array.toList_map,Array.toArray_toList]
  have W1:E0.nx=n':=congrArg iy.nx h0.G5
  have hEu:E0.up=dJ ks++m_ g.oc rc++up++gQ:=congrArg iy.up h0.G5
  obtain rfl:=hE
  simp only[] at Og Nn Eu
  have hN1:=oG _ _ _ _ _ _ h0.cl h0.Y9
  have gr:=hN1.1
  have Vv:=xG hN.nt h c.args.toList
  obtain ⟨v,hv,Zb⟩:=nc (n:=n) Da Vv
  obtain ⟨_,hv⟩:=hv
  obtain ⟨_,_,hv⟩:=hv _ hr
  obtain ⟨_,_,jz⟩:=hv _ _ rfl
  have jz:cellAt w (ρ id) (i*r.size+fl)=some v:=jz
  have Yd:S.hp n=some .eW:=Og n (Nat.le_refl _) (by rw[W1];omega)
  have lG:id≠n:=by rintro rfl;rw[hr] at Yd;cases Yd
  obtain ⟨q,oq,b,cap,hρ,RH,h1,P1⟩:=h.RN Yd hr Oz xh hi jz
  have ou:=Ep S.hp id n e ver i fl r
  generalize hS1:fV S.hp (si id n e ver i fl r)=um at*
  have RP:um n=some (.row 0 0 (.ints .i64 (eB r i fl))):=by rw[ou,if_pos rfl]
  have P5:um id=some (.hole e ver r i fl):=by rw[ou,if_neg lG,if_pos rfl]
  have Iv:=dA h.mem Yd
  have Zc:=Zb (C.env w (iQ ρ n q) um S.nx oq) ⟨Iv,fun root ao=>by
   have ao:um n=some root:=ao
   rw[RP] at ao;cases ao
   exact ⟨_,rfl,by rw[P1];show hdr q _=hdr (iQ ρ n q n) _;rw[fi];rfl⟩⟩ (xG hN.nt h1 c.args.toList)
  have Ca:=h0.main h1 Zc (by rw[W1] at Nn;exact Nn) (fun k k1 k2=>by
   show um k=some .eW
   rw[ou,if_neg (by omega),if_neg (by rintro rfl;have:=Og k (by omega) (by rw[W1];exact k2);rw[hr] at this;cases this)]
   exact Og k (by omega) (by rw[W1];exact k2)) hN.p
  rw[gU] at Ca
  refine Calls.mono Ca fun e4 w' he=> ?_
  obtain ⟨v4,ρ',Fs',rfl,k1,k2,k3,k4,k5,k6,h2,h3⟩:=he
  have P6:id∉ks++io:=fun hh=>by
   obtain ⟨_,hk,QS⟩:=k3 id hh
   have hk:um id=_:=hk
   rw[P5] at hk;cases hk;exact QS
  have WU: ∀hp,fV hp up id=hp id:=fun hp=>gz _ _ fun p hp e5=>by
   obtain ⟨m1,m2⟩:=k4.2.1 p hp
   rw[e5] at m1 m2
   have:=Og id (by omega) (by rw[W1];exact m2)
   rw[hr] at this;cases this
  have Zd: ∀hp,fV hp gQ id=hp id:=fun hp=>gz _ _ fun p hp e5=>P6 (by rw[<- e5];simp[k5 p hp])
  have Ze:fV um E0.up id=some (.hole e ver r i fl):=by
   have Us:=hh
   rw[hEu,ch,ch,ch,Zd,WU,ob,sf,zb] at Us ⊢
   generalize (ks++match g.oc with| .aS=>rc|_=>[])=kk at Us ⊢
   rw[kC] at Us ⊢
   split at Us
   ·cases Us
   ·rename_i hnk;rw[if_neg hnk];exact P5
  have W2:ρ' id=ρ id:=by
   rw[k2 id (dA h.mem hr) (fun root ao=>by have ao:um id=some root:=ao;rw[P5] at ao;cases ao;trivial),oa _ _ lG]
  have Zg:ρ' n=q:=by
   rw[k2 n Iv (fun root ao=>by have ao:um n=some root:=ao;rw[RP] at ao;cases ao;trivial),fi]
  have Ut:cellAt w' (ρ' id) (i*r.size+fl)=some v:=by
   rw[W2,hρ]
   rw[hρ] at jz
   have:=k1 id P6 b RH
   simp only[cellAt,World.cell?] at jz ⊢
   rw[this];exact jz
  have hlen:l.length=(eB r i fl).length:=by
   rw[hEu,ch] at hl
   by_cases PY:n∈io
   ·obtain ⟨root,bn,m1,m2,m4⟩:=k6 n PY
    have m1:um n=_:=m1
    rw[RP] at m1;cases m1
    obtain ⟨r6,rfl,m3⟩:=m4 _ _ _ rfl
    rw[m2] at hl
    cases hl
    simpa[Row.len] using m3
   ·rw[gz _ _ (fun p hp e5=>PY (by rw[<- e5];exact k5 p hp)),ch,gz _ _ (fun p hp e5=>by have:=(k4.2.1 p hp).1;omega),ch,ob,sf,zb] at hl
    generalize (ks++match g.oc with| .aS=>rc|_=>[])=kk at hl
    rw[kC] at hl
    split at hl
    ·cases hl
    ·rw[RP] at hl;cases hl;rfl
  obtain ⟨Zh,h4,hM⟩:=h2.RO Ze xh hl sT Ut (by rw[P1,Zg,hlen])
  have Zi:fV S.hp (si id n e ver i fl r++E0.up++[(id,some (aw.row e (ver+1) r')),(n,none)])=fV (fV um E0.up) [(id,some (aw.row e (ver+1) r')),(n,none)]:=by
   rw[ch,ch,hS1]
  rw[Zi] at Eu
  exact Eu v4 w' ρ' Zh h4 (h3.mono hM)
end
section
variable {R:Type} {P:Program}
structure vq where
 i:Nat
 o:Oper
 n:Nat
 E:iy
 h:Nat->Option aw
 w:List Nat
 ids:List Nat
def vq.log (s:vq):Kl:=⟨s.o,s.w,s.ids⟩
def kD (ops:Array Oper) (sl:Nat->AV) (o:Oper):Option Bool:=match o.guard with
 |none=>some true
 |some (j,want)=>match xH ops j with
  |none=>none
  |some t=>match sl t with
   | .one (.l (.b x))=>some (x==want)
   | .one (.l .undef)=>some false
   |_=>none
def St.go (S:St) (s:vq):St:=St.put ⟨S.sl,fV S.hp s.E.up,S.nx⟩ s.o.dst s.E.v
structure rf (P:Program) (G:gV R) (ops:Array Oper) (s:vq) (S:St):Prop where
 dst: ∀d,s.o.dst=some d->d<G.nt
 gt: ∀j want t,s.o.guard=some (j,want)->xH ops j=some t->t<G.nt
 Uu: ∀p∈s.E.up,p.1∈s.w
 run:(kD ops S.sl s.o=some true/\Sub s.h S.hp/\B8 P G s.o.op S.sl s.h s.n s.E/\(∀k,s.n<=k->k<s.E.nx->S.hp k=some .eW/\k∈s.w)/\s.E.nx<=S.nx)\/(kD ops S.sl s.o=some false/\s.E=uN s.n)
inductive Dd (P:Program) (G:gV R) (ops:Array Oper):List vq->St->St->Prop
 |nil (S:St):Dd P G ops [] S S
 |cons {s:vq} {l:List vq} {S S':St} (h:rf P G ops s S) (hr:Dd P G ops l (S.go s) S'):Dd P G ops (s::l) S S'
theorem St.Lx (S:St) (s:vq):(S.go s).hp=fV S.hp s.E.up:=by unfold St.go St.put;split<;>rfl
theorem St.Ly (S:St) (s:vq):(S.go s).nx=S.nx:=by unfold St.go St.put;split<;>rfl
theorem St.Lz (S:St) (s:vq):(S.go s).sl=fun t=>if s.o.dst=some t then s.E.v else S.sl t:=by
 unfold St.go St.put
 cases s.o.dst with
 |none=>funext t;simp
 |some d=>
  funext t
  by_cases e:t=d
  ·subst e;simp
  ·have e1:(t==d)=false:=by simp[e]
   have e2: ¬d=t:=fun h=>e h.symm
   simp[e1,e2]
theorem St.ext' {S T:St} (h1:S.sl=T.sl) (h2:S.hp=T.hp) (h3:S.nx=T.nx):S=T:=by cases S;cases T;cases h1;cases h2;cases h3;rfl
section
variable {C:Cx} {S:St} {a:Act} {w:World} {ρ:Place} {Fs:Nat->FP} {ops:Array Oper}
theorem Ev {G:gV R} (hN:G.nt=C.N) (h:bb C S a w ρ Fs) {o:Oper} {x:Bool} (P7: ∀j want t,o.guard=some (j,want)->xH ops j=some t->t<G.nt) (hg:kD ops S.sl o=some x):Region.wanted o (yielded ops a.tmps)=x:=by
 unfold kD at hg
 unfold Region.wanted
 split at hg
 ·rename_i hq;cases hg;simp[hq]
 ·rename_i j want hq
  simp only[hq]
  split at hg
  ·cases hg
  ·rename_i t ht
   have RQ:=P7 j want t hq ht
   have hs:=h.qY t
   rw[hN] at RQ
   simp only[Cx.val,if_pos RQ] at hs
   have hd:(ops[j]?).bind (·.dst)=some t:=by
    unfold xH at ht
    split at ht
    ·rename_i o' Zj;simp only[Zj,Option.bind_some];exact ht
    ·cases ht
   have mL:t<a.tmps.size:=by rw[h.size];exact RQ
   split at hg
   ·rename_i y hy
    cases hg
    rw[hy] at hs
    have hs:a.tmps.getD t undef= .bool y:=hs
    have e:a.tmps[t]? =some (.bool y):=by simp[Array.getD_eq_getD_getElem?,Array.getElem?_eq_getElem mL] at hs ⊢;exact hs
    simp[yielded,hd,e]
   ·rename_i hy
    cases hg
    rw[hy] at hs
    have hs:a.tmps.getD t undef=undef:=hs
    have e:a.tmps[t]? =some undef:=by simp[Array.getD_eq_getD_getElem?,Array.getElem?_eq_getElem mL] at hs ⊢;exact hs
    simp[yielded,hd,e,undef]
   ·cases hg
theorem rf.wp {G:gV R} (hG:Of P G) (hN:Vw P G.nt C) (h:bb C S a w ρ Fs) {s:vq} (hs:rf P G ops s S) (ho:ops[s.i]? =some s.o) {K:Act->World->Prop} {Q:Exit->Act->World->Prop} (hK: ∀a' w' ρ' Fs',bb C (S.go s) a' w' ρ' Fs'->K a' w'):wpOp P ops Q s.i K a w:=by
 unfold wpOp
 simp only[ho]
 rcases hs.run with ⟨hg,No,Zk,Og,Nn⟩| ⟨hg,hE⟩
 ·rw[Ev hN.nt h hs.gt hg]
  simp only[if_true]
  refine .inl ((Zk.sub No).wp hG hN h (fun k h1 h2=>(Og k h1 h2).1) Nn fun u w' ρ' Fs' h1 h2=>hK _ _ ρ' Fs' ?_)
  exact h1.put s.o.dst s.E.v u (fun _ _=>h2) (fun d hd=>by rw[<- hN.nt];exact hs.dst d hd)
 ·rw[Ev hN.nt h hs.gt hg]
  simp only[Bool.false_eq_true,if_false]
  refine hK _ _ ρ Fs ?_
  have e:S.go s=S.put s.o.dst (.l .undef):=by unfold St.go;rw[hE];rfl
  rw[e]
  exact h.put s.o.dst (.l .undef) undef (fun _ _=>rfl) (fun d hd=>by rw[<- hN.nt];exact hs.dst d hd)
theorem Cb {G:gV R} (hG:Of P G) (hN:Vw P G.nt C) {Q:Exit->Act->World->Prop}: ∀ {l:List vq} {S S':St} {a:Act} {w:World} {ρ:Place} {Fs:Nat->FP},Dd P G ops l S S'->bb C S a w ρ Fs->(∀s∈l,ops[s.i]? =some s.o)->(∀a' w' ρ' Fs',bb C S' a' w' ρ' Fs'->Q .normal a' w')->wpOps P ops Q (l.map (·.i)) a w
 | [],_,_,a,w,ρ,Fs,.nil _,h,_,hQ=>hQ _ _ _ _ h
 |s::l,S,S',a,w,ρ,Fs,.cons h1 h2,h,ho,hQ=>by
  rw[List.map_cons,wpOps_cons]
  exact h1.wp hG hN h (ho s (by simp)) fun a' w' ρ' Fs' h'=>Cb hG hN h2 h' (fun s hs=>ho s (by simp[hs])) hQ
end
section
variable {G:gV R} {ops:Array Oper}
def vq.fit (s:vq):Prop:= ∀j r,s.h j=some r->j∈s.ids
def Uv (ops:Array Oper) (s t:vq):Prop:=indep ops s.log t.log=true
theorem Uv.spec {s t:vq} (h:Uv ops s t):(∀d,s.o.dst=some d->d∉t.o.looksAt ops/\t.o.dst≠some d)/\(∀d,t.o.dst=some d->d∉s.o.looksAt ops)/\(∀x∈s.w,x∉t.w)/\(∀x∈s.w,x∉t.ids)/\(∀x∈t.w,x∉s.ids):=by
 unfold Uv indep at h
 obtain ⟨h,h5⟩:=aE h
 obtain ⟨h,h4⟩:=aE h
 obtain ⟨h,h3⟩:=aE h
 obtain ⟨h1,h2⟩:=aE h
 obtain ⟨a1,a2,a3⟩:=Oper.apart_spec h1
 exact ⟨fun d hd=>⟨a1 d hd,a2 d hd⟩,a3,la h3,la h4,la h5⟩
theorem De {sl Gc:Nat->AV} {o:Oper} (h: ∀t∈o.looksAt ops,Gc t=sl t):kD ops Gc o=kD ops sl o:=by
 unfold kD
 split
 ·rfl
 ·rename_i j want hq
  split
  ·rfl
  ·rename_i t ht
   have:t∈o.looksAt ops:=by
    unfold Oper.looksAt
    have hd:(ops[j]?).bind (·.dst)=some t:=by
     unfold xH at ht
     split at ht
     ·rename_i o' Zj;simp only[Zj,Option.bind_some];exact ht
     ·cases ht
    simp[hq,hd]
   rw[h t this]
theorem P8 {nt:Nat} {sl Gc:Nat->AV} {o:Oper} (h: ∀t∈o.looksAt ops,Gc t=sl t): ∀x∈o.op.operands.toList,St.rd nt sl x=St.rd nt Gc x:=by
 intro x hx
 cases x with
 |tmp t=>
  have:t∈o.looksAt ops:=by
   unfold Oper.looksAt
   exact List.mem_append_left _ (List.mem_filterMap.2 ⟨.tmp t,hx,rfl⟩)
  simp only[St.rd,h t this]
 |_=>rfl
theorem rf.at {s:vq} {S S':St} (h:rf P G ops s S) (h1: ∀t∈s.o.looksAt ops,S'.sl t=S.sl t) (h2:Sub s.h S.hp->Sub s.h S'.hp) (h3: ∀k,k∈s.w->S.hp k=some .eW->S'.hp k=some .eW) (h4:S'.nx=S.nx):rf P G ops s S':=by
 refine ⟨h.dst,h.gt,h.Uu,?_⟩
 rw[De h1]
 rcases h.run with ⟨a1,a2,a3,a4,a5⟩|h'
 ·exact .inl ⟨a1,h2 a2,a3.congr (P8 h1),fun k k1 k2=>⟨h3 k (a4 k k1 k2).2 (a4 k k1 k2).1,(a4 k k1 k2).2⟩,by rw[h4];exact a5⟩
 ·exact .inr h'
theorem Gd {s:vq} (hw: ∀p∈s.E.up,p.1∈s.w) (S:St) {j:Nat} (hj:j∉s.w):(S.go s).hp j=S.hp j:=by
 rw[St.Lx]
 exact gz _ _ (fun p hp e=>hj (by rw[<- e];exact hw p hp))
theorem swap {s t:vq} {S:St} (hf:s.fit) (hf':t.fit) (hi:Uv ops s t) (h1:rf P G ops s S) (h2:rf P G ops t (S.go s)):rf P G ops t S/\rf P G ops s (S.go t)/\(S.go s).go t=(S.go t).go s:=by
 obtain ⟨i1,i2,i3,i4,i5⟩:=hi.spec
 have y7: ∀x∈t.w,x∉s.w:=fun x h1 h2=>i3 x h2 h1
 refine ⟨?_,?_,St.ext' ?_ ?_ ?_⟩
 ·refine h2.at (fun u hu=> ?_) (fun hs j r hr=> ?_) (fun k hk hg=> ?_) (St.Ly S s).symm
  ·rw[St.Lz]
   simp only
   rw[if_neg]
   exact fun e=>(i1 u e).1 hu
  ·have:=hs j r hr
   rwa [Gd h1.Uu S (fun hw=>i4 j hw (hf' j r hr))] at this
  ·rwa [Gd h1.Uu S (y7 k hk)] at hg
 ·refine h1.at (fun u hu=> ?_) (fun hs j r hr=> ?_) (fun k hk hg=> ?_) (St.Ly S t)
  ·rw[St.Lz]
   simp only
   rw[if_neg]
   exact fun e=>i2 u e hu
  ·rw[Gd h2.Uu S (fun hw=>i5 j hw (hf j r hr))]
   exact hs j r hr
  ·rw[Gd h2.Uu S (i3 k hk)]
   exact hg
 ·funext u
  simp only[St.Lz]
  by_cases e1:s.o.dst=some u
  ·have:=(i1 u e1).2
   simp[e1,this]
  ·simp[e1]
 ·simp only[St.Lx]
  funext j
  by_cases ht: ∃p∈t.E.up,p.1=j
  ·obtain ⟨p,hp,e⟩:=ht
   have hjt:j∈t.w:=by rw[<- e];exact h2.Uu p hp
   rw[B5 t.E.up (hp':=S.hp) ⟨p,hp,e⟩]
   exact (gz _ _ (fun q hq e2=>y7 j hjt (by rw[<- e2];exact h1.Uu q hq))).symm
  ·have ht': ∀p∈t.E.up,p.1≠j:=fun p hp e=>ht ⟨p,hp,e⟩
   rw[gz _ _ ht']
   exact BY _ (gz _ _ ht').symm
 ·simp only[St.Ly]
theorem Dd.front: ∀ {A:List vq} {x:vq} {B:List vq} {S S':St},Dd P G ops (A++x::B) S S'->(∀s∈A++x::B,s.fit)->(∀s∈A,Uv ops s x)->Dd P G ops (x::(A++B)) S S'
 | [],x,B,S,S',h,_,_=>h
 |s::A,x,B,S,S',.cons h1 h2,hf,hi=>by
  have ih:=Dd.front h2 (fun t ht=>hf t (List.mem_cons_of_mem _ ht)) (fun t ht=>hi t (by simp[ht]))
  cases ih with
  |cons g1 g2=>
   obtain ⟨k1,k2,k3⟩:=swap (hf s (by simp)) (hf x (by simp)) (hi s (by simp)) h1 g1
   exact .cons k1 (.cons k2 (by rw[<- k3];exact g2))
end
end
section
variable {R:Type} {P:Program} {G:gV R} {ops:Array Oper}
theorem wj (acc:List Nat) (j:Nat): ∀es:List Edge,Nat.testBit (es.foldr (fun e s=>bif Region.binds .any e then (2^e.on ||| (acc[e.on]?.getD 0) ||| s) else s) 0) j=true-> ∃e∈es,Region.binds .any e=true/\(e.on=j\/Nat.testBit (acc[e.on]?.getD 0) j=true)
 | [],h=>by simp at h
 |e::es,h=>by
  simp only[List.foldr_cons] at h
  cases hb:Region.binds .any e with
  |false=>
   rw[hb] at h
   obtain ⟨e',h1,h2⟩:=wj acc j es h
   exact ⟨e',by simp[h1],h2⟩
  |true=>
   rw[hb] at h
   simp only[cond_true,Nat.testBit_or,Bool.or_eq_true] at h
   rcases h with (h|h)|h
   ·exact ⟨e,by simp,hb,.inl (by simpa[Nat.testBit_two_pow] using h)⟩
   ·exact ⟨e,by simp,hb,.inr h⟩
   ·obtain ⟨e',h1,h2⟩:=wj acc j es h
    exact ⟨e',by simp[h1],h2⟩
theorem tQ: ∀(l:List Oper) (acc:List Nat) (k:Nat),k<acc.length->(nW acc l)[k]? =acc[k]?
 | [],acc,k,h=>rfl
 |o::l,acc,k,h=>by rw[nW,tQ l _ k (by simp;omega),List.getElem?_append_left h]
theorem xI (acc:List Nat) (o:Oper) (l:List Oper):nW acc (o::l)=nW (acc++[xJ acc o]) l:=rfl
theorem Km (l:List Oper): ∀(acc:List Nat) (k:Nat) (o:Oper),l[k]? =some o->(nW acc l)[acc.length+k]? =some (xJ ((nW acc l).take (acc.length+k)) o):=by
 induction l with
 |nil=>intro acc k o h;simp at h
 |cons o' l ih=>
  intro acc k o h
  cases k with
  |zero=>
   have h:o' =o:=by simpa using h
   subst h
   have e:(nW acc (o' ::l)).take acc.length=acc:=by
    apply List.ext_getElem?
    intro i
    rw[List.getElem?_take]
    split
    ·exact tQ _ _ _ ‹_›
    ·rw[List.getElem?_eq_none (by omega)]
   rw[Nat.add_zero,e,xI,tQ l _ _ (by simp)]
   simp
  |succ k=>
   have h2:=ih (acc++[xJ acc o']) k o (by simpa using h)
   rw[List.length_append,List.length_singleton,Nat.add_right_comm] at h2
   rw[xI]
   exact h2
def RR (l:List Oper) (k j:Nat):Prop:=Nat.testBit ((nW [] l)[k]?.getD 0) j=true
theorem RR.step {l:List Oper} {k j:Nat} {o:Oper} (ho:l[k]? =some o) (h:RR l k j): ∃e∈o.after.toList,Region.binds .any e=true/\(e.on=j\/RR l e.on j):=by
 unfold RR at h
 have:=Km l [] k o ho
 simp only[List.length_nil,Nat.zero_add] at this
 rw[this] at h
 simp only[Option.getD_some,xJ] at h
 obtain ⟨e,h1,h2,h3⟩:=wj _ _ _ h
 refine ⟨e,h1,h2,h3.imp id fun h3=> ?_⟩
 unfold RR
 rw[List.getElem?_take] at h3
 split at h3
 ·exact h3
 ·simp at h3
section
variable {C:Cx}
theorem P9 (hG:Of P G) (hN:Vw P G.nt C) {Q:Exit->Act->World->Prop} (hb: ∀(i:Nat) (o:Oper) (e:Edge),ops[i]? =some o->e∈o.after.toList->Region.binds .any e=true->e.on<i): ∀(fuel:Nat) (listed:Array Bool) (l:List vq) {S S':St} {a:Act} {w:World} {ρ:Place} {Fs:Nat->FP},Dd P G ops l S S'->bb C S a w ρ Fs->
 listed.size=ops.size->(∀i,i<ops.size->(listed.getD i true=false↔ ∃s∈l,s.i=i))->l.length<=fuel->(∀s∈l,ops[s.i]? =some s.o)->(∀s∈l,s.fit)->List.Pairwise (fun s t=>s.i<t.i/\(RR ops.toList t.i s.i\/Uv ops s t)) l->
 (∀k j,k<ops.size->listed.getD k true=true->RR ops.toList k j->listed.getD j false=true)->
 (∀a' w' ρ' Fs',bb C S' a' w' ρ' Fs'->Q .normal a' w')->wpAny P .any ops Q fuel listed a w:=by
 have un: ∀(listed:Array Bool) i,listed.size=ops.size->i<ops.size->listed.getD i true=listed.getD i false:=fun listed i h1 h2=>by
  rw[<- h1] at h2
  simp[Array.getD_eq_getD_getElem?,Array.getElem?_eq_getElem h2]
 intro fuel
 induction fuel with
 |zero=>
  intro listed l S S' a w ρ Fs hr h mL ze hlen ho hf hp ui hQ
  obtain rfl:l=[]:=List.length_eq_zero_iff.1 (by omega)
  cases hr
  refine ⟨?_,hQ _ _ _ _ h⟩
  refine List.eq_nil_iff_forall_not_mem.2 fun i hi=> ?_
  obtain ⟨h1,o,h2,_⟩:=mem_ready.1 hi
  obtain ⟨s,hs,_⟩:=(ze i (Array.getElem?_eq_some_iff.1 h2).1).1 h1
  simp at hs
 |succ fuel ih=>
  intro listed l S S' a w ρ Fs hr h mL ze hlen ho hf hp ui hQ
  refine ⟨fun P_=> ?_,fun i hi=> ?_⟩
  ·cases l with
   |nil=>cases hr;exact hQ _ _ _ _ h
   |cons s l=>
    exfalso
    have QS:=ho s (by simp)
    have Zm:=(Array.getElem?_eq_some_iff.1 QS).1
    have:s.i∈Region.ready .any ops listed:=by
     refine mem_ready.2 ⟨(ze s.i Zm).2 ⟨s,by simp,rfl⟩,s.o,QS,fun e he hbd=> ?_⟩
     have gr:=hb s.i s.o e QS (by simpa using he) hbd
     rw[<- un listed e.on mL (by omega)]
     cases hq:listed.getD e.on true with
     |true=>rfl
     |false=>
      obtain ⟨t,ht,e2⟩:=(ze e.on (by omega)).1 hq
      rcases List.mem_cons.1 ht with rfl|ht
      ·omega
      ·have:=((List.pairwise_cons.1 hp).1 t ht).1;omega
    rw[P_] at this
    simp at this
  ·obtain ⟨h1,o,h2,h3⟩:=mem_ready.1 hi
   have Zn:=(Array.getElem?_eq_some_iff.1 h2).1
   obtain ⟨s,hs,rfl⟩:=(ze i Zn).1 h1
   obtain ⟨A,B,rfl⟩:=List.append_of_mem hs
   have QS:=ho s hs
   rw[QS] at h2;cases h2
   have Vx:ops.toList[s.i]? =some s.o:=by simpa using QS
   have W3: ∀j,RR ops.toList s.i j->listed.getD j false=true:=fun j hj=>by
    obtain ⟨e,e1,e2,e3⟩:=hj.step Vx
    have hl:=h3 e (by simpa using e1) e2
    rcases e3 with rfl|e3
    ·exact hl
    ·have gr:=hb s.i s.o e QS e1 e2
     exact ui e.on j (by omega) (by rw[un listed e.on mL (by omega)];exact hl) e3
   obtain ⟨pA,pB,Zo⟩:=List.pairwise_append.1 hp
   have Zp: ∀t∈A,Uv ops t s:=fun t ht=>by
    rcases (Zo t ht s (by simp)).2 with hk|hk
    ·exfalso
     have h4:=W3 t.i hk
     have Y_:=ho t (by simp[ht])
     have W4:=(Array.getElem?_eq_some_iff.1 Y_).1
     have h5:=(ze t.i W4).2 ⟨t,by simp[ht],rfl⟩
     rw[un listed t.i mL W4,h4] at h5
     cases h5
    ·exact hk
   cases hr.front hf Zp with
   |cons g1 g2=>
    refine g1.wp hG hN h QS fun a' w' ρ' Fs' h'=> ?_
    have lG: ∀t∈A++B,t.i≠s.i:=fun t ht=>by
     rcases List.mem_append.1 ht with ht|ht
     ·have:=(Zo t ht s (by simp)).1;omega
     ·have:=((List.pairwise_cons.1 pB).1 t ht).1;omega
    refine ih (listed.setIfInBounds s.i true) (A++B) g2 h' (by simp[mL]) (fun j hj=> ?_) (by simp at hlen ⊢;omega) (fun t ht=>ho t (by simp at ht ⊢;rcases ht with ht|ht<;>simp[ht])) (fun t ht=>hf t (by simp at ht ⊢;rcases ht with ht|ht<;>simp[ht])) ?_ (fun k j hk hl Vr=> ?_) hQ
    ·by_cases e:j=s.i
     ·subst e
      refine ⟨fun hh=> ?_,fun ⟨t,ht,e⟩=>absurd e (lG t ht)⟩
      rw[un _ _ (by simp[mL]) hj] at hh
      have:(listed.setIfInBounds s.i true).getD s.i false=true:=by
       have:s.i<listed.size:=by omega
       simp[this]
      rw[this] at hh;cases hh
     ·rw[getD_set_ne true (Ne.symm e),ze j hj]
      constructor
      ·rintro ⟨t,ht,rfl⟩
       refine ⟨t,?_,rfl⟩
       simp at ht ⊢
       rcases ht with ht|rfl|ht
       ·exact .inl ht
       ·exact absurd rfl e
       ·exact .inr ht
      ·rintro ⟨t,ht,rfl⟩
       exact ⟨t,by simp at ht ⊢;rcases ht with ht|ht<;>simp[ht],rfl⟩
    ·exact List.pairwise_append.2 ⟨pA,(List.pairwise_cons.1 pB).2,fun x hx y hy=>Zo x hx y (by simp[hy])⟩
    ·refine getD_set_true ?_
     by_cases e:k=s.i
     ·subst e;exact W3 j Vr
     ·rw[getD_set_ne true (Ne.symm e)] at hl
      exact ui k j hk hl Vr
end
structure Iz (Sg S:St) (N:Nat):Prop where
 sl:Sg.sl=S.sl
 nx:Sg.nx=N
 hp: ∀j,S.hp j=Sg.hp j\/(Sg.hp j=some .eW/\S.hp j=none)
 gh: ∀k,S.nx<=k->k<N->Sg.hp k=some .eW
theorem Cc {S:St} {t:Tmp} {v:AV} (h:S.sl t=v):S.put (some t) v=S:=by
 unfold St.put
 refine St.ext' ?_ rfl rfl
 funext j
 by_cases e:j=t
 ·subst e;simp[h]
 ·have:(j==t)=false:=by simp[e]
  simp[this]
theorem RS {Sg S:St} {N:Nat} (h:Iz Sg S N) {s:vq} (hn:s.n=S.nx) (Hx:Kn S.nx s.E=true):Iz (Sg.go s) (S.Df s.o.dst s.E) N:=by
 obtain ⟨h1,h2⟩:=aE Hx
 have h1:S.nx<=s.E.nx:=Nat.le_of_ble_eq_true h1
 have hk: ∀p∈s.E.up,p.1<s.E.nx:=fun p hp=>by
  have:=List.all_eq_true.1 h2 p hp
  simpa[Nat.blt_eq] using this
 refine ⟨?_,by rw[St.Ly];exact h.nx,fun j=> ?_,fun k k1 k2=> ?_⟩
 ·rw[St.Lz]
  unfold St.Df St.put
  cases s.o.dst with
  |none=>simp[h.sl]
  |some d=>
   funext t
   by_cases e:t=d
   ·subst e;simp
   ·have e1:(t==d)=false:=by simp[e]
    have e2: ¬d=t:=fun h=>e h.symm
    simp[e1,e2,h.sl]
 ·rw[St.Lx]
  show fV S.hp s.E.up j=fV Sg.hp s.E.up j\/_
  by_cases hj: ∃p∈s.E.up,p.1=j
  ·exact .inl (B5 _ hj)
  ·have Jf: ∀p∈s.E.up,p.1≠j:=fun p hp e=>hj ⟨p,hp,e⟩
   show _\/(fV Sg.hp s.E.up j=some .eW/\fV S.hp s.E.up j=none)
   rw[gz _ _ Jf,gz _ _ Jf]
   exact h.hp j
 ·have k1:s.E.nx<=k:=k1
  rw[St.Lx,gz _ _ (fun p hp e=>by have:=hk p hp;omega)]
  exact h.gh k (by omega) k2
theorem IA {Sg S:St} {N:Nat} (h:Iz Sg S N):Sub S.hp Sg.hp:=fun j r hj=>by
 rcases h.hp j with e| ⟨_,e⟩
 ·rw[<- e];exact hj
 ·rw[e] at hj;cases hj
theorem IB (hG:Of P G) {draw:Bool} {o:Oper} {S:St} {K:St->Kl->Option R} {r:R} (i:Nat) (h:Ko G ops draw o S K=some r): ∃s:vq,s.i=i/\s.o=o/\s.n=S.nx/\K (S.Df o.dst s.E) s.log=some r/\Kn S.nx s.E=true/\(draw=true->s.fit)/\
 ∀Sg N,Iz Sg S N->s.E.nx<=N->rf P G ops s Sg:=by
 unfold Ko at h
 simp only[] at h
 obtain ⟨hd,h⟩:=ak h
 have hd: ∀d,o.dst=some d->d<G.nt:=fun d e=>by rw[e] at hd;simpa[Nat.blt_eq] using hd
 have exec:kD ops S.sl o=some true->(∀j want t,o.guard=some (j,want)->xH ops j=some t->t<G.nt)->(jA G o.op S.sl (bif draw then cut S.hp (Ew (St.rd G.nt S.sl) o.op) else S.hp) S.nx fun E=>bif Kn S.nx E then K (S.Df o.dst E) ⟨o,writes S.nx E,Ew (St.rd G.nt S.sl) o.op⟩ else none)=some r->
  ∃s:vq,s.i=i/\s.o=o/\s.n=S.nx/\K (S.Df o.dst s.E) s.log=some r/\Kn S.nx s.E=true/\(draw=true->s.fit)/\ ∀Sg N,Iz Sg S N->s.E.nx<=N->rf P G ops s Sg:=fun hg P7 h=>by
  obtain ⟨E,Zk,h⟩:=Nj hG h
  obtain ⟨Hx,h⟩:=ak h
  refine ⟨⟨i,o,S.nx,E,bif draw then cut S.hp (Ew (St.rd G.nt S.sl) o.op) else S.hp,writes S.nx E,Ew (St.rd G.nt S.sl) o.op⟩,rfl,rfl,rfl,h,Hx,fun hdr j r' hj=> ?_,fun Sg N KY hN=>⟨hd,P7,fun p hp=> ?_,.inl ⟨?_,fun j r' hj=> ?_,?_,fun k k1 k2=>⟨KY.gh k k1 (by have:E.nx<=N:=hN;have:k<E.nx:=k2;omega),?_⟩,by rw[KY.nx];exact hN⟩⟩⟩
  ·subst hdr
   simp only[cut,cond_true] at hj
   obtain ⟨h1,_⟩:=ak hj
   exact List.elem_iff.1 h1
  ·show p.1∈writes S.nx E
   exact List.mem_append_left _ (List.mem_map_of_mem hp)
  ·rw[KY.sl];exact hg
  ·refine IA KY j r' ?_
   cases draw with
   |false=>exact hj
   |true=>
    simp only[cut,cond_true] at hj
    exact (ak hj).2
  ·show B8 P G o.op Sg.sl _ S.nx E
   rw[KY.sl];exact Zk
  ·show k∈writes S.nx E
   refine List.mem_append_right _ (List.mem_range'_1.2 ⟨k1,?_⟩)
   have:k<E.nx:=k2
   have k1:S.nx<=k:=k1
   omega
 have skip:kD ops S.sl o=some false->(∀j want t,o.guard=some (j,want)->xH ops j=some t->t<G.nt)->K (S.Df o.dst (uN S.nx)) ⟨o,[],[]⟩=some r->
  ∃s:vq,s.i=i/\s.o=o/\s.n=S.nx/\K (S.Df o.dst s.E) s.log=some r/\Kn S.nx s.E=true/\(draw=true->s.fit)/\ ∀Sg N,Iz Sg S N->s.E.nx<=N->rf P G ops s Sg:=fun hg P7 h=>by
  refine ⟨⟨i,o,S.nx,uN S.nx,fun _=>none,[],[]⟩,rfl,rfl,rfl,h,?_,fun _ j r' hj=>(by cases hj),fun Sg N KY hN=>⟨hd,P7,fun p hp=> ?_,.inr ⟨by rw[KY.sl];exact hg,rfl⟩⟩⟩
  ·simp[Kn,uN]
  ·simp[uN] at hp
 split at h
 ·rename_i RT
  exact exec (by simp[kD,RT]) (fun j want t e _=>by rw[RT] at e;cases e) h
 ·rename_i j want RT
  split at h
  ·cases h
  ·rename_i t ht
   obtain ⟨RQ,h⟩:=ak h
   have RQ:t<G.nt:=by simpa[Nat.blt_eq] using RQ
   have P7: ∀j' SM t',o.guard=some (j',SM)->xH ops j' =some t'->t' <G.nt:=fun j' SM t' e1 e2=>by
    rw[RT] at e1;cases e1
    rw[ht] at e2;cases e2
    exact RQ
   split at h
   ·rename_i x hx
    cases x with
    |true=>
     simp only[Cc hx] at h
     cases want with
     |true=>exact exec (by simp[kD,RT,ht,hx]) P7 h
     |false=>exact skip (by simp[kD,RT,ht,hx]) P7 h
    |false=>
     simp only[Cc hx] at h
     cases want with
     |true=>exact skip (by simp[kD,RT,ht,hx]) P7 h
     |false=>exact exec (by simp[kD,RT,ht,hx]) P7 h
   ·rename_i hx
    exact skip (by simp[kD,RT,ht,hx]) P7 h
   ·cases h
theorem Cd (hG:Of P G) {draw:Bool} {r:R}: ∀(l:List Oper) (i:Nat) {S:St} {L:List Kl} {K:St->List Kl->Option R},LA G ops draw l S L K=some r-> ∃(steps:List vq) (S':St),steps.map (·.o)=l/\steps.map (·.i)=List.range' i l.length/\K S' ((steps.map vq.log).reverse++L)=some r/\S.nx<=S'.nx/\(draw=true-> ∀s∈steps,s.fit)/\
 ∀Sg N,Iz Sg S N->S'.nx<=N-> ∃SN,Dd P G ops steps Sg SN/\Iz SN S' N
 | [],i,S,L,K,h=>⟨[],S,rfl,rfl,h,Nat.le_refl _,fun _ s hs=>by simp at hs,fun Sg N hg _=>⟨Sg,.nil _,hg⟩⟩
 |o::l,i,S,L,K,h=>by
  simp only[LA] at h
  obtain ⟨s,e1,e2,e3,h,Hx,Ge,jn⟩:=IB hG i h
  obtain ⟨steps,S',g1,g2,g3,g4,g5,g6⟩:=Cd hG l (i+1) h
  have hle:S.nx<=s.E.nx:=Nat.le_of_ble_eq_true (aE Hx).1
  have aco:s.E.nx<=S'.nx:=g4
  refine ⟨s::steps,S',by simp[e2,g1],by simp[e1,g2,List.range'_succ],?_,by omega,fun hd t ht=> ?_,fun Sg N hg hN=> ?_⟩
  ·simpa using g3
  ·rcases List.mem_cons.1 ht with rfl|ht
   ·exact Ge hd
   ·exact g5 hd t ht
  ·obtain ⟨SN,k1,k2⟩:=g6 (Sg.go s) N (by have:=RS hg e3 Hx;rw[e2] at this;exact this) hN
   exact ⟨SN,.cons (jn Sg N hg (by omega)) k1,k2⟩
theorem Ae: ∀(done:List Kl) (bs:List Nat) (ls:List Kl),Gf ops done bs ls=true->(∀k l,ls[k]? =some l-> ∃b,bs[k]? =some b/\ ∀i m,(done++ls.take k)[i]? =some m->Nat.testBit b i=true\/indep ops m l=true)/\ ∀k l e,ls[k]? =some l->e∈l.o.after.toList->Region.binds .any e=true->e.on<done.length+k
 |done,bs,[],_=>⟨fun k l h=>by simp at h,fun k l e h=>by simp at h⟩
 |done,[],l::ls,h=>by cases h
 |done,b::bs,l::ls,h=>by
  simp only[Gf] at h
  obtain ⟨h,h3⟩:=aE h
  obtain ⟨h1,h2⟩:=aE h
  obtain ⟨ih1,Uw⟩:=Ae _ _ _ h3
  have Ef: ∀(ms:List Kl) (i:Nat),Gg ops b l i ms=true-> ∀j m,ms[j]? =some m->Nat.testBit b (i+j)=true\/indep ops m l=true:=by
   intro ms
   induction ms with
   |nil=>intro i _ j m hj;simp at hj
   |cons m0 ms ih=>
    intro i hh j m hj
    simp only[Gg] at hh
    obtain ⟨k1,k2⟩:=aE hh
    cases j with
    |zero=>simp at hj;subst hj;exact Bool.or_eq_true _ _ |>.mp k1
    |succ j=>rw[show i+(j+1)=i+1+j by omega];exact ih (i+1) k2 j m (by simpa using hj)
  refine ⟨fun k l' hk=> ?_,fun k l' e hk he hb=> ?_⟩
  ·cases k with
   |zero=>
    simp at hk;subst hk
    refine ⟨b,rfl,fun i m hm=> ?_⟩
    have:=Ef done 0 h1 i m (by simpa using hm)
    rwa [Nat.zero_add] at this
   |succ k=>
    obtain ⟨b',pJ,hh⟩:=ih1 k l' (by simpa using hk)
    exact ⟨b',by simpa using pJ,fun i m hm=>hh i m (by simpa using hm)⟩
  ·cases k with
   |zero=>
    simp at hk;subst hk
    have:=List.all_eq_true.1 h2 e he
    rw[hb] at this
    simpa[Nat.blt_eq] using this
   |succ k=>
    have:=Uw k l' e (by simpa using hk) he hb
    simp at this ⊢;omega
section
variable {C:Cx} {S:St} {a:Act} {w:World} {ρ:Place} {Fs:Nat->FP}
theorem Cf (hG:Of P G) (hm:P.follows .mixedOrders=true) (hN:Vw P G.nt C) {id:Nat} {draw:Bool} {K:St->Option R} {r:R} (he:Cg G ops draw S K=some r) (h:bb C S a w ρ Fs) {Q:Exit->Act->World->Prop}
 (hQ: ∀S',K S' =some r-> ∀a' w' ρ' Fs',bb C S' a' w' ρ' Fs'->Q .normal a' w'):(Code.region id ops draw).wp P Q a w:=by
 unfold Cg at he
 obtain ⟨steps,S',e1,e2,e3,e4,e5,e6⟩:=Cd hG _ 0 he
 obtain ⟨SN,hr,KY⟩:=e6 ⟨S.sl,tR S.hp S.nx S'.nx,S'.nx⟩ S'.nx ⟨rfl,rfl,fun j=>by
  simp only[tR]
  cases hq:S.hp j with
  |some r=>exact .inl rfl
  |none=>
   simp only[]
   cases (Nat.ble S.nx j&&Nat.blt j S'.nx) with
   |true=>exact .inr ⟨rfl,by trivial⟩
   |false=>exact .inl rfl,fun k k1 k2=>by
  have hq:S.hp k=none:=h.mem.fresh k k1
  have h1:Nat.ble S.nx k=true:=Nat.ble_eq_true_of_le k1
  have h2:Nat.blt k S'.nx=true:=by simp[Nat.blt_eq];exact k2
  simp only[tR,hq,h1,h2];rfl⟩ (Nat.le_refl _)
 have h0:=h.RU e4
 have hlen:steps.length=ops.size:=by have:=congrArg List.length e1;simpa using this
 have ze: ∀(k:Nat) (s:vq),steps[k]? =some s->s.i=k:=fun k s hk=>by
  have h1:(steps.map (·.i))[k]? =some s.i:=by simp[hk]
  rw[e2,List.getElem?_range'] at h1
  ·simp at h1;omega
  ·have:=(List.getElem?_eq_some_iff.1 hk).1;simp;omega
 have ho: ∀s∈steps,ops[s.i]? =some s.o:=fun s hs=>by
  obtain ⟨k,hk⟩:=List.getElem?_of_mem hs
  have h1:(steps.map (·.o))[k]? =some s.o:=by simp[hk]
  rw[e1] at h1
  rw[ze k s hk]
  simpa using h1
 have fin: ∀(K':K S' =some r) a' w' ρ' Fs',bb C SN a' w' ρ' Fs'->Q .normal a' w':=fun K' a' w' ρ' Fs' h'=>by
  refine hQ S' K' a' w' ρ' Fs' ?_
  have h2:=h'.RV S'.hp KY.hp
  have e:S' =⟨SN.sl,S'.hp,SN.nx⟩:=St.ext' KY.sl.symm rfl KY.nx.symm
  rw[e];exact h2
 cases draw with
 |false=>
  have hl:List.range ops.size=steps.map (·.i):=by rw[e2,List.range_eq_range'];simp
  refine wp_region ?_
  rw[hl]
  exact Cb hG hN hr h0 ho (fun a' w' ρ' Fs' h'=>fin e3 a' w' ρ' Fs' h')
 |true=>
  simp only[cond_true,List.append_nil,List.reverse_reverse] at e3
  obtain ⟨AA,hK⟩:=ak e3
  obtain ⟨d1,d2⟩:=Ae _ _ _ AA
  have W5: ∀(k:Nat) (s:vq),steps[k]? =some s->(steps.map vq.log)[k]? =some s.log:=fun k s hk=>by simp[hk]
  refine wp_region_any hm ?_
  have W6:bb C ⟨S.sl,tR S.hp S.nx S'.nx,S'.nx⟩ a {w with drawn:=w.drawn+1} ρ Fs:=by
   refine h0.gen _ _ {w with drawn:=w.drawn+1} ρ Fs (fun _=>False) (Nat.le_refl _) rfl rfl rfl (fun _ _ _=>rfl) (fun _ h=>h.elim) (Nat.le_refl _) (fun _ _ _=>rfl) (fun j hj=> .same rfl rfl (fun _ _ h=>h)) (fun j hj=> .inl ⟨h0.mem.fresh j hj,h0.mem.dead j (h0.mem.fresh j hj)⟩) h0.mem.one (fun b hb=> .inl hb)
  refine P9 hG hN (fun i o e hi he hb=> ?_) ops.size _ steps hr W6 (by simp) (fun i hi=> ?_) (by omega) ho (e5 rfl) ?_ (fun k j hk hl _=> ?_) (fun a' w' ρ' Fs' h'=>fin hK a' w' ρ' Fs' h')
  ·have tN:=(Array.getElem?_eq_some_iff.1 hi).1
   obtain ⟨s,hs⟩: ∃s,steps[i]? =some s:=⟨steps[i]'(by omega),List.getElem?_eq_getElem _⟩
   have h1:=ho s (List.mem_of_getElem? hs)
   rw[ze i s hs,hi] at h1
   cases h1
   have:=d2 i s.log e (W5 i s hs) he hb
   simpa using this
  ·have:(Array.replicate ops.size false).getD i true=false:=by simp[hi]
   simp only[this,true_iff]
   exact ⟨steps[i]'(by omega),List.getElem_mem _,ze i _ (List.getElem?_eq_getElem _)⟩
  ·rw[List.pairwise_iff_getElem]
   intro i j hi hj Wr
   have hi2:=List.getElem?_eq_getElem hi
   have Vy:=List.getElem?_eq_getElem hj
   have ei:=ze i _ hi2
   have ej:=ze j _ Vy
   refine ⟨by rw[ei,ej];exact Wr,?_⟩
   obtain ⟨b,hb,hh⟩:=d1 j _ (W5 j _ Vy)
   have:=hh i steps[i].log (by simp[Wr,hi2])
   rw[ei,ej]
   rcases this with h1|h1
   ·left
    unfold RR
    rw[hb];exact h1
   ·right;exact h1
  ·have:(Array.replicate ops.size false).getD k true=false:=by simp[hk]
   rw[this] at hl;cases hl
end
end
section
theorem LB: ∀ {x:Nat} {l:List Nat} {j:Nat},idx x l=some j->l[j]? =some x
 |x,y::l,j,h=>by
  simp only[idx] at h
  cases e:x==y with
  |true=>rw[e] at h;simp at h;subst h;simp[eq_of_beq e]
  |false=>
   rw[e] at h
   simp only[cond_false] at h
   split at h
   ·rename_i i hi
    cases h
    simpa using LB hi
   ·cases h
def pw (hp:Nat->Option aw) (acc:List Nat):Prop:=acc.Nodup/\ ∀id∈acc,∃r,hp id=some r
theorem pw.add {hp:Nat->Option aw} {acc:List Nat} (h:pw hp acc) {id:Nat} {r:aw} (hn:acc.elem id=false) (hr:hp id=some r):pw hp (acc++[id]):=by
 have hn:id∉acc:=fun h=>by rw[List.elem_iff.2 h] at hn;cases hn
 refine ⟨List.nodup_append.2 ⟨h.1,by simp,fun a ha b hb=> ?_⟩,fun j hj=> ?_⟩
 ·simp at hb;subst hb;exact fun e=>hn (e ▸ ha)
 ·rcases List.mem_append.1 hj with hj|hj
  ·exact h.2 j hj
  ·simp at hj;subst hj;exact ⟨r,hr⟩
theorem oH {α β:Type} (f:β->α->β) (Pr:β->Prop) (hf: ∀b a,Pr b->Pr (f b a)): ∀(l:List α) (b:β),Pr b->Pr (l.foldl f b)
 | [],b,h=>h
 |x::l,b,h=>oH f Pr hf l _ (hf b x h)
theorem vr {hp:Nat->Option aw}: ∀(d:Nat) (x:LV) (acc:List Nat),pw hp acc->pw hp (uO hp d x acc):=by
 intro d
 induction d with
 |zero=>
  intro x acc h
  unfold uO
  split
  ·exact h
  ·rename_i id hid
   cases hb:acc.elem id with
   |true=>exact h
   |false=>
    simp only[cond_false]
    split
    ·exact h
    ·rename_i hr;exact h.add hb hr
    ·rename_i hr;exact h.add hb hr
 |succ d ih=>
  intro x acc h
  unfold uO
  split
  ·exact h
  ·rename_i id hid
   cases hb:acc.elem id with
   |true=>exact h
   |false=>
    simp only[cond_false]
    split
    ·exact h
    ·rename_i cells hr;exact oH _ (pw hp) (fun b a hb=>ih a b hb) cells _ (h.add hb hr)
    ·rename_i hr;exact h.add hb hr
theorem Dg {hp:Nat->Option aw} (x:AV) (acc:List Nat) (h:pw hp acc):pw hp (Gh hp x acc):=by
 unfold Gh
 split
 ·exact vr _ _ _ h
 ·exact oH _ (pw hp) (fun b a hb=>vr _ a b hb) _ _ h
 ·exact h
theorem Gi (live:List Nat) (S:St):pw S.hp (wk live S):=
 oH _ (pw S.hp) (fun b a hb=>Dg _ b hb) live [] ⟨by simp,by simp⟩
def mD {α:Type} (f:Nat->α) (z:α) (olds:List Nat) (j:Nat):α:=match olds[j]? with|some id=>f id|none=>z
theorem Kp (Fs:Nat->FP) (b:Nat) (l:List Nat): ∀(n:Nat),n<=l.length->ar n (mD Fs fz l) b=dH Fs (l.take n) b:=by
 intro n
 induction n with
 |zero=>intro _;rfl
 |succ n ih=>
  intro h
  have e:l.take (n+1)=l.take n++[l[n]'(by omega)]:=by rw[List.take_succ_eq_append_getElem (by omega)]
  rw[e,eT]
  simp only[ar,F7]
  rw[ih (by omega)]
  congr 1
  simp[mD,List.getElem?_eq_getElem (show n<l.length by omega),dH]
theorem Np (live:List Nat) (f:Nat->AV) (t:Nat):look (pairUp live (live.map f)) t=if t∈live then some (f t) else none:=by
 induction live with
 |nil=>rfl
 |cons u l ih=>
  simp only[List.map_cons,pairUp,look]
  by_cases e:u=t
  ·subst e;simp
  ·have e1:(u==t)=false:=by simp[e]
   have e2: ¬t=u:=fun h=>e h.symm
   simp[e1,e2,ih]
variable {C:Cx} {S:St} {a:Act} {w:World} {ρ:Place} {Fs:Nat->FP}
section
variable {olds:List Nat}
def vt (olds:List Nat) (hp:Nat->Option aw):Nat->Option aw:=Qa (olds.map fun id=>(hp id).map (uP olds hp))
theorem Ch {hp:Nat->Option aw} {j:Nat} {bn:aw} (h:vt olds hp j=some bn): ∃id root,olds[j]? =some id/\hp id=some root/\bn=uP olds hp root:=by
 unfold vt Qa at h
 split at h
 ·rename_i r hr
  rw[List.getElem?_map] at hr
  cases ho:olds[j]? with
  |none=>rw[ho] at hr;cases hr
  |some id=>
   rw[ho] at hr
   simp only[Option.map_some,Option.some.injEq] at hr
   subst hr
   cases hq:hp id with
   |none=>rw[hq] at h;cases h
   |some root=>rw[hq] at h;cases h;exact ⟨id,root,rfl,hq,rfl⟩
 ·cases h
theorem pY {hp:Nat->Option aw} {root:aw} {r:Row} (h:root.row? =some r):(uP olds hp root).row? =some r:=by cases root<;>exact h
theorem Gj {hp:Nat->Option aw} {root:aw} (h:root.real):(uP olds hp root).real:=by cases root<;>exact h
structure zg (olds:List Nat) (E E':Env):Prop where
 w:E'.w=E.w
 zf: ∀b,E.Zf b->E'.Zf b
 zl: ∀b,E.ZL b->E'.ZL b
 ρ: ∀j id,olds[j]? =some id->E'.ρ j=E.ρ id
 hp:E'.hp=vt olds E.hp
 nx:E'.nx=olds.length
theorem Ex {E E':Env} (h:zg olds E E') {x:LV} {v:Value} (hx:eS E x v):eS E' (vu olds E.hp x) v:=by
 have get: ∀ {id j:Nat},idx id olds=some j->j<E'.nx/\E'.ρ j=E.ρ id/\ ∀bn,E'.hp j=some bn-> ∃root,E.hp id=some root/\bn=uP olds E.hp root:=fun {id j} hj=>by
  have h1:=LB hj
  refine ⟨by rw[h.nx];exact (List.getElem?_eq_some_iff.1 h1).1,h.ρ j id h1,fun bn hr=> ?_⟩
  rw[h.hp] at hr
  obtain ⟨Ye,root,e1,e2,e3⟩:=Ch hr
  rw[h1] at e1;cases e1
  exact ⟨root,e2,e3⟩
 cases x with
 |own id=>
  simp only[vu]
  split
  ·rename_i j hj
   obtain ⟨g1,g2,g3⟩:=get hj
   obtain ⟨_,hx⟩:=hx
   refine ⟨g1,fun bn hr=> ?_⟩
   obtain ⟨root,e1,rfl⟩:=g3 bn hr
   obtain ⟨r,k1,k2⟩:=hx root e1
   exact ⟨r,pY k1,by rw[g2];exact k2⟩
  ·trivial
 |sub id lo hi=>
  simp only[vu]
  split
  ·rename_i j hj
   obtain ⟨g1,g2,g3⟩:=get hj
   obtain ⟨_,hx⟩:=hx
   refine ⟨g1,fun bn hr=> ?_⟩
   obtain ⟨root,e1,rfl⟩:=g3 bn hr
   obtain ⟨r,k1,k2,k3,k4⟩:=hx root e1
   exact ⟨r,pY k1,k2,k3,by rw[g2];exact k4⟩
  ·trivial
 |fP id k=>
  simp only[vu]
  split
  ·rename_i j hj
   obtain ⟨g1,g2,g3⟩:=get hj
   obtain ⟨_,u9,b,cap,k1,k2⟩:=hx
   refine ⟨g1,fun bn hr=> ?_,b,cap,by rw[g2];exact k1,k2⟩
   obtain ⟨root,e1,rfl⟩:=g3 bn hr
   exact Gj (u9 root e1)
  ·trivial
 |q_ id i f=>
  simp only[vu]
  split
  ·rename_i j hj
   obtain ⟨g1,g2,g3⟩:=get hj
   obtain ⟨_,hx⟩:=hx
   refine ⟨g1,fun bn hr=> ?_⟩
   obtain ⟨root,e1,rfl⟩:=g3 bn hr
   obtain ⟨r,k1,k2,b,cap,k3,k4⟩:=hx root e1
   exact ⟨r,pY k1,k2,b,cap,by rw[g2];exact k3,k4⟩
  ·trivial
 |arr id n=>
  simp only[vu]
  split
  ·rename_i j hj
   obtain ⟨g1,g2,g3⟩:=get hj
   obtain ⟨_,hx⟩:=hx
   refine ⟨g1,fun bn hr=> ?_⟩
   obtain ⟨root,e1,rfl⟩:=g3 bn hr
   obtain ⟨r,k1,k2,b,cap,k3,k4⟩:=hx root e1
   exact ⟨r,pY k1,k2,b,cap,by rw[g2];exact k3,k4⟩
  ·trivial
 |inner id ver i f=>trivial
 |zd id ver i f j=>trivial
 |val p r=>
  show fw E'.w (if p then E'.Zf else E'.ZL) r v
  rw[h.w]
  cases p with
  |true=>exact fw.grow hx h.zf
  |false=>exact fw.grow hx h.zl
 |Gb p r i f=>
  obtain ⟨h1,ad,h2,h3⟩:=hx
  refine ⟨h1,ad,h2,?_⟩
  rw[h.w]
  cases p with
  |true=>exact pK.mono h3 (fun b hb=>⟨h.zf b hb,rfl⟩)
  |false=>exact pK.mono h3 (fun b hb=>⟨h.zl b hb,rfl⟩)
 |er z=>cases z<;>exact hx
 |_=>exact hx
theorem wm {E E':Env} (h:zg olds E E'): ∀ {xs:List LV} {vs:List Value},bj E xs vs->bj E' (xs.map (vu olds E.hp)) vs
 | [],[],_=>trivial
 |x::xs,v::vs,hx=>⟨Ex h hx.1,wm h hx.2⟩
theorem Ey {E E':Env} (h:zg olds E E') {x:A1} {v:Value} (hx:xK E x v):xK E' (LC olds E.hp x) v:=by
 cases x with
 |l x=>exact Ex h hx
 |agg xs=>obtain ⟨vs,e,hx⟩:=hx;exact ⟨vs,e,wm h hx⟩
theorem Ci {E E':Env} (h:zg olds E E'): ∀ {xs:List A1} {vs:List Value},mq E xs vs->mq E' (xs.map (LC olds E.hp)) vs
 | [],[],_=>trivial
 |x::xs,v::vs,hx=>⟨Ey h hx.1,Ci h hx.2⟩
theorem Nq {E E':Env} (h:zg olds E E') {x:AV} {v:Value} (hx:gy E x v):gy E' (SO olds E.hp x) v:=by
 cases x with
 |one x=>exact Ey h hx
 |G4 xs=>obtain ⟨vs,e,hx⟩:=hx;exact ⟨vs,e,Ci h hx⟩
end
theorem bb.norm (h:bb C S a w ρ Fs) (live:List Nat):bb C (bZ live (tS live S) (sN live S)) a w (mD ρ none (wk live S)) (mD Fs fz (wk live S)):=by
 obtain ⟨qh,lC⟩:=Gi live S
 generalize holds:wk live S=olds at qh lC ⊢
 have gr: ∀id∈olds,id<S.nx:=fun id hid=>by obtain ⟨r,hr⟩:=lC id hid;exact dA h.mem hr
 have jY: ∀b,ar olds.length (mD Fs fz olds) b<=ar S.nx Fs b:=fun b=>by
  rw[Kp Fs b olds _ (Nat.le_refl _),List.take_length]
  exact lj Fs b S.nx qh gr
 have hHl:(sN live S).length=olds.length:=by simp[sN,holds]
 have hHp:Qa (sN live S)=vt olds S.hp:=by simp only[sN,holds];rfl
 have jn:bZ live (tS live S) (sN live S)=⟨wo (pairUp live (tS live S)),vt olds S.hp,olds.length⟩:=by
  unfold bZ;rw[hHl,hHp]
 have J_: ∀b,C.Zf w (ar S.nx Fs) b->C.Zf w (ar olds.length (mD Fs fz olds)) b:=fun b hb=>by
  rcases hb with hb| ⟨h1,h2,h3⟩
  ·exact .inl hb
  ·exact .inr ⟨h1,h2,by have:=jY b;omega⟩
 have hE:zg olds (C.env w ρ S.hp S.nx Fs) (C.env w (mD ρ none olds) (vt olds S.hp) olds.length (mD Fs fz olds)):=
  ⟨rfl,J_,fun b hb=>hb.imp id (J_ b),fun j id hj=>by simp[Cx.env,mD,hj],rfl,rfl⟩
 rw[jn]
 refine ⟨⟨fun id hid=> ?_,fun j bn hr=> ?_,fun j hj=> ?_,fun b=> ?_,fun b hb=> ?_,h.mem.frame⟩,h.defers,h.size,fun t=> ?_⟩
 ·cases hq:vt olds S.hp id with
  |none=>exact hq
  |some root=>
   obtain ⟨i,_,e,_⟩:=Ch hq
   have:=(List.getElem?_eq_some_iff.1 e).1
   have hid:olds.length<=id:=hid
   omega
 ·have hr:vt olds S.hp j=some bn:=hr
  obtain ⟨id,root,e1,e2,rfl⟩:=Ch hr
  have h1:=h.mem.roots id root e2
  have eF:mD Fs fz olds j=Fs id:=by simp[mD,e1]
  have eρ:mD ρ none olds j=ρ id:=by simp[mD,e1]
  rw[eF]
  cases root with
  |row e v r=>
   show gY w _ (mD ρ none olds j) r.cells r.len r.size (Fs id)
   rw[eρ]
   exact gY.mono h1 (fun b hb=>⟨hb.imp (fun x=>x) (J_ b),rfl⟩) (fun _ _=>rfl)
  |hole e v r i f=>
   obtain ⟨k1,k2,k3⟩:=h1
   refine ⟨k1,k2,?_⟩
   show gY w _ (mD ρ none olds j) _ r.len r.size (Fs id)
   rw[eρ]
   exact gY.mono k3 (fun b hb=>⟨hb.imp (fun x=>x) (J_ b),rfl⟩) (fun _ _=>rfl)
  |box t cells=>
   obtain ⟨b,cap,vs,ty,k1,k2,k3,k4⟩:=h1
   exact ⟨b,cap,vs,ty,by show mD ρ none olds j=_;rw[eρ];exact k1,k2,wm hE k3,k4⟩
  |eW=>exact h1
 ·have hj:vt olds S.hp j=none:=hj
  cases ho:olds[j]? with
  |none=>simp[mD,ho]
  |some id=>
   simp only[mD,ho]
   refine h.mem.dead id ?_
   cases hq:S.hp id with
   |none=>rfl
   |some root=>
    exfalso
    unfold vt Qa at hj
    rw[List.getElem?_map,ho] at hj
    simp[hq] at hj
 ·show ar olds.length (mD Fs fz olds) b<=1
  have:=jY b;have:=h.mem.one b;omega
 ·have hb:1<=ar olds.length (mD Fs fz olds) b:=hb
  exact h.mem.qw b (by have:=jY b;omega)
 ·show gy _ (wo (pairUp live (tS live S)) t) _
  unfold wo tS
  rw[Np]
  by_cases ht:t∈live
  ·simp only[ht,if_true,holds]
   exact Nq hE (h.qY t)
  ·simp only[ht,if_false]
   trivial
end
section
variable {R:Type} {P:Program} {G:gV R} {live:List (Nat×List Nat)} {Λ:va R}
def Kq:X->Exit
 | .normal=> .normal
 | .exit id=> .exit id
 | .ret=> .ret
def pZ (G:gV R) (live:List (Nat×List Nat)) (Λ:va R) (body:Code) (K:X->St->Option R) (vs:List AV) (hs:List (Option aw)) (r:R):Prop:=
 ∃(A:Type) (enc:A->List AV×List (Option aw)) (un:List AV->List (Option aw)->Option A) (step:(A->Option R)->A->Option R) (n:Nat) (a:A),
  enc a=(vs,hs)/\(∀a,un (enc a).1 (enc a).2=some a)/\
  (∀(Lp:List AV->List (Option aw)->Option R) a,ev G live Λ body (fun x S'=>match x with| .normal=>Lp (tS (lF live body) (qx (sO live body) S')) (sN (lF live body) (qx (sO live body) S'))|x=>K x (Qb (Gl live body) (qx (Cj live body) S'))) (bZ (lF live body) (enc a).1 (enc a).2)=step (fun a'=>Lp (enc a').1 (enc a').2) a)/\
  iter step n a=some r
def nX (G:gV R) (live:List (Nat×List Nat)) (Λ:va R):Code->Prop
 | .loop body=>(∀K vs hs r,Λ (keyOf body) K vs hs=some r->pZ G live Λ body K vs hs r)/\nX G live Λ body
 | .seq a b=>nX G live Λ a/\nX G live Λ b
 | .cond _ a b=>nX G live Λ a/\nX G live Λ b
 | .block _ b=>nX G live Λ b
 |_=>True
variable {C:Cx}
open Classical in
theorem Qc (hG:Of P G) (hm:P.follows .mixedOrders=true) (hN:Vw P G.nt C): ∀(c:Code),nX G live Λ c-> ∀ {K:X->St->Option R} {S:St} {r:R},ev G live Λ c K S=some r-> ∀ {a:Act} {w:World} {ρ:Place} {Fs:Nat->FP},bb C S a w ρ Fs-> ∀ {Q:Exit->Act->World->Prop},
 (∀x S',K x S' =some r-> ∀a' w' ρ' Fs',bb C S' a' w' ρ' Fs'->Q (Kq x) a' w')->c.wp P Q a w:=by
 intro c
 induction c with
 |skip=>intro _ K S r he a w ρ Fs h Q hQ;exact wp_skip (hQ .normal S he _ _ _ _ h)
 |region id ops draw=>
  intro _ K S r he a w ρ Fs h Q hQ
  simp only[ev] at he
  exact Cf hG hm hN he h (fun S' hK a' w' ρ' Fs' h'=>hQ .normal S' hK _ _ _ _ h')
 |seq c d Zq Zr=>
  intro hl K S r he a w ρ Fs h Q hQ
  simp only[ev] at he
  refine wp_seq (Zq hl.1 he h fun x S' hK a' w' ρ' Fs' h'=> ?_)
  cases x with
  |normal=>exact Zr hl.2 hK h' hQ
  |exit i=>exact hQ (.exit i) S' hK _ _ _ _ h'
  |ret=>exact hQ .ret S' hK _ _ _ _ h'
 |cond x c d Zq Zr=>
  intro hl K S r he a w ρ Fs h Q hQ
  simp only[ev] at he
  split at he
  ·rename_i b hb
   have hv:=h.rd x
   rw[<- hN.nt,hb] at hv
   have hv:a.eval x= .bool b:=hv
   have same: ∀(t:Tmp),x= .tmp t->S.put (some t) (.l (.b b))=S:=fun t hy=>by
    subst hy
    cases gr:Nat.blt t G.nt with
    |true=>rw[St.rd,gr] at hb;exact Cc hb
    |false=>rw[St.rd,gr] at hb;cases hb
   cases b with
   |true=>
    have Em:ev G live Λ c K S=some r:=by
     cases x with
     |tmp t=>simp only[same t rfl] at he;exact he
     |_=>exact he
    exact wp_cond_true hv (Zq hl.1 Em h hQ)
   |false=>
    have Em:ev G live Λ d K S=some r:=by
     cases x with
     |tmp t=>simp only[same t rfl] at he;exact he
     |_=>exact he
    exact wp_cond_false hv (Zr hl.2 Em h hQ)
  ·cases he
 |block id c ih=>
  intro hl K S r he a w ρ Fs h Q hQ
  simp only[ev] at he
  refine wp_block (ih hl he h fun x S' hK a' w' ρ' Fs' h'=> ?_)
  cases x with
  |normal=>exact hQ .normal S' hK _ _ _ _ h'
  |exit i=>
   simp only[Qd] at hK
   by_cases e:i=id
   ·subst e
    simp only[beq_self_eq_true,cond_true] at hK
    simp only[Kq,Exit.inBlock,if_true]
    exact hQ .normal S' hK _ _ _ _ h'
   ·have e2:(i==id)=false:=by simp[e]
    simp only[e2,cond_false] at hK
    simp only[Kq,Exit.inBlock,if_neg e]
    exact hQ (.exit i) S' hK _ _ _ _ h'
  |ret=>exact hQ .ret S' hK _ _ _ _ h'
 |loop body ih=>
  intro hl K S r he a w ρ Fs h Q hQ
  simp only[ev] at he
  obtain ⟨A,enc,un,step,n,a0,e1,hun,LD,Vz⟩:=hl.1 _ _ _ _ he
  have Zv: ∀a b:A,enc a=enc b->a=b:=fun a b e=>by
   have h1:=hun a
   rw[e,hun b] at h1
   exact (Option.some.inj h1).symm
  have key: ∀(n:Nat) (a0:A),iter step n a0=some r-> ∀(a:Act) (w:World) (ρ:Place) (Fs:Nat->FP),bb C (bZ (lF live body) (enc a0).1 (enc a0).2) a w ρ Fs->Code.rounds P body Q n a w:=by
   intro n
   induction n with
   |zero=>intro a0 h0;cases h0
   |succ n ihn=>
    intro a0 h0 a w ρ Fs h
    rw[rounds_succ]
    have h0:step (iter step n) a0=some r:=h0
    let Lp:List AV->List (Option aw)->Option R:=fun vs hs=>if hh: ∃a,enc a=(vs,hs) then iter step n hh.choose else none
    have hLp:(fun a'=>Lp (enc a').1 (enc a').2)=iter step n:=by
     funext a'
     have hh: ∃a,enc a=((enc a').1,(enc a').2):=⟨a',rfl⟩
     show (if hh: ∃a,enc a=((enc a').1,(enc a').2) then iter step n hh.choose else none)=_
     rw[dif_pos hh,Zv _ a' hh.choose_spec]
    rw[<- hLp,<- LD] at h0
    refine ih hl.2 h0 h fun x S' hK a' w' ρ' Fs' h'=> ?_
    cases x with
    |normal=>
     have hK:(if hh: ∃a,enc a=(tS (lF live body) (qx (sO live body) S'),sN (lF live body) (qx (sO live body) S')) then iter step n hh.choose else none)=some r:=hK
     split at hK
     ·rename_i hh
      obtain ⟨ρ1,F1,h1⟩:=bb.qx (sO live body) h'
      have h2:=h1.norm (lF live body)
      exact ihn hh.choose hK a' w' _ _ (by rw[hh.choose_spec];exact h2)
     ·cases hK
    |exit i=>
     obtain ⟨ρ1,F1,h1⟩:=bb.qx (Cj live body) h'
     exact hQ (.exit i) _ hK _ _ _ _ (h1.norm _)
    |ret=>
     obtain ⟨ρ1,F1,h1⟩:=bb.qx (Cj live body) h'
     exact hQ .ret _ hK _ _ _ _ (h1.norm _)
  obtain ⟨ρ1,F1,h1⟩:=bb.qx (sO live body) h
  have h2:=h1.norm (lF live body)
  exact wp_loop_rounds n (key n a0 Vz a w _ _ (by rw[e1];exact h2))
 |exit id=>intro _ K S r he a w ρ Fs h Q hQ;exact wp_exit (hQ (.exit id) S he _ _ _ _ h)
 |ret=>intro _ K S r he a w ρ Fs h Q hQ;exact wp_ret (hQ .ret S he _ _ _ _ h)
 |_=>intro _ K S r he;cases he
theorem IC {tt:TT} {g:ug} {fn:Func} {S:St} {K:List DV->Option R} {r:R} (h:finish tt g fn S K=some r): ∃rs,finish (R:=List DV) tt g fn S some=some rs/\K rs=some r:=by
 unfold finish at h
 split at h
 ·cases h
 ·rename_i vs RX
  split at h
  ·cases h
  ·rename_i ds ks fk Y1
   simp only[] at h
   split at h
   ·cases h
   ·rename_i wF ks' Jj Un
    obtain ⟨h1,h2⟩:=ak h
    refine ⟨_,?_,h2⟩
    unfold finish
    rw[RX]
    simp only[]
    rw[Y1]
    simp only[]
    rw[Un]
    simp only[]
    rw[h1]
    rfl
theorem Gn {QP:Bool} {tt:TT} {g:ug} {fn:Func} {S:St} {K:List DV->Option R} {r:R} (h:Ba QP tt g fn S K=some r): ∃c rs,finish (R:=List DV) tt (g.to c) fn S some=some rs/\K rs=some r:=by
 have one:finish tt g fn S K=some r-> ∃c rs,finish (R:=List DV) tt (g.to c) fn S some=some rs/\K rs=some r:=fun h=>by
  obtain ⟨rs,h1,h2⟩:=IC h
  exact ⟨g.oc,rs,h1,h2⟩
 unfold Ba at h
 cases QP with
 |false=>exact one h
 |true=>
  simp only[cond_true] at h
  split at h
  ·rename_i rs h1;exact ⟨.own,rs,h1,h⟩
  ·exact one h
theorem vv {tt:TT}: ∀(ts:List Nat) (ds:List DV) (n:Nat) {xs:List AV} {up:List (Nat×Option aw)} {n':Nat},ir tt ts ds n=some (xs,up,n')->xs.length=ts.length/\ds.length=ts.length
 | [],[],n,xs,up,n',h=>by simp only[ir,Option.some.injEq,Prod.mk.injEq] at h;obtain ⟨rfl,_⟩:=h;exact ⟨rfl,rfl⟩
 | [],_::_,_,_,_,_,h=>by simp[ir] at h
 |_::_,[],_,_,_,_,h=>by simp[ir] at h
 |t::ts,d::ds,n,xs,up,n',h=>by
  simp only[ir] at h
  split at h
  ·split at h
   ·rename_i h2
    cases h
    obtain ⟨k1,k2⟩:=vv ts ds _ h2
    exact ⟨by simp[k1],by simp[k2]⟩
   ·cases h
  ·cases h
theorem qA: ∀(xs:List AV) (i t:Nat),look (iK i xs) t=if i<=t then xs[t-i]? else none
 | [],i,t=>by simp[iK,look]
 |x::xs,i,t=>by
  simp only[iK,look,qA xs (i+1) t]
  by_cases e:i=t
  ·subst e;simp
  ·have e1:(i==t)=false:=by simp[e]
   simp only[e1,cond_false]
   by_cases h:i<=t
   ·have h2:i+1<=t:=by omega
    simp only[h,h2,if_true]
    rw[show t-i=(t-(i+1))+1 by omega,List.getElem?_cons_succ]
   ·simp[h,show ¬i+1<=t by omega]
theorem gD.at {E:Env}: ∀ {xs:List AV} {vs:List Value},gD E xs vs-> ∀ {j:Nat} {x:AV},xs[j]? =some x-> ∃v,vs[j]? =some v/\gy E x v
 |x::xs,v::vs,h,0,y,hy=>by simp at hy;subst hy;exact ⟨v,rfl,h.1⟩
 |x::xs,v::vs,h,j+1,y,hy=>by
  obtain ⟨u,h1,h2⟩:=gD.at h.2 (j:=j) (by simpa using hy)
  exact ⟨u,by simpa using h1,h2⟩
theorem Af: ∀(l m:List (Nat×AV)) (t:Nat),look (l++m) t=match look l t with|some v=>some v|none=>look m t
 | [],m,t=>rfl
 | (i,x)::l,m,t=>by
   simp only[List.cons_append,look,Af l m t]
   cases i==t<;>rfl
theorem Ag (hG:Of P G) (hm:P.follows .mixedOrders=true) {f:FuncId} {fn:Func} {g:ug} {body:Code} (hf:P.funcs[f]? =some fn) (hb:fn.body=some body) (hl:nX G live Λ body) (hN:G.nt=fn.ntmps) (hp:g.params.length<=fn.ntmps) (PP:fn.results.size=g.results.length)
 {ds rs:List DV} {K:List DV->Option R} {r:R} (hK: ∀Ab,K Ab=some r->Ab=rs) (he:J5 G live Λ g fn ds K=some r):dt P f g ds rs:=by
 intro C0 args hP gU h1 h2
 let C:Cx:={C0 with N:=fn.ntmps,kv:=args}
 unfold J5 at he
 split at he
 case h_2=>cases he
 rename_i xs up nx aaz Ef pJ
 rw[hb] at pJ;cases pJ
 have hlen:=vv _ _ _ Ef
 obtain ⟨ρ1,oq,KU,hrel⟩:=rW (w:=C.w0) (Zf:=C.Zf0) (ZL:=C.Zl) _ _ _ _ _ _ _ _ Ef gU
 obtain ⟨X3,C8⟩:=pj.start (C:=C) KU h1 h2
 have A5:=hrel _ C8
 have Zw:args.length=g.params.length:=by rw[<- A5.length];exact hlen.1
 have Yf:xs.length<=fn.ntmps:=by rw[hlen.1];exact hp
 have h0:bb C ⟨wo (bif sP g.iH then iK 0 xs else iK 0 xs++iK fn.ntmps xs),fV tC up,nx⟩ {tmps:=args.toArray++Array.replicate (fn.ntmps-args.toArray.size) undef,defers:=[]} C.w0 ρ1 oq:=by
  have low: ∀t,gy (C.env C.w0 ρ1 (fV tC up) nx oq) (wo (iK 0 xs) t) (C.val {tmps:=args.toArray++Array.replicate (fn.ntmps-args.toArray.size) undef,defers:=[]} t):=fun t=>by
   unfold wo
   rw[qA]
   simp only[Nat.zero_le,if_true,Nat.sub_zero]
   cases hx:xs[t]? with
   |none=>trivial
   |some x=>
    obtain ⟨v,hv,hr⟩:=A5.at hx
    have ht:t<args.length:=(List.getElem?_eq_some_iff.1 hv).1
    have RQ:t<C.N:=by show t<fn.ntmps;omega
    simp only[Cx.val,if_pos RQ]
    have e:(args.toArray++Array.replicate (fn.ntmps-args.toArray.size) undef).getD t undef=v:=by
     rw[Array.getD_eq_getD_getElem?,Array.getElem?_append_left (by simpa using ht)]
     simp[hv]
    rw[e];exact hr
  refine ⟨X3,rfl,?_,fun t=> ?_⟩
  ·show (args.toArray++Array.replicate (fn.ntmps-args.toArray.size) undef).size=fn.ntmps
   simp;omega
  ·show gy _ (wo (bif sP g.iH then iK 0 xs else iK 0 xs++iK fn.ntmps xs) t) _
   cases sP g.iH with
   |true=>exact low t
   |false=>
    have hla: ∀(l m:List (Nat×AV)),wo (l++m) t=match look l t with|some v=>v|none=>wo m t:=fun l m=>by
     unfold wo
     rw[Af]
     cases look l t<;>rfl
    simp only[cond_false]
    rw[hla]
    cases hq:look (iK 0 xs) t with
    |some v=>
     have:=low t
     unfold wo at this
     rw[hq] at this
     exact this
    |none=>
     show gy _ (wo (iK fn.ntmps xs) t) _
     unfold wo
     rw[qA]
     by_cases ht:fn.ntmps<=t
     ·rw[if_pos ht]
      cases hx:xs[t-fn.ntmps]? with
      |none=>trivial
      |some x=>
       obtain ⟨v,hv,hr⟩:=A5.at hx
       have e1: ¬t<C.N:=by show ¬t<fn.ntmps;omega
       simp only[Cx.val,if_neg e1]
       have e:C.kv.getD (t-C.N) undef=v:=by
        show args.getD (t-fn.ntmps) undef=v
        rw[List.getD_eq_getElem?_getD,hv];rfl
       rw[e];exact hr
     ·rw[if_neg ht];trivial
 refine calls_of_wp hf hb ?_
 refine Qc hG hm (C:=C) ⟨hN,hP⟩ body hl he h0 fun x S' WS a' w' ρ' Fs' h'=> ?_
 have fin:Ba (SP live) G.tt g fn S' K=some r->bodyPost P fn (Ends C0 g args rs) .normal a' w':=fun hf=>by
  obtain ⟨c,Ab,f1,f2⟩:=Gn hf
  obtain rfl:=hK Ab f2
  obtain ⟨v,k1,vs,F',k2,k3,k4,k5,k6,k7⟩:=FV hG.tt h' (C:=C) (g:=g.to c) rfl rfl Zw.symm PP f1
  exact ⟨h'.defers,v,k1,vs,F',k2,k3,⟨k4.size,k4.os,k4.tape,k4.output,k4.block⟩,k5,k6,k7⟩
 cases x with
 |normal=>exact fin WS
 |exit i=>cases WS
 |ret=>exact fin WS
end
end Go.Proofs.YtbmmhdmljajcfaaGreatDoor.V
