/- The abstract evaluator and its soundness: part VCode. Conditions: as each section says. -/
import Derived.Test.YtbmmhdmljajcfaaGreatDoorVOpP
import Derived.Orders
import Derived.Tactics
import Derived.LoopN
set_option linter.unusedVariables false
set_option linter.unusedSimpArgs false
namespace Go.Proofs.YtbmmhdmljajcfaaGreatDoor.V
open Go
def jU (w:World) (Zf ZL:Zs):DL->Value->FP->Prop
 | .i k n,v,F=>v= .int k n/\F=fz
 | .b x,v,F=>v= .bool x/\F=fz
 | .s x,v,F=>v= .string x/\F=fz
 | .er true,v,F=>v= .nilIface/\F=fz
 | .er false,v,F=>(∃t x,v= .iface t x)/\F=fz
 | .sl .eb r,v,F=>ea w Zf r v/\F=fz
 | .sl .aZ r,v,F=>ea w ZL r v/\F=fz
 | .sl .own r,v,F=> ∃q,v=hdr q r.len/\fN w ZL q r.cells r.len r.size F
def i_ (w:World) (Zf ZL:Zs):List DL->List Value->FP->Prop
 | [],[],F=>F=fz
 |d::ds,v::vs,F=> ∃F1 F2,jU w Zf ZL d v F1/\i_ w Zf ZL ds vs F2/\F=cn F1 F2
 |_,_,_=>False
def mV (w:World) (Zf ZL:Zs):DV->Value->FP->Prop
 | .l d,v,F=>jU w Zf ZL d v F
 | .agg ds,v,F=> ∃vs:List Value,v= .agg vs.toArray/\i_ w Zf ZL ds vs F
 | .ptr ds,v,F=> ∃b vs ty F',v= .pointer (some ⟨b,0,none⟩)/\w.heap[b]? =some (.cells vs ty (0,0))/\i_ w Zf ZL ds vs.toList F' /\F=cn (f1 b) F'
def dY (w:World) (Zf ZL:Zs):List DV->List Value->FP->Prop
 | [],[],F=>F=fz
 |d::ds,v::vs,F=> ∃F1 F2,mV w Zf ZL d v F1/\dY w Zf ZL ds vs F2/\F=cn F1 F2
 |_,_,_=>False
theorem eS (hp:Nat->Option aq): ∀(up:List (Nat×Option aq)) {j:Nat},(∀p∈up,p.1≠j)->eA hp up j=hp j:=by
 intro up
 induction up generalizing hp with
 |nil=>intro j _;rfl
 |cons p up ih=>
  intro j h
  obtain ⟨i,r⟩:=p
  rw[eA,ih _ (fun q hq=>h q (by simp[hq]))]
  have:(j==i)=false:=by have:=h (i,r) (by simp);simpa using Ne.symm this
  simp[this]
theorem y8: ∀(up:List (Nat×Option aq)) {hp hp':Nat->Option aq} {j:Nat},hp j=hp' j->eA hp up j=eA hp' up j:=by
 intro up
 induction up with
 |nil=>intro hp hp' j h;exact h
 |cons p up ih=>
  intro hp hp' j h
  obtain ⟨i,r⟩:=p
  simp only[eA]
  refine ih ?_
  cases j==i
  ·exact h
  ·rfl
def o7:Nat->Option aq:=fun _=>none
structure Ext (w:World) (Zf ZL:Zs) (n n':Nat) (up:List (Nat×Option aq)) (ρ1:Place) (E:Env):Prop where
 w:E.w=w
 zf: ∀b,Zf b->E.Zf b
 zl: ∀b,ZL b->E.ZL b
 ρ: ∀j,n<=j->j<n'->E.ρ j=ρ1 j
 hp: ∀j,n<=j->j<n'->E.hp j=eA o7 up j
 nx:n' <=E.nx
structure mr (w:World) (Zf ZL:Zs) (n n':Nat) (up:List (Nat×Option aq)) (F:FP) (ρ1:Place) (lR:Nat->FP):Prop where
 le:n<=n'
 out: ∀j,j<n\/n' <=j->lR j=fz
 sum: ∀b,ar n' lR b=F b
 keys: ∀p∈up,n<=p.1/\p.1<n'
 dead: ∀j,eA o7 up j=none->lR j=fz
 roots: ∀E,Ext w Zf ZL n n' up ρ1 E-> ∀j root,eA o7 up j=some root->gJ E j root (lR j)
section
variable {w:World} {Zf ZL:Zs}
theorem qa (n:Nat) (b:Nat) (Fs:Nat->FP) (h: ∀j,j<n->Fs j=fz):ar n Fs b=0:=by
 have:ar n Fs b=ar n (fun _=>fz) b:=lT b (fun j hj=>by rw[h j hj])
 rw[this]
 induction n with
 |zero=>rfl
 |succ n ih=>simp[ar,ih (fun j hj=>h j (by omega)) (lT b fun j hj=>by rw[h j (by omega)])]
theorem qJ (n:Nat) (b:Nat) (Fs Gs:Nat->FP):ar n (fun j=>cn (Fs j) (Gs j)) b=ar n Fs b+ar n Gs b:=by
 induction n with
 |zero=>rfl
 |succ n ih=>simp[ar,ih];omega
theorem mr.nil (n:Nat) (ρ1:Place):mr w Zf ZL n n [] fz ρ1 (fun _=>fz):=
 ⟨Nat.le_refl _,fun _ _=>rfl,fun b=>qa n b _ (fun _ _=>rfl),by simp,fun _ _=>rfl,fun E h j root hj=>by simp[eA,o7] at hj⟩
theorem mr.join {n m n':Nat} {up fh:List (Nat×Option aq)} {F F':FP} {ρ1 ρ2:Place} {lR Ts:Nat->FP} (h:mr w Zf ZL n m up F ρ1 lR) (h':mr w Zf ZL m n' fh F' ρ2 Ts):
 mr w Zf ZL n n' (up++fh) (cn F F') (fun j=>if j<m then ρ1 j else ρ2 j) (fun j=>cn (lR j) (Ts j))/\
 (∀E,Ext w Zf ZL n n' (up++fh) (fun j=>if j<m then ρ1 j else ρ2 j) E->Ext w Zf ZL n m up ρ1 E/\Ext w Zf ZL m n' fh ρ2 E):=by
 have yn: ∀j,j<m->eA o7 (up++fh) j=eA o7 up j:=fun j hj=>by
  rw[bE]
  exact eS _ _ (fun p hp e=>by have:=(h'.keys p hp).1;omega)
 have BL: ∀j,m<=j->eA o7 (up++fh) j=eA o7 fh j:=fun j hj=>by
  rw[bE]
  refine y8 _ ?_
  exact eS _ _ (fun p hp e=>by have:=(h.keys p hp).2;omega)
 have xT: ∀E,Ext w Zf ZL n n' (up++fh) (fun j=>if j<m then ρ1 j else ρ2 j) E->Ext w Zf ZL n m up ρ1 E/\Ext w Zf ZL m n' fh ρ2 E:=fun E e=>by
  have l1:=h.le
  have l2:=h'.le
  refine ⟨⟨e.w,e.zf,e.zl,fun j a b=> ?_,fun j a b=> ?_,by have:=e.nx;omega⟩,⟨e.w,e.zf,e.zl,fun j a b=> ?_,fun j a b=> ?_,e.nx⟩⟩
  ·rw[e.ρ j a (by omega),if_pos b]
  ·rw[e.hp j a (by omega),yn j b]
  ·rw[e.ρ j (by omega) b,if_neg (by omega)]
  ·rw[e.hp j (by omega) b,BL j a]
 have hle:=h.le
 have T7:=h'.le
 refine ⟨⟨by omega,fun j hj=> ?_,fun b=> ?_,fun p hp=> ?_,fun j hj=> ?_,fun E e j root hj=> ?_⟩,xT⟩
 ·rw[h.out j (by omega),h'.out j (by omega),b_]
 ·rw[qJ,h'.sum b]
  have:=o8 (Fs:=lR) b T7 (fun j h1 _=>by rw[h.out j (.inr h1)];rfl)
  rw[this,h.sum b]
  rfl
 ·rcases List.mem_append.1 hp with hp|hp
  ·have:=h.keys p hp;omega
  ·have:=h'.keys p hp;omega
 ·by_cases e:j<m
  ·rw[yn j e] at hj
   rw[h.dead j hj,h'.out j (.inl e),b_]
  ·rw[BL j (by omega)] at hj
   rw[h'.dead j hj,h.out j (.inr (by omega)),b_]
 ·obtain ⟨e1,e2⟩:=xT E e
  by_cases e:j<m
  ·rw[yn j e] at hj
   rw[h'.out j (.inl e),b_]
   exact h.roots E e1 j root hj
  ·rw[BL j (by omega)] at hj
   rw[h.out j (.inr (by omega)),gV]
   exact h'.roots E e2 j root hj
theorem ea.grow {Z Z':Zs} {r:Row} {v:Value} (h:ea w Z r v) (hz: ∀b,Z b->Z' b):ea w Z' r v:=h.mono (fun b hb=>⟨hz b hb,rfl⟩)
theorem mr.row {n e:Nat} {r:Row} {q:Option (Nat×Nat)} {F:FP} (h:fN w ZL q r.cells r.len r.size F):mr w Zf ZL n (n+1) [(n,some (.row e 0 r))] F (fun _=>q) (eU (fun _=>fz) n F):=by
 refine ⟨Nat.le_succ _,fun j hj=>cN _ _ (by omega),fun b=> ?_,by simp,fun j hj=> ?_,fun E ex j root hj=> ?_⟩
 ·rw[A2,qa n b _ (fun _ _=>rfl)];omega
 ·rw[eT] at hj
  split at hj
  ·cases hj
  ·exact cN _ _ ‹_›
 ·rw[eT] at hj
  split at hj
  ·rename_i e'
   subst e'
   cases hj
   rw[fV]
   show fN E.w E.ZL (E.ρ j) r.cells r.len r.size F
   rw[ex.ρ j (Nat.le_refl _) (Nat.lt_succ_self _),ex.w]
   exact h.mono (fun b hb=>⟨ex.zl b hb,rfl⟩) (fun b _=>rfl)
  ·cases hj
theorem uz {tt:TT} {t n n':Nat} {d:DL} {x:LV} {up:List (Nat×Option aq)} (hi:o9 tt t d n=some (x,up,n')) {v:Value} {F:FP} (hd:jU w Zf ZL d v F):
 ∃ρ1 lR,mr w Zf ZL n n' up F ρ1 lR/\ ∀E,Ext w Zf ZL n n' up ρ1 E->dD E x v:=by
 have plain:F=fz->up=[]->n' =n->(∀E,Ext w Zf ZL n n' up (fun _=>none) E->dD E x v)-> ∃ρ1 lR,mr w Zf ZL n n' up F ρ1 lR/\ ∀E,Ext w Zf ZL n n' up ρ1 E->dD E x v:=fun h1 h2 h3 h4=>by
  subst h1 h2 h3
  exact ⟨_,_,mr.nil n' _,h4⟩
 cases d with
 |i k z=>cases hi;exact plain hd.2 rfl rfl (fun E _=>hd.1)
 |b z=>cases hi;exact plain hd.2 rfl rfl (fun E _=>hd.1)
 |s z=>cases hi;exact plain hd.2 rfl rfl (fun E _=>hd.1)
 |er z=>cases z<;>(cases hi;exact plain hd.2 rfl rfl (fun E _=>hd.1))
 |sl c r=>
  cases c with
  |eb=>cases hi;exact plain hd.2 rfl rfl (fun E ex=>by show ea E.w E.Zf r v;rw[ex.w];exact hd.1.grow ex.zf)
  |aZ=>cases hi;exact plain hd.2 rfl rfl (fun E ex=>by show ea E.w E.ZL r v;rw[ex.w];exact hd.1.grow ex.zl)
  |own=>
   simp only[o9] at hi
   split at hi
   ·rename_i e he
    cases hi
    obtain ⟨q,hv,hr⟩:=hd
    refine ⟨_,_,mr.row hr,fun E ex=>⟨by have:=ex.nx;omega,fun root aj=> ?_⟩⟩
    rw[ex.hp n (Nat.le_refl _) (Nat.lt_succ_self _),eT,if_pos rfl] at aj
    cases aj
    exact ⟨r,rfl,by rw[ex.ρ n (Nat.le_refl _) (Nat.lt_succ_self _)];exact hv⟩
   ·cases hi
theorem nS {tt:TT}: ∀(ts:List Nat) (ds:List DL) (n n':Nat) (xs:List LV) (up:List (Nat×Option aq)) (vs:List Value) (F:FP),jo tt ts ds n=some (xs,up,n')->i_ w Zf ZL ds vs F->
 ∃ρ1 lR,mr w Zf ZL n n' up F ρ1 lR/\ ∀E,Ext w Zf ZL n n' up ρ1 E->aY E xs vs
 | [],[],n,n',xs,up,vs,F,hi,hd=>by
   simp only[jo,Option.some.injEq,Prod.mk.injEq] at hi
   obtain ⟨rfl,rfl,rfl⟩:=hi
   cases vs with
   |nil=>have:F=fz:=hd
         subst this
         exact ⟨_,_,mr.nil n (fun _=>none),fun _ _=>trivial⟩
   |cons v vs=>exact absurd hd id
 | [],_::_,_,_,_,_,_,_,hi,_=>by simp[jo] at hi
 |_::_,[],_,_,_,_,_,_,hi,_=>by simp[jo] at hi
 |t::ts,d::ds,n,n',xs,up,vs,F,hi,hd=>by
  simp only[jo] at hi
  split at hi
  ·rename_i x M9 m h1
   split at hi
   ·rename_i ys Tt n2 h2
    simp only[Option.some.injEq,Prod.mk.injEq] at hi
    obtain ⟨rfl,rfl,rfl⟩:=hi
    cases vs with
    |nil=>exact absurd hd id
    |cons v vs=>
     obtain ⟨F1,F2,d1,d2,rfl⟩:=hd
     obtain ⟨ρ1,lR,f1,r1⟩:=uz h1 d1
     obtain ⟨ρ2,Ts,f2,r2⟩:=nS ts ds _ _ _ _ _ _ h2 d2
     obtain ⟨f3,e3⟩:=f1.join f2
     exact ⟨_,_,f3,fun E ex=>⟨r1 E (e3 E ex).1,r2 E (e3 E ex).2⟩⟩
   ·cases hi
  ·cases hi
theorem mr.box {n n' t:Nat} {up:List (Nat×Option aq)} {F':FP} {ρ1:Place} {lR:Nat->FP} (h:mr w Zf ZL (n+1) n' up F' ρ1 lR) {b:Nat} {vs:Array Value} {ty:TypeId} (hb:w.heap[b]? =some (.cells vs ty (0,0))) {xs:List LV} (hx: ∀E,Ext w Zf ZL (n+1) n' up ρ1 E->aY E xs vs.toList):
 mr w Zf ZL n n' (up++[(n,some (.box t xs))]) (cn (f1 b) F') (fun j=>if j=n then some (b,1) else ρ1 j) (eU lR n (f1 b))/\
 (∀E,Ext w Zf ZL n n' (up++[(n,some (.box t xs))]) (fun j=>if j=n then some (b,1) else ρ1 j) E->dD E (.eJ n 0) (.pointer (some ⟨b,0,none⟩))):=by
 have hle:=h.le
 have nU: ∀j,eA o7 (up++[(n,some (.box t xs))]) j=if j=n then some (.box t xs) else eA o7 up j:=fun j=>by rw[bE,eT]
 have Vu:eA o7 up n=none:=eS _ _ (fun p hp e=>by have:=(h.keys p hp).1;omega)
 have WE:lR n=fz:=h.out n (.inl (by omega))
 have xT: ∀E,Ext w Zf ZL n n' (up++[(n,some (.box t xs))]) (fun j=>if j=n then some (b,1) else ρ1 j) E->Ext w Zf ZL (n+1) n' up ρ1 E:=fun E e=>
  ⟨e.w,e.zf,e.zl,fun j a c=>by rw[e.ρ j (by omega) c,if_neg (by omega)],fun j a c=>by rw[e.hp j (by omega) c,nU,if_neg (by omega)],e.nx⟩
 refine ⟨⟨by omega,fun j hj=> ?_,fun b'=> ?_,fun p hp=> ?_,fun j hj=> ?_,fun E e j root hj=> ?_⟩,fun E e=> ?_⟩
 ·rw[cN _ _ (by omega)]
  exact h.out j (by omega)
 ·have h1:=en lR (f1 b) b' (n:=n') (id:=n) (by omega)
  have h2:=h.sum b'
  rw[WE] at h1
  simp at h1 ⊢
  omega
 ·rcases List.mem_append.1 hp with hp|hp
  ·have:=h.keys p hp;omega
  ·simp at hp;subst hp;simp;omega
 ·rw[nU] at hj
  split at hj
  ·cases hj
  ·rw[cN _ _ ‹_›];exact h.dead j hj
 ·rw[nU] at hj
  split at hj
  ·rename_i e'
   subst e'
   cases hj
   rw[fV]
   exact ⟨b,1,vs,ty,by rw[e.ρ j (Nat.le_refl _) (by omega),if_pos rfl],by rw[e.w];exact hb,hx E (xT E e),rfl⟩
  ·rename_i e'
   rw[cN _ _ e']
   exact h.roots E (xT E e) j root hj
 ·refine ⟨by have:=e.nx;omega,fun root hr=> ?_,b,1,by rw[e.ρ n (Nat.le_refl _) (by omega),if_pos rfl],rfl⟩
  rw[e.hp n (Nat.le_refl _) (by omega),nU,if_pos rfl] at hr
  cases hr
  trivial
theorem Ex {tt:TT} {t n n':Nat} {d:DV} {x:AV} {up:List (Nat×Option aq)} (hi:ou tt t d n=some (x,up,n')) {v:Value} {F:FP} (hd:mV w Zf ZL d v F):
 ∃ρ1 lR,mr w Zf ZL n n' up F ρ1 lR/\ ∀E,Ext w Zf ZL n n' up ρ1 E->eE E x v:=by
 cases d with
 |l d=>
  simp only[ou] at hi
  split at hi
  ·rename_i y M9 m h1
   simp only[Option.some.injEq,Prod.mk.injEq] at hi
   obtain ⟨rfl,rfl,rfl⟩:=hi
   exact uz h1 hd
  ·cases hi
 |agg ds=>
  simp only[ou] at hi
  split at hi
  ·rename_i ys M9 m h1
   simp only[Option.some.injEq,Prod.mk.injEq] at hi
   obtain ⟨rfl,rfl,rfl⟩:=hi
   obtain ⟨vs,rfl,hd⟩:=hd
   obtain ⟨ρ1,lR,f1,r1⟩:=nS _ _ _ _ _ _ _ _ h1 hd
   exact ⟨ρ1,lR,f1,fun E ex=>⟨vs,rfl,r1 E ex⟩⟩
  ·cases hi
 |ptr ds=>
  simp only[ou] at hi
  split at hi
  ·rename_i e sz bs hq
   split at hi
   ·rename_i ys M9 m h1
    simp only[Option.some.injEq,Prod.mk.injEq] at hi
    obtain ⟨rfl,rfl,rfl⟩:=hi
    obtain ⟨b,vs,ty,F',rfl,hb,hd,rfl⟩:=hd
    obtain ⟨ρ1,lR,WG,r1⟩:=nS _ _ _ _ _ _ _ _ h1 hd
    obtain ⟨f2,r2⟩:=WG.box (t:=e) hb r1
    exact ⟨_,_,f2,r2⟩
   ·cases hi
  ·cases hi
theorem mw {tt:TT}: ∀(ts:List Nat) (ds:List DV) (n n':Nat) (xs:List AV) (up:List (Nat×Option aq)) (vs:List Value) (F:FP),fw tt ts ds n=some (xs,up,n')->dY w Zf ZL ds vs F->
 ∃ρ1 lR,mr w Zf ZL n n' up F ρ1 lR/\ ∀E,Ext w Zf ZL n n' up ρ1 E->eV E xs vs
 | [],[],n,n',xs,up,vs,F,hi,hd=>by
   simp only[fw,Option.some.injEq,Prod.mk.injEq] at hi
   obtain ⟨rfl,rfl,rfl⟩:=hi
   cases vs with
   |nil=>have:F=fz:=hd
         subst this
         exact ⟨_,_,mr.nil n (fun _=>none),fun _ _=>trivial⟩
   |cons v vs=>exact absurd hd id
 | [],_::_,_,_,_,_,_,_,hi,_=>by simp[fw] at hi
 |_::_,[],_,_,_,_,_,_,hi,_=>by simp[fw] at hi
 |t::ts,d::ds,n,n',xs,up,vs,F,hi,hd=>by
  simp only[fw] at hi
  split at hi
  ·rename_i x M9 m h1
   split at hi
   ·rename_i ys Tt n2 h2
    simp only[Option.some.injEq,Prod.mk.injEq] at hi
    obtain ⟨rfl,rfl,rfl⟩:=hi
    cases vs with
    |nil=>exact absurd hd id
    |cons v vs=>
     obtain ⟨F1,F2,d1,d2,rfl⟩:=hd
     obtain ⟨ρ1,lR,f1,r1⟩:=Ex h1 d1
     obtain ⟨ρ2,Ts,f2,r2⟩:=mw ts ds _ _ _ _ _ _ h2 d2
     obtain ⟨f3,e3⟩:=f1.join f2
     exact ⟨_,_,f3,fun E ex=>⟨r1 E (e3 E ex).1,r2 E (e3 E ex).2⟩⟩
   ·cases hi
  ·cases hi
theorem mr.start {C:Cx} {n:Nat} {up:List (Nat×Option aq)} {ρ1:Place} {lR:Nat->FP} (h:mr C.w0 C.Zf0 C.Zl 0 n up C.F0 ρ1 lR) (h1: ∀b,C.F0 b<=1) (h2: ∀b,1<=C.F0 b->b<C.w0.heap.size):
 fY C (eA o7 up) n C.w0 ρ1 lR/\Ext C.w0 C.Zf0 C.Zl 0 n up ρ1 (C.env C.w0 ρ1 (eA o7 up) n lR):=by
 have hex:Ext C.w0 C.Zf0 C.Zl 0 n up ρ1 (C.env C.w0 ρ1 (eA o7 up) n lR):=⟨rfl,fun b hb=> .inl hb,fun b hb=> .inl hb,fun _ _ _=>rfl,fun _ _ _=>rfl,Nat.le_refl _⟩
 refine ⟨⟨fun id hid=> ?_,fun id root hid=>h.roots _ hex id root hid,h.dead,fun b=> ?_,fun b hb=> ?_,⟨Nat.le_refl _,rfl,rfl,rfl,fun _ _ _=>rfl⟩⟩,hex⟩
 ·exact eS _ _ (fun p hp e=>by have:=(h.keys p hp).2;omega)
 ·rw[h.sum b];exact h1 b
 ·rw[h.sum b] at hb
  exact ⟨h2 b hb,.inr hb⟩
end
section
variable {tt:TT} {C:Cx} {S:St} {w:World} {ρ:Place} {Fs:Nat->FP}
theorem jU.grow {Zf ZL K6 K7:Zs} (hf: ∀b,Zf b->K6 b) (hl: ∀b,ZL b->K7 b) {d:DL} {v:Value} {F:FP} (h:jU w Zf ZL d v F):jU w K6 K7 d v F:=by
 cases d with
 |sl c r=>
  cases c with
  |eb=>exact ⟨h.1.grow hf,h.2⟩
  |aZ=>exact ⟨h.1.grow hl,h.2⟩
  |own=>obtain ⟨q,h1,h2⟩:=h;exact ⟨q,h1,h2.mono (fun b hb=>⟨hl b hb,rfl⟩) (fun b _=>rfl)⟩
 |er b=>cases b<;>exact h
 |_=>exact h
theorem i_.grow {Zf ZL K6 K7:Zs} (hf: ∀b,Zf b->K6 b) (hl: ∀b,ZL b->K7 b): ∀ {ds:List DL} {vs:List Value} {F:FP},i_ w Zf ZL ds vs F->i_ w K6 K7 ds vs F
 | [],[],_,h=>h
 |d::ds,v::vs,F,⟨F1,F2,h1,h2,h3⟩=>⟨F1,F2,h1.grow hf hl,h2.grow hf hl,h3⟩
theorem mV.grow {Zf ZL K6 K7:Zs} (hf: ∀b,Zf b->K6 b) (hl: ∀b,ZL b->K7 b) {d:DV} {v:Value} {F:FP} (h:mV w Zf ZL d v F):mV w K6 K7 d v F:=by
 cases d with
 |l d=>exact jU.grow hf hl h
 |agg ds=>obtain ⟨vs,h1,h2⟩:=h;exact ⟨vs,h1,h2.grow hf hl⟩
 |ptr ds=>obtain ⟨b,vs,ty,F',h1,h2,h3,h4⟩:=h;exact ⟨b,vs,ty,F',h1,h2,h3.grow hf hl,h4⟩
theorem dY.grow {Zf ZL K6 K7:Zs} (hf: ∀b,Zf b->K6 b) (hl: ∀b,ZL b->K7 b): ∀ {ds:List DV} {vs:List Value} {F:FP},dY w Zf ZL ds vs F->dY w K6 K7 ds vs F
 | [],[],_,h=>h
 |d::ds,v::vs,F,⟨F1,F2,h1,h2,h3⟩=>⟨F1,F2,h1.grow hf hl,h2.grow hf hl,h3⟩
theorem uA (m:fY C S.hp S.nx w ρ Fs) {id e ver:Nat} {r:Row} (aj:S.hp id=some (.row e ver r)) {hi:Nat} (BL:hi<=r.len): ∃F,fN w (C.ZL w (ar S.nx Fs)) (ρ id) (r.take hi).cells (r.take hi).len (r.take hi).size F/\ ∀b,F b<=Fs id b:=by
 have hl:(r.take hi).len=hi:=by rw[take_len];omega
 rcases m.roots id _ aj with ⟨g1,g2,g3⟩| ⟨b,cap,arr,ty,F',g1,g2,g3,g4,g5,g6⟩
 ·simp only[Cx.env] at g1
  exact ⟨fz,.inl ⟨g1,by omega,rfl⟩,fun b=>by simp⟩
 ·simp only[Cx.env] at g1 g2
  obtain ⟨F1,t1,t2⟩:=g5.take (hi*r.size)
  rw[<- o_] at t1
  refine ⟨cn (f1 b) F1,.inr ⟨b,cap,arr,ty,F1,g1,g2,by omega,by rw[take_size];exact g4,?_,rfl⟩,fun b'=>by have:=t2 b';rw[g6];simp;omega⟩
  have:arr.toList=arr.toList.take (hi*r.size)++arr.toList.drop (hi*r.size):=(List.take_append_drop ..).symm
  rw[this]
  exact t1.more _
theorem CK {Z:Zs} {r:Row} (h:r.len=0):fN w Z none r.cells r.len r.size fz:= .inl ⟨rfl,h,rfl⟩
theorem pa {Z:Zs} {r:Row} (h:r.len=0):ea w Z r (.slice none 0 0):=⟨none,0,by rw[h],by omega,fun hn=>absurd h hn⟩
def kc (C:Cx) (w:World) (nx:Nat) (Fs:Nat->FP) (rc:List Nat):Zs:=fun b=>C.ZL w (ar nx Fs) b\/ ∃id∈rc,1<=Fs id b
theorem kc.left {rc Kj:List Nat} {b:Nat} (h:kc C w S.nx Fs rc b):kc C w S.nx Fs (rc++Kj) b:=h.imp (fun h=>h) (fun ⟨i,h1,h2⟩=>⟨i,by simp[h1],h2⟩)
theorem kc.right {rc Kj:List Nat} {b:Nat} (h:kc C w S.nx Fs Kj b):kc C w S.nx Fs (rc++Kj) b:=h.imp (fun h=>h) (fun ⟨i,h1,h2⟩=>⟨i,by simp[h1],h2⟩)
def aq.BM:aq->Prop
 | .row _ _ _=>True
 | .box _ _=>True
 |_=>False
theorem Hp {root:aq} (h:root.BM):root.real:=by cases root<;>first|trivial|exact h.elim
def iy (hp:Nat->Option aq) (ks:List Nat):Prop:= ∀k∈ks,∃root,hp k=some root/\root.BM
theorem Jr {E:Env} {x:LV} {d:DL} {v:Value} (h:K8 x=some d) (hv:dD E x v) (ZL:Zs):jU E.w E.Zf ZL d v fz:=by
 unfold K8 at h
 split at h
 ·cases h;exact ⟨hv,rfl⟩
 ·cases h;exact ⟨hv,rfl⟩
 ·cases h;exact ⟨hv,rfl⟩
 ·cases h;exact ⟨hv,rfl⟩
 ·cases h
theorem y9 {E:Env} (ZL:Zs): ∀ {xs:List LV} {ds:List DL} {vs:List Value},CL xs=some ds->aY E xs vs->i_ E.w E.Zf ZL ds vs fz
 | [],ds,[],h,_=>by cases h;rfl
 |x::xs,ds,v::vs,h,hv=>by
  simp only[CL] at h
  split at h
  ·rename_i d h1
   split at h
   ·rename_i tX h2
    cases h
    exact ⟨fz,fz,Jr h1 hv.1 ZL,y9 ZL h2 hv.2,(b_ _).symm⟩
   ·cases h
  ·cases h
theorem tB {x:LV} {id:Nat} (h:BN x=some id):x= .eJ id 0:=by
 unfold BN at h
 split at h
 ·cases h;rfl
 ·cases h
theorem xq (m:fY C S.hp S.nx w ρ Fs) {t id:Nat} {ds:List DL} (he:y_ tt S.hp t id=some ds) {v:Value} (hv:dD (C.env w ρ S.hp S.nx Fs) (.eJ id 0) v) (ZL:Zs):
 mV w (C.Zf w (ar S.nx Fs)) ZL (.ptr ds) v (Fs id)/\ ∃root,S.hp id=some root/\root.BM:=by
 unfold y_ at he
 cases hp:K9 tt t with
 |false=>rw[hp] at he;cases he
 |true=>
  rw[hp,cond_true] at he
  split at he
  ·rename_i bt cells aj
   obtain ⟨_,_,b,cap,hρ,rfl⟩:=hv
   obtain ⟨b',nr,vs,ty,g1,g2,g3,g4⟩:=m.roots id _ aj
   simp only[Cx.env] at hρ g1 g2
   rw[hρ] at g1;cases g1
   exact ⟨⟨b,vs,ty,fz,rfl,g2,y9 ZL he g3,by rw[b_];exact g4⟩,_,aj,trivial⟩
  ·cases he
theorem qb {r:Row} {i f:Nat} (ho:r.owned=true) (hs:r.jA f=true) (hi:i<r.len):r.cells[i*r.size+f]? =some (.sl true (dm r i f)):=by
 cases r with
 |rows o l=>
  simp only[Row.owned] at ho
  subst ho
  simp only[Row.jA] at hs
  have:=eq_of_beq hs
  subst this
  simp only[Row.len] at hi
  simp[Row.cells,Row.size,dm,hi]
 |cB sg o l=>
  simp only[Row.owned] at ho
  subst ho
  have hf:=CM hs
  simp only[Row.jA] at hs
  simp only[Row.size] at hf
  simp only[Row.len] at hi
  have WH:sg[f]? =some true:=by
   cases hq:sg[f]? with
   |none=>rw[hq] at hs;cases hs
   |some b=>rw[hq] at hs;simp at hs;rw[hs]
  have:=ov sg true l i f hf
  rw[List.getElem?_eq_getElem hi,WH] at this
  simp only[Row.size]
  rw[this]
  simp[dm,hi]
 |_=>cases hs
theorem za (m:fY C S.hp S.nx w ρ Fs) {md:Mode} {t:Nat} {x:LV} {d:DL} {ks io rc:List Nat} (he:tC tt S.hp md t x=some (d,ks,io,rc)) {v:Value} (hv:dD (C.env w ρ S.hp S.nx Fs) x v):
 ∃F,jU w (C.Zf w (ar S.nx Fs)) (kc C w S.nx Fs rc) d v F/\(∀b,F b<=cE Fs (ks++io) b)/\iy S.hp (ks++io):=by
 have hz: ∀b,C.ZL w (ar S.nx Fs) b->kc C w S.nx Fs rc b:=fun b hb=> .inl hb
 have view:(match fG S.hp x with|some (r,rc)=>some (DL.sl .aZ r,([]:List Nat),([]:List Nat),rc)|none=>none)=some (d,ks,io,rc)-> ∃F,jU w (C.Zf w (ar S.nx Fs)) (kc C w S.nx Fs rc) d v F/\(∀b,F b<=cE Fs (ks++io) b)/\iy S.hp (ks++io):=fun he=>by
  split at he
  ·rename_i r Kj Ey
   cases he
   exact ⟨fz,⟨lH m Ey hv,rfl⟩,fun b=>by simp,fun k hk=>by simp at hk⟩
  ·cases he
 cases x with
 |i k z=>cases he;exact ⟨fz,⟨hv,rfl⟩,fun b=>by simp,fun k hk=>by simp at hk⟩
 |b z=>cases he;exact ⟨fz,⟨hv,rfl⟩,fun b=>by simp,fun k hk=>by simp at hk⟩
 |s z=>cases he;exact ⟨fz,⟨hv,rfl⟩,fun b=>by simp,fun k hk=>by simp at hk⟩
 |er z=>cases he;cases z<;>exact ⟨fz,⟨hv,rfl⟩,fun b=>by simp,fun k hk=>by simp at hk⟩
 |nil=>
  have hv:v= .slice none 0 0:=hv
  simp only[tC] at he
  split at he
  ·split at he
   ·rename_i r hr
    have h0:=ja hr
    cases md with
    |oU=>
     cases he
     exact ⟨fz,⟨by rw[hv];exact pa (by rw[jb];exact h0),rfl⟩,fun b=>by simp,fun k hk=>by simp at hk⟩
    |Bn=>
     cases he
     exact ⟨fz,⟨none,by rw[hv];rfl,CK h0⟩,fun b=>by simp,fun k hk=>by simp at hk⟩
    |io=>
     cases he
     exact ⟨fz,⟨none,by rw[hv];rfl,CK h0⟩,fun b=>by simp,fun k hk=>by simp at hk⟩
    |eb=>
     cases he
     exact ⟨fz,⟨by rw[hv];exact pa (by rw[jb];exact h0),rfl⟩,fun b=>by simp,fun k hk=>by simp at hk⟩
   ·cases he
  ·cases he
 |val p r=>
  cases md with
  |oU=>exact view he
  |Bn=>cases he
  |io=>cases he
  |eb=>
   cases p with
   |true=>cases he;exact ⟨fz,⟨hv,rfl⟩,fun b=>by simp,fun k hk=>by simp at hk⟩
   |false=>cases he
 |own id=>
  cases md with
  |oU=>exact view he
  |eb=>cases he
  |Bn=>
   simp only[tC] at he
   split at he
   ·rename_i e ver r aj
    replace he:=ai he
    obtain ⟨ho,he⟩:=he
    cases he
    obtain ⟨_,hx⟩:=hv
    obtain ⟨r',e1,e2⟩:=hx _ aj
    cases e1
    obtain ⟨F,k1,k2⟩:=uA m aj (Nat.le_refl r.len)
    rw[oz] at k1
    exact ⟨F,⟨ρ id,e2,k1.mono (fun b hb=>⟨hz b hb,rfl⟩) (fun b _=>rfl)⟩,fun b=>by have:=k2 b;simp[cE];exact this,fun k hk=>by simp at hk;subst hk;exact ⟨_,aj,trivial⟩⟩
   ·cases he
  |io=>
   simp only[tC] at he
   split at he
   ·rename_i e ver r aj
    replace he:=ai he
    obtain ⟨ho,he⟩:=he
    cases he
    obtain ⟨_,hx⟩:=hv
    obtain ⟨r',e1,e2⟩:=hx _ aj
    cases e1
    obtain ⟨F,k1,k2⟩:=uA m aj (Nat.le_refl r.len)
    rw[oz] at k1
    exact ⟨F,⟨ρ id,e2,k1.mono (fun b hb=>⟨hz b hb,rfl⟩) (fun b _=>rfl)⟩,fun b=>by have:=k2 b;simp[cE];exact this,fun k hk=>by simp at hk;subst hk;exact ⟨_,aj,trivial⟩⟩
   ·cases he
 |sub id lo hi=>
  cases md with
  |oU=>exact view he
  |eb=>cases he
  |Bn=>
   cases lo with
   |succ lo=>cases he
   |zero=>
    simp only[tC] at he
    split at he
    ·rename_i e ver r aj
     replace he:=ai he
     obtain ⟨ho,he⟩:=he
     cases he
     obtain ⟨_,hx⟩:=hv
     obtain ⟨r',e1,_,l2,e2⟩:=hx _ aj
     cases e1
     obtain ⟨F,k1,k2⟩:=uA m aj l2
     exact ⟨F,⟨ρ id,by rw[e2,yo,take_len,Nat.min_eq_left l2];rfl,k1.mono (fun b hb=>⟨hz b hb,rfl⟩) (fun b _=>rfl)⟩,fun b=>by have:=k2 b;simp[cE];exact this,fun k hk=>by simp at hk;subst hk;exact ⟨_,aj,trivial⟩⟩
    ·cases he
  |io=>cases he
 |inner id ver i f=>
  cases md with
  |oU=>exact view he
  |eb=>cases he
  |Bn=>cases he
  |io=>
   simp only[tC] at he
   split at he
   ·rename_i e sw r aj
    have ho:=(ai he).1
    have BO:=(ai he).2
    clear he
    obtain ⟨Tr,WI⟩:=az ho
    have CN:=eq_of_beq Tr
    simp only[Option.some.injEq,Prod.mk.injEq] at BO
    obtain ⟨rfl,rfl,rfl,rfl⟩:=BO
    obtain ⟨_,hx⟩:=hv
    obtain ⟨_,_,Ez⟩:=hx _ aj
    obtain ⟨k1,k2,k4⟩:=Ez e r (by rw[CN])
    obtain ⟨v',F1,b1,WJ,c1,c2,gW,hle⟩:=zb m aj (qb WI k1 k2)
    simp only[Cx.env] at k4
    rw[c1] at k4
    simp only[cellAt] at k4
    rw[c2] at k4
    cases k4
    refine ⟨F1,?_,fun b=>by have:=hle b;simp[cE];exact this,fun k hk=>by simp at hk;subst hk;exact ⟨_,aj,trivial⟩⟩
    rcases gW with ⟨p1,p2,p3⟩| ⟨b2,wz,sx,Kk,q1,q2,q3,q4,q5,q6⟩
    ·exact ⟨none,by rw[p1];rfl,.inl ⟨rfl,by simp[Row.len,p2],p3⟩⟩
    ·refine ⟨some (b2,wz),by rw[q1];rfl,.inr ⟨b2,wz,sx,Kk,fz,rfl,q2,by simpa[Row.len] using q3,by simpa[Row.size] using q4,?_,by rw[b_];exact q6⟩⟩
     refine ah.Hq fun j c hj=> ?_
     simp only[Row.cells,List.getElem?_map] at hj
     cases xU:(dm r i f)[j]? with
     |none=>rw[xU] at hj;cases hj
     |some z=>
      rw[xU] at hj
      cases hj
      exact ⟨_,by simpa using q5 j z xU,rfl,rfl⟩
   ·cases he
 |_=>cases md<;>simp[tC,fG] at he
theorem EA (Fs:Nat->FP) (b:Nat) (ks ks' io io':List Nat):cE Fs (ks++ks' ++(io++io')) b=cE Fs (ks++io) b+cE Fs (ks' ++io') b:=by
 simp only[dF];omega
theorem iy.Mm {hp:Nat->Option aq} {ks ks' io io':List Nat} (h:iy hp (ks++io)) (h':iy hp (ks' ++io')):iy hp (ks++ks' ++(io++io')):=fun k hk=>by
 simp only[List.mem_append] at hk
 rcases hk with (hk|hk)| (hk|hk)
 ·exact h k (by simp[hk])
 ·exact h' k (by simp[hk])
 ·exact h k (by simp[hk])
 ·exact h' k (by simp[hk])
theorem xr (m:fY C S.hp S.nx w ρ Fs) {md:Mode}: ∀(ts:List Nat) (xs:List LV) (ds:List DL) (ks io rc:List Nat) (vs:List Value),pz tt S.hp md ts xs=some (ds,ks,io,rc)->aY (C.env w ρ S.hp S.nx Fs) xs vs->
 ∃F,i_ w (C.Zf w (ar S.nx Fs)) (kc C w S.nx Fs rc) ds vs F/\(∀b,F b<=cE Fs (ks++io) b)/\iy S.hp (ks++io)
 | [],[],ds,ks,io,rc,vs,he,hv=>by
   simp only[pz,Option.some.injEq,Prod.mk.injEq] at he
   obtain ⟨rfl,rfl,rfl,rfl⟩:=he
   cases vs with
   |nil=>exact ⟨fz,rfl,fun b=>by simp,fun k hk=>by simp at hk⟩
   |cons v vs=>exact absurd hv id
 | [],_::_,_,_,_,_,_,he,_=>by simp[pz] at he
 |_::_,[],_,_,_,_,_,he,_=>by simp[pz] at he
 |t::ts,x::xs,ds,ks,io,rc,vs,he,hv=>by
  simp only[pz] at he
  split at he
  ·rename_i d Js T8 T9 h1
   split at he
   ·rename_i K_ Qd WK WL h2
    simp only[Option.some.injEq,Prod.mk.injEq] at he
    obtain ⟨rfl,rfl,rfl,rfl⟩:=he
    cases vs with
    |nil=>exact absurd hv id
    |cons v vs=>
     obtain ⟨F1,a1,a2,a3⟩:=za m h1 hv.1
     obtain ⟨F2,b1,b2,b3⟩:=xr m ts xs _ _ _ _ _ h2 hv.2
     refine ⟨cn F1 F2,⟨F1,F2,a1.grow (fun b h=>h) (fun b h=>kc.left (S:=S) h),b1.grow (fun b h=>h) (fun b h=>kc.right (S:=S) h),rfl⟩,fun b=> ?_,a3.Mm b3⟩
     have:=a2 b;have:=b2 b
     rw[EA];simp;omega
   ·cases he
  ·cases he
theorem Hr (m:fY C S.hp S.nx w ρ Fs) {md:Mode} {t:Nat} {x:AV} {d:DV} {ks io rc:List Nat} (he:EB tt S.hp md t x=some (d,ks,io,rc)) {v:Value} (hv:eE (C.env w ρ S.hp S.nx Fs) x v):
 ∃F,mV w (C.Zf w (ar S.nx Fs)) (kc C w S.nx Fs rc) d v F/\(∀b,F b<=cE Fs (ks++io) b)/\iy S.hp (ks++io):=by
 cases x with
 |DM xs=>cases he
 |one x=>
  cases x with
  |l x=>
   simp only[EB] at he
   split at he
   ·rename_i id hid
    obtain rfl:=tB hid
    cases md with
    |io=>
     simp only[La] at he
     split at he
     ·rename_i tX h1
      simp only[Option.some.injEq,Prod.mk.injEq] at he
      obtain ⟨rfl,rfl,rfl,rfl⟩:=he
      obtain ⟨a1,root,a2,a3⟩:=xq m h1 hv (kc C w S.nx Fs [])
      exact ⟨_,a1,fun b=>by simp[cE],fun k hk=>by simp at hk;subst hk;exact ⟨root,a2,a3⟩⟩
     ·cases he
    |_=>cases he
   ·split at he
    ·rename_i d' Js T8 T9 h1
     simp only[Option.some.injEq,Prod.mk.injEq] at he
     obtain ⟨rfl,rfl,rfl,rfl⟩:=he
     exact za m h1 hv
    ·cases he
  |agg xs=>
   simp only[EB] at he
   split at he
   ·rename_i d' Js T8 T9 h1
    simp only[Option.some.injEq,Prod.mk.injEq] at he
    obtain ⟨rfl,rfl,rfl,rfl⟩:=he
    obtain ⟨vs,rfl,hv⟩:=hv
    obtain ⟨F,a1,a2,a3⟩:=xr m _ _ _ _ _ _ _ h1 hv
    exact ⟨F,⟨vs,rfl,a1⟩,a2,a3⟩
   ·cases he
theorem xt (m:fY C S.hp S.nx w ρ Fs): ∀(ms:List Mode) (ts:List Nat) (xs:List AV) (ds:List DV) (ks io rc:List Nat) (vs:List Value),oA tt S.hp ms ts xs=some (ds,ks,io,rc)->eV (C.env w ρ S.hp S.nx Fs) xs vs->
 ∃F,dY w (C.Zf w (ar S.nx Fs)) (kc C w S.nx Fs rc) ds vs F/\(∀b,F b<=cE Fs (ks++io) b)/\iy S.hp (ks++io)
 |ms,[],[],ds,ks,io,rc,vs,he,hv=>by
  simp only[oA,Option.some.injEq,Prod.mk.injEq] at he
  obtain ⟨rfl,rfl,rfl,rfl⟩:=he
  cases vs with
  |nil=>exact ⟨fz,rfl,fun b=>by simp,fun k hk=>by simp at hk⟩
  |cons v vs=>exact absurd hv id
 |_,[],_::_,_,_,_,_,_,he,_=>by simp[oA] at he
 |_,_::_,[],_,_,_,_,_,he,_=>by simp[oA] at he
 |ms,t::ts,x::xs,ds,ks,io,rc,vs,he,hv=>by
  simp only[oA] at he
  split at he
  ·rename_i d Js T8 T9 h1
   split at he
   ·rename_i K_ Qd WK WL h2
    simp only[Option.some.injEq,Prod.mk.injEq] at he
    obtain ⟨rfl,rfl,rfl,rfl⟩:=he
    cases vs with
    |nil=>exact absurd hv id
    |cons v vs=>
     obtain ⟨F1,a1,a2,a3⟩:=Hr m h1 hv.1
     obtain ⟨F2,b1,b2,b3⟩:=xt m _ ts xs _ _ _ _ _ h2 hv.2
     refine ⟨cn F1 F2,⟨F1,F2,a1.grow (fun b h=>h) (fun b h=>kc.left (S:=S) h),b1.grow (fun b h=>h) (fun b h=>kc.right (S:=S) h),rfl⟩,fun b=> ?_,a3.Mm b3⟩
     have:=a2 b;have:=b2 b
     rw[EA];simp;omega
   ·cases he
  ·cases he
end
section
variable {tt:TT} {C:Cx} {S:St} {w:World} {ρ:Place} {Fs:Nat->FP}
def jB (Z:Zs) (Fs:Nat->FP) (fk:List Nat):Zs:=fun b=>Z b\/1<=cE Fs fk b
theorem jB.left {Z:Zs} {fk FI:List Nat} {b:Nat} (h:jB Z Fs fk b):jB Z Fs (fk++FI) b:=h.imp (fun h=>h) (fun h=>by rw[dF];omega)
theorem jB.right {Z:Zs} {fk FI:List Nat} {b:Nat} (h:jB Z Fs FI b):jB Z Fs (fk++FI) b:=h.imp (fun h=>h) (fun h=>by rw[dF];omega)
theorem qc {r:Row} (h:r.owned=true): ∀c∈r.cells,(∃v,c= .sc v)\/ ∃l,c= .sl true l:=by
 intro c hc
 cases r with
 |ints k l=>simp only[Row.cells,List.mem_map] at hc;obtain ⟨x,_,rfl⟩:=hc;exact .inl ⟨_,rfl⟩
 |cx l=>simp only[Row.cells,List.mem_map] at hc;obtain ⟨x,_,rfl⟩:=hc;exact .inl ⟨_,rfl⟩
 |strs l=>simp only[Row.cells,List.mem_map] at hc;obtain ⟨x,_,rfl⟩:=hc;exact .inl ⟨_,rfl⟩
 |rows o l=>cases o with
  |false=>cases h
  |true=>simp only[Row.cells,List.mem_map] at hc;obtain ⟨x,_,rfl⟩:=hc;exact .inr ⟨_,rfl⟩
 |cB sg o l=>cases o with
  |false=>cases h
  |true=>
   simp only[Row.cells,List.mem_flatMap] at hc
   obtain ⟨x,_,hc⟩:=hc
   obtain ⟨j,hj⟩:=List.getElem?_of_mem hc
   rw[fH] at hj
   cases hs:sg[j]? with
   |none=>rw[hs] at hj;cases hj
   |some b=>rw[hs] at hj;cases b<;>(simp at hj;subst hj)<;>first|exact .inl ⟨_,rfl⟩|exact .inr ⟨_,rfl⟩
theorem qK {w:World} {Z Z':Zs}: ∀ {cs:List Cell} {vs:List Value} {F:FP},(∀c∈cs,(∃v,c= .sc v)\/ ∃l,c= .sl true l)->ah w Z cs vs F->ah w Z' cs vs F
 | [],_,_,_,h=>h
 |c::cs,v::vs,F,hc,⟨F1,F2,h1,h2,hF⟩=>by
  refine ⟨F1,F2,?_,qK (fun c' Ir=>hc c' (by simp[Ir])) h2,hF⟩
  rcases hc c (by simp) with ⟨u,rfl⟩| ⟨l,rfl⟩<;>exact h1
theorem yp (m:fY C S.hp S.nx w ρ Fs) {id e ver:Nat} {r:Row} (aj:S.hp id=some (.row e ver r)) (Z:Zs) (hz:r.owned=true\/ ∀b,C.ZL w (ar S.nx Fs) b->Z b):ea w (jB Z Fs [id]) r.eb (hdr (ρ id) r.len):=by
 have T_: ∀b,1<=Fs id b->jB Z Fs [id] b:=fun b hb=> .inr (by simp[cE];exact hb)
 rcases m.roots id _ aj with ⟨g1,g2,g3⟩| ⟨b,cap,arr,ty,F',g1,g2,g3,g4,g5,g6⟩
 ·simp only[Cx.env] at g1
  rw[g1,show hdr none r.len= .slice none 0 0 from rfl]
  exact pa (by rw[jb];exact g2)
 ·simp only[Cx.env] at g1 g2
  rw[g1]
  refine ⟨some ⟨b,0,none⟩,cap,by rw[jb];rfl,by rw[jb];exact g3,fun _=>⟨_,rfl,T_ b (by rw[g6];simp),arr.toList,fun j hj=>by rw[dr,bJ g2];simp,?_⟩⟩
  rw[wM]
  rcases hz with ho|hz
  ·exact (qK (Z':=Z) (qc ho) g5).eb (fun b hb=> .inl hb) (fun b' hb=>T_ b' (by rw[g6];simp;omega))
  ·exact g5.eb (fun b hb=> .inl (hz b hb)) (fun b' hb=>T_ b' (by rw[g6];simp;omega))
theorem sJ (m:fY C S.hp S.nx w ρ Fs) {oc:kd} {t:Nat} {x:LV} {d:DL} {ks fk:List Nat} (he:qL tt S.hp oc t x=some (d,ks,fk)) {v:Value} (hv:dD (C.env w ρ S.hp S.nx Fs) x v):
 ∃F,jU w (jB (C.Zf w (ar S.nx Fs)) Fs fk) (jB (C.ZL w (ar S.nx Fs)) Fs fk) d v F/\(∀b,F b<=cE Fs ks b)/\iy S.hp (ks++fk):=by
 have hz: ∀b,C.ZL w (ar S.nx Fs) b->jB (C.ZL w (ar S.nx Fs)) Fs fk b:=fun b hb=> .inl hb
 have Hs: ∀b,C.Zf w (ar S.nx Fs) b->jB (C.Zf w (ar S.nx Fs)) Fs fk b:=fun b hb=> .inl hb
 have hsc: ∀ {d':DL},some (d',([]:List Nat),([]:List Nat))=some (d,ks,fk)->jU w (jB (C.Zf w (ar S.nx Fs)) Fs fk) (jB (C.ZL w (ar S.nx Fs)) Fs fk) d' v fz-> ∃F,jU w (jB (C.Zf w (ar S.nx Fs)) Fs fk) (jB (C.ZL w (ar S.nx Fs)) Fs fk) d v F/\(∀b,F b<=cE Fs ks b)/\iy S.hp (ks++fk):=fun he hd=>by
  simp only[Option.some.injEq,Prod.mk.injEq] at he
  obtain ⟨rfl,rfl,rfl⟩:=he
  exact ⟨fz,hd,fun b=>by simp,fun k hk=>by simp at hk⟩
 cases x with
 |i k z=>exact hsc he ⟨hv,rfl⟩
 |b z=>exact hsc he ⟨hv,rfl⟩
 |s z=>exact hsc he ⟨hv,rfl⟩
 |er z=>cases z<;>exact hsc he ⟨hv,rfl⟩
 |nil=>
  have hv:v= .slice none 0 0:=hv
  simp only[qL] at he
  split at he
  ·split at he
   ·rename_i r hr
    have h0:=ja hr
    cases oc with
    |own=>exact hsc he ⟨none,by rw[hv];rfl,CK h0⟩
    |eb=>exact hsc he ⟨by rw[hv];exact pa (by rw[jb];exact h0),rfl⟩
    |aZ=>exact hsc he ⟨by rw[hv];exact pa (by rw[jb];exact h0),rfl⟩
   ·cases he
  ·cases he
 |val p r=>
  cases oc with
  |own=>cases he
  |eb=>
   cases p with
   |true=>exact hsc he ⟨ea.grow hv Hs,rfl⟩
   |false=>cases he
  |aZ=>
   refine hsc (d':= .sl .aZ r) he ⟨?_,rfl⟩
   cases p with
   |true=>exact ea.grow hv (fun b hb=>hz b (.inr hb))
   |false=>exact ea.grow hv hz
 |own id=>
  simp only[qL] at he
  split at he
  ·rename_i e ver r aj
   obtain ⟨_,hx⟩:=hv
   obtain ⟨r',e1,e2⟩:=hx _ aj
   cases e1
   simp only[Cx.env] at e2
   have kW:iy S.hp [id]:=fun k hk=>by simp at hk;subst hk;exact ⟨_,aj,trivial⟩
   cases oc with
   |own=>
    have BO:=(ai he).2
    clear he
    simp only[Option.some.injEq,Prod.mk.injEq] at BO
    obtain ⟨rfl,rfl,rfl⟩:=BO
    obtain ⟨F,k1,k2⟩:=uA m aj (Nat.le_refl r.len)
    rw[oz] at k1
    exact ⟨F,⟨ρ id,e2,k1.mono (fun b hb=>⟨hz b hb,rfl⟩) (fun b _=>rfl)⟩,fun b=>by have:=k2 b;simp[cE];exact this,kW⟩
   |eb=>
    have RP:=(ai he).1
    have BO:=(ai he).2
    clear he
    simp only[Option.some.injEq,Prod.mk.injEq] at BO
    obtain ⟨rfl,rfl,rfl⟩:=BO
    exact ⟨fz,⟨by rw[e2];exact yp m aj _ (.inl RP),rfl⟩,fun b=>by simp,kW⟩
   |aZ=>
    simp only[Option.some.injEq,Prod.mk.injEq] at he
    obtain ⟨rfl,rfl,rfl⟩:=he
    exact ⟨fz,⟨by rw[e2];exact yp m aj _ (.inr fun b hb=>hb),rfl⟩,fun b=>by simp,kW⟩
  ·cases he
 |sub id lo hi=>
  simp only[qL] at he
  split at he
  ·rename_i e ver r aj
   cases oc with
    |own=>
     have BO:=(ai he).2
     have yn:lo=0:=Nat.eq_of_beq_eq_true (az (ai he).1).1
     clear he
     subst yn
     simp only[Option.some.injEq,Prod.mk.injEq] at BO
     obtain ⟨rfl,rfl,rfl⟩:=BO
     obtain ⟨_,hx⟩:=hv
     obtain ⟨r',e1,_,l2,e2⟩:=hx _ aj
     cases e1
     obtain ⟨F,k1,k2⟩:=uA m aj l2
     exact ⟨F,⟨ρ id,by rw[e2,yo,take_len,Nat.min_eq_left l2];rfl,k1.mono (fun b hb=>⟨hz b hb,rfl⟩) (fun b _=>rfl)⟩,fun b=>by have:=k2 b;simp[cE];exact this,fun k hk=>by simp at hk;subst hk;exact ⟨_,aj,trivial⟩⟩
    |eb=>
     have RP:=(ai he).1
     have BO:=(ai he).2
     clear he
     simp only[Option.some.injEq,Prod.mk.injEq] at BO
     obtain ⟨rfl,rfl,rfl⟩:=BO
     obtain ⟨_,hx⟩:=hv
     obtain ⟨r',e1,l1,l2,e2⟩:=hx _ aj
     cases e1
     refine ⟨fz,⟨?_,rfl⟩,fun b=>by simp,fun k hk=>by simp at hk;subst hk;exact ⟨_,aj,trivial⟩⟩
     have FG:=yp m aj (C.Zf w (ar S.nx Fs)) (.inl RP)
     rw[e2]
     simp only[Cx.env]
     cases hρ:ρ id with
     |none=>
      have h0:r.len=0:=by
       rcases m.roots id _ aj with ⟨_,g2,_⟩| ⟨b,cap,arr,ty,F',g1,_⟩
       ·exact g2
       ·simp only[Cx.env] at g1;rw[hρ] at g1;cases g1
      have:ea w (jB (C.Zf w (ar S.nx Fs)) Fs [id]) ((r.eb.take hi).drop lo) (.slice none 0 0):=pa (by rw[mW,take_len,jb];omega)
      exact this
     |some q=>
      obtain ⟨b,cap⟩:=q
      rw[hρ] at FG
      obtain ⟨A,nr,k1,k2,k3⟩:=FG
      simp only[hdr,Value.slice.injEq] at k1
      obtain ⟨rfl,_,rfl⟩:=k1
      have:=tD (w:=w) (Z:=jB (C.Zf w (ar S.nx Fs)) Fs [id]) (r:=r.eb) (A:=some ⟨b,0,none⟩) (cap:=cap) k2 k3 lo hi l1 (by rw[jb];exact l2)
      simp only[j7]
      rw[EC] at this
      have e3:(if cap=lo then some (⟨b,0,none⟩:Addr) else (some (⟨b,0,none⟩:Addr)).map (·.add (lo*r.size)))=some (if cap=lo then ⟨b,0,none⟩ else ⟨b,lo*r.size,none⟩):=by
       split
       ·rfl
       ·simp[dr]
      rw[e3] at this
      exact this
    |aZ=>cases he
  ·cases he
 |_=>cases he
theorem qd (m:fY C S.hp S.nx w ρ Fs) {oc:kd}: ∀(ts:List Nat) (xs:List LV) (ds:List DL) (ks fk:List Nat) (vs:List Value),mX tt S.hp oc ts xs=some (ds,ks,fk)->aY (C.env w ρ S.hp S.nx Fs) xs vs->
 ∃F,i_ w (jB (C.Zf w (ar S.nx Fs)) Fs fk) (jB (C.ZL w (ar S.nx Fs)) Fs fk) ds vs F/\(∀b,F b<=cE Fs ks b)/\iy S.hp (ks++fk)
 | [],[],ds,ks,fk,vs,he,hv=>by
   simp only[mX,Option.some.injEq,Prod.mk.injEq] at he
   obtain ⟨rfl,rfl,rfl⟩:=he
   cases vs with
   |nil=>exact ⟨fz,rfl,fun b=>by simp,fun k hk=>by simp at hk⟩
   |cons v vs=>exact absurd hv id
 | [],_::_,_,_,_,_,he,_=>by simp[mX] at he
 |_::_,[],_,_,_,_,he,_=>by simp[mX] at he
 |t::ts,x::xs,ds,ks,fk,vs,he,hv=>by
  simp only[mX] at he
  split at he
  ·rename_i d Js Ua h1
   split at he
   ·rename_i K_ Qd WM h2
    simp only[Option.some.injEq,Prod.mk.injEq] at he
    obtain ⟨rfl,rfl,rfl⟩:=he
    cases vs with
    |nil=>exact absurd hv id
    |cons v vs=>
     obtain ⟨F1,a1,a2,a3⟩:=sJ m h1 hv.1
     obtain ⟨F2,b1,b2,b3⟩:=qd m ts xs _ _ _ _ h2 hv.2
     refine ⟨cn F1 F2,⟨F1,F2,a1.grow (fun b h=>jB.left h) (fun b h=>jB.left h),b1.grow (fun b h=>jB.right h) (fun b h=>jB.right h),rfl⟩,fun b=> ?_,a3.Mm b3⟩
     have:=a2 b;have:=b2 b
     rw[dF];simp;omega
   ·cases he
  ·cases he
theorem CO (m:fY C S.hp S.nx w ρ Fs) {oc:kd} {t:Nat} {x:AV} {d:DV} {ks fk:List Nat} (he:CP tt S.hp oc t x=some (d,ks,fk)) {v:Value} (hv:eE (C.env w ρ S.hp S.nx Fs) x v):
 ∃F,mV w (jB (C.Zf w (ar S.nx Fs)) Fs fk) (jB (C.ZL w (ar S.nx Fs)) Fs fk) d v F/\(∀b,F b<=cE Fs ks b)/\iy S.hp (ks++fk):=by
 cases x with
 |DM xs=>cases he
 |one x=>
  cases x with
  |l x=>
   simp only[CP] at he
   split at he
   ·rename_i id hid
    obtain rfl:=tB hid
    split at he
    ·rename_i tX h1
     simp only[Option.some.injEq,Prod.mk.injEq] at he
     obtain ⟨rfl,rfl,rfl⟩:=he
     obtain ⟨a1,root,a2,a3⟩:=xq m h1 hv (jB (C.ZL w (ar S.nx Fs)) Fs [])
     exact ⟨_,a1.grow (fun b hb=> .inl hb) (fun b hb=>hb),fun b=>by simp[cE],fun k hk=>by simp at hk;subst hk;exact ⟨root,a2,a3⟩⟩
    ·cases he
   ·split at he
    ·rename_i d' Js Ua h1
     simp only[Option.some.injEq,Prod.mk.injEq] at he
     obtain ⟨rfl,rfl,rfl⟩:=he
     exact sJ m h1 hv
    ·cases he
  |agg xs=>
   simp only[CP] at he
   split at he
   ·rename_i d' Js Ua h1
    simp only[Option.some.injEq,Prod.mk.injEq] at he
    obtain ⟨rfl,rfl,rfl⟩:=he
    obtain ⟨vs,rfl,hv⟩:=hv
    obtain ⟨F,a1,a2,a3⟩:=qd m _ _ _ _ _ _ h1 hv
    exact ⟨F,⟨vs,rfl,a1⟩,a2,a3⟩
   ·cases he
theorem nV (m:fY C S.hp S.nx w ρ Fs) {oc:kd}: ∀(ts:List Nat) (xs:List AV) (ds:List DV) (ks fk:List Nat) (vs:List Value),nE tt S.hp oc ts xs=some (ds,ks,fk)->eV (C.env w ρ S.hp S.nx Fs) xs vs->
 ∃F,dY w (jB (C.Zf w (ar S.nx Fs)) Fs fk) (jB (C.ZL w (ar S.nx Fs)) Fs fk) ds vs F/\(∀b,F b<=cE Fs ks b)/\iy S.hp (ks++fk)
 | [],[],ds,ks,fk,vs,he,hv=>by
   simp only[nE,Option.some.injEq,Prod.mk.injEq] at he
   obtain ⟨rfl,rfl,rfl⟩:=he
   cases vs with
   |nil=>exact ⟨fz,rfl,fun b=>by simp,fun k hk=>by simp at hk⟩
   |cons v vs=>exact absurd hv id
 | [],_::_,_,_,_,_,he,_=>by simp[nE] at he
 |_::_,[],_,_,_,_,he,_=>by simp[nE] at he
 |t::ts,x::xs,ds,ks,fk,vs,he,hv=>by
  simp only[nE] at he
  split at he
  ·rename_i d Js Ua h1
   split at he
   ·rename_i K_ Qd WM h2
    simp only[Option.some.injEq,Prod.mk.injEq] at he
    obtain ⟨rfl,rfl,rfl⟩:=he
    cases vs with
    |nil=>exact absurd hv id
    |cons v vs=>
     obtain ⟨F1,a1,a2,a3⟩:=CO m h1 hv.1
     obtain ⟨F2,b1,b2,b3⟩:=nV m ts xs _ _ _ _ h2 hv.2
     refine ⟨cn F1 F2,⟨F1,F2,a1.grow (fun b h=>jB.left h) (fun b h=>jB.left h),b1.grow (fun b h=>jB.right h) (fun b h=>jB.right h),rfl⟩,fun b=> ?_,a3.Mm b3⟩
     have:=a2 b;have:=b2 b
     rw[dF];simp;omega
   ·cases he
  ·cases he
end
section
variable {C:Cx} {S:St} {a:Act} {w:World} {ρ:Place} {Fs:Nat->FP}
theorem aQ.wN (h:aQ C S a w ρ Fs) (t:Nat) (x:AV) (hx:eE (C.env w ρ S.hp S.nx Fs) x (C.val a t)):aQ C ⟨fun j=>bif j==t then x else S.sl j,S.hp,S.nx⟩ a w ρ Fs:=by
 refine ⟨h.mem,h.defers,h.size,fun j=> ?_⟩
 show eE _ (bif j==t then x else S.sl j) _
 cases e:j==t with
 |true=>have:=eq_of_beq e;subst this;exact hx
 |false=>exact h.oB j
theorem aQ.Lb (h:aQ C S a w ρ Fs) {id e ver:Nat} {r:Row} (hr:S.hp id=some (.row e ver r)):aQ C ⟨S.sl,fun j=>bif j==id then none else S.hp j,S.nx⟩ a w ρ (eU Fs id fz)/\ea w (C.ZL w (ar S.nx (eU Fs id fz))) r.eb (hdr (ρ id) r.len):=by
 have fJ:=cz h.mem hr
 have jc: ∀b,ar S.nx (eU Fs id fz) b+Fs id b=ar S.nx Fs b:=fun b=>by
  have e1:=en Fs fz b fJ
  simp at e1
  omega
 have hz: ∀b,C.Zf w (ar S.nx Fs) b->C.Zf w (ar S.nx (eU Fs id fz)) b:=fun b hb=>by
  rcases hb with hb| ⟨h1,h2,h3⟩
  ·exact .inl hb
  ·exact .inr ⟨h1,h2,by have:=jc b;omega⟩
 refine ⟨?_,?_⟩
 ·refine h.gen _ _ w _ _ (fun _=>False) (Nat.le_refl _) rfl rfl rfl (fun _ _ _=>rfl) (fun _ h=>h.elim) (Nat.le_refl _) (fun j hj sy=>rfl) (fun j hj=> ?_) (fun j hj=> .inl ⟨?_,?_⟩) (fun b'=>by have:=jc b';have:=h.mem.one b';omega) (fun b' nv=> .inl (by have:=jc b';omega))
  ·by_cases e1:j=id
   ·subst e1;exact .gone (by simp) (fV ..)
   ·have e2:(j==id)=false:=by simp[e1]
    exact .same (by simp[e2]) (by rw[cN _ _ e1]) (fun _ _ h=>h)
  ·have e1:j≠id:=by omega
   have e2:(j==id)=false:=by simp[e1]
   simp only[e2,cond_false];exact h.mem.fresh j hj
  ·rw[cN _ _ (by omega)];exact h.mem.dead j (h.mem.fresh j hj)
 ·refine (yp h.mem hr (C.ZL w (ar S.nx Fs)) (.inr fun b hb=>hb)).grow fun b hb=> ?_
  rcases hb with hb|hb
  ·rcases hb with hb|hb
   ·exact .inl hb
   ·exact .inr (hz b hb)
  ·have hb:1<=Fs id b:=by simpa[cE] using hb
   have h1:=jc b
   have h2:=h.mem.one b
   obtain ⟨h3,h4⟩:=h.mem.nW b (by omega)
   exact .inr (.inr ⟨h4,h3,by omega⟩)
theorem aQ.RQ (h:aQ C S a w ρ Fs) {id e ver:Nat} {r:Row} (hr:S.hp id=some (.row e ver r)) (b:Nat) (hb:C.ZL w (ar S.nx Fs) b\/ ∃i∈[id],1<=Fs i b):C.ZL w (ar S.nx (eU Fs id fz)) b:=by
 have fJ:=cz h.mem hr
 have jc: ∀b,ar S.nx (eU Fs id fz) b+Fs id b=ar S.nx Fs b:=fun b=>by
  have e1:=en Fs fz b fJ
  simp at e1
  omega
 have hz: ∀b,C.Zf w (ar S.nx Fs) b->C.Zf w (ar S.nx (eU Fs id fz)) b:=fun b hb=>by
  rcases hb with hb| ⟨h1,h2,h3⟩
  ·exact .inl hb
  ·exact .inr ⟨h1,h2,by have:=jc b;omega⟩
 rcases hb with hb| ⟨i,hi,hb⟩
 ·rcases hb with hb|hb
  ·exact .inl hb
  ·exact .inr (hz b hb)
 ·obtain rfl:=List.mem_singleton.1 hi
  have h1:=jc b
  have h2:=h.mem.one b
  obtain ⟨h3,h4⟩:=h.mem.nW b (by omega)
  exact .inr (.inr ⟨h4,h3,by omega⟩)
theorem aQ.leaf (h:aQ C S a w ρ Fs) {x y:LV} {o:Option Nat} (hl:yq S.hp x=some (y,o)): ∃Fs',aQ C ⟨S.sl,mY S.hp o,S.nx⟩ a w ρ Fs' /\(∀j,mY S.hp o j=S.hp j\/mY S.hp o j=none)/\(∀id,o=some id-> ∃e v r,S.hp id=some (.row e v r))/\(∀id t c,S.hp id=some (.box t c)->mY S.hp o id=some (.box t c))/\ ∀v,dD (C.env w ρ S.hp S.nx Fs) x v->dD (C.env w ρ (mY S.hp o) S.nx Fs') y v:=by
 unfold yq at hl
 split at hl
 ·rename_i id
  split at hl
  ·rename_i e ver r hr
   simp only[Option.some.injEq,Prod.mk.injEq] at hl
   obtain ⟨rfl,rfl⟩:=hl
   obtain ⟨h1,h2⟩:=h.Lb hr
   refine ⟨_,h1,fun j=> ?_,(fun i hi=>by cases hi;exact ⟨_,_,_,hr⟩),fun i t c hi=> ?_,fun v hv=> ?_⟩
   ·by_cases e1:j=id
    ·right;simp[mY,e1]
    ·have e2:(j==id)=false:=by simp[e1]
     left;simp only[mY,e2,cond_false]
   ·have e1:i≠id:=by rintro rfl;rw[hr] at hi;cases hi
    have e2:(i==id)=false:=by simp[e1]
    simp only[mY,e2,cond_false];exact hi
   ·obtain ⟨_,hv⟩:=hv
    obtain ⟨r',me,hv⟩:=hv _ hr
    cases me
    rw[hv]
    exact h2
  ·cases hl
 ·rename_i p r
  simp only[Option.some.injEq,Prod.mk.injEq] at hl
  obtain ⟨rfl,rfl⟩:=hl
  refine ⟨Fs,h,fun j=> .inl rfl,(fun i hi=>by cases hi),fun i t c hi=>hi,fun v hv=> ?_⟩
  cases p with
  |false=>exact hv
  |true=>exact ea.grow hv fun b hb=> .inr hb
 ·cases hl
theorem aQ.Ht (h:aQ C S a w ρ Fs) (t j:Nat): ∃Fs',aQ C (Ht t j S) a w ρ Fs':=by
 have ht:=h.oB t
 unfold V.Ht
 split
 ·rename_i xs hs
  split
  ·rename_i x hx
   split
   ·rename_i y o hl
    obtain ⟨F1,h1,_,_,_,hy⟩:=h.leaf hl
    have Tn:=h1.oB t
    simp only[] at Tn
    rw[hs] at ht Tn
    refine ⟨F1,h1.wN t (.one (.agg (xs.set j y))) ?_⟩
    obtain ⟨vs,e,hv⟩:=ht
    obtain ⟨WN,e1,DX⟩:=Tn
    have:vs=WN:=by rw[e] at e1;simpa using e1
    subst this
    refine ⟨vs,e,?_⟩
    have key: ∀ {xs:List LV} {vs:List Value} {j:Nat},aY (C.env w ρ S.hp S.nx Fs) xs vs->aY (C.env w ρ (mY S.hp o) S.nx F1) xs vs->xs[j]? =some x->aY (C.env w ρ (mY S.hp o) S.nx F1) (xs.set j y) vs:=by
     intro xs
     induction xs with
     |nil=>intro vs j _ _ hx;simp at hx
     |cons z xs ih=>
      intro vs j g1 g2 hx
      cases vs with
      |nil=>exact g1.elim
      |cons v vs=>
       cases j with
       |zero=>simp at hx;subst hx;exact ⟨hy v g1.1,g2.2⟩
       |succ j=>exact ⟨g2.1,ih g1.2 g2.2 (by simpa using hx)⟩
    exact key hv DX hx
   ·exact ⟨Fs,h⟩
  ·exact ⟨Fs,h⟩
 ·rename_i id k hs
  split
  ·rename_i bt cells hb
   split
   ·rename_i x hx
    split
    ·rename_i y o hl
     obtain ⟨F1,h1,_,_,Ub,hy⟩:=h.leaf hl
     have z7:mY S.hp o id=some (.box bt cells):=Ub _ _ _ hb
     have kH:id<S.nx:=cz h.mem hb
     obtain ⟨b,cap,vs,ty,g1,g2,g3,g4⟩:=h.mem.roots id _ hb
     obtain ⟨b',nr,xV,WO,OZ,O0,Uc,Qe⟩:=h1.mem.roots id _ z7
     simp only[Cx.env] at g1 g2 OZ O0
     rw[g1] at OZ;cases OZ
     rw[g2] at O0;cases O0
     have key: ∀ {xs:List LV} {vs:List Value} {j:Nat},aY (C.env w ρ S.hp S.nx Fs) xs vs->aY (C.env w ρ (mY S.hp o) S.nx F1) xs vs->xs[j]? =some x->aY (C.env w ρ (mY S.hp o) S.nx F1) (xs.set j y) vs:=by
      intro xs
      induction xs with
      |nil=>intro vs j _ _ hx;simp at hx
      |cons z xs ih=>
       intro vs j g1 g2 hx
       cases vs with
       |nil=>exact g1.elim
       |cons v vs=>
        cases j with
        |zero=>simp at hx;subst hx;exact ⟨hy v g1.1,g2.2⟩
        |succ j=>exact ⟨g2.1,ih g1.2 g2.2 (by simpa using hx)⟩
     have np:=key g3 Uc hx
     refine ⟨F1,h1.gen _ _ w _ _ (fun _=>False) (Nat.le_refl _) rfl rfl rfl (fun _ _ _=>rfl) (fun _ h=>h.elim) (Nat.le_refl _) (fun j hj sy=>rfl) (fun i hi=> ?_) (fun i hi=> .inl ⟨?_,h1.mem.dead i (h1.mem.fresh i hi)⟩) h1.mem.one (fun b' nv=> .inl nv)⟩
     ·by_cases e1:i=id
      ·subst e1
       refine .kC (.box bt cells) (.box bt (cells.set j y)) z7 (by simp) trivial (fun M=> ?_)
       exact ⟨b,cap,vs,ty,g1,g2,np.mono M,Qe⟩
      ·have e2:(i==id)=false:=by simp[e1]
       exact .same (by simp[e2]) rfl (fun _ _ h=>h)
     ·have e1:i≠id:=by rintro rfl;have:S.nx<=i:=hi;omega
      have e2:(i==id)=false:=by simp[e1]
      simp only[e2,cond_false];exact h1.mem.fresh i hi
    ·exact ⟨Fs,h⟩
   ·exact ⟨Fs,h⟩
  ·exact ⟨Fs,h⟩
 ·exact ⟨Fs,h⟩
theorem aQ.Lc (t:Nat): ∀(l:List Nat) {S:St} {Fs:Nat->FP},aQ C S a w ρ Fs-> ∃Fs',aQ C (l.foldl (fun S j=>V.Ht t j S) S) a w ρ Fs'
 | [],_,Fs,h=>⟨Fs,h⟩
 |j::l,_,_,h=>by
  obtain ⟨F1,h1⟩:=h.Ht t j
  exact aQ.Lc t l h1
theorem aQ.Jt (h:aQ C S a w ρ Fs) (t:Nat): ∃Fs',aQ C (Jt t S) a w ρ Fs':=by
 have ht:=h.oB t
 unfold V.Jt
 split
 ·rename_i id hs
  split
  ·rename_i e ver r hr
   rw[hs] at ht
   obtain ⟨_,ht⟩:=ht
   obtain ⟨r',me,hv⟩:=ht _ hr
   cases me
   obtain ⟨h1,h2⟩:=h.Lb hr
   refine ⟨_,h1.wN t (.one (.l (.val false r.eb))) ?_⟩
   rw[hv]
   exact h2
  ·exact ⟨Fs,h⟩
 ·rename_i id lo hi hs
  split
  ·rename_i e ver r hr
   rw[hs] at ht
   have hv:=lH (x:= .sub id lo hi) (v:=C.val a t) (r:=(r.eb.take hi).drop lo) (rc:=[id]) h.mem (by show (match S.hp id with|some (.row _ _ r)=>some (((r.eb).take hi).drop lo,[id])|_=>none)=_;rw[hr]) ht
   obtain ⟨h1,h2⟩:=h.Lb hr
   exact ⟨_,h1.wN t (.one (.l (.val false ((r.eb.take hi).drop lo)))) (hv.grow (h.RQ hr))⟩
  ·exact ⟨Fs,h⟩
 ·rename_i p r hs
  rw[hs] at ht
  refine ⟨Fs,h.wN t (.one (.l (.val false r))) ?_⟩
  cases p with
  |false=>exact ht
  |true=>exact ea.grow ht fun b hb=> .inr hb
 ·exact aQ.Lc t _ h
 ·split
  ·exact aQ.Lc t _ h
  ·exact ⟨Fs,h⟩
 ·exact ⟨Fs,h⟩
theorem Ju (n:Nat):(Ld n).len=0:=by unfold Ld;split<;>rfl
theorem aQ.O1 (h:aQ C S a w ρ Fs) {r:Row} (hr:r.len=0):aQ C ⟨S.sl,fun i=>bif i==S.nx then some (.row 0 0 r) else S.hp i,S.nx+1⟩ a w (gq ρ S.nx none) Fs/\
 oC (C.env w ρ S.hp S.nx Fs) (C.env w (gq ρ S.nx none) (fun i=>bif i==S.nx then some (.row 0 0 r) else S.hp i) (S.nx+1) Fs):=by
 have hF:Fs S.nx=fz:=h.mem.dead S.nx (h.mem.fresh S.nx (Nat.le_refl _))
 have jc: ∀b,ar (S.nx+1) Fs b=ar S.nx Fs b:=fun b=>by simp[ar,hF]
 refine h.O2 _ _ w _ _ (fun _=>False) (Nat.le_refl _) rfl rfl rfl (fun _ _ _=>rfl) (fun _ h=>h.elim) (Nat.le_succ _) (fun j hj _=>lU _ _ (by omega)) (fun j hj=> .same ?_ rfl (fun _ _ h=>h)) (fun j hj=> ?_) (fun b=>by rw[jc];exact h.mem.one b) (fun b hb=> .inl (by rw[jc] at hb;exact hb))
 ·have e:(j==S.nx)=false:=by simp;omega
  simp only[e,cond_false]
 ·by_cases e:j=S.nx
  ·subst e
   refine .inr ⟨Nat.lt_succ_self _,.row 0 0 r,by simp,fun _=> ?_⟩
   show fN w _ (gq ρ S.nx none S.nx) r.cells r.len r.size (Fs S.nx)
   rw[dT,hF]
   exact .inl ⟨rfl,hr,rfl⟩
  ·have e2:(j==S.nx)=false:=by simp[e]
   refine .inl ⟨?_,h.mem.dead j (h.mem.fresh j hj)⟩
   simp only[e2,cond_false];exact h.mem.fresh j hj
theorem M_ (h:aQ C S a w ρ Fs) {r:Row} (hr:r.len=0) {v:Value} (hv:dD (C.env w ρ S.hp S.nx Fs) .nil v):dD (C.env w (gq ρ S.nx none) (fun i=>bif i==S.nx then some (.row 0 0 r) else S.hp i) (S.nx+1) Fs) (.own S.nx) v:=by
 have hv:v= .slice none 0 0:=hv
 refine ⟨Nat.lt_succ_self _,fun root aj=> ?_⟩
 simp only[Cx.env,beq_self_eq_true,cond_true] at aj
 cases aj
 refine ⟨r,rfl,?_⟩
 rw[hv]
 show _=hdr (gq ρ S.nx none S.nx) r.len
 rw[dT];rfl
theorem ID {E E':Env} {x y:LV} (hy: ∀v,dD E x v->dD E' y v): ∀ {xs:List LV} {vs:List Value} {j:Nat},aY E xs vs->aY E' xs vs->xs[j]? =some x->aY E' (xs.set j y) vs:=by
 intro xs
 induction xs with
 |nil=>intro vs j _ _ hx;simp at hx
 |cons z xs ih=>
  intro vs j g1 g2 hx
  cases vs with
  |nil=>exact g1.elim
  |cons v vs=>
   cases j with
   |zero=>simp at hx;subst hx;exact ⟨hy v g1.1,g2.2⟩
   |succ j=>exact ⟨g2.1,ih g1.2 g2.2 (by simpa using hx)⟩
theorem aQ.ED (h:aQ C S a w ρ Fs) (t j:Nat) {r:Row} (hr:r.len=0): ∃ρ' Fs',aQ C (ED t j r S) a w ρ' Fs':=by
 have ht:=h.oB t
 obtain ⟨h1,hM⟩:=h.O1 hr
 have hy:=fun v=>M_ h hr (v:=v)
 unfold V.ED
 split
 ·rename_i hs
  rw[hs] at ht
  exact ⟨_,_,h1.wN t (.one (.l (.own S.nx))) (hy _ ht)⟩
 ·rename_i xs hs
  split
  ·rename_i hx
   rw[hs] at ht
   obtain ⟨vs,e,hv⟩:=ht
   exact ⟨_,_,h1.wN t (.one (.agg (xs.set j (.own S.nx)))) ⟨vs,e,ID hy hv (hv.mono hM) hx⟩⟩
  ·exact ⟨_,_,h⟩
 ·rename_i id k hs
  split
  ·rename_i bt cells hb
   split
   ·rename_i hx
    have kH:id<S.nx:=cz h.mem hb
    have mg:(id==S.nx)=false:=by simp;omega
    have z7:(fun i=>bif i==S.nx then some (aq.row 0 0 r) else S.hp i) id=some (.box bt cells):=by simp only[mg,cond_false];exact hb
    obtain ⟨b,cap,vs,ty,g1,g2,g3,g4⟩:=h.mem.roots id _ hb
    obtain ⟨b',nr,xV,WO,OZ,O0,Uc,Qe⟩:=h1.mem.roots id _ z7
    simp only[Cx.env] at g1 g2 OZ O0
    have Vv:gq ρ S.nx none id=some (b,cap):=by rw[lU _ _ (by omega)];exact g1
    rw[Vv] at OZ;cases OZ
    rw[g2] at O0;cases O0
    have np:=ID hy g3 Uc hx
    refine ⟨gq ρ S.nx none,Fs,h1.gen _ _ w _ _ (fun _=>False) (Nat.le_refl _) rfl rfl rfl (fun _ _ _=>rfl) (fun _ h=>h.elim) (Nat.le_refl _) (fun j hj sy=>rfl) (fun i hi=> ?_) (fun i hi=> .inl ⟨?_,h1.mem.dead i (h1.mem.fresh i hi)⟩) h1.mem.one (fun b' nv=> .inl nv)⟩
    ·by_cases e1:i=id
     ·subst e1
      refine .kC (.box bt cells) (.box bt (cells.set j (.own S.nx))) z7 (by simp) trivial (fun M=> ?_)
      exact ⟨b,cap,vs,ty,Vv,g2,np.mono M,Qe⟩
     ·have e2:(i==id)=false:=by simp[e1]
      exact .same (by simp only[e2,cond_false]) rfl (fun _ _ h=>h)
    ·have hi:S.nx+1<=i:=hi
     have e1:(i==id)=false:=by simp;omega
     simp only[e1,cond_false];exact h1.mem.fresh i hi
   ·exact ⟨_,_,h⟩
  ·exact ⟨_,_,h⟩
 ·exact ⟨_,_,h⟩
theorem aQ.nX: ∀(ts:List Nat) {S:St} {ρ:Place} {Fs:Nat->FP},aQ C S a w ρ Fs-> ∃ρ' Fs',aQ C (nX ts S) a w ρ' Fs'
 | [],_,ρ,Fs,h=>⟨ρ,Fs,h⟩
 |t::ts,S,ρ,Fs,h=>by
  show ∃ρ' Fs',aQ C (ts.foldl _ (bif Nat.blt 999999999 t then RR (t-1000000000) S else V.Jt t S)) a w ρ' Fs'
  cases Nat.blt 999999999 t with
  |true=>
   obtain ⟨ρ1,F1,h1⟩:=h.ED ((t-1000000000)%4096) ((t-1000000000)/4096%64) (Ju ((t-1000000000)/262144))
   exact aQ.nX ts h1
  |false=>
   obtain ⟨F1,h1⟩:=h.Jt t
   exact aQ.nX ts h1
end
def pack:List Value->Value
 | [v]=>v
 |vs=> .tuple vs.toArray
def eN:List Mode->List Value->List Value
 |m::ms,v::vs=>(match m with| .io=>[v]|_=>[])++eN ms vs
 |_,_=>[]
def Ends (C:Cx) (g:pL) (args:List Value) (rs:List DV) (e:Ending) (w':World):Prop:=
 ∃vs F',e= .returned (pack vs)/\vs.length=g.results.length/\Frame C w' /\(∀b,F' b<=1)/\(∀b,1<=F' b->b<w'.heap.size/\(C.w0.heap.size<=b\/1<=C.F0 b))/\dY w' (C.Zf w' F') (C.ZL w' F') rs (vs++eN g.gj args) F'
def fM (P:Program) (f:FuncId) (g:pL) (ds rs:List DV):Prop:=
 ∀(C:Cx) (args:List Value),C.P0=P->dY C.w0 C.Zf0 C.Zl ds args C.F0->(∀b,C.F0 b<=1)->(∀b,1<=C.F0 b->b<C.w0.heap.size)->Calls P f args.toArray C.w0 (Ends C g args rs)
section
variable {P:Program} {tt:TT} {C:Cx} {S:St} {a:Act} {w:World} {ρ:Place} {Fs:Nat->FP}
theorem eV.append {E:Env}: ∀ {xs ys:List AV} {us vs:List Value},eV E xs us->eV E ys vs->eV E (xs++ys) (us++vs)
 | [],_,[],_,_,h=>h
 |x::xs,_,u::us,_,h,h'=>⟨h.1,eV.append h.2 h'⟩
theorem eV.length {E:Env}: ∀ {xs:List AV} {us:List Value},eV E xs us->xs.length=us.length
 | [],[],_=>rfl
 |x::xs,u::us,h=>by simp[eV.length h.2]
theorem dY.append {w:World} {Zf ZL:Zs}: ∀ {ds es:List DV} {us vs:List Value} {F G:FP},dY w Zf ZL ds us F->dY w Zf ZL es vs G->dY w Zf ZL (ds++es) (us++vs) (cn F G)
 | [],_,[],_,F,G,h,h'=>by have:F=fz:=h
                          subst this
                          rw[gV];exact h'
 |d::ds,_,u::us,_,F,G,⟨F1,F2,h1,h2,h3⟩,h'=>⟨F1,cn F2 G,h1,dY.append h2 h',by rw[h3,pb]⟩
def wO (a:Act):ResultVar->Sem Value
 | .tmp t=>pure (a.tmps.getD t undef)
 | .cell p t=>do loadVar t (<- asAddr (a.tmps.getD p undef))
theorem nY (T:kQ P tt) (h:aQ C S a w ρ Fs): ∀(rs:List ResultVar) (xs:List AV),kX tt C.N S rs=some xs-> ∃vs:List Value,(rs.mapM (wO a)).run P w= .ok vs w/\eV (C.env w ρ S.hp S.nx Fs) xs vs
 | [],xs,he=>by
   simp only[kX,Option.some.injEq] at he
   subst he
   exact ⟨[],by simp,trivial⟩
 | .tmp t::rs,xs,he=>by
   simp only[kX] at he
   obtain ⟨h1,he⟩:=ai he
   have h1:t<C.N:=by simpa[Nat.blt_eq] using h1
   split at he
   ·rename_i ys Na
    simp only[Option.some.injEq] at he
    subst he
    obtain ⟨vs,k1,k2⟩:=nY T h rs ys Na
    have:=h.oB t
    simp only[Cx.val,if_pos h1] at this
    exact ⟨a.tmps.getD t undef::vs,by simp[List.mapM_cons,wO,k1],this,k2⟩
   ·cases he
 | .cell p t::rs,xs,he=>by
   simp only[kX] at he
   obtain ⟨h1,he⟩:=ai he
   obtain ⟨h1,iq⟩:=az h1
   have h1:p<C.N:=by simpa[Nat.blt_eq] using h1
   split at he
   ·rename_i id wP
    split at he
    ·rename_i bt cells aj
     obtain ⟨mb,he⟩:=ai he
     have mb:=eq_of_beq mb
     split at he
     ·rename_i ys Na
      simp only[Option.some.injEq] at he
      subst he
      obtain ⟨vs,k1,k2⟩:=nY T h rs ys Na
      have hp:=h.oB p
      simp only[Cx.val,if_pos h1,wP] at hp
      obtain ⟨_,_,b,cap,hρ,hv⟩:=hp
      obtain ⟨b',nr,us,ty,g1,g2,g3,g4⟩:=h.mem.roots id _ aj
      simp only[Cx.env] at hρ g1 g2
      rw[hρ] at g1;cases g1
      obtain ⟨fields,i,d1,d2,d3⟩:=kY T iq
      have hl:=g3.length
      have Le:=kq (P:=P) (w:=w) d1 d2 (a:=⟨b,0,none⟩) (vs:=us.toList) (by rw[d3,<- mb,hl]) (fun j v hj=>by
       rw[dr,bJ g2];simpa using hj)
      unfold Instr.loadAt at Le
      rw[cP (x:=(⟨b,0,none⟩:Addr)) (w':=w) rfl] at Le
      refine ⟨.agg us.toList.toArray::vs,?_,⟨us.toList,rfl,g3⟩,k2⟩
      simp[List.mapM_cons,wO,hv,asAddr,Le,k1]
     ·cases he
    ·cases he
   ·cases he
theorem pc: ∀ {l:List Nat},zc l=true->l.Nodup
 | [],_=>by simp
 |x::l,h=>by
  obtain ⟨h1,h2⟩:=az h
  refine List.nodup_cons.2 ⟨fun hx=> ?_,pc h2⟩
  rw[List.elem_iff.2 hx] at h1
  cases h1
theorem iy.lt (m:fY C S.hp S.nx w ρ Fs) {ks:List Nat} (h:iy S.hp ks): ∀k∈ks,k<S.nx:=fun k hk=>by
 obtain ⟨root,h2,_⟩:=h k hk
 exact cz m h2
theorem zd (h:aQ C S a w ρ Fs): ∀(ms:List Mode) (ts:List Nat) (vs:List Value) (i:Nat),ts.length=vs.length->(∀j v,vs[j]? =some v->C.val a (i+j)=v)->eV (C.env w ρ S.hp S.nx Fs) ((qe i ms ts).map fun p=>S.sl p.2) (eN ms vs)
 | [],ts,vs,i,hl,hv=>by
   have e1:qe i [] ts=[]:=by simp[qe]
   have e2:eN [] vs=[]:=by simp[eN]
   rw[e1,e2];trivial
 |m::ms,[],[],i,hl,hv=>by
  have e1:qe i (m::ms) [] =[]:=by simp[qe]
  have e2:eN (m::ms) [] =[]:=by simp[eN]
  rw[e1,e2];trivial
 |m::ms,[],v::vs,i,hl,hv=>by simp at hl
 |m::ms,t::ts,[],i,hl,hv=>by simp at hl
 |m::ms,t::ts,v::vs,i,hl,hv=>by
  simp only[qe,eN,List.map_append]
  refine eV.append ?_ (zd h ms ts vs (i+1) (by simpa using hl) (fun j u hj=>by have:=hv (j+1) u (by simpa using hj);rwa [show i+(j+1)=i+1+j by omega] at this))
  cases m with
  |io=>
   have:=h.oB i
   have e:=hv 0 v rfl
   rw[Nat.add_zero] at e
   rw[e] at this
   exact ⟨this,trivial⟩
  |_=>trivial
theorem EE {fn:Func} {a:Act} {w:World} {vs:List Value} (h:(fn.results.toList.mapM (wO a)).run P w= .ok vs w):(results fn a.tmps).run P w= .ok (pack vs) w:=by
 have e:(fn.results.mapM (wO a)).run P w= .ok vs.toArray w:=by
  rw[Array.mapM_eq_mapM_toList]
  simp[h]
 have e2:results fn a.tmps=(do let vs <- fn.results.mapM (wO a);pure (if h:vs.size=1 then vs[0] else .tuple vs)):=by
  unfold results
  congr 1
 rw[e2,cP e]
 match vs with
 | []=>rfl
 | [v]=>rfl
 |u::v::vs=>
  have: ¬((u::v::vs).toArray.size=1):=by simp
  simp only[this,dif_neg,not_false_iff]
  try rfl
theorem uB (T:kQ P tt) (h:aQ C S a w ρ Fs) {g:pL} {fn:Func} (hN:C.N=fn.ntmps) {args:List Value} (WQ:C.kv=args) (hlen:g.params.length=args.length) (Hu:fn.results.size=g.results.length) {rs:List DV} (he:finish (R:=List DV) tt g fn S some=some rs):
 ∃v,(results fn a.tmps).run P w= .ok v w/\Ends C g args rs (.returned v) w:=by
 unfold finish at he
 split at he
 ·cases he
 ·rename_i xs vr
  split at he
  ·cases he
  ·rename_i ds ks fk Ud
   simp only[] at he
   split at he
   ·cases he
   ·rename_i tX ks' FI O3
    obtain ⟨oV,he⟩:=ai he
    cases he
    have oV:=pc oV
    rw[<- hN] at vr
    obtain ⟨vs,k1,k2⟩:=nY (P:=P) T h _ xs vr
    obtain ⟨F1,a1,a2,a3⟩:=nV h.mem _ _ _ _ _ _ Ud k2
    have yf:=zd h g.gj g.params args C.N hlen (fun j v hj=>by
     simp only[Cx.val,if_neg (show ¬C.N+j<C.N by omega),Nat.add_sub_cancel_left,WQ]
     simp[List.getD_eq_getElem?_getD,hj])
    rw[hN] at yf
    obtain ⟨F2,b1,b2,b3⟩:=nV h.mem _ _ _ _ _ _ O3 yf
    have RS:=iy.Mm (ks:=ks) (ks':=ks') (io:=fk) (io':=FI) a3 b3
    have fJ:=RS.lt h.mem
    have wG: ∀b,cE Fs (ks++ks') b+cE Fs (fk++FI) b<=ar S.nx Fs b:=fun b=>by
     have:=jM Fs b S.nx oV fJ
     rw[dF] at this
     exact this
    have hF: ∀b,cn F1 F2 b<=cE Fs (ks++ks') b:=fun b=>by
     have:=a2 b;have:=b2 b;rw[dF];simp;omega
    have hle: ∀b,cn F1 F2 b<=ar S.nx Fs b:=fun b=>by have:=hF b;have:=wG b;omega
    have Hs: ∀b,jB (C.Zf w (ar S.nx Fs)) Fs (fk++FI) b->C.Zf w (cn F1 F2) b:=fun b hb=>by
     rcases hb with (hb| ⟨c1,c2,c3⟩)|hb
     ·exact .inl hb
     ·exact .inr ⟨c1,c2,by have:=hle b;omega⟩
     ·have:=wG b
      have:=h.mem.one b
      obtain ⟨o1,o2⟩:=h.mem.nW b (by omega)
      exact .inr ⟨o2,o1,by have:=hF b;omega⟩
    have Mn: ∀b,jB (C.ZL w (ar S.nx Fs)) Fs (fk++FI) b->C.ZL w (cn F1 F2) b:=fun b hb=>by
     rcases hb with (hb|hb)|hb
     ·exact .inl hb
     ·exact .inr (Hs b (.inl hb))
     ·exact .inr (Hs b (.inr hb))
    refine ⟨pack vs,EE k1,vs,cn F1 F2,rfl,?_,h.mem.frame,fun b=>by have:=hle b;have:=h.mem.one b;omega,fun b hb=>h.mem.nW b (by have:=hle b;omega),?_⟩
    ·rw[<- k2.length,<- Hu]
     have: ∀(l:List ResultVar) (xs:List AV),kX tt C.N S l=some xs->xs.length=l.length:=by
      intro l
      induction l with
      |nil=>intro xs hx;simp only[kX,Option.some.injEq] at hx;subst hx;rfl
      |cons r l ih=>
       intro xs hx
       cases r with
       |tmp t=>
        simp only[kX] at hx
        obtain ⟨_,hx⟩:=ai hx
        split at hx
        ·rename_i ys Na;cases hx;simp[ih ys Na]
        ·cases hx
       |cell p t=>
        simp only[kX] at hx
        obtain ⟨_,hx⟩:=ai hx
        split at hx
        ·split at hx
         ·obtain ⟨_,hx⟩:=ai hx
          split at hx
          ·rename_i ys Na;cases hx;simp[ih ys Na]
          ·cases hx
         ·cases hx
        ·cases hx
     rw[this _ _ vr,Array.length_toList]
    ·exact dY.append (a1.grow (fun b hb=>Hs b hb.left) (fun b hb=>Mn b hb.left)) (b1.grow (fun b hb=>Hs b hb.right) (fun b hb=>Mn b hb.right))
end
section
variable {R:Type} {tt:TT}
theorem CQ {k:IntKind} {d:DL} {K:Int->Option R} {r:R} (h:dI k d K=some r): ∃n,d= .i k n/\K n=some r:=by
 cases d with
 |i k' n=>
  simp only[dI] at h
  obtain ⟨h1,h2⟩:=ai h
  have e:k=k':=of_decide_eq_true h1
  subst e;exact ⟨n,rfl,h2⟩
 |_=>cases h
theorem CR {d:DL} {K:Bool->Option R} {r:R} (h:dB d K=some r): ∃x,d= .b x/\K x=some r:=by
 cases d with
 |b x=>exact ⟨x,rfl,h⟩
 |_=>cases h
theorem CS {d:DL} {K:ByteArray->Option R} {r:R} (h:dS d K=some r): ∃x,d= .s x/\K x=some r:=by
 cases d with
 |s x=>exact ⟨x,rfl,h⟩
 |_=>cases h
theorem IE {d:DL} {K:Bool->Option R} {r:R} (h:dE d K=some r): ∃x,d= .er x/\K x=some r:=by
 cases d with
 |er x=>exact ⟨x,rfl,h⟩
 |_=>cases h
theorem pd {oc:kd} {k:IntKind} {d:DL} {K:List Int->Option R} {r:R} (h:uC oc k d K=some r): ∃l,d= .sl oc (.ints k l)/\K l=some r:=by
 unfold uC at h
 split at h
 ·obtain ⟨h1,h2⟩:=ai h
  obtain ⟨h1,h3⟩:=az h1
  have e:=of_decide_eq_true h1
  have e3:=of_decide_eq_true h3
  subst e;subst e3;exact ⟨_,rfl,h2⟩
 ·cases h
theorem qf {oc:kd} {d:DL} {K:List Bool->Option R} {r:R} (h:qg oc d K=some r): ∃l,d= .sl oc (.cx l)/\K l=some r:=by
 unfold qg at h
 split at h
 ·obtain ⟨h1,h2⟩:=ai h
  have e:=of_decide_eq_true h1
  subst e;exact ⟨_,rfl,h2⟩
 ·cases h
theorem tE {oc:kd} {d:DL} {K:List ByteArray->Option R} {r:R} (h:xu oc d K=some r): ∃l,d= .sl oc (.strs l)/\K l=some r:=by
 unfold xu at h
 split at h
 ·obtain ⟨h1,h2⟩:=ai h
  have e:=of_decide_eq_true h1
  subst e;exact ⟨_,rfl,h2⟩
 ·cases h
theorem tF {oc:kd} {d:DL} {K:List (List Int)->Option R} {r:R} (h:xw oc d K=some r): ∃l,d= .sl oc (.rows (decide (oc= .own)) l)/\K l=some r:=by
 unfold xw at h
 split at h
 ·obtain ⟨h1,h2⟩:=ai h
  obtain ⟨h1,h3⟩:=az h1
  have e:=of_decide_eq_true h1
  have e3:=eq_of_beq h3
  subst e;subst e3;exact ⟨_,rfl,h2⟩
 ·cases h
theorem tG {oc:kd} {sg:List Bool} {d:DL} {K:List (List jC)->Option R} {r:R} (h:xx oc sg d K=some r): ∃l,d= .sl oc (.cB sg (decide (oc= .own)) l)/\K l=some r:=by
 unfold xx at h
 split at h
 ·obtain ⟨h1,h2⟩:=ai h
  obtain ⟨h1,h4⟩:=az h1
  obtain ⟨h1,h3⟩:=az h1
  have e:=of_decide_eq_true h1
  have e3:=eq_of_beq h3
  have e4:=eq_of_beq h4
  subst e;subst e3;subst e4;exact ⟨_,rfl,h2⟩
 ·cases h
theorem jD {ds:List DV} {K:DV->List DV->Option R} {r:R} (h:uD ds K=some r): ∃d tX,ds=d::tX/\K d tX=some r:=by
 cases ds with
 |nil=>cases h
 |cons d tX=>exact ⟨d,tX,rfl,h⟩
theorem qM {ds:List DV} {K:Option R} {r:R} (h:Jv ds K=some r):ds=[]/\K=some r:=by
 cases ds with
 |nil=>exact ⟨rfl,h⟩
 |cons d tX=>cases h
theorem pe {ds:List DL} {K:DL->List DL->Option R} {r:R} (h:EF ds K=some r): ∃d tX,ds=d::tX/\K d tX=some r:=by
 cases ds with
 |nil=>cases h
 |cons d tX=>exact ⟨d,tX,rfl,h⟩
theorem qN {ds:List DL} {K:Option R} {r:R} (h:Lf ds K=some r):ds=[]/\K=some r:=by
 cases ds with
 |nil=>exact ⟨rfl,h⟩
 |cons d tX=>cases h
theorem uF {d:DV} {K:DL->Option R} {r:R} (h:dL d K=some r): ∃x,d= .l x/\K x=some r:=by
 cases d with
 |l x=>exact ⟨x,rfl,h⟩
 |_=>cases h
theorem oD {d:DV} {K:List DL->Option R} {r:R} (h:Hv d K=some r): ∃x,d= .ptr x/\K x=some r:=by
 cases d with
 |ptr x=>exact ⟨x,rfl,h⟩
 |_=>cases h
theorem oE {d:DV} {K:List DL->Option R} {r:R} (h:Lg d K=some r): ∃x,d= .agg x/\K x=some r:=by
 cases d with
 |agg x=>exact ⟨x,rfl,h⟩
 |_=>cases h
def EG (oc:kd):DL->Prop
 | .sl c r=>c=oc/\(oc= .own->r.owned=true)
 |_=>True
def EH (oc:kd):DV->Prop
 | .l d=>EG oc d
 | .agg ds=> ∀d∈ds,EG oc d
 | .ptr ds=> ∀d∈ds,EG .eb d
theorem qh {oc:kd} {t e n:Nat} {K:LV->List (Nat×Option aq)->Nat->Option R} {r:R} (my:jd tt t=some e) (row:Row) (hk:(match oc with
 | .own=>K (.own n) [(n,some (.row e 0 row))] (n+1)
 | .eb=>K (.val true row) [] n
 | .aZ=>K (.val false row) [] n)=some r) (ho:oc= .own->row.owned=true): ∃x up n',o9 tt t (.sl oc row) n=some (x,up,n')/\EG oc (.sl oc row)/\K x up n' =some r:=by
 cases oc with
 |own=>exact ⟨_,_,_,by simp only[o9,my],⟨rfl,ho⟩,hk⟩
 |eb=>exact ⟨_,_,_,rfl,⟨rfl,ho⟩,hk⟩
 |aZ=>exact ⟨_,_,_,rfl,⟨rfl,ho⟩,hk⟩
theorem xy {oc:kd} {t:Nat} {d:DL} {n:Nat} {K:LV->List (Nat×Option aq)->Nat->Option R} {r:R} (h:CT tt oc t d n K=some r): ∃x up n',o9 tt t d n=some (x,up,n')/\EG oc d/\K x up n' =some r:=by
 unfold CT at h
 split at h
 ·obtain ⟨z,rfl,h2⟩:=CQ h;exact ⟨_,_,_,rfl,trivial,h2⟩
 ·obtain ⟨z,rfl,h2⟩:=CR h;exact ⟨_,_,_,rfl,trivial,h2⟩
 ·obtain ⟨z,rfl,h2⟩:=CS h;exact ⟨_,_,_,rfl,trivial,h2⟩
 ·obtain ⟨z,rfl,h2⟩:=IE h;exact ⟨_,_,_,rfl,trivial,h2⟩
 ·rename_i e sz bs ht
  have my:jd tt t=some e:=by unfold jd;rw[ht]
  simp only[] at h
  split at h
  ·obtain ⟨l,rfl,h2⟩:=pd h;exact qh my _ h2 (fun _=>rfl)
  ·obtain ⟨l,rfl,h2⟩:=qf h;exact qh my _ h2 (fun _=>rfl)
  ·obtain ⟨l,rfl,h2⟩:=tE h;exact qh my _ h2 (fun _=>rfl)
  ·obtain ⟨l,rfl,h2⟩:=tF h;exact qh my _ h2 (fun e=>by simp[Row.owned,e])
  ·obtain ⟨l,rfl,h2⟩:=tG h;exact qh my _ h2 (fun e=>by simp[Row.owned,e])
  ·cases h
 ·cases h
theorem pf {oc:kd} {r:R}: ∀ {ts:List Nat} {ds:List DL} {n:Nat} {K:List LV->List (Nat×Option aq)->Nat->Option R},yr tt oc ts ds n K=some r-> ∃xs up n',jo tt ts ds n=some (xs,up,n')/\(∀d∈ds,EG oc d)/\K xs up n' =some r
 | [],ds,n,K,h=>by
   obtain ⟨rfl,h0⟩:=qN h
   exact ⟨_,_,_,rfl,by simp,h0⟩
 |t::ts,ds,n,K,h=>by
  obtain ⟨d,tX,rfl,h0⟩:=pe h
  obtain ⟨x,up,n1,h1,c1,h3⟩:=xy h0
  obtain ⟨xs,fh,n2,h2,c2,h4⟩:=pf h3
  exact ⟨_,_,_,by simp only[jo,h1,h2],by simp only[List.mem_cons,forall_eq_or_imp];exact ⟨c1,c2⟩,h4⟩
theorem EI {oc:kd} {t:Nat} {d:DV} {n:Nat} {K:A1->List (Nat×Option aq)->Nat->Option R} {r:R} (h:Hw tt oc t d n K=some r): ∃x up n',ou tt t d n=some (.one x,up,n')/\EH oc d/\K x up n' =some r:=by
 unfold Hw at h
 split at h
 ·obtain ⟨ds,rfl,h0⟩:=oE h
  obtain ⟨xs,up,n',h1,c,h2⟩:=pf h0
  exact ⟨_,_,_,by simp only[ou,h1],c,h2⟩
 ·rename_i e sz bs ht
  obtain ⟨ds,rfl,h0⟩:=oD h
  obtain ⟨xs,up,n',h1,c,h2⟩:=pf h0
  exact ⟨_,_,_,by simp only[ou,ht,h1],c,h2⟩
 ·obtain ⟨d',rfl,h0⟩:=uF h
  obtain ⟨x,up,n',h1,c,h2⟩:=xy h0
  exact ⟨_,_,_,by simp only[ou,h1],c,h2⟩
theorem uG {oc:kd} {r:R}: ∀ {ts:List Nat} {ds:List DV} {n:Nat} {K:List A1->List (Nat×Option aq)->Nat->List DV->Option R},CU tt oc ts ds n K=some r-> ∃N8 K_ xs up n',ds=N8++K_/\fw tt ts N8 n=some (xs.map AV.one,up,n')/\(∀d∈N8,EH oc d)/\K xs up n' K_=some r
 | [],ds,n,K,h=>⟨[],ds,[],[],n,rfl,rfl,by simp,h⟩
 |t::ts,ds,n,K,h=>by
  obtain ⟨d,tX,rfl,h0⟩:=jD h
  obtain ⟨x,up,n1,h1,c1,h3⟩:=EI h0
  obtain ⟨N8,K_,xs,fh,n2,rfl,h2,c2,h4⟩:=uG h3
  exact ⟨d::N8,K_,x::xs,_,_,rfl,by simp only[fw,h1,h2,List.map_cons],by simp only[List.mem_cons,forall_eq_or_imp];exact ⟨c1,c2⟩,h4⟩
section
variable {w:World} {Zf ZL Z:Zs}
theorem jU.mZ {oc:kd} (ho:oc≠ .aZ) {d:DL} (hc:EG oc d) {v:Value} {F:FP} (h:jU w Zf ZL d v F):jU w Zf Z d v F:=by
 cases d with
 |sl c r=>
  obtain ⟨rfl,h2⟩:=hc
  cases c with
  |aZ=>exact absurd rfl ho
  |eb=>exact h
  |own=>
   obtain ⟨q,e1,e2⟩:=h
   refine ⟨q,e1,?_⟩
   rcases e2 with e2| ⟨b,cap,arr,ty,F',g1,g2,g3,g4,g5,g6⟩
   ·exact .inl e2
   ·exact .inr ⟨b,cap,arr,ty,F',g1,g2,g3,g4,qK (qc (h2 rfl)) g5,g6⟩
 |er x=>cases x<;>exact h
 |_=>exact h
theorem i_.mZ {oc:kd} (ho:oc≠ .aZ): ∀ {ds:List DL} {vs:List Value} {F:FP},(∀d∈ds,EG oc d)->i_ w Zf ZL ds vs F->i_ w Zf Z ds vs F
 | [],[],_,_,h=>h
 |d::ds,v::vs,F,hc,⟨F1,F2,h1,h2,h3⟩=>⟨F1,F2,h1.mZ ho (hc d (by simp)),i_.mZ ho (fun d hd=>hc d (by simp[hd])) h2,h3⟩
theorem mV.mZ {oc:kd} (ho:oc≠ .aZ) {d:DV} (hc:EH oc d) {v:Value} {F:FP} (h:mV w Zf ZL d v F):mV w Zf Z d v F:=by
 cases d with
 |l d=>exact jU.mZ ho hc h
 |agg ds=>obtain ⟨vs,e,h⟩:=h;exact ⟨vs,e,i_.mZ ho hc h⟩
 |ptr ds=>obtain ⟨b,vs,ty,F',e1,e2,h,e3⟩:=h;exact ⟨b,vs,ty,F',e1,e2,i_.mZ (oc:= .eb) (by decide) hc h,e3⟩
theorem dY.mZ {oc:kd} (ho:oc≠ .aZ): ∀ {ds:List DV} {vs:List Value} {F:FP},(∀d∈ds,EH oc d)->dY w Zf ZL ds vs F->dY w Zf Z ds vs F
 | [],[],_,_,h=>h
 |d::ds,v::vs,F,hc,⟨F1,F2,h1,h2,h3⟩=>⟨F1,F2,h1.mZ ho (hc d (by simp)),dY.mZ ho (fun d hd=>hc d (by simp[hd])) h2,h3⟩
end
theorem gm: ∀(ms:List Mode) (vs:List Value),pP ms=true->eN ms vs=[]
 | [],_,_=>by simp[eN]
 |m::ms,[],_=>by simp[eN]
 | .io::ms,v::vs,h=>by cases h
 | .oU::ms,v::vs,h=>by simp[eN,gm ms vs h]
 | .Bn::ms,v::vs,h=>by simp[eN,gm ms vs h]
 | .eb::ms,v::vs,h=>by simp[eN,gm ms vs h]
theorem kD.of {E:Env}: ∀ {xs:List A1} {vs:List Value},eV E (xs.map AV.one) vs->kD E xs vs
 | [],[],_=>trivial
 |x::xs,v::vs,h=>⟨h.1,kD.of h.2⟩
theorem Jw {E:Env} {xs:List A1} {vs:List Value} (h:eV E (xs.map AV.one) vs):eE E (IF xs) (pack vs):=by
 match xs,vs,h with
 | [],[],h=>exact ⟨[],rfl,trivial⟩
 | [x],[v],h=>exact h.1
 |x::y::xs,u::v::vs,h=>exact ⟨u::v::vs,rfl,kD.of h⟩
end
section
variable {P:Program} {tt:TT} {C:Cx} {S:St} {a:Act} {w:World} {ρ:Place} {Fs:Nat->FP}
def CV (C:Cx) (S:St) (w:World) (Fs:Nat->FP) (F:FP) (rc:List Nat) (hg:Ground C.P0 w (C.Zf w (ar S.nx Fs))) (h: ∀b,kc C w S.nx Fs rc b\/C.Zf w (ar S.nx Fs) b->b<w.heap.size/\F b=0):Cx:=
 {P0:=C.P0,gnd:=hg,w0:=w,F0:=F,Zl:=kc C w S.nx Fs rc,Zf0:=C.Zf w (ar S.nx Fs),N:=0,kv:=[],good:=h}
theorem fY.old (m:fY C S.hp S.nx w ρ Fs) {b:Nat} (h:C.Zl b\/C.Zf0 b):b<w.heap.size/\ar S.nx Fs b=0:=by
 obtain ⟨g1,g2⟩:=C.good b h
 have:=m.frame.size
 refine ⟨by omega,?_⟩
 rcases Nat.eq_zero_or_pos (ar S.nx Fs b) with e|e
 ·exact e
 ·obtain ⟨_,k⟩:=m.nW b e;omega
theorem jE: ∀ {l m:List Nat},m_ l m=true-> ∀x∈l,x∉m
 | [],m,_,x,hx=>by simp at hx
 |y::l,m,h,x,hx=>by
  obtain ⟨h1,h2⟩:=az h
  rcases List.mem_cons.1 hx with rfl|hx
  ·intro hm;rw[List.elem_iff.2 hm] at h1;cases h1
  ·exact jE h2 x hx
theorem Li (m:fY C S.hp S.nx w ρ Fs) {id b:Nat} (h:1<=Fs id b):id<S.nx:=by
 rcases Nat.lt_or_ge id S.nx with k|k
 ·exact k
 ·rw[m.dead id (m.fresh id k)] at h;simp at h
theorem wQ (m:fY C S.hp S.nx w ρ Fs) {F:FP} {ks rc:List Nat} (hk:ks.Nodup) (fJ: ∀k∈ks,k<S.nx) (hF: ∀b,F b<=cE Fs ks b) (hd: ∀k∈ks,k∉rc): ∀b,kc C w S.nx Fs rc b\/C.Zf w (ar S.nx Fs) b->b<w.heap.size/\F b=0:=by
 intro b hb
 have hle:=jM Fs b S.nx hk fJ
 have Nb:=hF b
 have zf:C.Zf w (ar S.nx Fs) b->b<w.heap.size/\F b=0:=fun h=>by
  rcases h with h| ⟨_,h1,h2⟩
  ·obtain ⟨k1,k2⟩:=m.old (.inr h);exact ⟨k1,by omega⟩
  ·exact ⟨h1,by omega⟩
 rcases hb with (hb| ⟨id,hid,hb⟩)|hb
 ·rcases hb with hb|hb
  ·obtain ⟨k1,k2⟩:=m.old (.inl hb);exact ⟨k1,by omega⟩
  ·exact zf hb
 ·have hi:=Li m hb
  have h1:=oF Fs b S.nx hk fJ hi (fun h=>hd id h hid)
  have h2:=m.one b
  have h3:=m.nW b (by have:=iz Fs b hi;omega)
  exact ⟨h3.1,by omega⟩
 ·exact zf hb
theorem pg (hp:Nat->Option aq) (oc:kd) (rc:List Nat):eA hp (kZ oc rc)=kill hp (match oc with| .aZ=>rc|_=>[]):=by
 cases oc with
 |aZ=>exact lV hp rc
 |_=>funext j;simp[kZ,eA,kill]
def uH (oc:kd) (ks rc:List Nat):List Nat:=ks++(match oc with| .aZ=>rc|_=>[])
theorem wR (hp:Nat->Option aq) (ks ls:List Nat):kill (kill hp ks) ls=kill hp (ks++ls):=by
 funext j
 simp only[je,List.mem_append]
 by_cases h1:j∈ls<;>by_cases h2:j∈ks<;>simp[h1,h2]
def na (n n':Nat) (up:List (Nat×Option aq)):Prop:=n<=n' /\(∀p∈up,n<=p.1/\p.1<n')/\ ∀j,n<=j->j<n'-> ∃p∈up,p.1=j
theorem na.nil (n:Nat):na n n []:=⟨Nat.le_refl _,by simp,fun j h1 h2=>by omega⟩
theorem na.join {n m n':Nat} {up fh:List (Nat×Option aq)} (h:na n m up) (h':na m n' fh):na n n' (up++fh):=by
 obtain ⟨a1,a2,a3⟩:=h
 obtain ⟨b1,b2,b3⟩:=h'
 refine ⟨by omega,fun p hp=> ?_,fun j h1 h2=> ?_⟩
 ·rcases List.mem_append.1 hp with hp|hp
  ·have:=a2 p hp;omega
  ·have:=b2 p hp;omega
 ·rcases Nat.lt_or_ge j m with k|k
  ·obtain ⟨p,hp,e⟩:=a3 j h1 k;exact ⟨p,by simp[hp],e⟩
  ·obtain ⟨p,hp,e⟩:=b3 j k h2;exact ⟨p,by simp[hp],e⟩
theorem uI {tt:TT} {t n n':Nat} {d:DL} {x:LV} {up:List (Nat×Option aq)} (hi:o9 tt t d n=some (x,up,n')):na n n' up:=by
 cases d with
 |sl c r=>
  cases c with
  |own=>
   simp only[o9] at hi
   split at hi
   ·cases hi
    exact ⟨by omega,by simp,fun j h1 h2=>⟨_,List.mem_singleton.2 rfl,by show n=j;omega⟩⟩
   ·cases hi
  |_=>cases hi;exact na.nil _
 |_=>cases hi;exact na.nil _
theorem nZ {tt:TT}: ∀(ts:List Nat) (ds:List DL) (n n':Nat) (xs:List LV) (up:List (Nat×Option aq)),jo tt ts ds n=some (xs,up,n')->na n n' up
 | [],[],n,n',xs,up,hi=>by cases hi;exact na.nil _
 | [],_::_,_,_,_,_,hi=>by simp[jo] at hi
 |_::_,[],_,_,_,_,hi=>by simp[jo] at hi
 |t::ts,d::ds,n,n',xs,up,hi=>by
  simp only[jo] at hi
  split at hi
  ·rename_i x M9 m h1
   split at hi
   ·rename_i ys Tt n2 h2
    cases hi
    exact (uI h1).join (nZ ts ds _ _ _ _ h2)
   ·cases hi
  ·cases hi
theorem EJ {tt:TT} {t n n':Nat} {d:DV} {x:A1} {up:List (Nat×Option aq)} {oc:kd} (hc:EH oc d) (hi:ou tt t d n=some (.one x,up,n')):na n n' up:=by
 cases d with
 |l d=>
  simp only[ou] at hi
  split at hi
  ·rename_i y M9 m h1;cases hi;exact uI h1
  ·cases hi
 |agg ds=>
  simp only[ou] at hi
  split at hi
  ·rename_i ys M9 m h1;cases hi;exact nZ _ _ _ _ _ _ h1
  ·cases hi
 |ptr ds=>
  simp only[ou] at hi
  split at hi
  ·split at hi
   ·rename_i ys M9 m h1
    cases hi
    obtain ⟨k1,k2,k3⟩:=nZ _ _ _ _ _ _ h1
    refine ⟨by omega,fun p hp=> ?_,fun j h1 h2=> ?_⟩
    ·rcases List.mem_append.1 hp with hp|hp
     ·have:=k2 p hp;omega
     ·simp at hp;subst hp;simp;omega
    ·rcases Nat.eq_or_lt_of_le h1 with e|e
     ·exact ⟨_,List.mem_append_right _ (List.mem_singleton.2 rfl),e⟩
     ·obtain ⟨p,hp,e⟩:=k3 j e h2
      exact ⟨p,by simp[hp],e⟩
   ·cases hi
  ·cases hi
theorem mz {tt:TT} {oc:kd}: ∀(ts:List Nat) (ds:List DV) (n n':Nat) (xs:List A1) (up:List (Nat×Option aq)),(∀d∈ds,EH oc d)->fw tt ts ds n=some (xs.map AV.one,up,n')->na n n' up
 | [],[],n,n',xs,up,_,hi=>by
   simp only[fw,Option.some.injEq,Prod.mk.injEq] at hi
   obtain ⟨_,rfl,rfl⟩:=hi
   exact na.nil _
 | [],_::_,_,_,_,_,_,hi=>by simp[fw] at hi
 |_::_,[],_,_,_,_,_,hi=>by simp[fw] at hi
 |t::ts,d::ds,n,n',xs,up,hc,hi=>by
  simp only[fw] at hi
  split at hi
  ·rename_i x M9 m h1
   split at hi
   ·rename_i ys Tt n2 h2
    simp only[Option.some.injEq,Prod.mk.injEq] at hi
    obtain ⟨e1,rfl,rfl⟩:=hi
    cases xs with
    |nil=>simp at e1
    |cons y zs=>
     simp only[List.map_cons,List.cons.injEq] at e1
     obtain ⟨rfl,rfl⟩:=e1
     exact (EJ (hc d (by simp)) h1).join (mz ts ds _ _ _ _ (fun d hd=>hc d (by simp[hd])) h2)
   ·cases hi
  ·cases hi
theorem ze: ∀(up:List (Nat×Option aq)) {hp hp':Nat->Option aq} {j:Nat},(∃p∈up,p.1=j)->eA hp up j=eA hp' up j:=by
 intro up
 induction up with
 |nil=>rintro hp hp' j ⟨p,h,_⟩;simp at h
 |cons p up ih=>
  rintro hp hp' j ⟨q,h,e⟩
  obtain ⟨i,r⟩:=p
  simp only[eA]
  rcases List.mem_cons.1 h with rfl|h
  ·simp only[] at e
   subst e
   exact y8 _ (by simp)
  ·exact ih ⟨q,h,e⟩
theorem A3 (Fs:Nat->FP) (kl:List Nat) (b:Nat) {n id:Nat} (hid:id<n) (hk:id∈kl):ar n (cS Fs kl) b+Fs id b<=ar n Fs b:=by
 have h1:=en (cS Fs kl) (Fs id) b hid
 have h2:cS Fs kl id=fz:=by simp[cS,hk]
 rw[h2] at h1
 have h3: ∀m,ar m (eU (cS Fs kl) id (Fs id)) b<=ar m Fs b:=fun m=>by
  induction m with
  |zero=>exact Nat.le_refl _
  |succ m ih=>
   have:eU (cS Fs kl) id (Fs id) m b<=Fs m b:=by
    unfold eU
    split
    ·rename_i e;subst e;exact Nat.le_refl _
    ·exact Nc Fs kl m b
   simp only[ar,CW];omega
 have:=h3 n
 simp at h1
 omega
def CX (w':World) (Zf ZL:Zs) (q:Option (Nat×Nat)):aq->aq->FP->Prop
 | .row e ver r0,.row e' sw r1,F=>e' =e/\sw=ver+1/\r1.len=r0.len/\r1.size=r0.size/\(∀f,r1.jA f=r0.jA f)/\r1.owned=true/\fN w' ZL q r1.cells r1.len r1.size F
 | .box _ _,.box _ c1,F=> ∃b cap vs ty,q=some (b,cap)/\w'.heap[b]? =some (.cells vs ty (0,0))/\(∀E:Env,E.w=w'->(∀b,Zf b->E.Zf b)->aY E c1 vs.toList)/\F=f1 b
 |_,_,_=>False
theorem CX.BM {w':World} {Zf ZL:Zs} {q:Option (Nat×Nat)} {root a_:aq} {F:FP} (h:CX w' Zf ZL q root a_ F):root.BM:=by
 cases root<;>first|trivial| (cases a_<;>exact h.elim)
structure jF (C:Cx) (S:St) (w:World) (ρ:Place) (w':World) (Zf ZL:Zs) (ids:List Nat) (up:List (Nat×Option aq)) (F:FP) (Gk:Nat->FP):Prop where
 out: ∀j,j∉ids->Gk j=fz
 sum: ∀b,ar S.nx Gk b=F b
 keys: ∀p∈up,p.1∈ids
 roots: ∀id∈ids,∃root a_,S.hp id=some root/\(∀hp,eA hp up id=some a_)/\CX w' Zf ZL (ρ id) root a_ (Gk id)
theorem jF.nil {w':World} {Zf ZL:Zs}:jF C S w ρ w' Zf ZL [] [] fz (fun _=>fz):=
 ⟨fun _ _=>rfl,fun b=>qa _ b _ (fun _ _=>rfl),by simp,by simp⟩
theorem jF.join {w':World} {Zf ZL:Zs} {ids Lj:List Nat} {up fh:List (Nat×Option aq)} {F F':FP} {Gk Tu:Nat->FP} (h:jF C S w ρ w' Zf ZL ids up F Gk) (h':jF C S w ρ w' Zf ZL Lj fh F' Tu) (oV:(ids++Lj).Nodup):jF C S w ρ w' Zf ZL (ids++Lj) (up++fh) (cn F F') (fun j=>cn (Gk j) (Tu j)):=by
 obtain ⟨n1,n2,n3⟩:=List.nodup_append.1 oV
 refine ⟨fun j hj=> ?_,fun b=> ?_,fun p hp=> ?_,fun id hid=> ?_⟩
 ·have h1:j∉ids:=fun hh=>hj (by simp[hh])
  have h2:j∉Lj:=fun hh=>hj (by simp[hh])
  rw[h.out j h1,h'.out j h2,b_]
 ·rw[qJ,h.sum,h'.sum];rfl
 ·rcases List.mem_append.1 hp with hp|hp
  ·simp[h.keys p hp]
  ·simp[h'.keys p hp]
 ·rcases List.mem_append.1 hid with hi|hi
  ·have A4:id∉Lj:=fun hh=>n3 id hi id hh rfl
   obtain ⟨root,a_,g1,g2,g3⟩:=h.roots id hi
   refine ⟨root,a_,g1,fun hp=> ?_,by rw[h'.out id A4,b_];exact g3⟩
   rw[bE,eS _ _ (fun p hp e2=>A4 (by rw[<- e2];exact h'.keys p hp))]
   exact g2 hp
  ·have A4:id∉ids:=fun hh=>n3 id hh id hi rfl
   obtain ⟨root,a_,g1,g2,g3⟩:=h'.roots id hi
   refine ⟨root,a_,g1,fun hp=> ?_,by rw[h.out id A4,gV];exact g3⟩
   rw[bE]
   exact g2 _
theorem Nd {q q':Option (Nat×Nat)} {n n':Nat} (h:hdr q n=hdr q' n') (h0:q=none->n=0) (Qf:q' =none->n' =0):q=q' /\n=n':=by
 cases q with
 |none=>cases q' with
  |none=>exact ⟨rfl,by rw[h0 rfl,Qf rfl]⟩
  |some p=>obtain ⟨b,c⟩:=p;simp[hdr] at h
 |some p=>
  obtain ⟨b,c⟩:=p
  cases q' with
  |none=>simp[hdr] at h
  |some p'=>
   obtain ⟨b',c'⟩:=p'
   simp only[hdr,Value.slice.injEq,Option.some.injEq,Addr.mk.injEq] at h
   obtain ⟨⟨rfl,_⟩,rfl,rfl⟩:=h
   exact ⟨rfl,rfl⟩
theorem fN.IG {w:World} {Z:Zs} {q:Option (Nat×Nat)} {cs:List Cell} {len size:Nat} {F:FP} (h:fN w Z q cs len size F) (hq:q=none):len=0:=by
 rcases h with h| ⟨b,cap,arr,ty,F',g1,_⟩
 ·exact h.2.1
 ·rw[hq] at g1;cases g1
theorem fN.Ue {w:World} {Z Z':Zs} {q:Option (Nat×Nat)} {r:Row} {F:FP} (h:fN w Z q r.cells r.len r.size F) (ho:r.owned=true):fN w Z' q r.cells r.len r.size F:=by
 rcases h with h| ⟨b,cap,arr,ty,F',g1,g2,g3,g4,g5,g6⟩
 ·exact .inl h
 ·exact .inr ⟨b,cap,arr,ty,F',g1,g2,g3,g4,qK (qc ho) g5,g6⟩
theorem sK {R:Type} {r:R} (m:fY C S.hp S.nx w ρ Fs) {w':World} {Zf ZL:Zs} {x:LV} {d:DL} {v:Value} {F:FP} {K:List (Nat×Option aq)->Option R} (hx:dD (C.env w ρ S.hp S.nx Fs) x v) (hd:jU w' Zf ZL d v F) (h:gD S.hp x d K=some r):
 ∃up Gk,K up=some r/\jF C S w ρ w' Zf ZL (pC x) up F Gk:=by
 have plain:F=fz->pC x=[]->K [] =some r-> ∃up Gk,K up=some r/\jF C S w ρ w' Zf ZL (pC x) up F Gk:=fun h1 h2 h3=>by
  subst h1;rw[h2];exact ⟨[],_,h3,jF.nil⟩
 cases x with
 |i k n=>
  have hx:v= .int k n:=hx
  subst hx
  refine plain ?_ rfl h
  cases d with
  |i k' n'=>exact hd.2
  |b z=>exact hd.2
  |s z=>exact hd.2
  |er z=>cases z<;>exact hd.2
  |sl c r=>
   cases c with
   |eb=>exact hd.2
   |aZ=>exact hd.2
   |own=>obtain ⟨q,e,_⟩:=hd;cases q<;>cases e
 |b z=>
  have hx:v= .bool z:=hx
  subst hx
  refine plain ?_ rfl h
  cases d with
  |i k' n'=>exact hd.2
  |b z=>exact hd.2
  |s z=>exact hd.2
  |er z=>cases z<;>exact hd.2
  |sl c r=>
   cases c with
   |eb=>exact hd.2
   |aZ=>exact hd.2
   |own=>obtain ⟨q,e,_⟩:=hd;cases q<;>cases e
 |s z=>
  have hx:v= .string z:=hx
  subst hx
  refine plain ?_ rfl h
  cases d with
  |i k' n'=>exact hd.2
  |b z=>exact hd.2
  |s z=>exact hd.2
  |er z=>cases z<;>exact hd.2
  |sl c r=>
   cases c with
   |eb=>exact hd.2
   |aZ=>exact hd.2
   |own=>obtain ⟨q,e,_⟩:=hd;cases q<;>cases e
 |er z=>
  refine plain ?_ rfl h
  cases d with
  |i k' n'=>exact hd.2
  |b z=>exact hd.2
  |s z=>exact hd.2
  |er z=>cases z<;>exact hd.2
  |sl c r=>
   cases c with
   |eb=>exact hd.2
   |aZ=>exact hd.2
   |own=>
    obtain ⟨q,e,_⟩:=hd
    cases z with
    |true=>have hx:v= .nilIface:=hx;subst hx;cases q<;>cases e
    |false=>obtain ⟨t,y,hx⟩:=(show ∃t x,v= .iface t x from hx);subst hx;cases q<;>cases e
 |nil=>
  have hx:v= .slice none 0 0:=hx
  subst hx
  refine plain ?_ rfl h
  cases d with
  |i k' n'=>exact hd.2
  |b z=>exact hd.2
  |s z=>exact hd.2
  |er z=>cases z<;>exact hd.2
  |sl c r=>
   cases c with
   |eb=>exact hd.2
   |aZ=>exact hd.2
   |own=>
    obtain ⟨q,e,hr⟩:=hd
    cases q with
    |some p=>obtain ⟨b,c⟩:=p;simp[hdr] at e
    |none=>
     rcases hr with hr| ⟨b,cap,arr,ty,F',g1,_⟩
     ·exact hr.2.2
     ·cases g1
 |own id=>
  obtain ⟨fJ,hx⟩:=hx
  have fJ:id<S.nx:=fJ
  have fin: ∀(e ver:Nat) (r0 r1:Row),S.hp id=some (.row e ver r0)->d= .sl .own r1->r1.size=r0.size->(∀f,r1.jA f=r0.jA f)->r1.owned=true->K [(id,some (.row e (ver+1) r1))] =some r-> ∃up Gk,K up=some r/\jF C S w ρ w' Zf ZL (pC (.own id)) up F Gk:=fun e ver r0 r1 hr Jx hs wP WR hK=>by
   subst Jx
   obtain ⟨q,hv,Jy⟩:=hd
   obtain ⟨r',e1,e2⟩:=hx _ hr
   cases e1
   have h0:=m.roots id _ hr
   have Qf:fN w (C.ZL w (ar S.nx Fs)) (ρ id) r0.cells r0.len r0.size (Fs id):=h0
   obtain ⟨rfl,hlen⟩:=Nd (e2.symm.trans hv) (fun hq=>Qf.IG hq) (fun hq=>Jy.IG hq)
   refine ⟨_,eU (fun _=>fz) id F,hK,fun j hj=> ?_,fun b=> ?_,?_,?_⟩
   ·exact cN _ _ (fun e=>hj (by simp[pC,e]))
   ·have:=en (fun _=>fz) F b fJ
    rw[qa _ b _ (fun _ _=>rfl)] at this
    simpa using this
   ·simp[pC]
   ·intro i hi
    simp only[pC,List.mem_singleton] at hi
    subst hi
    exact ⟨_,.row e (ver+1) r1,hr,fun hp=>by rw[eT,if_pos rfl],rfl,rfl,hlen.symm,hs,wP,WR,by rw[fV];exact Jy⟩
  simp only[gD] at h
  split at h
  ·rename_i e ver k l hr
   obtain ⟨l',Jx,hK⟩:=pd h
   exact fin _ _ _ _ hr Jx rfl (fun _=>rfl) rfl hK
  ·rename_i e ver l hr
   obtain ⟨l',Jx,hK⟩:=qf h
   exact fin _ _ _ _ hr Jx rfl (fun _=>rfl) rfl hK
  ·rename_i e ver l hr
   obtain ⟨l',Jx,hK⟩:=tE h
   exact fin _ _ _ _ hr Jx rfl (fun _=>rfl) rfl hK
  ·rename_i e ver l hr
   obtain ⟨l',Jx,hK⟩:=tF h
   exact fin _ _ _ _ hr Jx rfl (fun _=>rfl) rfl hK
  ·rename_i e ver sg l hr
   obtain ⟨l',Jx,hK⟩:=tG h
   exact fin _ _ _ _ hr Jx rfl (fun _=>rfl) rfl hK
  ·cases h
 |_=>cases h
theorem qi {R:Type} {r:R} (m:fY C S.hp S.nx w ρ Fs) {w':World} {Zf ZL:Zs}: ∀ {xs:List LV} {ds:List DL} {vs:List Value} {F:FP} {K:List (Nat×Option aq)->Option R},aY (C.env w ρ S.hp S.nx Fs) xs vs->i_ w' Zf ZL ds vs F->fb S.hp xs ds K=some r->(xs.flatMap pC).Nodup->
 ∃up Gk,K up=some r/\jF C S w ρ w' Zf ZL (xs.flatMap pC) up F Gk
 | [],ds,[],F,K,_,hd,h,_=>by
   obtain ⟨rfl,hK⟩:=qN h
   have:F=fz:=hd
   subst this
   exact ⟨[],_,hK,jF.nil⟩
 |x::xs,ds,v::vs,F,K,hx,hd,h,oV=>by
  obtain ⟨d,tX,rfl,h1⟩:=pe h
  obtain ⟨F1,F2,d1,d2,rfl⟩:=hd
  obtain ⟨up,Gk,h2,b1⟩:=sK m hx.1 d1 h1
  rw[List.flatMap_cons] at oV ⊢
  obtain ⟨fh,Tu,h3,b2⟩:=qi m hx.2 d2 h2 (List.nodup_append.1 oV).2.1
  exact ⟨_,_,h3,b1.join b2 oV⟩
theorem A5 {R:Type} {r:R} {E:Env} {w':World} {Zf ZL:Zs} {x:LV} {d:DL} {v:Value} {F:FP} {K:LV->Option R} (hd:jU w' Zf ZL d v F) (h:lW x d K=some r):
 ∃y,K y=some r/\F=fz/\ ∀E:Env,E.w=w'->(∀b,Zf b->E.Zf b)->dD E y v:=by
 unfold lW at h
 split at h
 ·obtain ⟨n,rfl,h1⟩:=CQ h
  exact ⟨_,h1,hd.2,fun _ _ _=>hd.1⟩
 ·obtain ⟨n,rfl,h1⟩:=CR h
  exact ⟨_,h1,hd.2,fun _ _ _=>hd.1⟩
 ·obtain ⟨n,rfl,h1⟩:=CS h
  exact ⟨_,h1,hd.2,fun _ _ _=>hd.1⟩
 ·obtain ⟨n,rfl,h1⟩:=pd h
  exact ⟨_,h1,hd.2,fun E hw hz=>by show ea E.w E.Zf _ v;rw[hw];exact hd.1.grow hz⟩
 ·cases h
theorem qj {R:Type} {r:R} {w':World} {Zf ZL:Zs}: ∀ {xs:List LV} {ds:List DL} {vs:List Value} {F:FP} {K:List LV->Option R},i_ w' Zf ZL ds vs F->lA xs ds K=some r->
 ∃ys,K ys=some r/\F=fz/\ ∀E:Env,E.w=w'->(∀b,Zf b->E.Zf b)->aY E ys vs
 | [],ds,vs,F,K,hd,h=>by
   obtain ⟨rfl,h1⟩:=qN h
   cases vs with
   |nil=>exact ⟨_,h1,hd,fun _ _ _=>trivial⟩
   |cons v vs=>exact hd.elim
 |x::xs,ds,vs,F,K,hd,h=>by
  obtain ⟨d,tX,rfl,h1⟩:=pe h
  cases vs with
  |nil=>exact hd.elim
  |cons v vs=>
   obtain ⟨F1,F2,d1,d2,rfl⟩:=hd
   obtain ⟨y,h2,rfl,r1⟩:=A5 (E:=⟨w',Zf,ZL,fun _=>none,fun _=>none,0⟩) d1 h1
   obtain ⟨ys,h3,rfl,r2⟩:=qj d2 h2
   exact ⟨_,h3,b_ _,fun E hw hz=>⟨r1 E hw hz,r2 E hw hz⟩⟩
theorem CY {R:Type} {r:R} (m:fY C S.hp S.nx w ρ Fs) {w':World} {Zf ZL:Zs} {id:Nat} {d:DV} {v:Value} {F:FP} {K:List (Nat×Option aq)->Option R} (hx:dD (C.env w ρ S.hp S.nx Fs) (.eJ id 0) v) (hd:mV w' Zf ZL d v F) (h:qO S.hp id d K=some r):
 ∃up Gk,K up=some r/\jF C S w ρ w' Zf ZL [id] up F Gk:=by
 obtain ⟨ds,rfl,h1⟩:=oD h
 split at h1
 ·rename_i t cells aj
  obtain ⟨fJ,_,b,cap,hρ,rfl⟩:=hx
  have fJ:id<S.nx:=fJ
  have hρ:ρ id=some (b,cap):=hρ
  obtain ⟨b',vs,ty,F',e1,e2,hd,rfl⟩:=hd
  simp only[Value.pointer.injEq,Option.some.injEq,Addr.mk.injEq] at e1
  obtain ⟨rfl,_⟩:=e1
  obtain ⟨cs,h2,rfl,np⟩:=qj hd h1
  refine ⟨_,eU (fun _=>fz) id (f1 b),h2,fun j hj=>cN _ _ (fun e=>hj (by simp[e])),fun b'=> ?_,by simp,fun i hi=> ?_⟩
  ·have:=en (fun _=>fz) (f1 b) b' fJ
   rw[qa _ b' _ (fun _ _=>rfl)] at this
   rw[b_]
   simpa using this
  ·simp only[List.mem_singleton] at hi
   subst hi
   exact ⟨_,.box t cs,aj,fun hp=>by rw[eT,if_pos rfl],b,cap,vs,ty,hρ,e2,np,fV ..⟩
 ·cases h1
theorem EK {R:Type} {r:R} (m:fY C S.hp S.nx w ρ Fs) {w':World} {Zf ZL:Zs} {x:AV} {d:DV} {v:Value} {F:FP} {K:List (Nat×Option aq)->Option R} (hx:eE (C.env w ρ S.hp S.nx Fs) x v) (hd:mV w' Zf ZL d v F) (h:k0 S.hp x d K=some r) (oV:(BP x).Nodup):
 ∃up Gk,K up=some r/\jF C S w ρ w' Zf ZL (BP x) up F Gk:=by
 match x,h with
 | .one (.l x),h=>
   simp only[k0] at h
   split at h
   ·rename_i id hid
    obtain rfl:=tB hid
    exact CY m hx hd h
   ·rename_i hid
    obtain ⟨d',rfl,h1⟩:=uF h
    have e:BP (.one (.l x))=pC x:=by simp only[BP,hid]
    rw[e]
    exact sK m hx hd h1
 | .one (.agg xs),h=>
   obtain ⟨ds,rfl,h1⟩:=oE h
   obtain ⟨vs,rfl,hx⟩:=hx
   obtain ⟨xV,e,hd⟩:=hd
   have:vs=xV:=by simpa using e
   subst this
   exact qi m hx hd h1 oV
theorem nb {R:Type} {r:R} (m:fY C S.hp S.nx w ρ Fs) {w':World} {Zf ZL:Zs}: ∀ {ms:List Mode} {xs:List AV} {ds:List DV} {vs:List Value} {F:FP} {K:List (Nat×Option aq)->Option R},eV (C.env w ρ S.hp S.nx Fs) xs vs->dY w' Zf ZL ds (eN ms vs) F->iA S.hp ms xs ds K=some r->(jW ms xs).Nodup->
 ∃up Gk,K up=some r/\jF C S w ρ w' Zf ZL (jW ms xs) up F Gk
 | [],xs,ds,vs,F,K,hx,hd,h,oV=>by
   obtain ⟨rfl,hK⟩:=qM (show Jv ds (K [])=some r by simpa[iA] using h)
   have e:eN [] vs=[]:=by simp[eN]
   rw[e] at hd
   have:F=fz:=hd
   subst this
   exact ⟨[],_,hK,by simpa[jW] using jF.nil⟩
 |md::ms,[],ds,[],F,K,hx,hd,h,oV=>by
  have h:Jv ds (K [])=some r:=by cases md<;>simpa[iA] using h
  obtain ⟨rfl,hK⟩:=qM h
  have e:eN (md::ms) [] =[]:=by simp[eN]
  rw[e] at hd
  have:F=fz:=hd
  subst this
  have e2:jW (md::ms) [] =[]:=by cases md<;>simp[jW]
  exact ⟨[],_,hK,by rw[e2];exact jF.nil⟩
 | .io::ms,x::xs,ds,v::vs,F,K,hx,hd,h,oV=>by
   simp only[iA] at h
   obtain ⟨d,tX,rfl,h1⟩:=jD h
   have e:eN (.io::ms) (v::vs)=v::eN ms vs:=by simp[eN]
   rw[e] at hd
   obtain ⟨F1,F2,d1,d2,rfl⟩:=hd
   have e2:jW (.io::ms) (x::xs)=BP x++jW ms xs:=by simp[jW]
   rw[e2] at oV ⊢
   obtain ⟨up,Gk,h2,b1⟩:=EK m hx.1 d1 h1 (List.nodup_append.1 oV).1
   obtain ⟨fh,Tu,h3,b2⟩:=nb m hx.2 d2 h2 (List.nodup_append.1 oV).2.1
   exact ⟨_,_,h3,b1.join b2 oV⟩
 | .oU::ms,x::xs,ds,v::vs,F,K,hx,hd,h,oV=>by
   simp only[iA] at h
   have e:eN (.oU::ms) (v::vs)=eN ms vs:=by simp[eN]
   rw[e] at hd
   have e2:jW (.oU::ms) (x::xs)=jW ms xs:=by simp[jW]
   rw[e2] at oV ⊢
   exact nb m hx.2 hd h oV
 | .Bn::ms,x::xs,ds,v::vs,F,K,hx,hd,h,oV=>by
   simp only[iA] at h
   have e:eN (.Bn::ms) (v::vs)=eN ms vs:=by simp[eN]
   rw[e] at hd
   have e2:jW (.Bn::ms) (x::xs)=jW ms xs:=by simp[jW]
   rw[e2] at oV ⊢
   exact nb m hx.2 hd h oV
 | .eb::ms,x::xs,ds,v::vs,F,K,hx,hd,h,oV=>by
   simp only[iA] at h
   have e:eN (.eb::ms) (v::vs)=eN ms vs:=by simp[eN]
   rw[e] at hd
   have e2:jW (.eb::ms) (x::xs)=jW ms xs:=by simp[jW]
   rw[e2] at oV ⊢
   exact nb m hx.2 hd h oV
theorem dY.split {w:World} {Zf ZL:Zs}: ∀ {ds es:List DV} {us vs:List Value} {F:FP},ds.length=us.length->dY w Zf ZL (ds++es) (us++vs) F-> ∃F1 F2,dY w Zf ZL ds us F1/\dY w Zf ZL es vs F2/\F=cn F1 F2
 | [],es,[],vs,F,_,h=>⟨fz,F,rfl,h,(gV F).symm⟩
 |d::ds,es,u::us,vs,F,hl,h=>by
  obtain ⟨F1,F2,h1,h2,rfl⟩:=h
  obtain ⟨G1,G2,g1,g2,rfl⟩:=dY.split (by simpa using hl) h2
  exact ⟨cn F1 G1,G2,⟨F1,G1,h1,g1,rfl⟩,g2,(pb ..).symm⟩
theorem zg {tt:TT}: ∀(ts:List Nat) (ds:List DV) (n:Nat) {xs:List AV} {up:List (Nat×Option aq)} {n':Nat},fw tt ts ds n=some (xs,up,n')->xs.length=ts.length/\ds.length=ts.length
 | [],[],n,xs,up,n',h=>by simp only[fw,Option.some.injEq,Prod.mk.injEq] at h;obtain ⟨rfl,_⟩:=h;exact ⟨rfl,rfl⟩
 | [],_::_,_,_,_,_,h=>by simp[fw] at h
 |_::_,[],_,_,_,_,h=>by simp[fw] at h
 |t::ts,d::ds,n,xs,up,n',h=>by
  simp only[fw] at h
  split at h
  ·split at h
   ·rename_i h2
    cases h
    obtain ⟨k1,k2⟩:=zg ts ds _ h2
    exact ⟨by simp[k1],by simp[k2]⟩
   ·cases h
  ·cases h
theorem Jz {R:Type} {r:R} (h:aQ C S a w ρ Fs) {g:pL} {F:FP} {ks io rc:List Nat} {args:List Value} {ax:List AV} (Qg:eV (C.env w ρ S.hp S.nx Fs) ax args) (yf:io=jW g.gj ax) (hk:(ks++io).Nodup) (sA:iy S.hp (ks++io)) (hF: ∀b,F b<=cE Fs (ks++io) b) (hd: ∀k∈ks++io,k∉rc)
 {rs tH:List DV} {xs:List A1} {up:List (Nat×Option aq)} {n n':Nat} (JA:fw tt g.results rs n=some (xs.map AV.one,up,n')) (sB: ∀d∈rs,EH g.oc d) (hn:n' <=S.nx) (hg: ∀k,n<=k->k<n'->S.hp k=some .dH)
 {K:List (Nat×Option aq)->Option R} (hK:iA S.hp g.gj ax tH K=some r)
 {e:Ending} {w':World} (he:Ends (CV C S w Fs F rc (h.mem.ground _) (wQ h.mem hk (sA.lt h.mem) hF hd)) g args (rs++tH) e w'):
 ∃v ρ' Fs' fh,e= .returned v/\K fh=some r/\(∀p∈fh,p.1∈io)/\(∀b,b<w.heap.size->F b=0->w'.heap[b]? =w.heap[b]?)/\(∀id,id<S.nx->(∀root,S.hp id=some root->root.real)->ρ' id=ρ id)/\(∀id root a_,S.hp id=some root->root.real->id∉io->eA S.hp (cF ks++kZ g.oc rc++up++fh) id=some a_->Fs' id=Fs id)/\
  (∀id∈io,∃root a_,S.hp id=some root/\(∀hp,eA hp fh id=some a_)/\ ∀e ver r0,root= .row e ver r0-> ∃r1,a_= .row e (ver+1) r1/\r1.len=r0.len)/\
  aQ C ⟨S.sl,eA S.hp (cF ks++kZ g.oc rc++up++fh),S.nx⟩ a w' ρ' Fs' /\eE (C.env w' ρ' (eA S.hp (cF ks++kZ g.oc rc++up++fh)) S.nx Fs') (IF xs) v:=by
 obtain ⟨vs,F',he,hlen,FG,ke,BQ,hrel⟩:=he
 have fJ:=sA.lt h.mem
 have EL:=wQ h.mem hk fJ hF hd
 generalize Lk:ks++io=kg at*
 generalize Uf:uH g.oc kg rc=kl
 obtain ⟨WS,RT,GX⟩:=mz _ _ _ _ _ _ sB JA
 have Ll: ∀k∈kg,k∈kl:=fun k hk=>by rw[<- Uf];simp[uH,hk]
 have Lm: ∀k∈io,k∈kg:=fun k hk=>by rw[<- Lk];simp[hk]
 have mb:w.heap.size<=w'.heap.size:=FG.size
 have Vw: ∀b,b<w.heap.size->F b=0->w'.heap[b]? =w.heap[b]? :=fun b h1 h2=>FG.block b h1 h2
 have BQ: ∀b,1<=F' b->b<w'.heap.size/\(w.heap.size<=b\/1<=F b):=BQ
 have Tv: ∀b,ar S.nx (cS Fs kl) b+F b<=ar S.nx Fs b:=fun b=>by
  have h1:=jN Fs b S.nx kg hk fJ
  have h2: ∀m,ar m (cS Fs kl) b<=ar m (cS Fs kg) b:=fun m=>by
   induction m with
   |zero=>exact Nat.le_refl _
   |succ m ih=>
    have:cS Fs kl m b<=cS Fs kg m b:=by
     unfold cS
     by_cases e1:m∈kg
     ·simp[e1,Ll m e1]
     ·rw[if_neg e1];split<;>simp
    simp only[ar,CW];omega
  have h3:=hF b
  have:=h2 S.nx
  omega
 have Ug: ∀k,n<=k->k<n'->Fs k=fz:=fun k h1 h2=>h.mem.roots k _ (hg k h1 h2)
 let T:FP:=fun b=>ar S.nx (cS Fs kl) b+F' b
 have IH:=h.mem.one
 have Hx:=h.mem.nW
 have WT:=h.mem.frame.size
 have RU: ∀b,(CV C S w Fs F rc (h.mem.ground _) EL).Zf w' F' b->C.Zf w' T b:=fun b hb=>by
  have k1:=Tv b
  have k2:=IH b
  have k3:=Hx b
  have k4:=BQ b
  rcases hb with hb| ⟨z7,Ki,Uh⟩
  ·have hb:C.Zf w (ar S.nx Fs) b:=hb
   rcases hb with hb| ⟨c1,c2,c3⟩
   ·exact .inl hb
   ·refine .inr ⟨c1,by omega,?_⟩
    show ar S.nx (cS Fs kl) b+F' b=0
    rcases Nat.eq_zero_or_pos (F' b) with z|z
    ·omega
    ·have:=k4 z;omega
  ·have z7:w.heap.size<=b\/1<=F b:=z7
   refine .inr ⟨?_,Ki,?_⟩
   ·rcases z7 with z7|z7
    ·exact .inl (by omega)
    ·exact (k3 (by omega)).2
   ·show ar S.nx (cS Fs kl) b+F' b=0
    rcases z7 with z7|z7
    ·rcases Nat.eq_zero_or_pos (ar S.nx Fs b) with z|z
     ·omega
     ·have:=k3 z;omega
    ·omega
 obtain ⟨Fr,Fk,N9,RV,WU⟩:=hrel.split (by rw[(zg _ _ _ JA).2,hlen])
 have Hu:dY w' (C.Zf w' T) (C.ZL w' T) rs vs Fr:=by
  by_cases Vx:g.oc= .aZ
  ·refine N9.grow RU (fun b hb=> ?_)
   rcases hb with hb|hb
   ·have hb:kc C w S.nx Fs rc b:=hb
    rcases hb with hb| ⟨id,hid,hb⟩
    ·rcases hb with hb|hb
     ·exact .inl hb
     ·exact .inr (RU b (.inl hb))
    ·obtain ⟨g1,g2⟩:=EL b (.inl (.inr ⟨id,hid,hb⟩))
     have hi:=Li h.mem hb
     have WV:id∈kl:=by rw[<- Uf];simp[uH,Vx,hid]
     have k1:=A3 Fs kl b hi WV
     have k2:=IH b
     have k3:=Hx b (by omega)
     refine .inr (.inr ⟨k3.2,by omega,?_⟩)
     show ar S.nx (cS Fs kl) b+F' b=0
     rcases Nat.eq_zero_or_pos (F' b) with z|z
     ·omega
     ·have:=BQ b z;omega
   ·exact .inr (RU b hb)
  ·exact (N9.mZ Vx sB).grow RU (fun b hb=>hb)
 obtain ⟨ρ1,lR,f1,r1⟩:=mw _ _ _ _ _ _ _ _ JA Hu
 obtain ⟨fh,Gk,Nf,b1⟩:=nb h.mem Qg RV hK (by rw[<- yf];rw[<- Lk] at hk;exact (List.nodup_append.1 hk).2.1)
 rw[<- yf] at b1
 have Ng: ∀id∈io,∃root,S.hp id=some root/\root.real:=fun id hid=>by
  obtain ⟨root,a_,g1,_,g3⟩:=b1.roots id hid
  exact ⟨_,g1,Hp g3.BM⟩
 have RX: ∀id∈io,id<S.nx:=fun id hid=>fJ id (Lm id hid)
 have O4: ∀id∈io,¬(n<=id/\id<n'):=fun id hid hh=>by
  obtain ⟨root,e1,e2⟩:=Ng id hid
  rw[hg id hh.1 hh.2] at e1;cases e1;exact e2
 have RY:eA S.hp (cF ks++kZ g.oc rc++up++fh)=eA (eA (kill S.hp kl) up) fh:=by
  rw[bE]
  funext j
  by_cases hj: ∃p∈fh,p.1=j
  ·exact ze _ hj
  ·have FH: ∀p∈fh,p.1≠j:=fun p hp e=>hj ⟨p,hp,e⟩
   rw[eS _ _ FH,eS _ _ FH]
   by_cases EM: ∃p∈up,p.1=j
   ·rw[bE];exact ze _ EM
   ·have RZ: ∀p∈up,p.1≠j:=fun p hp e=>EM ⟨p,hp,e⟩
    rw[bE,eS _ _ RZ,eS _ _ RZ,bE,lV,pg,wR]
    have Ui:j∉io:=fun hh=>by
     obtain ⟨root,a_,g1,g2,_⟩:=b1.roots j hh
     have:=g2 (fun _=>none)
     rw[eS _ _ FH] at this
     cases this
    rw[je,je]
    have:j∈kl↔j∈ks++(match g.oc with| .aZ=>rc|_=>[]):=by
     rw[<- Uf,<- Lk]
     simp only[uH,List.mem_append,Ui,or_false]
    by_cases hh:j∈kl
    ·rw[if_pos (this.1 hh),if_pos hh]
    ·rw[if_neg (fun h=>hh (this.2 h)),if_neg hh]
 let Fs':Nat->FP:=fun j=>cn (cS Fs kl j) (cn (lR j) (Gk j))
 let ρ':Place:=fun j=>if n<=j/\j<n' then ρ1 j else ρ j
 have jc:ar S.nx Fs' =T:=by
  funext b
  show ar S.nx (fun j=>cn (cS Fs kl j) (cn (lR j) (Gk j))) b=_
  have e1:=qJ S.nx b (cS Fs kl) (fun j=>cn (lR j) (Gk j))
  have e2:=qJ S.nx b lR Gk
  have e3:=o8 (Fs:=lR) b hn (fun j h1 _=>by rw[f1.out j (.inr h1)];rfl)
  have e4:=f1.sum b
  have e5:=b1.sum b
  have e6:F' b=Fr b+Fk b:=by rw[WU];rfl
  show _=ar S.nx (cS Fs kl) b+F' b
  omega
 have O5: ∀j,n<=j->j<n'->eA (eA (kill S.hp kl) up) fh j=eA o7 up j:=fun j h1 h2=>by
  rw[eS _ fh (fun p hp e=>O4 j (by rw[<- e];exact b1.keys p hp) ⟨h1,h2⟩)]
  exact ze _ (GX j h1 h2)
 have II: ∀j,¬(n<=j/\j<n')->j∉io->eA (eA (kill S.hp kl) up) fh j=kill S.hp kl j:=fun j hj Ln=>by
  rw[eS _ fh (fun p hp e=>Ln (by rw[<- e];exact b1.keys p hp))]
  exact eS _ _ (fun p hp e=>by have:=RT p hp;omega)
 have R0: ∀j,n<=j->j<n'->Fs' j=lR j:=fun j h1 h2=>by
  show cn (cS Fs kl j) (cn (lR j) (Gk j))=lR j
  have e1:cS Fs kl j=fz:=by unfold cS;split;rfl;exact Ug j h1 h2
  have e2:Gk j=fz:=b1.out j (fun hh=>O4 j hh ⟨h1,h2⟩)
  rw[e1,e2,b_,gV]
 have R1: ∀j∈io,Fs' j=Gk j:=fun j hj=>by
  show cn (cS Fs kl j) (cn (lR j) (Gk j))=Gk j
  have e1:cS Fs kl j=fz:=by simp[cS,Ll j (Lm j hj)]
  have e2:lR j=fz:=f1.out j (by have:=O4 j hj;omega)
  rw[e1,e2,gV,gV]
 have O6: ∀j,¬(n<=j/\j<n')->j∉io->Fs' j=cS Fs kl j:=fun j h1 h2=>by
  show cn (cS Fs kl j) (cn (lR j) (Gk j))=_
  rw[f1.out j (by omega),b1.out j h2,b_,b_]
 have xT:Ext w' (C.Zf w' T) (C.ZL w' T) n n' up ρ1 (C.env w' ρ' (eA (eA (kill S.hp kl) up) fh) S.nx Fs'):=by
  refine ⟨rfl,fun b hb=> ?_,fun b hb=> ?_,fun j h1 h2=> ?_,O5,hn⟩
  ·show C.Zf w' (ar S.nx Fs') b;rw[jc];exact hb
  ·show C.ZL w' (ar S.nx Fs') b;rw[jc];exact hb
  ·show (if n<=j/\j<n' then ρ1 j else ρ j)=ρ1 j
   rw[if_pos ⟨h1,h2⟩]
 have hρ: ∀id,id<S.nx->(∀root,S.hp id=some root->root.real)->ρ' id=ρ id:=fun id hid sy=>by
  show (if n<=id/\id<n' then ρ1 id else ρ id)=ρ id
  rw[if_neg]
  rintro ⟨h1,h2⟩
  exact sy _ (hg id h1 h2)
 have Vy: ∀b,(CV C S w Fs F rc (h.mem.ground _) EL).ZL w' F' b->True:=fun _ _=>trivial
 refine ⟨pack vs,ρ',Fs',fh,he,Nf,b1.keys,Vw,hρ,fun id root a_ hr sy Lo hq=> ?_,fun id hid=> ?_,?_,by rw[RY];exact Jw (r1 _ xT)⟩
 ·have EM: ¬(n<=id/\id<n'):=fun hh=>by
   rw[hg id hh.1 hh.2] at hr;cases hr;exact sy
  rw[RY,II id EM Lo,je] at hq
  have Uj:id∉kl:=fun hh=>by rw[if_pos hh] at hq;cases hq
  rw[O6 id EM Lo];simp[cS,Uj]
 ·obtain ⟨root,a_,g1,g2,g3⟩:=b1.roots id hid
  refine ⟨root,a_,g1,g2,fun e ver r0 he=> ?_⟩
  subst he
  cases a_ with
  |row e' sw r1=>obtain ⟨rfl,rfl,g4,_⟩:=g3;exact ⟨r1,rfl,g4⟩
  |_=>exact g3.elim
 rw[RY]
 refine h.gen (eA (eA (kill S.hp kl) up) fh) S.nx w' ρ' Fs' (fun b=>1<=F b) mb FG.os FG.tape FG.output (fun b h1 h2=>Vw b h1 (by omega)) (fun b hb=>by have:=Tv b;omega) (Nat.le_refl _) hρ (fun j hj=> ?_) (fun j hj=> ?_) (fun b=> ?_) (fun b hb=> ?_)
 ·by_cases EM:n<=j/\j<n'
  ·have R2:=R0 j EM.1 EM.2
   cases hq:eA (eA (kill S.hp kl) up) fh j with
   |none=>exact .gone hq (by rw[R2];exact f1.dead j (by rw[<- O5 j EM.1 EM.2];exact hq))
   |some a_=>exact .kC .dH a_ (hg j EM.1 EM.2) hq trivial (fun M=>by rw[R2];exact f1.roots _ xT j a_ (by rw[<- O5 j EM.1 EM.2];exact hq))
  ·by_cases Ln:j∈io
   ·obtain ⟨root,a_,g1,g2,g0⟩:=b1.roots j Ln
    cases root with
    |row e ver r0=>
     cases a_ with
     |row e' sw r1=>
      obtain ⟨rfl,rfl,g3,g4,g5,WW,g6⟩:=g0
      refine .kC _ (.row e' (ver+1) r1) g1 (g2 _) ⟨g3,g4,by omega,g5,fun hh=>by omega⟩ (fun M=> ?_)
      rw[R1 j Ln]
      show fN w' (C.ZL w' (ar S.nx Fs')) (ρ' j) r1.cells r1.len r1.size (Gk j)
      rw[hρ j hj (fun root hr=>by rw[g1] at hr;cases hr;trivial),jc]
      exact g6.Ue WW
     |_=>exact g0.elim
    |box t c0=>
     cases a_ with
     |box t' c1=>
      obtain ⟨b,cap,vs,ty,g3,g4,g5,g6⟩:=g0
      refine .kC _ (.box t' c1) g1 (g2 _) trivial (fun M=> ?_)
      rw[R1 j Ln]
      refine ⟨b,cap,vs,ty,?_,g4,g5 _ rfl (fun b hb=> ?_),g6⟩
      ·show ρ' j=_
       rw[hρ j hj (fun root hr=>by rw[g1] at hr;cases hr;trivial)];exact g3
      ·show C.Zf w' (ar S.nx Fs') b
       rw[jc];exact RU b hb
     |_=>exact g0.elim
    |hole=>exact g0.elim
    |dH=>exact g0.elim
   ·have R2:=O6 j EM Ln
    by_cases Nh:j∈kl
    ·exact .gone (by rw[II j EM Ln,je,if_pos Nh]) (by rw[R2];simp[cS,Nh])
    ·refine .same (by rw[II j EM Ln,je,if_neg Nh]) (by rw[R2];simp[cS,Nh]) (fun b h1 h2=> ?_)
     have:=oF Fs b S.nx hk fJ hj (fun h=>Nh (Ll j h))
     have:=hF b
     have:=IH b
     omega
 ·have Ln:j∉io:=fun hh=>by have:=RX j hh;omega
  refine .inl ⟨?_,?_⟩
  ·rw[II j (by omega) Ln,je];split;rfl;exact h.mem.fresh j hj
  ·rw[O6 j (by omega) Ln]
   unfold cS;split;rfl;exact h.mem.dead j (h.mem.fresh j hj)
 ·rw[jc]
  show ar S.nx (cS Fs kl) b+F' b<=1
  have k1:=Tv b
  have k2:=IH b
  have k3:=ke b
  rcases Nat.eq_zero_or_pos (F' b) with z|z
  ·omega
  ·have:=BQ b z
   rcases Nat.eq_zero_or_pos (ar S.nx Fs b) with z2|z2
   ·omega
   ·have:=Hx b z2;omega
 ·rw[jc] at hb
  have hb:1<=ar S.nx (cS Fs kl) b+F' b:=hb
  have k1:=Tv b
  rcases Nat.eq_zero_or_pos (F' b) with z|z
  ·left;omega
  ·have:=BQ b z;omega
end
section
variable {P:Program} {tt:TT} {C:Cx} {S:St} {a:Act} {w:World} {ρ:Place} {Fs:Nat->FP} {n:Nat}
def ph (id n e ver i f:Nat) (r:Row):List (Nat×Option aq):=[(id,some (.hole e ver r i f)),(n,some (.row 0 0 (.ints .i64 (dm r i f))))]
theorem BR (hp:Nat->Option aq) (id n e ver i f:Nat) (r:Row) (j:Nat):eA hp (ph id n e ver i f r) j=if j=n then some (.row 0 0 (.ints .i64 (dm r i f))) else if j=id then some (.hole e ver r i f) else hp j:=by
 rw[show ph id n e ver i f r=[(id,some (aq.hole e ver r i f))]++[(n,some (.row 0 0 (.ints .i64 (dm r i f))))] from rfl,bE,eT,eT]
theorem aQ.Ni (h:aQ C S a w ρ Fs) (hg:S.hp n=some .dH) {id e ver i f:Nat} {r:Row} (aj:S.hp id=some (.row e ver r)) (ho:r.owned=true) (hs:r.jA f=true) (hi:i<r.len) {v:Value} (hv:cellAt w (ρ id) (i*r.size+f)=some v):
 ∃q Fs' b cap,ρ id=some (b,cap)/\1<=Fs' id b/\aQ C ⟨S.sl,eA S.hp (ph id n e ver i f r),S.nx⟩ a w (gq ρ n q) Fs' /\v=hdr q (dm r i f).length:=by
 have mg:id≠n:=by rintro rfl;rw[aj] at hg;cases hg
 have kH:=cz h.mem aj
 have EN:=cz h.mem hg
 have P3:Fs n=fz:=h.mem.roots n _ hg
 cases hρ:ρ id with
 |none=>rw[hρ] at hv;cases hv
 |some q=>
  obtain ⟨b,cap⟩:=q
  rw[hρ] at hv
  obtain ⟨arr,ty,F,g1,g2,g3,g4,g5,g6⟩:=nF h.mem aj hρ (by omega)
  simp only[cellAt] at hv
  rw[bJ g1] at hv
  have hc:=qb ho hs hi
  obtain ⟨v',F1,F2,k1,k2,k3,k4⟩:=g4.get hc
  have xW:arr.toList[i*r.size+f]? =some v:=by simpa using hv
  rw[xW] at k1;cases k1
  have zh:=k4 .free v fz rfl
  have pI:arr.toList.set (i*r.size+f) v=arr.toList:=by
   apply List.ext_getElem?
   intro j
   rw[List.getElem?_set]
   by_cases e:i*r.size+f=j
   ·subst e;rw[if_pos rfl,if_pos (List.getElem?_eq_some_iff.1 xW).1,xW]
   ·rw[if_neg e]
  rw[pI,gV] at zh
  have Lq: ∃q,v=hdr q (dm r i f).length/\ ∀(E':Env),E'.w=w->E'.ρ n=q->gJ E' n (.row 0 0 (.ints .i64 (dm r i f))) F1:=by
   rcases k2 with ⟨p1,p2,p3⟩| ⟨b2,wz,sx,Kk,q1,q2,q3,q4,q5,q6⟩
   ·refine ⟨none,by rw[p1,p2];rfl,fun E' KV hq=> .inl ⟨hq,by rw[p2];rfl,p3⟩⟩
   ·refine ⟨some (b2,wz),by rw[q1];rfl,fun E' KV hq=> .inr ⟨b2,wz,sx,Kk,fz,hq,by rw[KV];exact q2,by simpa[Row.len] using q3,by simpa[Row.size] using q4,?_,by rw[b_];exact q6⟩⟩
    refine ah.Hq fun j c hj=> ?_
    simp only[Row.cells,List.getElem?_map] at hj
    cases xU:(dm r i f)[j]? with
    |none=>rw[xU] at hj;cases hj
    |some z=>
     rw[xU] at hj
     cases hj
     exact ⟨_,by simpa using q5 j z xU,rfl,rfl⟩
  obtain ⟨q,Lr,Jy⟩:=Lq
  have nU:=BR S.hp id n e ver i f r
  have jc: ∀b',ar S.nx (eU (eU Fs id (cn (f1 b) F2)) n F1) b' =ar S.nx Fs b':=fun b'=>by
   have e1:=en (eU Fs id (cn (f1 b) F2)) F1 b' EN
   have e2:=en Fs (cn (f1 b) F2) b' kH
   rw[cN _ _ (Ne.symm mg),P3] at e1
   rw[g5,k3] at e2
   simp at e1 e2
   omega
  refine ⟨q,eU (eU Fs id (cn (f1 b) F2)) n F1,b,cap,rfl,by rw[cN _ _ mg,fV];simp,?_,Lr⟩
  refine h.gen _ _ w _ _ (fun _=>False) (Nat.le_refl _) rfl rfl rfl (fun _ _ _=>rfl) (fun _ h=>h.elim) (Nat.le_refl _) (fun j hj sy=>lU _ _ (by rintro rfl;exact sy _ hg)) (fun j hj=> ?_) (fun j hj=> .inl ⟨by rw[nU,if_neg (by omega),if_neg (by omega)];exact h.mem.fresh j hj,by rw[cN _ _ (by omega),cN _ _ (by omega)];exact h.mem.dead j (h.mem.fresh j hj)⟩) (fun b'=>by rw[jc];exact h.mem.one b') (fun b' nv=> .inl (by rw[jc] at nv;exact nv))
  by_cases e1:j=n
  ·subst e1
   exact .kC .dH _ hg (by rw[nU,if_pos rfl]) trivial (fun M=>by rw[fV];exact Jy _ rfl (dT ..))
  ·by_cases e2:j=id
   ·subst e2
    refine .kC _ (.hole e ver r i f) aj (by rw[nU,if_neg e1,if_pos rfl]) ⟨rfl,rfl,Nat.le_refl _⟩ (fun M=> ?_)
    rw[cN _ _ e1,fV]
    refine ⟨hi,CM hs,.inr ⟨b,cap,arr,ty,F2,by show gq ρ n q j=_;rw[lU _ _ e1];exact hρ,g1,g2,g3,?_,rfl⟩⟩
    exact zh.mono (fun b hb=>M.zl b hb) (fun b _=>rfl)
   ·exact .same (by rw[nU,if_neg e1,if_neg e2]) (by rw[cN _ _ e1,cN _ _ e2]) (fun _ _ h=>h)
theorem uJ {i f:Nat} {y:List Int} {r r':Row} (h:lX i f y r=some r') (hs:r.jA f=true) (hi:i<r.len):r'.cells=r.cells.set (i*r.size+f) (.sl true y)/\r'.len=r.len/\r'.size=r.size:=by
 unfold lX at h
 split at h
 ·rename_i l
  cases h
  have hf:f=0:=by simpa[Row.jA] using hs
  subst hf
  exact ⟨by simp[Row.cells,Row.size],by simp[Row.len],rfl⟩
 ·rename_i sg l
  split at h
  ·rename_i R3
   cases h
   have qk:i<l.length:=hi
   have Tw:l[i]? =some l[i]:=List.getElem?_eq_getElem qk
   have Mi:l.getD i [] =l[i]:=by simp[qk]
   refine ⟨?_,by simp[Row.len],rfl⟩
   simp only[Row.cells,Row.size]
   refine ql (fun r=>bn true r 0 sg) sg.length (fun r=>cb ..) f (List.getElem?_eq_some_iff.1 R3).1 _ _ l i l[i] Tw ?_
   rw[Mi]
   exact sL true sg l[i] f (.ints y) _ ⟨true,R3,rfl⟩
  ·cases h
 ·cases h
theorem aQ.Nj (h:aQ C S a w ρ Fs) {id n e ver i f:Nat} {r r':Row} (aj:S.hp id=some (.hole e ver r i f)) (hs:r.jA f=true) {l:List Int} {e2 v2:Nat} (hn:S.hp n=some (.row e2 v2 (.ints .i64 l))) (pI:lX i f l r=some r') {v:Value} (hv:cellAt w (ρ id) (i*r.size+f)=some v) (Lr:v=hdr (ρ n) l.length):
 ∃Fs',aQ C ⟨S.sl,eA S.hp [(id,some (.row e (ver+1) r')),(n,none)],S.nx⟩ a w ρ Fs' /\oC (C.env w ρ S.hp S.nx Fs) (C.env w ρ (eA S.hp [(id,some (.row e (ver+1) r')),(n,none)]) S.nx Fs'):=by
 have mg:id≠n:=by rintro rfl;rw[aj] at hn;cases hn
 have kH:=cz h.mem aj
 have EN:=cz h.mem hn
 obtain ⟨hi,Vz,kW⟩:=h.mem.roots id _ aj
 have kW:fN w (C.ZL w (ar S.nx Fs)) (ρ id) (r.cells.set (i*r.size+f) .free) r.len r.size (Fs id):=kW
 have WX:fN w (C.ZL w (ar S.nx Fs)) (ρ n) (Row.ints .i64 l).cells l.length 1 (Fs n):=h.mem.roots n _ hn
 obtain ⟨c1,c2,c3⟩:=uJ pI hs hi
 rcases kW with ⟨z1,z2,z3⟩| ⟨b,cap,arr,ty,F,g1,g2,g3,g4,g5,g6⟩
 ·rw[z1] at hv;cases hv
 rw[g1] at hv
 simp only[cellAt] at hv
 rw[bJ g2] at hv
 have xW:arr.toList[i*r.size+f]? =some v:=by simpa using hv
 have Uk:i*r.size+f<r.cells.length:=by
  rw[Row.dn]
  have:(i+1)*r.size<=r.len*r.size:=Nat.mul_le_mul_right _ hi
  rw[Nat.succ_mul] at this
  omega
 have Ul:(r.cells.set (i*r.size+f) .free)[i*r.size+f]? =some .free:=by rw[List.getElem?_set_self Uk]
 obtain ⟨v',F1,F2,k1,k2,k3,k4⟩:=g5.get Ul
 rw[xW] at k1;cases k1
 have Kl:F1=fz:=k2
 subst Kl
 have gW:dZ w (C.ZL w (ar S.nx Fs)) (.sl true l) v (Fs n):=by
  rcases WX with ⟨y1,y2,y3⟩| ⟨b2,wz,sx,Kk,F',q1,q2,q3,q4,q5,q6⟩
  ·left
   refine ⟨by rw[Lr,y1];rfl,?_,y3⟩
   exact List.length_eq_zero_iff.1 y2
  ·right
   have N_:F' =fz:=uK (fun c hc=>by
    simp only[Row.cells,List.mem_map] at hc
    obtain ⟨x,_,rfl⟩:=hc
    exact .inl ⟨_,rfl⟩) q5
   subst N_
   refine ⟨b2,wz,sx,Kk,by rw[Lr,q1];rfl,q2,q3,by simpa using q4,fun j z hj=> ?_,by rw[q6,b_]⟩
   have OA:(Row.ints .i64 l).cells[j]? =some (.sc (.int .i64 z)):=by simp[Row.cells,hj]
   obtain ⟨u,G1,G2,m1,m2,_⟩:=q5.get OA
   have:u= .int .i64 z:=m2.1
   subst this
   simpa using m1
 have pF:=k4 (.sl true l) v (Fs n) gW
 have R4:arr.toList.set (i*r.size+f) v=arr.toList:=by
  apply List.ext_getElem?
  intro j
  rw[List.getElem?_set]
  by_cases e:i*r.size+f=j
  ·subst e;rw[if_pos rfl,if_pos (List.getElem?_eq_some_iff.1 xW).1,xW]
  ·rw[if_neg e]
 rw[R4,List.set_set] at pF
 rw[gV] at k3
 have nU: ∀j,eA S.hp [(id,some (.row e (ver+1) r')),(n,none)] j=if j=n then none else if j=id then some (.row e (ver+1) r') else S.hp j:=fun j=>by
  rw[show [(id,some (aq.row e (ver+1) r')),(n,none)] =[(id,some (aq.row e (ver+1) r'))]++[(n,none)] from rfl,bE,eT,eT]
 have jc: ∀b',ar S.nx (eU (eU Fs id (cn (f1 b) (cn (Fs n) F2))) n fz) b' =ar S.nx Fs b':=fun b'=>by
  have e1:=en (eU Fs id (cn (f1 b) (cn (Fs n) F2))) fz b' EN
  have e2:=en Fs (cn (f1 b) (cn (Fs n) F2)) b' kH
  rw[cN _ _ (Ne.symm mg)] at e1
  rw[g6,k3] at e2
  simp at e1 e2
  omega
 refine ⟨eU (eU Fs id (cn (f1 b) (cn (Fs n) F2))) n fz,?_⟩
 refine h.O2 _ _ w _ _ (fun _=>False) (Nat.le_refl _) rfl rfl rfl (fun _ _ _=>rfl) (fun _ h=>h.elim) (Nat.le_refl _) (fun j hj sy=>rfl) (fun j hj=> ?_) (fun j hj=> .inl ⟨by rw[nU,if_neg (by omega),if_neg (by omega)];exact h.mem.fresh j hj,by rw[cN _ _ (by omega),cN _ _ (by omega)];exact h.mem.dead j (h.mem.fresh j hj)⟩) (fun b'=>by rw[jc];exact h.mem.one b') (fun b' nv=> .inl (by rw[jc] at nv;exact nv))
 by_cases e1:j=n
 ·subst e1
  exact .gone (by rw[nU,if_pos rfl]) (fV ..)
 ·by_cases e2:j=id
  ·subst e2
   refine .kC _ (.row e (ver+1) r') aj (by rw[nU,if_neg e1,if_pos rfl]) ⟨c2,c3,Nat.lt_succ_self _⟩ (fun M=> ?_)
   rw[cN _ _ e1,fV]
   refine .inr ⟨b,cap,arr,ty,cn (Fs n) F2,g1,g2,by rw[c2];exact g3,by rw[c3];exact g4,?_,rfl⟩
   rw[c1]
   exact pF.mono (fun b hb=>M.zl b hb) (fun b _=>rfl)
  ·exact .same (by rw[nU,if_neg e1,if_neg e2]) (by rw[cN _ _ e1,cN _ _ e2]) (fun _ _ h=>h)
end
section
variable {R:Type} {P:Program}
def Enters (P:Program) (f:FuncId):Prop:= ∃fn,P.funcs[f]? =some fn/\(fn.name== "runtime.NumGoroutine")=false/\fn.body.isNone=false
structure IJ (P:Program) (G:fe R):Prop where
 tt:kQ P G.tt
 call: ∀(f:FuncId) (g:pL) (ds:List DV) (K:List DV->Option R) (r:R),G.sig f=some g->G.Φ f ds K=some r->Enters P f/\ ∃rs,fM P f g ds rs/\K rs=some r
structure xz (P:Program) (G:fe R) (f:FuncId) (g:pL) (xs:List AV) (hp:Nat->Option aq) (n:Nat) (E:fR) (ks io rc:List Nat) (ds rs tH:List DV) (vs:List A1) (up fh:List (Nat×Option aq)) (n':Nat):Prop where
 to:oA G.tt hp g.gj g.params xs=some (ds,ks,io,rc)
 nd:zc (ks++io)=true
 dj:m_ (ks++io) rc=true
 yf:io=jW g.gj xs
 ay:fM P f g ds (rs++tH)
 Um:fw G.tt g.results rs n=some (vs.map AV.one,up,n')
 cl: ∀d∈rs,EH g.oc d
 bk:iA hp g.gj xs tH some=some fh
 DN:E=⟨IF vs,cF ks++kZ g.oc rc++up++fh,n',[],ks++io++rc⟩
inductive zi (P:Program) (G:fe R) (op:Op) (sl:Nat->AV) (hp:Nat->Option aq) (n:Nat) (E:fR):Prop
 |plain (hf:zj op=false) (he:gX G.DN op sl hp n some=some E)
 |call (c:Call) (x:Operand) (hc:op= .call c) (hx:c.callee= .value x) (f:FuncId) (g:pL) (DJ:St.rd G.nt sl x= .one (.l (.fn f))) (hg: ∃g0,G.sig f=some g0) (CZ:Enters P f)
  (A4:iB g.gj (c.args.toList.map (St.rd G.nt sl))=none) {ks io rc:List Nat} {ds rs tH:List DV} {vs:List A1} {up fh:List (Nat×Option aq)} {n':Nat} (h0:xz P G f g (c.args.toList.map (St.rd G.nt sl)) hp n E ks io rc ds rs tH vs up fh n')
 |inner (c:Call) (x:Operand) (hc:op= .call c) (hx:c.callee= .value x) (f:FuncId) (g:pL) (DJ:St.rd G.nt sl x= .one (.l (.fn f))) (hg: ∃g0,G.sig f=some g0) (CZ:Enters P f)
  (id ver i fl e:Nat) (r r':Row) (A4:iB g.gj (c.args.toList.map (St.rd G.nt sl))=some (id,ver,i,fl)) (hr:hp id=some (.row e ver r)) (Oa:r.owned=true) (wP:r.jA fl=true) (hi:i<r.len)
  {E0:fR} {ks io rc:List Nat} {ds rs tH:List DV} {vs:List A1} {up fh:List (Nat×Option aq)} {n':Nat} (h0:xz P G f g (wS n g.gj (c.args.toList.map (St.rd G.nt sl))) (eA hp (ph id n e ver i fl r)) (n+1) E0 ks io rc ds rs tH vs up fh n')
  {e2 v2 e3 v3 i3 f3:Nat} {l:List Int} {r3:Row} (hl:eA (eA hp (ph id n e ver i fl r)) E0.up n=some (.row e2 v2 (.ints .i64 l))) (hh:eA (eA hp (ph id n e ver i fl r)) E0.up id=some (.hole e3 v3 r3 i3 f3)) (pI:lX i fl l r=some r')
  (hE:E=⟨E0.v,ph id n e ver i fl r++E0.up++[(id,some (.row e (ver+1) r')),(n,none)],E0.nx,[],E0.rc⟩)
theorem zk {A B:Type} (oc:kd) (k:IntKind) (d:DL) (K:List Int->Option A) (F:A->Option B):(uC oc k d K).bind F=uC oc k d fun l=>(K l).bind F:=by
 unfold uC;split
 ·exact ba ..
 ·rfl
theorem EO {A B:Type} (oc:kd) (d:DL) (K:List Bool->Option A) (F:A->Option B):(qg oc d K).bind F=qg oc d fun l=>(K l).bind F:=by
 unfold qg;split
 ·exact ba ..
 ·rfl
theorem Hy {A B:Type} (oc:kd) (d:DL) (K:List ByteArray->Option A) (F:A->Option B):(xu oc d K).bind F=xu oc d fun l=>(K l).bind F:=by
 unfold xu;split
 ·exact ba ..
 ·rfl
theorem Hz {A B:Type} (oc:kd) (d:DL) (K:List (List Int)->Option A) (F:A->Option B):(xw oc d K).bind F=xw oc d fun l=>(K l).bind F:=by
 unfold xw;split
 ·exact ba ..
 ·rfl
theorem HA {A B:Type} (oc:kd) (sg:List Bool) (d:DL) (K:List (List jC)->Option A) (F:A->Option B):(xx oc sg d K).bind F=xx oc sg d fun l=>(K l).bind F:=by
 unfold xx;split
 ·exact ba ..
 ·rfl
section
variable (hp:Nat->Option aq)
abbrev Mo:=List (Nat×Option aq)
theorem kf {A:Type} (x:LV) (d:DL) (K:Mo->Option A):gD hp x d K=(gD hp x d some).bind K:=by
 unfold gD
 split
 ·rfl
 ·rfl
 ·rfl
 ·rfl
 ·rfl
 ·split
  ·rw[zk];rfl
  ·rw[EO];rfl
  ·rw[Hy];rfl
  ·rw[Hz];rfl
  ·rw[HA];rfl
  ·rfl
 ·rfl
theorem nc: ∀ {A:Type} (xs:List LV) (ds:List DL) (K:Mo->Option A),fb hp xs ds K=(fb hp xs ds some).bind K
 |_,[],ds,K=>by cases ds<;>rfl
 |_,x::xs,[],K=>rfl
 |_,x::xs,d::ds,K=>by
  show gD hp x d (fun up=>fb hp xs ds fun fh=>K (up++fh))=(gD hp x d fun up=>fb hp xs ds fun fh=>some (up++fh)).bind K
  rw[kf hp x d (fun up=>fb hp xs ds fun fh=>K (up++fh)),kf hp x d (fun up=>fb hp xs ds fun fh=>some (up++fh))]
  cases gD hp x d some with
  |none=>rfl
  |some u=>
   show (fb hp xs ds fun fh=>K (u++fh))=(fb hp xs ds fun fh=>some (u++fh)).bind K
   rw[nc xs ds (fun fh=>K (u++fh)),nc xs ds (fun fh=>some (u++fh))]
   cases fb hp xs ds some<;>rfl
theorem A6 {A B:Type} (x:LV) (d:DL) (K:LV->Option A) (F:A->Option B):(lW x d K).bind F=lW x d fun y=>(K y).bind F:=by
 unfold lW
 split
 ·cases d with
  |i k n=>simp only[dI];exact ba ..
  |_=>rfl
 ·cases d<;>rfl
 ·cases d<;>rfl
 ·rw[zk]
 ·rfl
theorem qm {A B:Type}: ∀(xs:List LV) (ds:List DL) (K:List LV->Option A) (F:A->Option B),(lA xs ds K).bind F=lA xs ds fun y=>(K y).bind F
 | [],ds,K,F=>by cases ds<;>rfl
 |x::xs,[],K,F=>rfl
 |x::xs,d::ds,K,F=>by
  show (lW x d fun y=>lA xs ds fun ys=>K (y::ys)).bind F=lW x d fun y=>lA xs ds fun ys=>(K (y::ys)).bind F
  rw[A6]
  congr 1
  funext y
  exact qm xs ds _ F
theorem C1 {A:Type} (id:Nat) (d:DV) (K:Mo->Option A):qO hp id d K=(qO hp id d some).bind K:=by
 cases d with
 |ptr ds=>
  simp only[qO,Hv]
  split
  ·rw[qm];rfl
  ·rfl
 |_=>rfl
theorem nG {A:Type} (x:AV) (d:DV) (K:Mo->Option A):k0 hp x d K=(k0 hp x d some).bind K:=by
 unfold k0
 split
 ·split
  ·exact C1 ..
  ·cases d with
   |l d=>exact kf ..
   |_=>rfl
 ·cases d with
  |agg d=>exact nc ..
  |_=>rfl
 ·rfl
theorem lC: ∀ {A:Type} (ms:List Mode) (xs:List AV) (ds:List DV) (K:Mo->Option A),iA hp ms xs ds K=(iA hp ms xs ds some).bind K
 |_,[],xs,ds,K=>by cases ds<;>rfl
 |_,.io::ms,[],ds,K=>by cases ds<;>rfl
 |_,.oU::ms,[],ds,K=>by cases ds<;>rfl
 |_,.Bn::ms,[],ds,K=>by cases ds<;>rfl
 |_,.eb::ms,[],ds,K=>by cases ds<;>rfl
 |_,.oU::ms,x::xs,ds,K=>lC ms xs ds K
 |_,.Bn::ms,x::xs,ds,K=>lC ms xs ds K
 |_,.eb::ms,x::xs,ds,K=>lC ms xs ds K
 |_,.io::ms,x::xs,[],K=>rfl
 |_,.io::ms,x::xs,d::ds,K=>by
  show k0 hp x d (fun up=>iA hp ms xs ds fun fh=>K (up++fh))=(k0 hp x d fun up=>iA hp ms xs ds fun fh=>some (up++fh)).bind K
  rw[nG hp x d (fun up=>iA hp ms xs ds fun fh=>K (up++fh)),nG hp x d (fun up=>iA hp ms xs ds fun fh=>some (up++fh))]
  cases k0 hp x d some with
  |none=>rfl
  |some u=>
   show (iA hp ms xs ds fun fh=>K (u++fh))=(iA hp ms xs ds fun fh=>some (u++fh)).bind K
   rw[lC ms xs ds (fun fh=>K (u++fh)),lC ms xs ds (fun fh=>some (u++fh))]
   cases iA hp ms xs ds some<;>rfl
theorem HB {ms:List Mode} {xs:List AV} {ds:List DV} {K:Mo->Option R} {r:R} (h:iA hp ms xs ds K=some r): ∃up,iA hp ms xs ds some=some up/\K up=some r:=by
 rw[lC] at h
 exact Option.bind_eq_some_iff.1 h
end
theorem uL {G:fe R} (hG:IJ P G) {f:FuncId} {g:pL} (hg:G.sig f=some g) {xs:List AV} {hp:Nat->Option aq} {n:Nat} {K:fR->Option R} {r:R} (h:yt G hp n f g xs K=some r):
 ∃c E ks io rc ds rs tH vs up fh n',xz P G f (g.to c) xs hp n E ks io rc ds rs tH vs up fh n' /\Enters P f/\K E=some r:=by
 unfold yt at h
 split at h
 ·cases h
 ·rename_i ds ks io rc Un
  obtain ⟨xX,h3⟩:=ai h
  obtain ⟨xX,yf⟩:=az xX
  obtain ⟨oV,Tx⟩:=az xX
  obtain ⟨CZ,rs,Uo,h4⟩:=hG.call _ _ _ _ _ hg h3
  obtain ⟨N8,K_,xs,up,n',e,JA,sB,h5⟩:=uG h4
  subst e
  obtain ⟨fh,h6,h7⟩:=HB _ h5
  exact ⟨O7 g.oc g.results.length (N8++K_),_,ks,io,rc,ds,N8,K_,xs,up,fh,n',⟨Un,oV,Tx,eq_of_beq yf,Uo,JA,sB,h6,rfl⟩,CZ,h7⟩
theorem JB {G:fe R} (hG:IJ P G) {o:Op} {sl:Nat->AV} {hp:Nat->Option aq} {n:Nat} {K:fR->Option R} {r:R} (h:gX G o sl hp n K=some r): ∃E,zi P G o sl hp n E/\K E=some r:=by
 cases hf:zj o with
 |false=>
  rw[JC K G o sl hf] at h
  obtain ⟨E,h1,h2⟩:=Option.bind_eq_some_iff.1 h
  exact ⟨E,.plain hf h1,h2⟩
 |true=>
  cases o with
  |call c=>
   simp only[zj] at hf
   simp only[gX] at h
   split at h
   ·rename_i b hc;rw[hc] at hf;cases hf
   ·rename_i x hx
    split at h
    ·rename_i f DJ
     unfold Ls at h
     split at h
     ·cases h
     ·rename_i g hg
      split at h
      ·rename_i A4
       obtain ⟨cl,E,ks,io,rc,ds,rs,tH,vs,up,fh,n',h0,CZ,hk⟩:=uL hG hg h
       exact ⟨E,.call c x rfl hx f (g.to cl) DJ ⟨g,hg⟩ CZ A4 h0,hk⟩
      ·rename_i id ver i fl A4
       split at h
       ·rename_i e v r0 hr
        obtain ⟨xX,h3⟩:=ai h
        obtain ⟨xX,hi⟩:=az xX
        obtain ⟨xX,wP⟩:=az xX
        obtain ⟨CN,Oa⟩:=az xX
        obtain rfl:=eq_of_beq CN
        obtain ⟨cl,E,ks,io,rc,ds,rs,tH,vs,up,fh,n',h0,CZ,hk⟩:=uL hG hg h3
        split at hk
        ·rename_i l _ _ _ _ _ hl hh
         split at hk
         ·rename_i r' pI
          exact ⟨_,.inner c x rfl hx f (g.to cl) DJ ⟨g,hg⟩ CZ id _ i fl e r0 r' A4 hr Oa wP (by simpa[Nat.blt_eq] using hi) h0 hl hh pI rfl,hk⟩
         ·cases hk
        ·cases hk
       ·cases h
    ·cases h
   ·cases h
  |_=>cases hf
variable {tt:TT} {hp hp':Nat->Option aq}
theorem EP (hs:Sub hp hp') {m:Mode} {t:Nat} {x:LV} {r:DL×List Nat×List Nat×List Nat} (h:tC tt hp m t x=some r):tC tt hp' m t x=some r:=by
 have view: ∀x,(match fG hp x with|some (r,rc)=>some (DL.sl .aZ r,([]:List Nat),([]:List Nat),rc)|none=>none)=some r->(match fG hp' x with|some (r,rc)=>some (DL.sl .aZ r,([]:List Nat),([]:List Nat),rc)|none=>none)=some r:=fun x h=>by
  split at h
  ·rename_i h1;rw[xA hs h1];exact h
  ·cases h
 cases x with
 |val p r=>exact h
 |own id=>
  cases m with
  |oU=>exact view _ h
  |eb=>cases h
  |Bn=>
   simp only[tC] at h ⊢
   split at h
   ·rename_i h1;simp only[hs _ _ h1];exact h
   ·cases h
  |io=>
   simp only[tC] at h ⊢
   split at h
   ·rename_i h1;simp only[hs _ _ h1];exact h
   ·cases h
 |sub id lo hi=>
  cases m with
  |oU=>exact view _ h
  |eb=>cases h
  |Bn=>
   cases lo with
   |zero=>
    simp only[tC] at h ⊢
    split at h
    ·rename_i h1;simp only[hs _ _ h1];exact h
    ·cases h
   |succ lo=>cases h
  |io=>cases h
 |inner id ver i f=>
  cases m with
  |oU=>exact view _ h
  |eb=>cases h
  |Bn=>cases h
  |io=>
   simp only[tC] at h ⊢
   split at h
   ·rename_i h1;simp only[hs _ _ h1];exact h
   ·cases h
 |eJ id k=>cases m<;>cases h
 |arr id k=>cases m<;>cases h
 |oG id i f=>cases m<;>cases h
 |wT id v i f j=>cases m<;>cases h
 |C2 p r i f=>cases m<;>cases h
 |any=>cases m<;>cases h
 |undef=>cases m<;>cases h
 |fn f=>cases m<;>cases h
 |_=>exact h
theorem BS (hs:Sub hp hp') {m:Mode}: ∀ {ts:List Nat} {xs:List LV} {r:List DL×List Nat×List Nat×List Nat},pz tt hp m ts xs=some r->pz tt hp' m ts xs=some r
 | [],[],r,h=>h
 | [],_::_,_,h=>by simp[pz] at h
 |_::_,[],_,h=>by simp[pz] at h
 |t::ts,x::xs,r,h=>by
  simp only[pz] at h ⊢
  split at h
  ·rename_i h1
   split at h
   ·rename_i h2
    rw[EP hs h1]
    simp only[]
    rw[BS hs h2]
    exact h
   ·cases h
  ·cases h
theorem JD (hs:Sub hp hp') {t id:Nat} {ds:List DL} (h:y_ tt hp t id=some ds):y_ tt hp' t id=some ds:=by
 unfold y_ at h ⊢
 cases hq:K9 tt t with
 |false=>rw[hq] at h;cases h
 |true=>
  rw[hq,cond_true] at h
  rw[cond_true]
  split at h
  ·rename_i h1;rw[hs _ _ h1];exact h
  ·cases h
theorem Lt (hs:Sub hp hp') {m:Mode} {t:Nat} {x:AV} {r:DV×List Nat×List Nat×List Nat} (h:EB tt hp m t x=some r):EB tt hp' m t x=some r:=by
 match x,h with
 | .one (.l x),h=>
   simp only[EB] at h ⊢
   split at h
   ·cases m with
    |io=>
     simp only[La] at h ⊢
     split at h
     ·rename_i h1;rw[JD hs h1];exact h
     ·cases h
    |_=>cases h
   ·split at h
    ·rename_i h1;rw[EP hs h1];exact h
    ·cases h
 | .one (.agg xs),h=>
   simp only[EB] at h ⊢
   split at h
   ·rename_i h1;rw[BS hs h1];exact h
   ·cases h
theorem BT (hs:Sub hp hp'): ∀ {ms:List Mode} {ts:List Nat} {xs:List AV} {r:List DV×List Nat×List Nat×List Nat},oA tt hp ms ts xs=some r->oA tt hp' ms ts xs=some r
 |ms,[],[],r,h=>h
 |_,[],_::_,_,h=>by simp[oA] at h
 |_,_::_,[],_,h=>by simp[oA] at h
 |ms,t::ts,x::xs,r,h=>by
  simp only[oA] at h ⊢
  split at h
  ·rename_i h1
   split at h
   ·rename_i h2
    rw[Lt hs h1]
    simp only[]
    rw[BT hs h2]
    exact h
   ·cases h
  ·cases h
theorem uM (hs:Sub hp hp'): ∀(up:List (Nat×Option aq)),Sub (eA hp up) (eA hp' up):=by
 intro up
 induction up generalizing hp hp' with
 |nil=>exact hs
 |cons p up ih=>
  obtain ⟨i,r⟩:=p
  refine ih fun j r' h=> ?_
  cases e:j==i with
  |true=>simp only[e,cond_true] at h ⊢;exact h
  |false=>simp only[e,cond_false] at h ⊢;exact hs _ _ h
theorem uN (hs:Sub hp hp') {x:LV} {d:DL} {K:Mo->Option R} {r:R} (h:gD hp x d K=some r):gD hp' x d K=some r:=by
 cases x with
 |own id=>
  simp only[gD] at h ⊢
  cases hq:hp id with
  |none=>rw[hq] at h;cases h
  |some root=>rw[hs _ _ hq];rw[hq] at h;exact h
 |_=>exact h
theorem sM (hs:Sub hp hp') {r:R}: ∀ {xs:List LV} {ds:List DL} {K:Mo->Option R},fb hp xs ds K=some r->fb hp' xs ds K=some r
 | [],ds,K,h=>h
 |x::xs,[],K,h=>by cases h
 |x::xs,d::ds,K,h=>by
  have h:gD hp x d (fun up=>fb hp xs ds fun fh=>K (up++fh))=some r:=h
  show gD hp' x d (fun up=>fb hp' xs ds fun fh=>K (up++fh))=some r
  rw[kf] at h
  obtain ⟨u,h1,h2⟩:=Option.bind_eq_some_iff.1 h
  rw[kf,uN hs h1]
  exact sM hs h2
theorem HC (hs:Sub hp hp') {x:AV} {d:DV} {K:Mo->Option R} {r:R} (h:k0 hp x d K=some r):k0 hp' x d K=some r:=by
 match x,h with
 | .one (.l x),h=>
   simp only[k0] at h ⊢
   split at h
   ·rename_i id hid
    obtain ⟨ds,rfl,h1⟩:=oD h
    simp only[qO,Hv]
    split at h1
    ·rename_i h2;rw[hs _ _ h2];exact h1
    ·cases h1
   ·obtain ⟨d',rfl,h1⟩:=uF h
    exact uN hs h1
 | .one (.agg x),h=>
   obtain ⟨d',rfl,h1⟩:=oE h
   exact sM hs h1
theorem oH (hs:Sub hp hp') {r:R}: ∀ {ms:List Mode} {xs:List AV} {ds:List DV} {K:Mo->Option R},iA hp ms xs ds K=some r->iA hp' ms xs ds K=some r
 | [],_,_,_,h=>h
 | .io::ms,[],_,_,h=>h
 | .oU::ms,[],_,_,h=>h
 | .Bn::ms,[],_,_,h=>h
 | .eb::ms,[],_,_,h=>h
 | .oU::ms,x::xs,ds,K,h=>oH (ms:=ms) (xs:=xs) hs h
 | .Bn::ms,x::xs,ds,K,h=>oH (ms:=ms) (xs:=xs) hs h
 | .eb::ms,x::xs,ds,K,h=>oH (ms:=ms) (xs:=xs) hs h
 | .io::ms,x::xs,[],_,h=>by cases h
 | .io::ms,x::xs,d::ds,K,h=>by
   have h:k0 hp x d (fun up=>iA hp ms xs ds fun fh=>K (up++fh))=some r:=h
   show k0 hp' x d (fun up=>iA hp' ms xs ds fun fh=>K (up++fh))=some r
   rw[nG] at h
   obtain ⟨u,h1,h2⟩:=Option.bind_eq_some_iff.1 h
   rw[nG,HC hs h1]
   exact oH (ms:=ms) (xs:=xs) hs h2
theorem xz.sub {G:fe R} (hs:Sub hp hp') {f:FuncId} {g:pL} {xs:List AV} {n:Nat} {E:fR} {ks io rc:List Nat} {ds rs tH:List DV} {vs:List A1} {up fh:List (Nat×Option aq)} {n':Nat} (h:xz P G f g xs hp n E ks io rc ds rs tH vs up fh n'):xz P G f g xs hp' n E ks io rc ds rs tH vs up fh n':=
 {h with to:=BT hs h.to,bk:=oH hs h.bk}
theorem zi.sub {G:fe R} (hs:Sub hp hp') {op:Op} {sl:Nat->AV} {n:Nat} {E:fR} (h:zi P G op sl hp n E):zi P G op sl hp' n E:=by
 cases h with
 |plain hf he=>exact .plain hf (Lu hs hf he)
 |call c x hc hx f g DJ hg CZ A4 h0=>exact .call c x hc hx f g DJ hg CZ A4 (h0.sub hs)
 |inner c x hc hx f g DJ hg CZ id ver i fl e r r' A4 hr Oa wP hi h0 hl hh pI hE=>
  exact .inner c x hc hx f g DJ hg CZ id ver i fl e r r' A4 (hs _ _ hr) Oa wP hi (h0.sub (uM hs _)) (uM (uM hs _) _ _ _ hl) (uM (uM hs _) _ _ _ hh) pI hE
theorem HD (G:fe R) {o:Op} {sl C3:Nat->AV} (hf:zj o=false) {n:Nat} {K:fR->Option R} (h: ∀x∈o.operands.toList,St.rd G.nt sl x=St.rd G.nt C3 x):gX G o sl hp n K=gX G o C3 hp n K:=by
 cases o with
 |call c=>
  simp only[Op.operands,Call.operands] at h
  simp only[zj] at hf
  have ha:c.args.toList.map (St.rd G.nt sl)=c.args.toList.map (St.rd G.nt C3):=List.map_congr_left fun x hx=>h x (by simp only[Array.toList_append,List.mem_append];exact .inr hx)
  simp only[gX]
  split
  ·rename_i b hb;simp only[ha]
  ·rename_i f hc;rw[hc] at hf;cases hf
  ·rfl
 |build t ps=>
  have ha:ps.toList.map (fun p=>(p.1,St.rd G.nt sl p.2))=ps.toList.map (fun p=>(p.1,St.rd G.nt C3 p.2)):=List.map_congr_left fun p hp=>by rw[h p.2 (by simp[Op.operands];exact ⟨p.1,by simpa using hp⟩)]
  simp only[gX,ha]
 |buildSlice t m ps=>
  have ha:ps.toList.map (fun p=>(p.1,St.rd G.nt sl p.2))=ps.toList.map (fun p=>(p.1,St.rd G.nt C3 p.2)):=List.map_congr_left fun p hp=>by rw[h p.2 (by simp[Op.operands];exact ⟨p.1,by simpa using hp⟩)]
  simp only[gX,ha]
 |slice t x lo hi mx=>
  simp only[Op.operands] at h
  have hx:St.rd G.nt sl x=St.rd G.nt C3 x:=h x (by simp)
  have yn:lo.map (St.rd G.nt sl)=lo.map (St.rd G.nt C3):=by cases lo with
   |none=>rfl
   |some y=>simp only[Option.map_some];rw[h y (by simp)]
  have BL:hi.map (St.rd G.nt sl)=hi.map (St.rd G.nt C3):=by cases hi with
   |none=>rfl
   |some y=>simp only[Option.map_some];rw[h y (by simp)]
  simp only[gX,hx,yn,BL]
 |_=>simp only[Op.operands] at h;simp[gX] at h ⊢ <;>simp[h]
theorem zi.congr {G:fe R} {op:Op} {sl C3:Nat->AV} {n:Nat} {E:fR} (hh: ∀x∈op.operands.toList,St.rd G.nt sl x=St.rd G.nt C3 x) (h:zi P G op sl hp n E):zi P G op C3 hp n E:=by
 cases h with
 |plain hf he=>exact .plain hf (by rw[<- HD G.DN hf hh];exact he)
 |call c x hc hx f g DJ hg CZ A4 h0=>
  subst hc
  simp only[Op.operands,Call.operands,hx] at hh
  have ha:c.args.toList.map (St.rd G.nt sl)=c.args.toList.map (St.rd G.nt C3):=List.map_congr_left fun y hy=>hh y (by simp only[Array.toList_append,List.mem_append];exact .inr hy)
  exact .call c x rfl hx f g (by rw[<- hh x (by simp)];exact DJ) hg CZ (by rw[<- ha];exact A4) (by rw[<- ha];exact h0)
 |inner c x hc hx f g DJ hg CZ id ver i fl e r r' A4 hr Oa wP hi h0 hl hq pI hE=>
  subst hc
  simp only[Op.operands,Call.operands,hx] at hh
  have ha:c.args.toList.map (St.rd G.nt sl)=c.args.toList.map (St.rd G.nt C3):=List.map_congr_left fun y hy=>hh y (by simp only[Array.toList_append,List.mem_append];exact .inr hy)
  exact .inner c x rfl hx f g (by rw[<- hh x (by simp)];exact DJ) hg CZ id ver i fl e r r' (by rw[<- ha];exact A4) hr Oa wP hi (by rw[<- ha];exact h0) hl hq pI hE
end
section
variable {R:Type} {P:Program} {C:Cx} {S:St} {a:Act} {w:World} {ρ:Place} {Fs:Nat->FP}
theorem BU {ρ:Operand->Value} {o:Oper} {c:Call} {x:Operand} {f:FuncId} (h:o.op= .call c) (hx:c.callee= .value x) (hf:ρ x= .func (.func f) #[] #[]) (he:Enters P f) (w:World):(execOp ρ o).run P w= .ok (.enter f (c.args.map ρ)) w:=by
 obtain ⟨fn,h1,h2,h3⟩:=he
 have h2: ¬fn.name= "runtime.NumGoroutine" :=by simpa using h2
 have h3: ¬fn.body=none:=by intro e;rw[e] at h3;cases h3
 simp[execOp,h,resolve,hx,hf,Deferred.ofValue,invoke,callFunc,go_sem,h1,h2,h3]
theorem uO {G:fe R} (hN:G.nt=C.N) (h:aQ C S a w ρ Fs): ∀xs:List Operand,eV (C.env w ρ S.hp S.nx Fs) (xs.map (St.rd G.nt S.sl)) (xs.map a.eval)
 | []=>trivial
 |x::xs=>⟨by rw[hN];exact h.rd x,uO hN h xs⟩
theorem xz.main {G:fe R} {f:FuncId} {g:pL} {ax:List AV} {n:Nat} {E:fR} {ks io rc:List Nat} {ds rs tH:List DV} {vs:List A1} {up fh:List (Nat×Option aq)} {n':Nat} (h:aQ C S a w ρ Fs) (h0:xz P G f g ax S.hp n E ks io rc ds rs tH vs up fh n') {args:List Value} (Qg:eV (C.env w ρ S.hp S.nx Fs) ax args) (JE:n' <=S.nx) (Km: ∀k,n<=k->k<n'->S.hp k=some .dH):
 C.P0=P->Calls P f args.toArray w fun e w'=> ∃v ρ' Fs',e= .returned v/\
  (∀id,id∉ks++io-> ∀b,1<=Fs id b->w'.heap[b]? =w.heap[b]?)/\(∀id,id<S.nx->(∀root,S.hp id=some root->root.real)->ρ' id=ρ id)/\iy S.hp (ks++io)/\na n n' up/\(∀p∈fh,p.1∈io)/\
  (∀id∈io,∃root a_,S.hp id=some root/\(∀hp,eA hp fh id=some a_)/\ ∀e ver r0,root= .row e ver r0-> ∃r1,a_= .row e (ver+1) r1/\r1.len=r0.len)/\
  aQ C ⟨S.sl,eA S.hp E.up,S.nx⟩ a w' ρ' Fs' /\eE (C.env w' ρ' (eA S.hp E.up) S.nx Fs') E.v v:=by
 intro hP
 have oV:=pc h0.nd
 have Tx:=jE h0.dj
 obtain ⟨F,a1,a2,a3⟩:=xt h.mem _ _ _ _ _ _ _ _ h0.to Qg
 have fJ:=a3.lt h.mem
 have EL:=wQ h.mem oV fJ a2 Tx
 have Kl: ∀b,F b<=1:=fun b=>by have:=a2 b;have:=jM Fs b S.nx oV fJ;have:=h.mem.one b;omega
 have Tz: ∀b,1<=F b->b<w.heap.size:=fun b hb=>(h.mem.nW b (by have:=a2 b;have:=jM Fs b S.nx oV fJ;omega)).1
 have zm:=h0.ay (CV C S w Fs F rc (h.mem.ground _) EL) _ hP a1 Kl Tz
 refine Calls.mono zm fun e w' he=> ?_
 obtain ⟨v,ρ',Fs',Tt,rfl,k1,k2,k3,k4,k5,k6,k7,k8⟩:=Jz (tt:=G.tt) h Qg h0.yf oV a3 a2 Tx h0.Um h0.cl JE Km h0.bk he
 cases k1
 obtain rfl:=h0.DN
 refine ⟨v,ρ',Fs',rfl,fun id hid b hb=> ?_,k4,a3,mz _ _ _ _ _ _ h0.cl h0.Um,k2,k6,k7,k8⟩
 have hi:=Li h.mem hb
 have h1:=oF Fs b S.nx oV fJ hi hid
 have h2:=h.mem.one b
 have h3:=h.mem.nW b (by have:=iz Fs b hi;omega)
 refine k3 b h3.1 ?_
 have:=a2 b
 omega
theorem k9 {E:Env} {id ver i fl n:Nat}: ∀ {ms:List Mode} {xs:List AV} {vs:List Value},iB ms xs=some (id,ver,i,fl)->eV E xs vs->(∃v,dD E (.inner id ver i fl) v/\ ∀E',dD E' (.own n) v->eV E' xs vs->eV E' (wS n ms xs) vs)
 | [],xs,vs,h,_=>by cases xs<;>simp[iB] at h
 |m::ms,[],vs,h,_=>by cases m<;>simp[iB] at h
 |m::ms,x::xs,[],h,hv=>hv.elim
 | .oU::ms,x::xs,v::vs,h,hv=>by
   obtain ⟨u,h1,h2⟩:=k9 (ms:=ms) (xs:=xs) (by simpa[iB] using h) hv.2
   exact ⟨u,h1,fun E' hu hh=>⟨hh.1,h2 E' hu hh.2⟩⟩
 | .Bn::ms,x::xs,v::vs,h,hv=>by
   obtain ⟨u,h1,h2⟩:=k9 (ms:=ms) (xs:=xs) (by simpa[iB] using h) hv.2
   exact ⟨u,h1,fun E' hu hh=>⟨hh.1,h2 E' hu hh.2⟩⟩
 | .eb::ms,x::xs,v::vs,h,hv=>by
   obtain ⟨u,h1,h2⟩:=k9 (ms:=ms) (xs:=xs) (by simpa[iB] using h) hv.2
   exact ⟨u,h1,fun E' hu hh=>⟨hh.1,h2 E' hu hh.2⟩⟩
 | .io::ms,x::xs,v::vs,h,hv=>by
   by_cases hx: ∃a b c d,x= .one (.l (.inner a b c d))
   ·obtain ⟨a,b,c,d,rfl⟩:=hx
    simp only[iB,Option.some.injEq,Prod.mk.injEq] at h
    obtain ⟨rfl,rfl,rfl,rfl⟩:=h
    exact ⟨v,hv.1,fun E' hu hh=>⟨hu,hh.2⟩⟩
   ·have e1:iB (.io::ms) (x::xs)=iB ms xs:=by
     rcases x with (y|ys)|ys
     ·cases y<;>first|rfl|exact absurd ⟨_,_,_,_,rfl⟩ hx
     ·rfl
     ·rfl
    have e2:wS n (.io::ms) (x::xs)=x::wS n ms xs:=by
     rcases x with (y|ys)|ys
     ·cases y<;>first|rfl|exact absurd ⟨_,_,_,_,rfl⟩ hx
     ·rfl
     ·rfl
    rw[e1] at h
    obtain ⟨u,h1,h2⟩:=k9 h hv.2
    exact ⟨u,h1,fun E' hu hh=>by rw[e2];exact ⟨hh.1,h2 E' hu hh.2⟩⟩
theorem zi.wp {G:fe R} (hG:IJ P G) (hN:O8 P G.nt C) (h:aQ C S a w ρ Fs) {o:Oper} {n:Nat} {E:fR} (hd:zi P G o.op S.sl S.hp n E) (Km: ∀k,n<=k->k<E.nx->S.hp k=some .dH) (JE:E.nx<=S.nx) {next:Act->World->Prop} {Q:Exit->Act->World->Prop}
 (BV: ∀u w' ρ' Fs',aQ C ⟨S.sl,eA S.hp E.up,S.nx⟩ a w' ρ' Fs'->eE (C.env w' ρ' (eA S.hp E.up) S.nx Fs') E.v u->next (a.put o.dst u) w'):o.wp P a w next Q:=by
 cases hd with
 |plain hf he=>
  obtain ⟨w',ρ',Fs',u,hr,hrel,hv⟩:=HE (P:=P) (G:=G.DN) hG.tt hN.nt h hf he Km
  unfold Oper.wp
  rcases hr with hr| ⟨hr,rfl⟩
  ·rw[hr];exact BV _ _ _ _ hrel hv
  ·rw[hr];exact BV _ _ _ _ hrel hv
 |call c x hc hx f g DJ hg CZ A4 h0=>
  have EQ:=h.rd x
  rw[<- hN.nt,DJ] at EQ
  have EQ:a.eval x= .func (.func f) #[] #[]:=EQ
  unfold Oper.wp
  rw[BU hc hx EQ CZ w]
  have fj:(c.args.toList.map a.eval).toArray=c.args.map a.eval:=by rw[<- Array.toList_map,Array.toArray_toList]
  have hE:E.nx=_:=congrArg fR.nx h0.DN
  have zm:=h0.main h (uO hN.nt h c.args.toList) (by rw[hE] at JE;exact JE) (by rw[hE] at Km;exact Km) hN.p
  rw[fj] at zm
  refine Calls.mono zm fun e w' he=> ?_
  obtain ⟨v,ρ',Fs',rfl,_,_,_,_,_,_,h1,h2⟩:=he
  exact BV _ _ _ _ h1 h2
 |inner c x hc hx f g DJ hg CZ id ver i fl e r r' A4 hr Oa wP hi h0 hl hh pI hE=>
  rename_i E0 ks io rc ds rs tH vs up fh n' e2 v2 e3 v3 i3 f3 l r3
  have EQ:=h.rd x
  rw[<- hN.nt,DJ] at EQ
  have EQ:a.eval x= .func (.func f) #[] #[]:=EQ
  unfold Oper.wp
  rw[BU hc hx EQ CZ w]
  have fj:(c.args.toList.map a.eval).toArray=c.args.map a.eval:=by rw[<- Array.toList_map,Array.toArray_toList]
  have R5:E0.nx=n':=congrArg fR.nx h0.DN
  have VA:E0.up=cF ks++kZ g.oc rc++up++fh:=congrArg fR.up h0.DN
  obtain rfl:=hE
  simp only[] at Km JE BV
  have WY:=mz _ _ _ _ _ _ h0.cl h0.Um
  have fJ:=WY.1
  have Qg:=uO hN.nt h c.args.toList
  obtain ⟨v,hv,Up⟩:=k9 (n:=n) A4 Qg
  obtain ⟨_,hv⟩:=hv
  obtain ⟨_,_,hv⟩:=hv _ hr
  obtain ⟨_,_,gW⟩:=hv _ _ rfl
  have gW:cellAt w (ρ id) (i*r.size+fl)=some v:=gW
  have TA:S.hp n=some .dH:=Km n (Nat.le_refl _) (by rw[R5];omega)
  have mg:id≠n:=by rintro rfl;rw[hr] at TA;cases TA
  obtain ⟨q,lR,b,cap,hρ,Nb,h1,Lr⟩:=h.Ni TA hr Oa wP hi gW
  have nU:=BR S.hp id n e ver i fl r
  generalize WZ:eA S.hp (ph id n e ver i fl r)=pM at*
  have Nk:pM n=some (.row 0 0 (.ints .i64 (dm r i fl))):=by rw[nU,if_pos rfl]
  have Lv:pM id=some (.hole e ver r i fl):=by rw[nU,if_neg mg,if_pos rfl]
  have EN:=cz h.mem TA
  have Uq:=Up (C.env w (gq ρ n q) pM S.nx lR) ⟨EN,fun root aj=>by
   have aj:pM n=some root:=aj
   rw[Nk] at aj;cases aj
   exact ⟨_,rfl,by rw[Lr];show hdr q _=hdr (gq ρ n q n) _;rw[dT];rfl⟩⟩ (uO hN.nt h1 c.args.toList)
  have zm:=h0.main h1 Uq (by rw[R5] at JE;exact JE) (fun k k1 k2=>by
   show pM k=some .dH
   rw[nU,if_neg (by omega),if_neg (by rintro rfl;have:=Km k (by omega) (by rw[R5];exact k2);rw[hr] at this;cases this)]
   exact Km k (by omega) (by rw[R5];exact k2)) hN.p
  rw[fj] at zm
  refine Calls.mono zm fun e4 w' he=> ?_
  obtain ⟨v4,ρ',Fs',rfl,k1,k2,k3,k4,k5,k6,h2,h3⟩:=he
  have Lx:id∉ks++io:=fun hh=>by
   obtain ⟨_,hk,Mp⟩:=k3 id hh
   have hk:pM id=_:=hk
   rw[Lv] at hk;cases hk;exact Mp
  have RY: ∀hp,eA hp up id=hp id:=fun hp=>eS _ _ fun p hp e5=>by
   obtain ⟨m1,m2⟩:=k4.2.1 p hp
   rw[e5] at m1 m2
   have:=Km id (by omega) (by rw[R5];exact m2)
   rw[hr] at this;cases this
  have Ur: ∀hp,eA hp fh id=hp id:=fun hp=>eS _ _ fun p hp e5=>Lx (by rw[<- e5];simp[k5 p hp])
  have Us:eA pM E0.up id=some (.hole e ver r i fl):=by
   have O9:=hh
   rw[VA,bE,bE,bE,Ur,RY,lV,pg,wR] at O9 ⊢
   generalize (ks++match g.oc with| .aZ=>rc|_=>[])=kk at O9 ⊢
   rw[je] at O9 ⊢
   split at O9
   ·cases O9
   ·rename_i W0;rw[if_neg W0];exact Lv
  have R6:ρ' id=ρ id:=by
   rw[k2 id (cz h.mem hr) (fun root aj=>by have aj:pM id=some root:=aj;rw[Lv] at aj;cases aj;trivial),lU _ _ mg]
  have Ut:ρ' n=q:=by
   rw[k2 n EN (fun root aj=>by have aj:pM n=some root:=aj;rw[Nk] at aj;cases aj;trivial),dT]
  have O_:cellAt w' (ρ' id) (i*r.size+fl)=some v:=by
   rw[R6,hρ]
   rw[hρ] at gW
   have:=k1 id Lx b Nb
   simp only[cellAt,World.cell?] at gW ⊢
   rw[this];exact gW
  have hlen:l.length=(dm r i fl).length:=by
   rw[VA,bE] at hl
   by_cases Lo:n∈io
   ·obtain ⟨root,a_,m1,m2,m4⟩:=k6 n Lo
    have m1:pM n=_:=m1
    rw[Nk] at m1;cases m1
    obtain ⟨r6,rfl,m3⟩:=m4 _ _ _ rfl
    rw[m2] at hl
    cases hl
    simpa[Row.len] using m3
   ·rw[eS _ _ (fun p hp e5=>Lo (by rw[<- e5];exact k5 p hp)),bE,eS _ _ (fun p hp e5=>by have:=(k4.2.1 p hp).1;omega),bE,lV,pg,wR] at hl
    generalize (ks++match g.oc with| .aZ=>rc|_=>[])=kk at hl
    rw[je] at hl
    split at hl
    ·cases hl
    ·rw[Nk] at hl;cases hl;rfl
  obtain ⟨Uu,h4,hM⟩:=h2.Nj Us wP hl pI O_ (by rw[Lr,Ut,hlen])
  have Uv:eA S.hp (ph id n e ver i fl r++E0.up++[(id,some (aq.row e (ver+1) r')),(n,none)])=eA (eA pM E0.up) [(id,some (aq.row e (ver+1) r')),(n,none)]:=by
   rw[bE,bE,WZ]
  rw[Uv] at BV
  exact BV v4 w' ρ' Uu h4 (h3.mono hM)
end
section
variable {R:Type} {P:Program}
structure sN where
 i:Nat
 o:Oper
 n:Nat
 E:fR
 h:Nat->Option aq
 w:List Nat
 ids:List Nat
def sN.log (s:sN):HF:=⟨s.o,s.w,s.ids⟩
def jf (ops:Array Oper) (sl:Nat->AV) (o:Oper):Option Bool:=match o.guard with
 |none=>some true
 |some (j,want)=>match uP ops j with
  |none=>none
  |some t=>match sl t with
   | .one (.l (.b x))=>some (x==want)
   | .one (.l .undef)=>some false
   |_=>none
def St.go (S:St) (s:sN):St:=St.put ⟨S.sl,eA S.hp s.E.up,S.nx⟩ s.o.dst s.E.v
structure oI (P:Program) (G:fe R) (ops:Array Oper) (s:sN) (S:St):Prop where
 dst: ∀d,s.o.dst=some d->d<G.nt
 gt: ∀j want t,s.o.guard=some (j,want)->uP ops j=some t->t<G.nt
 Pa: ∀p∈s.E.up,p.1∈s.w
 run:(jf ops S.sl s.o=some true/\Sub s.h S.hp/\zi P G s.o.op S.sl s.h s.n s.E/\(∀k,s.n<=k->k<s.E.nx->S.hp k=some .dH/\k∈s.w)/\s.E.nx<=S.nx)\/(jf ops S.sl s.o=some false/\s.E=qP s.n)
inductive A7 (P:Program) (G:fe R) (ops:Array Oper):List sN->St->St->Prop
 |nil (S:St):A7 P G ops [] S S
 |cons {s:sN} {l:List sN} {S S':St} (h:oI P G ops s S) (hr:A7 P G ops l (S.go s) S'):A7 P G ops (s::l) S S'
theorem St.IK (S:St) (s:sN):(S.go s).hp=eA S.hp s.E.up:=by unfold St.go St.put;split<;>rfl
theorem St.IL (S:St) (s:sN):(S.go s).nx=S.nx:=by unfold St.go St.put;split<;>rfl
theorem St.IM (S:St) (s:sN):(S.go s).sl=fun t=>if s.o.dst=some t then s.E.v else S.sl t:=by
 unfold St.go St.put
 cases s.o.dst with
 |none=>funext t;simp
 |some d=>
  funext t
  by_cases e:t=d
  ·subst e;simp
  ·have e1:(t==d)=false:=by simp[e]
   have e2: ¬d=t:=fun h=>e h.symm
   simp[e1,e2]
theorem St.ext' {S T:St} (h1:S.sl=T.sl) (h2:S.hp=T.hp) (h3:S.nx=T.nx):S=T:=by cases S;cases T;cases h1;cases h2;cases h3;rfl
section
variable {C:Cx} {S:St} {a:Act} {w:World} {ρ:Place} {Fs:Nat->FP} {ops:Array Oper}
theorem BW {G:fe R} (hN:G.nt=C.N) (h:aQ C S a w ρ Fs) {o:Oper} {x:Bool} (Ly: ∀j want t,o.guard=some (j,want)->uP ops j=some t->t<G.nt) (hg:jf ops S.sl o=some x):Region.wanted o (yielded ops a.tmps)=x:=by
 unfold jf at hg
 unfold Region.wanted
 split at hg
 ·rename_i hq;cases hg;simp[hq]
 ·rename_i j want hq
  simp only[hq]
  split at hg
  ·cases hg
  ·rename_i t ht
   have Lz:=Ly j want t hq ht
   have hs:=h.oB t
   rw[hN] at Lz
   simp only[Cx.val,if_pos Lz] at hs
   have hd:(ops[j]?).bind (·.dst)=some t:=by
    unfold uP at ht
    split at ht
    ·rename_i o' Uw;simp only[Uw,Option.bind_some];exact ht
    ·cases ht
   have mb:t<a.tmps.size:=by rw[h.size];exact Lz
   split at hg
   ·rename_i y hy
    cases hg
    rw[hy] at hs
    have hs:a.tmps.getD t undef= .bool y:=hs
    have e:a.tmps[t]? =some (.bool y):=by simp[Array.getD_eq_getD_getElem?,Array.getElem?_eq_getElem mb] at hs ⊢;exact hs
    simp[yielded,hd,e]
   ·rename_i hy
    cases hg
    rw[hy] at hs
    have hs:a.tmps.getD t undef=undef:=hs
    have e:a.tmps[t]? =some undef:=by simp[Array.getD_eq_getD_getElem?,Array.getElem?_eq_getElem mb] at hs ⊢;exact hs
    simp[yielded,hd,e,undef]
   ·cases hg
theorem oI.wp {G:fe R} (hG:IJ P G) (hN:O8 P G.nt C) (h:aQ C S a w ρ Fs) {s:sN} (hs:oI P G ops s S) (ho:ops[s.i]? =some s.o) {K:Act->World->Prop} {Q:Exit->Act->World->Prop} (hK: ∀a' w' ρ' Fs',aQ C (S.go s) a' w' ρ' Fs'->K a' w'):wpOp P ops Q s.i K a w:=by
 unfold wpOp
 simp only[ho]
 rcases hs.run with ⟨hg,JF,Ux,Km,JE⟩| ⟨hg,hE⟩
 ·rw[BW hN.nt h hs.gt hg]
  simp only[if_true]
  refine .inl ((Ux.sub JF).wp hG hN h (fun k h1 h2=>(Km k h1 h2).1) JE fun u w' ρ' Fs' h1 h2=>hK _ _ ρ' Fs' ?_)
  exact h1.put s.o.dst s.E.v u (fun _ _=>h2) (fun d hd=>by rw[<- hN.nt];exact hs.dst d hd)
 ·rw[BW hN.nt h hs.gt hg]
  simp only[Bool.false_eq_true,if_false]
  refine hK _ _ ρ Fs ?_
  have e:S.go s=S.put s.o.dst (.l .undef):=by unfold St.go;rw[hE];rfl
  rw[e]
  exact h.put s.o.dst (.l .undef) undef (fun _ _=>rfl) (fun d hd=>by rw[<- hN.nt];exact hs.dst d hd)
theorem zn {G:fe R} (hG:IJ P G) (hN:O8 P G.nt C) {Q:Exit->Act->World->Prop}: ∀ {l:List sN} {S S':St} {a:Act} {w:World} {ρ:Place} {Fs:Nat->FP},A7 P G ops l S S'->aQ C S a w ρ Fs->(∀s∈l,ops[s.i]? =some s.o)->(∀a' w' ρ' Fs',aQ C S' a' w' ρ' Fs'->Q .normal a' w')->wpOps P ops Q (l.map (·.i)) a w
 | [],_,_,a,w,ρ,Fs,.nil _,h,_,hQ=>hQ _ _ _ _ h
 |s::l,S,S',a,w,ρ,Fs,.cons h1 h2,h,ho,hQ=>by
  rw[List.map_cons,wpOps_cons]
  exact h1.wp hG hN h (ho s (by simp)) fun a' w' ρ' Fs' h'=>zn hG hN h2 h' (fun s hs=>ho s (by simp[hs])) hQ
end
section
variable {G:fe R} {ops:Array Oper}
def sN.fit (s:sN):Prop:= ∀j r,s.h j=some r->j∈s.ids
def Pb (ops:Array Oper) (s t:sN):Prop:=indep ops s.log t.log=true
theorem Pb.spec {s t:sN} (h:Pb ops s t):(∀d,s.o.dst=some d->d∉t.o.looksAt ops/\t.o.dst≠some d)/\(∀d,t.o.dst=some d->d∉s.o.looksAt ops)/\(∀x∈s.w,x∉t.w)/\(∀x∈s.w,x∉t.ids)/\(∀x∈t.w,x∉s.ids):=by
 unfold Pb indep at h
 obtain ⟨h,h5⟩:=az h
 obtain ⟨h,h4⟩:=az h
 obtain ⟨h,h3⟩:=az h
 obtain ⟨h1,h2⟩:=az h
 obtain ⟨a1,a2,a3⟩:=Oper.apart_spec h1
 exact ⟨fun d hd=>⟨a1 d hd,a2 d hd⟩,a3,jE h3,jE h4,jE h5⟩
theorem A8 {sl C3:Nat->AV} {o:Oper} (h: ∀t∈o.looksAt ops,C3 t=sl t):jf ops C3 o=jf ops sl o:=by
 unfold jf
 split
 ·rfl
 ·rename_i j want hq
  split
  ·rfl
  ·rename_i t ht
   have:t∈o.looksAt ops:=by
    unfold Oper.looksAt
    have hd:(ops[j]?).bind (·.dst)=some t:=by
     unfold uP at ht
     split at ht
     ·rename_i o' Uw;simp only[Uw,Option.bind_some];exact ht
     ·cases ht
    simp[hq,hd]
   rw[h t this]
theorem LA {nt:Nat} {sl C3:Nat->AV} {o:Oper} (h: ∀t∈o.looksAt ops,C3 t=sl t): ∀x∈o.op.operands.toList,St.rd nt sl x=St.rd nt C3 x:=by
 intro x hx
 cases x with
 |tmp t=>
  have:t∈o.looksAt ops:=by
   unfold Oper.looksAt
   exact List.mem_append_left _ (List.mem_filterMap.2 ⟨.tmp t,hx,rfl⟩)
  simp only[St.rd,h t this]
 |_=>rfl
theorem oI.at {s:sN} {S S':St} (h:oI P G ops s S) (h1: ∀t∈s.o.looksAt ops,S'.sl t=S.sl t) (h2:Sub s.h S.hp->Sub s.h S'.hp) (h3: ∀k,k∈s.w->S.hp k=some .dH->S'.hp k=some .dH) (h4:S'.nx=S.nx):oI P G ops s S':=by
 refine ⟨h.dst,h.gt,h.Pa,?_⟩
 rw[A8 h1]
 rcases h.run with ⟨a1,a2,a3,a4,a5⟩|h'
 ·exact .inl ⟨a1,h2 a2,a3.congr (LA h1),fun k k1 k2=>⟨h3 k (a4 k k1 k2).2 (a4 k k1 k2).1,(a4 k k1 k2).2⟩,by rw[h4];exact a5⟩
 ·exact .inr h'
theorem C4 {s:sN} (hw: ∀p∈s.E.up,p.1∈s.w) (S:St) {j:Nat} (hj:j∉s.w):(S.go s).hp j=S.hp j:=by
 rw[St.IK]
 exact eS _ _ (fun p hp e=>hj (by rw[<- e];exact hw p hp))
theorem swap {s t:sN} {S:St} (hf:s.fit) (VB:t.fit) (hi:Pb ops s t) (h1:oI P G ops s S) (h2:oI P G ops t (S.go s)):oI P G ops t S/\oI P G ops s (S.go t)/\(S.go s).go t=(S.go t).go s:=by
 obtain ⟨i1,i2,i3,i4,i5⟩:=hi.spec
 have wL: ∀x∈t.w,x∉s.w:=fun x h1 h2=>i3 x h2 h1
 refine ⟨?_,?_,St.ext' ?_ ?_ ?_⟩
 ·refine h2.at (fun u hu=> ?_) (fun hs j r hr=> ?_) (fun k hk hg=> ?_) (St.IL S s).symm
  ·rw[St.IM]
   simp only
   rw[if_neg]
   exact fun e=>(i1 u e).1 hu
  ·have:=hs j r hr
   rwa [C4 h1.Pa S (fun hw=>i4 j hw (VB j r hr))] at this
  ·rwa [C4 h1.Pa S (wL k hk)] at hg
 ·refine h1.at (fun u hu=> ?_) (fun hs j r hr=> ?_) (fun k hk hg=> ?_) (St.IL S t)
  ·rw[St.IM]
   simp only
   rw[if_neg]
   exact fun e=>i2 u e hu
  ·rw[C4 h2.Pa S (fun hw=>i5 j hw (hf j r hr))]
   exact hs j r hr
  ·rw[C4 h2.Pa S (i3 k hk)]
   exact hg
 ·funext u
  simp only[St.IM]
  by_cases e1:s.o.dst=some u
  ·have:=(i1 u e1).2
   simp[e1,this]
  ·simp[e1]
 ·simp only[St.IK]
  funext j
  by_cases ht: ∃p∈t.E.up,p.1=j
  ·obtain ⟨p,hp,e⟩:=ht
   have W1:j∈t.w:=by rw[<- e];exact h2.Pa p hp
   rw[ze t.E.up (hp':=S.hp) ⟨p,hp,e⟩]
   exact (eS _ _ (fun q hq e2=>wL j W1 (by rw[<- e2];exact h1.Pa q hq))).symm
  ·have VC: ∀p∈t.E.up,p.1≠j:=fun p hp e=>ht ⟨p,hp,e⟩
   rw[eS _ _ VC]
   exact y8 _ (eS _ _ VC).symm
 ·simp only[St.IL]
theorem A7.front: ∀ {A:List sN} {x:sN} {B:List sN} {S S':St},A7 P G ops (A++x::B) S S'->(∀s∈A++x::B,s.fit)->(∀s∈A,Pb ops s x)->A7 P G ops (x::(A++B)) S S'
 | [],x,B,S,S',h,_,_=>h
 |s::A,x,B,S,S',.cons h1 h2,hf,hi=>by
  have ih:=A7.front h2 (fun t ht=>hf t (List.mem_cons_of_mem _ ht)) (fun t ht=>hi t (by simp[ht]))
  cases ih with
  |cons g1 g2=>
   obtain ⟨k1,k2,k3⟩:=swap (hf s (by simp)) (hf x (by simp)) (hi s (by simp)) h1 g1
   exact .cons k1 (.cons k2 (by rw[<- k3];exact g2))
end
end
section
variable {R:Type} {P:Program} {G:fe R} {ops:Array Oper}
theorem tI (acc:List Nat) (j:Nat): ∀es:List Edge,Nat.testBit (es.foldr (fun e s=>bif Region.binds .any e then (2^e.on ||| (acc[e.on]?.getD 0) ||| s) else s) 0) j=true-> ∃e∈es,Region.binds .any e=true/\(e.on=j\/Nat.testBit (acc[e.on]?.getD 0) j=true)
 | [],h=>by simp at h
 |e::es,h=>by
  simp only[List.foldr_cons] at h
  cases hb:Region.binds .any e with
  |false=>
   rw[hb] at h
   obtain ⟨e',h1,h2⟩:=tI acc j es h
   exact ⟨e',by simp[h1],h2⟩
  |true=>
   rw[hb] at h
   simp only[cond_true,Nat.testBit_or,Bool.or_eq_true] at h
   rcases h with (h|h)|h
   ·exact ⟨e,by simp,hb,.inl (by simpa[Nat.testBit_two_pow] using h)⟩
   ·exact ⟨e,by simp,hb,.inr h⟩
   ·obtain ⟨e',h1,h2⟩:=tI acc j es h
    exact ⟨e',by simp[h1],h2⟩
theorem qn: ∀(l:List Oper) (acc:List Nat) (k:Nat),k<acc.length->(lJ acc l)[k]? =acc[k]?
 | [],acc,k,h=>rfl
 |o::l,acc,k,h=>by rw[lJ,qn l _ k (by simp;omega),List.getElem?_append_left h]
theorem uQ (acc:List Nat) (o:Oper) (l:List Oper):lJ acc (o::l)=lJ (acc++[uR acc o]) l:=rfl
theorem HG (l:List Oper): ∀(acc:List Nat) (k:Nat) (o:Oper),l[k]? =some o->(lJ acc l)[acc.length+k]? =some (uR ((lJ acc l).take (acc.length+k)) o):=by
 induction l with
 |nil=>intro acc k o h;simp at h
 |cons o' l ih=>
  intro acc k o h
  cases k with
  |zero=>
   have h:o' =o:=by simpa using h
   subst h
   have e:(lJ acc (o' ::l)).take acc.length=acc:=by
    apply List.ext_getElem?
    intro i
    rw[List.getElem?_take]
    split
    ·exact qn _ _ _ ‹_›
    ·rw[List.getElem?_eq_none (by omega)]
   rw[Nat.add_zero,e,uQ,qn l _ _ (by simp)]
   simp
  |succ k=>
   have h2:=ih (acc++[uR acc o']) k o (by simpa using h)
   rw[List.length_append,List.length_singleton,Nat.add_right_comm] at h2
   rw[uQ]
   exact h2
def Nl (l:List Oper) (k j:Nat):Prop:=Nat.testBit ((lJ [] l)[k]?.getD 0) j=true
theorem Nl.step {l:List Oper} {k j:Nat} {o:Oper} (ho:l[k]? =some o) (h:Nl l k j): ∃e∈o.after.toList,Region.binds .any e=true/\(e.on=j\/Nl l e.on j):=by
 unfold Nl at h
 have:=HG l [] k o ho
 simp only[List.length_nil,Nat.zero_add] at this
 rw[this] at h
 simp only[Option.getD_some,uR] at h
 obtain ⟨e,h1,h2,h3⟩:=tI _ _ _ h
 refine ⟨e,h1,h2,h3.imp id fun h3=> ?_⟩
 unfold Nl
 rw[List.getElem?_take] at h3
 split at h3
 ·exact h3
 ·simp at h3
section
variable {C:Cx}
theorem LB (hG:IJ P G) (hN:O8 P G.nt C) {Q:Exit->Act->World->Prop} (hb: ∀(i:Nat) (o:Oper) (e:Edge),ops[i]? =some o->e∈o.after.toList->Region.binds .any e=true->e.on<i): ∀(fuel:Nat) (listed:Array Bool) (l:List sN) {S S':St} {a:Act} {w:World} {ρ:Place} {Fs:Nat->FP},A7 P G ops l S S'->aQ C S a w ρ Fs->
 listed.size=ops.size->(∀i,i<ops.size->(listed.getD i true=false↔ ∃s∈l,s.i=i))->l.length<=fuel->(∀s∈l,ops[s.i]? =some s.o)->(∀s∈l,s.fit)->List.Pairwise (fun s t=>s.i<t.i/\(Nl ops.toList t.i s.i\/Pb ops s t)) l->
 (∀k j,k<ops.size->listed.getD k true=true->Nl ops.toList k j->listed.getD j false=true)->
 (∀a' w' ρ' Fs',aQ C S' a' w' ρ' Fs'->Q .normal a' w')->wpAny P .any ops Q fuel listed a w:=by
 have un: ∀(listed:Array Bool) i,listed.size=ops.size->i<ops.size->listed.getD i true=listed.getD i false:=fun listed i h1 h2=>by
  rw[<- h1] at h2
  simp[Array.getD_eq_getD_getElem?,Array.getElem?_eq_getElem h2]
 intro fuel
 induction fuel with
 |zero=>
  intro listed l S S' a w ρ Fs hr h mb wU hlen ho hf hp sB hQ
  obtain rfl:l=[]:=List.length_eq_zero_iff.1 (by omega)
  cases hr
  refine ⟨?_,hQ _ _ _ _ h⟩
  refine List.eq_nil_iff_forall_not_mem.2 fun i hi=> ?_
  obtain ⟨h1,o,h2,_⟩:=mem_ready.1 hi
  obtain ⟨s,hs,_⟩:=(wU i (Array.getElem?_eq_some_iff.1 h2).1).1 h1
  simp at hs
 |succ fuel ih=>
  intro listed l S S' a w ρ Fs hr h mb wU hlen ho hf hp sB hQ
  refine ⟨fun LC=> ?_,fun i hi=> ?_⟩
  ·cases l with
   |nil=>cases hr;exact hQ _ _ _ _ h
   |cons s l=>
    exfalso
    have Mp:=ho s (by simp)
    have Uy:=(Array.getElem?_eq_some_iff.1 Mp).1
    have:s.i∈Region.ready .any ops listed:=by
     refine mem_ready.2 ⟨(wU s.i Uy).2 ⟨s,by simp,rfl⟩,s.o,Mp,fun e he W2=> ?_⟩
     have fJ:=hb s.i s.o e Mp (by simpa using he) W2
     rw[<- un listed e.on mb (by omega)]
     cases hq:listed.getD e.on true with
     |true=>rfl
     |false=>
      obtain ⟨t,ht,e2⟩:=(wU e.on (by omega)).1 hq
      rcases List.mem_cons.1 ht with rfl|ht
      ·omega
      ·have:=((List.pairwise_cons.1 hp).1 t ht).1;omega
    rw[LC] at this
    simp at this
  ·obtain ⟨h1,o,h2,h3⟩:=mem_ready.1 hi
   have Uz:=(Array.getElem?_eq_some_iff.1 h2).1
   obtain ⟨s,hs,rfl⟩:=(wU i Uz).1 h1
   obtain ⟨A,B,rfl⟩:=List.append_of_mem hs
   have Mp:=ho s hs
   rw[Mp] at h2;cases h2
   have Qh:ops.toList[s.i]? =some s.o:=by simpa using Mp
   have R7: ∀j,Nl ops.toList s.i j->listed.getD j false=true:=fun j hj=>by
    obtain ⟨e,e1,e2,e3⟩:=hj.step Qh
    have hl:=h3 e (by simpa using e1) e2
    rcases e3 with rfl|e3
    ·exact hl
    ·have fJ:=hb s.i s.o e Mp e1 e2
     exact sB e.on j (by omega) (by rw[un listed e.on mb (by omega)];exact hl) e3
   obtain ⟨pA,pB,UA⟩:=List.pairwise_append.1 hp
   have UB: ∀t∈A,Pb ops t s:=fun t ht=>by
    rcases (UA t ht s (by simp)).2 with hk|hk
    ·exfalso
     have h4:=R7 t.i hk
     have Un:=ho t (by simp[ht])
     have R8:=(Array.getElem?_eq_some_iff.1 Un).1
     have h5:=(wU t.i R8).2 ⟨t,by simp[ht],rfl⟩
     rw[un listed t.i mb R8,h4] at h5
     cases h5
    ·exact hk
   cases hr.front hf UB with
   |cons g1 g2=>
    refine g1.wp hG hN h Mp fun a' w' ρ' Fs' h'=> ?_
    have mg: ∀t∈A++B,t.i≠s.i:=fun t ht=>by
     rcases List.mem_append.1 ht with ht|ht
     ·have:=(UA t ht s (by simp)).1;omega
     ·have:=((List.pairwise_cons.1 pB).1 t ht).1;omega
    refine ih (listed.setIfInBounds s.i true) (A++B) g2 h' (by simp[mb]) (fun j hj=> ?_) (by simp at hlen ⊢;omega) (fun t ht=>ho t (by simp at ht ⊢;rcases ht with ht|ht<;>simp[ht])) (fun t ht=>hf t (by simp at ht ⊢;rcases ht with ht|ht<;>simp[ht])) ?_ (fun k j hk hl Qb=> ?_) hQ
    ·by_cases e:j=s.i
     ·subst e
      refine ⟨fun hh=> ?_,fun ⟨t,ht,e⟩=>absurd e (mg t ht)⟩
      rw[un _ _ (by simp[mb]) hj] at hh
      have:(listed.setIfInBounds s.i true).getD s.i false=true:=by
       have:s.i<listed.size:=by omega
       simp[this]
      rw[this] at hh;cases hh
     ·rw[getD_set_ne true (Ne.symm e),wU j hj]
      constructor
      ·rintro ⟨t,ht,rfl⟩
       refine ⟨t,?_,rfl⟩
       simp at ht ⊢
       rcases ht with ht|rfl|ht
       ·exact .inl ht
       ·exact absurd rfl e
       ·exact .inr ht
      ·rintro ⟨t,ht,rfl⟩
       exact ⟨t,by simp at ht ⊢;rcases ht with ht|ht<;>simp[ht],rfl⟩
    ·exact List.pairwise_append.2 ⟨pA,(List.pairwise_cons.1 pB).2,fun x hx y hy=>UA x hx y (by simp[hy])⟩
    ·refine getD_set_true ?_
     by_cases e:k=s.i
     ·subst e;exact R7 j Qb
     ·rw[getD_set_ne true (Ne.symm e)] at hl
      exact sB k j hk hl Qb
end
structure ER (Sg S:St) (N:Nat):Prop where
 sl:Sg.sl=S.sl
 nx:Sg.nx=N
 hp: ∀j,S.hp j=Sg.hp j\/(Sg.hp j=some .dH/\S.hp j=none)
 gh: ∀k,S.nx<=k->k<N->Sg.hp k=some .dH
theorem zo {S:St} {t:Tmp} {v:AV} (h:S.sl t=v):S.put (some t) v=S:=by
 unfold St.put
 refine St.ext' ?_ rfl rfl
 funext j
 by_cases e:j=t
 ·subst e;simp[h]
 ·have:(j==t)=false:=by simp[e]
  simp[this]
theorem Nn {Sg S:St} {N:Nat} (h:ER Sg S N) {s:sN} (hn:s.n=S.nx) (xS:HH S.nx s.E=true):ER (Sg.go s) (S.y7 s.o.dst s.E) N:=by
 obtain ⟨h1,h2⟩:=az xS
 have h1:S.nx<=s.E.nx:=Nat.le_of_ble_eq_true h1
 have hk: ∀p∈s.E.up,p.1<s.E.nx:=fun p hp=>by
  have:=List.all_eq_true.1 h2 p hp
  simpa[Nat.blt_eq] using this
 refine ⟨?_,by rw[St.IL];exact h.nx,fun j=> ?_,fun k k1 k2=> ?_⟩
 ·rw[St.IM]
  unfold St.y7 St.put
  cases s.o.dst with
  |none=>simp[h.sl]
  |some d=>
   funext t
   by_cases e:t=d
   ·subst e;simp
   ·have e1:(t==d)=false:=by simp[e]
    have e2: ¬d=t:=fun h=>e h.symm
    simp[e1,e2,h.sl]
 ·rw[St.IK]
  show eA S.hp s.E.up j=eA Sg.hp s.E.up j\/_
  by_cases hj: ∃p∈s.E.up,p.1=j
  ·exact .inl (ze _ hj)
  ·have FH: ∀p∈s.E.up,p.1≠j:=fun p hp e=>hj ⟨p,hp,e⟩
   show _\/(eA Sg.hp s.E.up j=some .dH/\eA S.hp s.E.up j=none)
   rw[eS _ _ FH,eS _ _ FH]
   exact h.hp j
 ·have k1:s.E.nx<=k:=k1
  rw[St.IK,eS _ _ (fun p hp e=>by have:=hk p hp;omega)]
  exact h.gh k (by omega) k2
theorem ES {Sg S:St} {N:Nat} (h:ER Sg S N):Sub S.hp Sg.hp:=fun j r hj=>by
 rcases h.hp j with e| ⟨_,e⟩
 ·rw[<- e];exact hj
 ·rw[e] at hj;cases hj
theorem ET (hG:IJ P G) {draw:Bool} {o:Oper} {S:St} {K:St->HF->Option R} {r:R} (i:Nat) (h:HI G ops draw o S K=some r): ∃s:sN,s.i=i/\s.o=o/\s.n=S.nx/\K (S.y7 o.dst s.E) s.log=some r/\HH S.nx s.E=true/\(draw=true->s.fit)/\
 ∀Sg N,ER Sg S N->s.E.nx<=N->oI P G ops s Sg:=by
 unfold HI at h
 simp only[] at h
 obtain ⟨hd,h⟩:=ai h
 have hd: ∀d,o.dst=some d->d<G.nt:=fun d e=>by rw[e] at hd;simpa[Nat.blt_eq] using hd
 have exec:jf ops S.sl o=some true->(∀j want t,o.guard=some (j,want)->uP ops j=some t->t<G.nt)->(gX G o.op S.sl (bif draw then cut S.hp (BX (St.rd G.nt S.sl) o.op) else S.hp) S.nx fun E=>bif HH S.nx E then K (S.y7 o.dst E) ⟨o,writes S.nx E,BX (St.rd G.nt S.sl) o.op⟩ else none)=some r->
  ∃s:sN,s.i=i/\s.o=o/\s.n=S.nx/\K (S.y7 o.dst s.E) s.log=some r/\HH S.nx s.E=true/\(draw=true->s.fit)/\ ∀Sg N,ER Sg S N->s.E.nx<=N->oI P G ops s Sg:=fun hg Ly h=>by
  obtain ⟨E,Ux,h⟩:=JB hG h
  obtain ⟨xS,h⟩:=ai h
  refine ⟨⟨i,o,S.nx,E,bif draw then cut S.hp (BX (St.rd G.nt S.sl) o.op) else S.hp,writes S.nx E,BX (St.rd G.nt S.sl) o.op⟩,rfl,rfl,rfl,h,xS,fun hdr j r' hj=> ?_,fun Sg N Io hN=>⟨hd,Ly,fun p hp=> ?_,.inl ⟨?_,fun j r' hj=> ?_,?_,fun k k1 k2=>⟨Io.gh k k1 (by have:E.nx<=N:=hN;have:k<E.nx:=k2;omega),?_⟩,by rw[Io.nx];exact hN⟩⟩⟩
  ·subst hdr
   simp only[cut,cond_true] at hj
   obtain ⟨h1,_⟩:=ai hj
   exact List.elem_iff.1 h1
  ·show p.1∈writes S.nx E
   exact List.mem_append_left _ (List.mem_map_of_mem hp)
  ·rw[Io.sl];exact hg
  ·refine ES Io j r' ?_
   cases draw with
   |false=>exact hj
   |true=>
    simp only[cut,cond_true] at hj
    exact (ai hj).2
  ·show zi P G o.op Sg.sl _ S.nx E
   rw[Io.sl];exact Ux
  ·show k∈writes S.nx E
   refine List.mem_append_right _ (List.mem_range'_1.2 ⟨k1,?_⟩)
   have:k<E.nx:=k2
   have k1:S.nx<=k:=k1
   omega
 have skip:jf ops S.sl o=some false->(∀j want t,o.guard=some (j,want)->uP ops j=some t->t<G.nt)->K (S.y7 o.dst (qP S.nx)) ⟨o,[],[]⟩=some r->
  ∃s:sN,s.i=i/\s.o=o/\s.n=S.nx/\K (S.y7 o.dst s.E) s.log=some r/\HH S.nx s.E=true/\(draw=true->s.fit)/\ ∀Sg N,ER Sg S N->s.E.nx<=N->oI P G ops s Sg:=fun hg Ly h=>by
  refine ⟨⟨i,o,S.nx,qP S.nx,fun _=>none,[],[]⟩,rfl,rfl,rfl,h,?_,fun _ j r' hj=>(by cases hj),fun Sg N Io hN=>⟨hd,Ly,fun p hp=> ?_,.inr ⟨by rw[Io.sl];exact hg,rfl⟩⟩⟩
  ·simp[HH,qP]
  ·simp[qP] at hp
 split at h
 ·rename_i No
  exact exec (by simp[jf,No]) (fun j want t e _=>by rw[No] at e;cases e) h
 ·rename_i j want No
  split at h
  ·cases h
  ·rename_i t ht
   obtain ⟨Lz,h⟩:=ai h
   have Lz:t<G.nt:=by simpa[Nat.blt_eq] using Lz
   have Ly: ∀j' Ob t',o.guard=some (j',Ob)->uP ops j' =some t'->t' <G.nt:=fun j' Ob t' e1 e2=>by
    rw[No] at e1;cases e1
    rw[ht] at e2;cases e2
    exact Lz
   split at h
   ·rename_i x hx
    cases x with
    |true=>
     simp only[zo hx] at h
     cases want with
     |true=>exact exec (by simp[jf,No,ht,hx]) Ly h
     |false=>exact skip (by simp[jf,No,ht,hx]) Ly h
    |false=>
     simp only[zo hx] at h
     cases want with
     |true=>exact skip (by simp[jf,No,ht,hx]) Ly h
     |false=>exact exec (by simp[jf,No,ht,hx]) Ly h
   ·rename_i hx
    exact skip (by simp[jf,No,ht,hx]) Ly h
   ·cases h
theorem zp (hG:IJ P G) {draw:Bool} {r:R}: ∀(l:List Oper) (i:Nat) {S:St} {L:List HF} {K:St->List HF->Option R},IN G ops draw l S L K=some r-> ∃(steps:List sN) (S':St),steps.map (·.o)=l/\steps.map (·.i)=List.range' i l.length/\K S' ((steps.map sN.log).reverse++L)=some r/\S.nx<=S'.nx/\(draw=true-> ∀s∈steps,s.fit)/\
 ∀Sg N,ER Sg S N->S'.nx<=N-> ∃Oc,A7 P G ops steps Sg Oc/\ER Oc S' N
 | [],i,S,L,K,h=>⟨[],S,rfl,rfl,h,Nat.le_refl _,fun _ s hs=>by simp at hs,fun Sg N hg _=>⟨Sg,.nil _,hg⟩⟩
 |o::l,i,S,L,K,h=>by
  simp only[IN] at h
  obtain ⟨s,e1,e2,e3,h,xS,C5,iq⟩:=ET hG i h
  obtain ⟨steps,S',g1,g2,g3,g4,g5,g6⟩:=zp hG l (i+1) h
  have hle:S.nx<=s.E.nx:=Nat.le_of_ble_eq_true (az xS).1
  have W3:s.E.nx<=S'.nx:=g4
  refine ⟨s::steps,S',by simp[e2,g1],by simp[e1,g2,List.range'_succ],?_,by omega,fun hd t ht=> ?_,fun Sg N hg hN=> ?_⟩
  ·simpa using g3
  ·rcases List.mem_cons.1 ht with rfl|ht
   ·exact C5 hd
   ·exact g5 hd t ht
  ·obtain ⟨Oc,k1,k2⟩:=g6 (Sg.go s) N (by have:=Nn hg e3 xS;rw[e2] at this;exact this) hN
   exact ⟨Oc,.cons (iq Sg N hg (by omega)) k1,k2⟩
theorem xB: ∀(done:List HF) (bs:List Nat) (ls:List HF),C6 ops done bs ls=true->(∀k l,ls[k]? =some l-> ∃b,bs[k]? =some b/\ ∀i m,(done++ls.take k)[i]? =some m->Nat.testBit b i=true\/indep ops m l=true)/\ ∀k l e,ls[k]? =some l->e∈l.o.after.toList->Region.binds .any e=true->e.on<done.length+k
 |done,bs,[],_=>⟨fun k l h=>by simp at h,fun k l e h=>by simp at h⟩
 |done,[],l::ls,h=>by cases h
 |done,b::bs,l::ls,h=>by
  simp only[C6] at h
  obtain ⟨h,h3⟩:=az h
  obtain ⟨h1,h2⟩:=az h
  obtain ⟨W4,Pc⟩:=xB _ _ _ h3
  have JA: ∀(ms:List HF) (i:Nat),C7 ops b l i ms=true-> ∀j m,ms[j]? =some m->Nat.testBit b (i+j)=true\/indep ops m l=true:=by
   intro ms
   induction ms with
   |nil=>intro i _ j m hj;simp at hj
   |cons m0 ms ih=>
    intro i hh j m hj
    simp only[C7] at hh
    obtain ⟨k1,k2⟩:=az hh
    cases j with
    |zero=>simp at hj;subst hj;exact Bool.or_eq_true _ _ |>.mp k1
    |succ j=>rw[show i+(j+1)=i+1+j by omega];exact ih (i+1) k2 j m (by simpa using hj)
  refine ⟨fun k l' hk=> ?_,fun k l' e hk he hb=> ?_⟩
  ·cases k with
   |zero=>
    simp at hk;subst hk
    refine ⟨b,rfl,fun i m hm=> ?_⟩
    have:=JA done 0 h1 i m (by simpa using hm)
    rwa [Nat.zero_add] at this
   |succ k=>
    obtain ⟨b',nv,hh⟩:=W4 k l' (by simpa using hk)
    exact ⟨b',by simpa using nv,fun i m hm=>hh i m (by simpa using hm)⟩
  ·cases k with
   |zero=>
    simp at hk;subst hk
    have:=List.all_eq_true.1 h2 e he
    rw[hb] at this
    simpa[Nat.blt_eq] using this
   |succ k=>
    have:=Pc k l' e (by simpa using hk) he hb
    simp at this ⊢;omega
section
variable {C:Cx} {S:St} {a:Act} {w:World} {ρ:Place} {Fs:Nat->FP}
theorem zq (hG:IJ P G) (hm:P.follows .mixedOrders=true) (hN:O8 P G.nt C) {id:Nat} {draw:Bool} {K:St->Option R} {r:R} (he:zr G ops draw S K=some r) (h:aQ C S a w ρ Fs) {Q:Exit->Act->World->Prop}
 (hQ: ∀S',K S' =some r-> ∀a' w' ρ' Fs',aQ C S' a' w' ρ' Fs'->Q .normal a' w'):(Code.region id ops draw).wp P Q a w:=by
 unfold zr at he
 obtain ⟨steps,S',e1,e2,e3,e4,e5,e6⟩:=zp hG _ 0 he
 obtain ⟨Oc,hr,Io⟩:=e6 ⟨S.sl,qo S.hp S.nx S'.nx,S'.nx⟩ S'.nx ⟨rfl,rfl,fun j=>by
  simp only[qo]
  cases hq:S.hp j with
  |some r=>exact .inl rfl
  |none=>
   simp only[]
   cases (Nat.ble S.nx j&&Nat.blt j S'.nx) with
   |true=>exact .inr ⟨rfl,by trivial⟩
   |false=>exact .inl rfl,fun k k1 k2=>by
  have hq:S.hp k=none:=h.mem.fresh k k1
  have h1:Nat.ble S.nx k=true:=Nat.ble_eq_true_of_le k1
  have h2:Nat.blt k S'.nx=true:=by simp[Nat.blt_eq];exact k2
  simp only[qo,hq,h1,h2];rfl⟩ (Nat.le_refl _)
 have h0:=h.Np e4
 have hlen:steps.length=ops.size:=by have:=congrArg List.length e1;simpa using this
 have wU: ∀(k:Nat) (s:sN),steps[k]? =some s->s.i=k:=fun k s hk=>by
  have h1:(steps.map (·.i))[k]? =some s.i:=by simp[hk]
  rw[e2,List.getElem?_range'] at h1
  ·simp at h1;omega
  ·have:=(List.getElem?_eq_some_iff.1 hk).1;simp;omega
 have ho: ∀s∈steps,ops[s.i]? =some s.o:=fun s hs=>by
  obtain ⟨k,hk⟩:=List.getElem?_of_mem hs
  have h1:(steps.map (·.o))[k]? =some s.o:=by simp[hk]
  rw[e1] at h1
  rw[wU k s hk]
  simpa using h1
 have fin: ∀(K':K S' =some r) a' w' ρ' Fs',aQ C Oc a' w' ρ' Fs'->Q .normal a' w':=fun K' a' w' ρ' Fs' h'=>by
  refine hQ S' K' a' w' ρ' Fs' ?_
  have h2:=h'.Nq S'.hp Io.hp
  have e:S' =⟨Oc.sl,S'.hp,Oc.nx⟩:=St.ext' Io.sl.symm rfl Io.nx.symm
  rw[e];exact h2
 cases draw with
 |false=>
  have hl:List.range ops.size=steps.map (·.i):=by rw[e2,List.range_eq_range'];simp
  refine wp_region ?_
  rw[hl]
  exact zn hG hN hr h0 ho (fun a' w' ρ' Fs' h'=>fin e3 a' w' ρ' Fs' h')
 |true=>
  simp only[cond_true,List.append_nil,List.reverse_reverse] at e3
  obtain ⟨xX,hK⟩:=ai e3
  obtain ⟨d1,d2⟩:=xB _ _ _ xX
  have R9: ∀(k:Nat) (s:sN),steps[k]? =some s->(steps.map sN.log)[k]? =some s.log:=fun k s hk=>by simp[hk]
  refine wp_region_any hm ?_
  have R_:aQ C ⟨S.sl,qo S.hp S.nx S'.nx,S'.nx⟩ a {w with drawn:=w.drawn+1} ρ Fs:=by
   refine h0.gen _ _ {w with drawn:=w.drawn+1} ρ Fs (fun _=>False) (Nat.le_refl _) rfl rfl rfl (fun _ _ _=>rfl) (fun _ h=>h.elim) (Nat.le_refl _) (fun _ _ _=>rfl) (fun j hj=> .same rfl rfl (fun _ _ h=>h)) (fun j hj=> .inl ⟨h0.mem.fresh j hj,h0.mem.dead j (h0.mem.fresh j hj)⟩) h0.mem.one (fun b hb=> .inl hb)
  refine LB hG hN (fun i o e hi he hb=> ?_) ops.size _ steps hr R_ (by simp) (fun i hi=> ?_) (by omega) ho (e5 rfl) ?_ (fun k j hk hl _=> ?_) (fun a' w' ρ' Fs' h'=>fin hK a' w' ρ' Fs' h')
  ·have qk:=(Array.getElem?_eq_some_iff.1 hi).1
   obtain ⟨s,hs⟩: ∃s,steps[i]? =some s:=⟨steps[i]'(by omega),List.getElem?_eq_getElem _⟩
   have h1:=ho s (List.mem_of_getElem? hs)
   rw[wU i s hs,hi] at h1
   cases h1
   have:=d2 i s.log e (R9 i s hs) he hb
   simpa using this
  ·have:(Array.replicate ops.size false).getD i true=false:=by simp[hi]
   simp only[this,true_iff]
   exact ⟨steps[i]'(by omega),List.getElem_mem _,wU i _ (List.getElem?_eq_getElem _)⟩
  ·rw[List.pairwise_iff_getElem]
   intro i j hi hj VD
   have VE:=List.getElem?_eq_getElem hi
   have Qi:=List.getElem?_eq_getElem hj
   have ei:=wU i _ VE
   have ej:=wU j _ Qi
   refine ⟨by rw[ei,ej];exact VD,?_⟩
   obtain ⟨b,hb,hh⟩:=d1 j _ (R9 j _ Qi)
   have:=hh i steps[i].log (by simp[VD,VE])
   rw[ei,ej]
   rcases this with h1|h1
   ·left
    unfold Nl
    rw[hb];exact h1
   ·right;exact h1
  ·have:(Array.replicate ops.size false).getD k true=false:=by simp[hk]
   rw[this] at hl;cases hl
end
end
section
theorem IP: ∀ {x:Nat} {l:List Nat} {j:Nat},idx x l=some j->l[j]? =some x
 |x,y::l,j,h=>by
  simp only[idx] at h
  cases e:x==y with
  |true=>rw[e] at h;simp at h;subst h;simp[eq_of_beq e]
  |false=>
   rw[e] at h
   simp only[cond_false] at h
   split at h
   ·rename_i i hi
    cases h
    simpa using IP hi
   ·cases h
def nf (hp:Nat->Option aq) (acc:List Nat):Prop:=acc.Nodup/\ ∀id∈acc,∃r,hp id=some r
theorem nf.add {hp:Nat->Option aq} {acc:List Nat} (h:nf hp acc) {id:Nat} {r:aq} (hn:acc.elem id=false) (hr:hp id=some r):nf hp (acc++[id]):=by
 have hn:id∉acc:=fun h=>by rw[List.elem_iff.2 h] at hn;cases hn
 refine ⟨List.nodup_append.2 ⟨h.1,by simp,fun a ha b hb=> ?_⟩,fun j hj=> ?_⟩
 ·simp at hb;subst hb;exact fun e=>hn (e ▸ ha)
 ·rcases List.mem_append.1 hj with hj|hj
  ·exact h.2 j hj
  ·simp at hj;subst hj;exact ⟨r,hr⟩
theorem mA {α β:Type} (f:β->α->β) (Pr:β->Prop) (hf: ∀b a,Pr b->Pr (f b a)): ∀(l:List α) (b:β),Pr b->Pr (l.foldl f b)
 | [],b,h=>h
 |x::l,b,h=>mA f Pr hf l _ (hf b x h)
theorem sO {hp:Nat->Option aq}: ∀(d:Nat) (x:LV) (acc:List Nat),nf hp acc->nf hp (qQ hp d x acc):=by
 intro d
 induction d with
 |zero=>
  intro x acc h
  unfold qQ
  split
  ·exact h
  ·rename_i id hid
   cases hb:acc.elem id with
   |true=>exact h
   |false=>
    simp only[cond_false]
    split
    ·exact h
    ·rename_i hr;exact h.add hb hr
    ·rename_i hr;exact h.add hb hr
 |succ d ih=>
  intro x acc h
  unfold qQ
  split
  ·exact h
  ·rename_i id hid
   cases hb:acc.elem id with
   |true=>exact h
   |false=>
    simp only[cond_false]
    split
    ·exact h
    ·rename_i cells hr;exact mA _ (nf hp) (fun b a hb=>ih a b hb) cells _ (h.add hb hr)
    ·rename_i hr;exact h.add hb hr
theorem A9 {hp:Nat->Option aq} (x:AV) (acc:List Nat) (h:nf hp acc):nf hp (C8 hp x acc):=by
 unfold C8
 split
 ·exact sO _ _ _ h
 ·exact mA _ (nf hp) (fun b a hb=>sO _ a b hb) _ _ h
 ·exact h
theorem C9 (live:List Nat) (S:St):nf S.hp (tJ live S):=
 mA _ (nf S.hp) (fun b a hb=>A9 _ b hb) live [] ⟨by simp,by simp⟩
def kI {α:Type} (f:Nat->α) (z:α) (olds:List Nat) (j:Nat):α:=match olds[j]? with|some id=>f id|none=>z
theorem HJ (Fs:Nat->FP) (b:Nat) (l:List Nat): ∀(n:Nat),n<=l.length->ar n (kI Fs fz l) b=cE Fs (l.take n) b:=by
 intro n
 induction n with
 |zero=>intro _;rfl
 |succ n ih=>
  intro h
  have e:l.take (n+1)=l.take n++[l[n]'(by omega)]:=by rw[List.take_succ_eq_append_getElem (by omega)]
  rw[e,dF]
  simp only[ar,CW]
  rw[ih (by omega)]
  congr 1
  simp[kI,List.getElem?_eq_getElem (show n<l.length by omega),cE]
theorem JG (live:List Nat) (f:Nat->AV) (t:Nat):look (pairUp live (live.map f)) t=if t∈live then some (f t) else none:=by
 induction live with
 |nil=>rfl
 |cons u l ih=>
  simp only[List.map_cons,pairUp,look]
  by_cases e:u=t
  ·subst e;simp
  ·have e1:(u==t)=false:=by simp[e]
   have e2: ¬t=u:=fun h=>e h.symm
   simp[e1,e2,ih]
variable {C:Cx} {S:St} {a:Act} {w:World} {ρ:Place} {Fs:Nat->FP}
section
variable {olds:List Nat}
def sP (olds:List Nat) (hp:Nat->Option aq):Nat->Option aq:=LD (olds.map fun id=>(hp id).map (qR olds hp))
theorem zt {hp:Nat->Option aq} {j:Nat} {a_:aq} (h:sP olds hp j=some a_): ∃id root,olds[j]? =some id/\hp id=some root/\a_=qR olds hp root:=by
 unfold sP LD at h
 split at h
 ·rename_i r hr
  rw[List.getElem?_map] at hr
  cases ho:olds[j]? with
  |none=>rw[ho] at hr;cases hr
  |some id=>
   rw[ho] at hr
   simp only[Option.map_some,Option.some.injEq] at hr
   subst hr
   cases hq:hp id with
   |none=>rw[hq] at h;cases h
   |some root=>rw[hq] at h;cases h;exact ⟨id,root,rfl,hq,rfl⟩
 ·cases h
theorem nH {hp:Nat->Option aq} {root:aq} {r:Row} (h:root.row? =some r):(qR olds hp root).row? =some r:=by cases root<;>exact h
theorem C_ {hp:Nat->Option aq} {root:aq} (h:root.real):(qR olds hp root).real:=by cases root<;>exact h
structure wV (olds:List Nat) (E E':Env):Prop where
 w:E'.w=E.w
 zf: ∀b,E.Zf b->E'.Zf b
 zl: ∀b,E.ZL b->E'.ZL b
 ρ: ∀j id,olds[j]? =some id->E'.ρ j=E.ρ id
 hp:E'.hp=sP olds E.hp
 nx:E'.nx=olds.length
theorem BY {E E':Env} (h:wV olds E E') {x:LV} {v:Value} (hx:dD E x v):dD E' (sQ olds E.hp x) v:=by
 have get: ∀ {id j:Nat},idx id olds=some j->j<E'.nx/\E'.ρ j=E.ρ id/\ ∀a_,E'.hp j=some a_-> ∃root,E.hp id=some root/\a_=qR olds E.hp root:=fun {id j} hj=>by
  have h1:=IP hj
  refine ⟨by rw[h.nx];exact (List.getElem?_eq_some_iff.1 h1).1,h.ρ j id h1,fun a_ hr=> ?_⟩
  rw[h.hp] at hr
  obtain ⟨TB,root,e1,e2,e3⟩:=zt hr
  rw[h1] at e1;cases e1
  exact ⟨root,e2,e3⟩
 cases x with
 |own id=>
  simp only[sQ]
  split
  ·rename_i j hj
   obtain ⟨g1,g2,g3⟩:=get hj
   obtain ⟨_,hx⟩:=hx
   refine ⟨g1,fun a_ hr=> ?_⟩
   obtain ⟨root,e1,rfl⟩:=g3 a_ hr
   obtain ⟨r,k1,k2⟩:=hx root e1
   exact ⟨r,nH k1,by rw[g2];exact k2⟩
  ·trivial
 |sub id lo hi=>
  simp only[sQ]
  split
  ·rename_i j hj
   obtain ⟨g1,g2,g3⟩:=get hj
   obtain ⟨_,hx⟩:=hx
   refine ⟨g1,fun a_ hr=> ?_⟩
   obtain ⟨root,e1,rfl⟩:=g3 a_ hr
   obtain ⟨r,k1,k2,k3,k4⟩:=hx root e1
   exact ⟨r,nH k1,k2,k3,by rw[g2];exact k4⟩
  ·trivial
 |eJ id k=>
  simp only[sQ]
  split
  ·rename_i j hj
   obtain ⟨g1,g2,g3⟩:=get hj
   obtain ⟨_,sy,b,cap,k1,k2⟩:=hx
   refine ⟨g1,fun a_ hr=> ?_,b,cap,by rw[g2];exact k1,k2⟩
   obtain ⟨root,e1,rfl⟩:=g3 a_ hr
   exact C_ (sy root e1)
  ·trivial
 |oG id i f=>
  simp only[sQ]
  split
  ·rename_i j hj
   obtain ⟨g1,g2,g3⟩:=get hj
   obtain ⟨_,hx⟩:=hx
   refine ⟨g1,fun a_ hr=> ?_⟩
   obtain ⟨root,e1,rfl⟩:=g3 a_ hr
   obtain ⟨r,k1,k2,b,cap,k3,k4⟩:=hx root e1
   exact ⟨r,nH k1,k2,b,cap,by rw[g2];exact k3,k4⟩
  ·trivial
 |arr id n=>
  simp only[sQ]
  split
  ·rename_i j hj
   obtain ⟨g1,g2,g3⟩:=get hj
   obtain ⟨_,hx⟩:=hx
   refine ⟨g1,fun a_ hr=> ?_⟩
   obtain ⟨root,e1,rfl⟩:=g3 a_ hr
   obtain ⟨r,k1,k2,b,cap,k3,k4⟩:=hx root e1
   exact ⟨r,nH k1,k2,b,cap,by rw[g2];exact k3,k4⟩
  ·trivial
 |inner id ver i f=>trivial
 |wT id ver i f j=>trivial
 |val p r=>
  show ea E'.w (if p then E'.Zf else E'.ZL) r v
  rw[h.w]
  cases p with
  |true=>exact ea.grow hx h.zf
  |false=>exact ea.grow hx h.zl
 |C2 p r i f=>
  obtain ⟨h1,ad,h2,h3⟩:=hx
  refine ⟨h1,ad,h2,?_⟩
  rw[h.w]
  cases p with
  |true=>exact oJ.mono h3 (fun b hb=>⟨h.zf b hb,rfl⟩)
  |false=>exact oJ.mono h3 (fun b hb=>⟨h.zl b hb,rfl⟩)
 |er z=>cases z<;>exact hx
 |_=>exact hx
theorem tK {E E':Env} (h:wV olds E E'): ∀ {xs:List LV} {vs:List Value},aY E xs vs->aY E' (xs.map (sQ olds E.hp)) vs
 | [],[],_=>trivial
 |x::xs,v::vs,hx=>⟨BY h hx.1,tK h hx.2⟩
theorem BZ {E E':Env} (h:wV olds E E') {x:A1} {v:Value} (hx:uS E x v):uS E' (IQ olds E.hp x) v:=by
 cases x with
 |l x=>exact BY h hx
 |agg xs=>obtain ⟨vs,e,hx⟩:=hx;exact ⟨vs,e,tK h hx⟩
theorem zu {E E':Env} (h:wV olds E E'): ∀ {xs:List A1} {vs:List Value},kD E xs vs->kD E' (xs.map (IQ olds E.hp)) vs
 | [],[],_=>trivial
 |x::xs,v::vs,hx=>⟨BZ h hx.1,zu h hx.2⟩
theorem JH {E E':Env} (h:wV olds E E') {x:AV} {v:Value} (hx:eE E x v):eE E' (Od olds E.hp x) v:=by
 cases x with
 |one x=>exact BZ h hx
 |DM xs=>obtain ⟨vs,e,hx⟩:=hx;exact ⟨vs,e,zu h hx⟩
end
theorem aQ.norm (h:aQ C S a w ρ Fs) (live:List Nat):aQ C (cA live (pD live S) (oK live S)) a w (kI ρ none (tJ live S)) (kI Fs fz (tJ live S)):=by
 obtain ⟨oV,jX⟩:=C9 live S
 generalize holds:tJ live S=olds at oV jX ⊢
 have fJ: ∀id∈olds,id<S.nx:=fun id hid=>by obtain ⟨r,hr⟩:=jX id hid;exact cz h.mem hr
 have jc: ∀b,ar olds.length (kI Fs fz olds) b<=ar S.nx Fs b:=fun b=>by
  rw[HJ Fs b olds _ (Nat.le_refl _),List.take_length]
  exact jM Fs b S.nx oV fJ
 have W5:(oK live S).length=olds.length:=by simp[oK,holds]
 have W6:LD (oK live S)=sP olds S.hp:=by simp only[oK,holds];rfl
 have iq:cA live (pD live S) (oK live S)=⟨lY (pairUp live (pD live S)),sP olds S.hp,olds.length⟩:=by
  unfold cA;rw[W5,W6]
 have Hs: ∀b,C.Zf w (ar S.nx Fs) b->C.Zf w (ar olds.length (kI Fs fz olds)) b:=fun b hb=>by
  rcases hb with hb| ⟨h1,h2,h3⟩
  ·exact .inl hb
  ·exact .inr ⟨h1,h2,by have:=jc b;omega⟩
 have hE:wV olds (C.env w ρ S.hp S.nx Fs) (C.env w (kI ρ none olds) (sP olds S.hp) olds.length (kI Fs fz olds)):=
  ⟨rfl,Hs,fun b hb=>hb.imp id (Hs b),fun j id hj=>by simp[Cx.env,kI,hj],rfl,rfl⟩
 rw[iq]
 refine ⟨⟨fun id hid=> ?_,fun j a_ hr=> ?_,fun j hj=> ?_,fun b=> ?_,fun b hb=> ?_,h.mem.frame⟩,h.defers,h.size,fun t=> ?_⟩
 ·cases hq:sP olds S.hp id with
  |none=>exact hq
  |some root=>
   obtain ⟨i,_,e,_⟩:=zt hq
   have:=(List.getElem?_eq_some_iff.1 e).1
   have hid:olds.length<=id:=hid
   omega
 ·have hr:sP olds S.hp j=some a_:=hr
  obtain ⟨id,root,e1,e2,rfl⟩:=zt hr
  have h1:=h.mem.roots id root e2
  have eF:kI Fs fz olds j=Fs id:=by simp[kI,e1]
  have eρ:kI ρ none olds j=ρ id:=by simp[kI,e1]
  rw[eF]
  cases root with
  |row e v r=>
   show fN w _ (kI ρ none olds j) r.cells r.len r.size (Fs id)
   rw[eρ]
   exact fN.mono h1 (fun b hb=>⟨hb.imp (fun x=>x) (Hs b),rfl⟩) (fun _ _=>rfl)
  |hole e v r i f=>
   obtain ⟨k1,k2,k3⟩:=h1
   refine ⟨k1,k2,?_⟩
   show fN w _ (kI ρ none olds j) _ r.len r.size (Fs id)
   rw[eρ]
   exact fN.mono k3 (fun b hb=>⟨hb.imp (fun x=>x) (Hs b),rfl⟩) (fun _ _=>rfl)
  |box t cells=>
   obtain ⟨b,cap,vs,ty,k1,k2,k3,k4⟩:=h1
   exact ⟨b,cap,vs,ty,by show kI ρ none olds j=_;rw[eρ];exact k1,k2,tK hE k3,k4⟩
  |dH=>exact h1
 ·have hj:sP olds S.hp j=none:=hj
  cases ho:olds[j]? with
  |none=>simp[kI,ho]
  |some id=>
   simp only[kI,ho]
   refine h.mem.dead id ?_
   cases hq:S.hp id with
   |none=>rfl
   |some root=>
    exfalso
    unfold sP LD at hj
    rw[List.getElem?_map,ho] at hj
    simp[hq] at hj
 ·show ar olds.length (kI Fs fz olds) b<=1
  have:=jc b;have:=h.mem.one b;omega
 ·have hb:1<=ar olds.length (kI Fs fz olds) b:=hb
  exact h.mem.nW b (by have:=jc b;omega)
 ·show eE _ (lY (pairUp live (pD live S)) t) _
  unfold lY pD
  rw[JG]
  by_cases ht:t∈live
  ·simp only[ht,if_true,holds]
   exact JH hE (h.oB t)
  ·simp only[ht,if_false]
   trivial
end
section
variable {R:Type} {P:Program} {G:fe R} {live:List (Nat×List Nat)} {Λ:pJ R}
def Da:X->Exit
 | .normal=> .normal
 | .exit id=> .exit id
 | .ret=> .ret
def nI (G:fe R) (live:List (Nat×List Nat)) (Λ:pJ R) (body:Code) (K:X->St->Option R) (vs:List AV) (hs:List (Option aq)) (r:R):Prop:=
 ∃(A:Type) (enc:A->List AV×List (Option aq)) (un:List AV->List (Option aq)->Option A) (step:(A->Option R)->A->Option R) (n:Nat) (a:A),
  enc a=(vs,hs)/\(∀a,un (enc a).1 (enc a).2=some a)/\
  (∀(Lp:List AV->List (Option aq)->Option R) a,ev G live Λ body (fun x S'=>match x with| .normal=>Lp (pD (j8 live body) (nX (pE live body) S')) (oK (j8 live body) (nX (pE live body) S'))|x=>K x (LF (Db live body) (nX (zv live body) S'))) (cA (j8 live body) (enc a).1 (enc a).2)=step (fun a'=>Lp (enc a').1 (enc a').2) a)/\
  iter step n a=some r
def kr (G:fe R) (live:List (Nat×List Nat)) (Λ:pJ R):Code->Prop
 | .loop body=>(∀K vs hs r,Λ (keyOf body) K vs hs=some r->nI G live Λ body K vs hs r)/\kr G live Λ body
 | .seq a b=>kr G live Λ a/\kr G live Λ b
 | .cond _ a b=>kr G live Λ a/\kr G live Λ b
 | .block _ b=>kr G live Λ b
 |_=>True
variable {C:Cx}
open Classical in
theorem uU (hG:IJ P G) (hm:P.follows .mixedOrders=true) (hN:O8 P G.nt C): ∀(c:Code),kr G live Λ c-> ∀ {K:X->St->Option R} {S:St} {r:R},ev G live Λ c K S=some r-> ∀ {a:Act} {w:World} {ρ:Place} {Fs:Nat->FP},aQ C S a w ρ Fs-> ∀ {Q:Exit->Act->World->Prop},
 (∀x S',K x S' =some r-> ∀a' w' ρ' Fs',aQ C S' a' w' ρ' Fs'->Q (Da x) a' w')->c.wp P Q a w:=by
 intro c
 induction c with
 |skip=>intro _ K S r he a w ρ Fs h Q hQ;exact wp_skip (hQ .normal S he _ _ _ _ h)
 |region id ops draw=>
  intro _ K S r he a w ρ Fs h Q hQ
  simp only[ev] at he
  exact zq hG hm hN he h (fun S' hK a' w' ρ' Fs' h'=>hQ .normal S' hK _ _ _ _ h')
 |seq c d UC Sa=>
  intro hl K S r he a w ρ Fs h Q hQ
  simp only[ev] at he
  refine wp_seq (UC hl.1 he h fun x S' hK a' w' ρ' Fs' h'=> ?_)
  cases x with
  |normal=>exact Sa hl.2 hK h' hQ
  |exit i=>exact hQ (.exit i) S' hK _ _ _ _ h'
  |ret=>exact hQ .ret S' hK _ _ _ _ h'
 |cond x c d UC Sa=>
  intro hl K S r he a w ρ Fs h Q hQ
  simp only[ev] at he
  split at he
  ·rename_i b hb
   have hv:=h.rd x
   rw[<- hN.nt,hb] at hv
   have hv:a.eval x= .bool b:=hv
   have same: ∀(t:Tmp),x= .tmp t->S.put (some t) (.l (.b b))=S:=fun t hy=>by
    subst hy
    cases fJ:Nat.blt t G.nt with
    |true=>rw[St.rd,fJ] at hb;exact zo hb
    |false=>rw[St.rd,fJ] at hb;cases hb
   cases b with
   |true=>
    have BO:ev G live Λ c K S=some r:=by
     cases x with
     |tmp t=>simp only[same t rfl] at he;exact he
     |_=>exact he
    exact wp_cond_true hv (UC hl.1 BO h hQ)
   |false=>
    have BO:ev G live Λ d K S=some r:=by
     cases x with
     |tmp t=>simp only[same t rfl] at he;exact he
     |_=>exact he
    exact wp_cond_false hv (Sa hl.2 BO h hQ)
  ·cases he
 |block id c ih=>
  intro hl K S r he a w ρ Fs h Q hQ
  simp only[ev] at he
  refine wp_block (ih hl he h fun x S' hK a' w' ρ' Fs' h'=> ?_)
  cases x with
  |normal=>exact hQ .normal S' hK _ _ _ _ h'
  |exit i=>
   simp only[LG] at hK
   by_cases e:i=id
   ·subst e
    simp only[beq_self_eq_true,cond_true] at hK
    simp only[Da,Exit.inBlock,if_true]
    exact hQ .normal S' hK _ _ _ _ h'
   ·have e2:(i==id)=false:=by simp[e]
    simp only[e2,cond_false] at hK
    simp only[Da,Exit.inBlock,if_neg e]
    exact hQ (.exit i) S' hK _ _ _ _ h'
  |ret=>exact hQ .ret S' hK _ _ _ _ h'
 |loop body ih=>
  intro hl K S r he a w ρ Fs h Q hQ
  simp only[ev] at he
  obtain ⟨A,enc,un,step,n,a0,e1,VF,IR,Qj⟩:=hl.1 _ _ _ _ he
  have UD: ∀a b:A,enc a=enc b->a=b:=fun a b e=>by
   have h1:=VF a
   rw[e,VF b] at h1
   exact (Option.some.inj h1).symm
  have key: ∀(n:Nat) (a0:A),iter step n a0=some r-> ∀(a:Act) (w:World) (ρ:Place) (Fs:Nat->FP),aQ C (cA (j8 live body) (enc a0).1 (enc a0).2) a w ρ Fs->Code.rounds P body Q n a w:=by
   intro n
   induction n with
   |zero=>intro a0 h0;cases h0
   |succ n W7=>
    intro a0 h0 a w ρ Fs h
    rw[rounds_succ]
    have h0:step (iter step n) a0=some r:=h0
    let Lp:List AV->List (Option aq)->Option R:=fun vs hs=>if hh: ∃a,enc a=(vs,hs) then iter step n hh.choose else none
    have W8:(fun a'=>Lp (enc a').1 (enc a').2)=iter step n:=by
     funext a'
     have hh: ∃a,enc a=((enc a').1,(enc a').2):=⟨a',rfl⟩
     show (if hh: ∃a,enc a=((enc a').1,(enc a').2) then iter step n hh.choose else none)=_
     rw[dif_pos hh,UD _ a' hh.choose_spec]
    rw[<- W8,<- IR] at h0
    refine ih hl.2 h0 h fun x S' hK a' w' ρ' Fs' h'=> ?_
    cases x with
    |normal=>
     have hK:(if hh: ∃a,enc a=(pD (j8 live body) (nX (pE live body) S'),oK (j8 live body) (nX (pE live body) S')) then iter step n hh.choose else none)=some r:=hK
     split at hK
     ·rename_i hh
      obtain ⟨ρ1,F1,h1⟩:=aQ.nX (pE live body) h'
      have h2:=h1.norm (j8 live body)
      exact W7 hh.choose hK a' w' _ _ (by rw[hh.choose_spec];exact h2)
     ·cases hK
    |exit i=>
     obtain ⟨ρ1,F1,h1⟩:=aQ.nX (zv live body) h'
     exact hQ (.exit i) _ hK _ _ _ _ (h1.norm _)
    |ret=>
     obtain ⟨ρ1,F1,h1⟩:=aQ.nX (zv live body) h'
     exact hQ .ret _ hK _ _ _ _ (h1.norm _)
  obtain ⟨ρ1,F1,h1⟩:=aQ.nX (pE live body) h
  have h2:=h1.norm (j8 live body)
  exact wp_loop_rounds n (key n a0 Qj a w _ _ (by rw[e1];exact h2))
 |exit id=>intro _ K S r he a w ρ Fs h Q hQ;exact wp_exit (hQ (.exit id) S he _ _ _ _ h)
 |ret=>intro _ K S r he a w ρ Fs h Q hQ;exact wp_ret (hQ .ret S he _ _ _ _ h)
 |_=>intro _ K S r he;cases he
theorem EU {tt:TT} {g:pL} {fn:Func} {S:St} {K:List DV->Option R} {r:R} (h:finish tt g fn S K=some r): ∃rs,finish (R:=List DV) tt g fn S some=some rs/\K rs=some r:=by
 unfold finish at h
 split at h
 ·cases h
 ·rename_i vs Kh
  split at h
  ·cases h
  ·rename_i ds ks fk Ud
   simp only[] at h
   split at h
   ·cases h
   ·rename_i tX ks' FI O3
    obtain ⟨h1,h2⟩:=ai h
    refine ⟨_,?_,h2⟩
    unfold finish
    rw[Kh]
    simp only[]
    rw[Ud]
    simp only[]
    rw[O3]
    simp only[]
    rw[h1]
    rfl
theorem uV {Mm:Bool} {tt:TT} {g:pL} {fn:Func} {S:St} {K:List DV->Option R} {r:R} (h:qS Mm tt g fn S K=some r): ∃c rs,finish (R:=List DV) tt (g.to c) fn S some=some rs/\K rs=some r:=by
 have one:finish tt g fn S K=some r-> ∃c rs,finish (R:=List DV) tt (g.to c) fn S some=some rs/\K rs=some r:=fun h=>by
  obtain ⟨rs,h1,h2⟩:=EU h
  exact ⟨g.oc,rs,h1,h2⟩
 unfold qS at h
 cases Mm with
 |false=>exact one h
 |true=>
  simp only[cond_true] at h
  split at h
  ·rename_i rs h1;exact ⟨.own,rs,h1,h⟩
  ·exact one h
theorem n7 {tt:TT}: ∀(ts:List Nat) (ds:List DV) (n:Nat) {xs:List AV} {up:List (Nat×Option aq)} {n':Nat},fw tt ts ds n=some (xs,up,n')->xs.length=ts.length/\ds.length=ts.length
 | [],[],n,xs,up,n',h=>by simp only[fw,Option.some.injEq,Prod.mk.injEq] at h;obtain ⟨rfl,_⟩:=h;exact ⟨rfl,rfl⟩
 | [],_::_,_,_,_,_,h=>by simp[fw] at h
 |_::_,[],_,_,_,_,h=>by simp[fw] at h
 |t::ts,d::ds,n,xs,up,n',h=>by
  simp only[fw] at h
  split at h
  ·split at h
   ·rename_i h2
    cases h
    obtain ⟨k1,k2⟩:=n7 ts ds _ h2
    exact ⟨by simp[k1],by simp[k2]⟩
   ·cases h
  ·cases h
theorem kh: ∀(xs:List AV) (i t:Nat),look (cY i xs) t=if i<=t then xs[t-i]? else none
 | [],i,t=>by simp[cY,look]
 |x::xs,i,t=>by
  simp only[cY,look,kh xs (i+1) t]
  by_cases e:i=t
  ·subst e;simp
  ·have e1:(i==t)=false:=by simp[e]
   simp only[e1,cond_false]
   by_cases h:i<=t
   ·have h2:i+1<=t:=by omega
    simp only[h,h2,if_true]
    rw[show t-i=(t-(i+1))+1 by omega,List.getElem?_cons_succ]
   ·simp[h,show ¬i+1<=t by omega]
theorem eV.at {E:Env}: ∀ {xs:List AV} {vs:List Value},eV E xs vs-> ∀ {j:Nat} {x:AV},xs[j]? =some x-> ∃v,vs[j]? =some v/\eE E x v
 |x::xs,v::vs,h,0,y,hy=>by simp at hy;subst hy;exact ⟨v,rfl,h.1⟩
 |x::xs,v::vs,h,j+1,y,hy=>by
  obtain ⟨u,h1,h2⟩:=eV.at h.2 (j:=j) (by simpa using hy)
  exact ⟨u,by simpa using h1,h2⟩
theorem qp: ∀(l m:List (Nat×AV)) (t:Nat),look (l++m) t=match look l t with|some v=>some v|none=>look m t
 | [],m,t=>rfl
 | (i,x)::l,m,t=>by
   simp only[List.cons_append,look,qp l m t]
   cases i==t<;>rfl
theorem xC (hG:IJ P G) (hm:P.follows .mixedOrders=true) {f:FuncId} {fn:Func} {g:pL} {body:Code} (hf:P.funcs[f]? =some fn) (hb:fn.body=some body) (hl:kr G live Λ body) (hN:G.nt=fn.ntmps) (hp:g.params.length<=fn.ntmps) (Hu:fn.results.size=g.results.length)
 {ds rs:List DV} {K:List DV->Option R} {r:R} (hK: ∀tH,K tH=some r->tH=rs) (he:Hn G live Λ g fn ds K=some r):fM P f g ds rs:=by
 intro C0 args hP fj h1 h2
 let C:Cx:={C0 with N:=fn.ntmps,kv:=args}
 unfold Hn at he
 split at he
 case h_2=>cases he
 rename_i xs up nx Sb JA nv
 rw[hb] at nv;cases nv
 have hlen:=n7 _ _ _ JA
 obtain ⟨ρ1,lR,FG,hrel⟩:=mw (w:=C.w0) (Zf:=C.Zf0) (ZL:=C.Zl) _ _ _ _ _ _ _ _ JA fj
 obtain ⟨UE,xT⟩:=mr.start (C:=C) FG h1 h2
 have vr:=hrel _ xT
 have Sc:args.length=g.params.length:=by rw[<- vr.length];exact hlen.1
 have Sd:xs.length<=fn.ntmps:=by rw[hlen.1];exact hp
 have h0:aQ C ⟨lY (bif pP g.gj then cY 0 xs else cY 0 xs++cY fn.ntmps xs),eA o7 up,nx⟩ {tmps:=args.toArray++Array.replicate (fn.ntmps-args.toArray.size) undef,defers:=[]} C.w0 ρ1 lR:=by
  have low: ∀t,eE (C.env C.w0 ρ1 (eA o7 up) nx lR) (lY (cY 0 xs) t) (C.val {tmps:=args.toArray++Array.replicate (fn.ntmps-args.toArray.size) undef,defers:=[]} t):=fun t=>by
   unfold lY
   rw[kh]
   simp only[Nat.zero_le,if_true,Nat.sub_zero]
   cases hx:xs[t]? with
   |none=>trivial
   |some x=>
    obtain ⟨v,hv,hr⟩:=vr.at hx
    have ht:t<args.length:=(List.getElem?_eq_some_iff.1 hv).1
    have Lz:t<C.N:=by show t<fn.ntmps;omega
    simp only[Cx.val,if_pos Lz]
    have e:(args.toArray++Array.replicate (fn.ntmps-args.toArray.size) undef).getD t undef=v:=by
     rw[Array.getD_eq_getD_getElem?,Array.getElem?_append_left (by simpa using ht)]
     simp[hv]
    rw[e];exact hr
  refine ⟨UE,rfl,?_,fun t=> ?_⟩
  ·show (args.toArray++Array.replicate (fn.ntmps-args.toArray.size) undef).size=fn.ntmps
   simp;omega
  ·show eE _ (lY (bif pP g.gj then cY 0 xs else cY 0 xs++cY fn.ntmps xs) t) _
   cases pP g.gj with
   |true=>exact low t
   |false=>
    have UF: ∀(l m:List (Nat×AV)),lY (l++m) t=match look l t with|some v=>v|none=>lY m t:=fun l m=>by
     unfold lY
     rw[qp]
     cases look l t<;>rfl
    simp only[cond_false]
    rw[UF]
    cases hq:look (cY 0 xs) t with
    |some v=>
     have:=low t
     unfold lY at this
     rw[hq] at this
     exact this
    |none=>
     show eE _ (lY (cY fn.ntmps xs) t) _
     unfold lY
     rw[kh]
     by_cases ht:fn.ntmps<=t
     ·rw[if_pos ht]
      cases hx:xs[t-fn.ntmps]? with
      |none=>trivial
      |some x=>
       obtain ⟨v,hv,hr⟩:=vr.at hx
       have e1: ¬t<C.N:=by show ¬t<fn.ntmps;omega
       simp only[Cx.val,if_neg e1]
       have e:C.kv.getD (t-C.N) undef=v:=by
        show args.getD (t-fn.ntmps) undef=v
        rw[List.getD_eq_getElem?_getD,hv];rfl
       rw[e];exact hr
     ·rw[if_neg ht];trivial
 refine calls_of_wp hf hb ?_
 refine uU hG hm (C:=C) ⟨hN,hP⟩ body hl he h0 fun x S' Nf a' w' ρ' Fs' h'=> ?_
 have fin:qS (IS live) G.tt g fn S' K=some r->bodyPost P fn (Ends C0 g args rs) .normal a' w':=fun hf=>by
  obtain ⟨c,tH,f1,f2⟩:=uV hf
  obtain rfl:=hK tH f2
  obtain ⟨v,k1,vs,F',k2,k3,k4,k5,k6,k7⟩:=uB hG.tt h' (C:=C) (g:=g.to c) rfl rfl Sc.symm Hu f1
  exact ⟨h'.defers,v,k1,vs,F',k2,k3,⟨k4.size,k4.os,k4.tape,k4.output,k4.block⟩,k5,k6,k7⟩
 cases x with
 |normal=>exact fin Nf
 |exit i=>cases Nf
 |ret=>exact fin Nf
def cutAt (live:List (Nat×List Nat)) (key:Nat):List Nat:=(look live (key+500000)).getD []
def tA (key:Nat):Code->Option Code
 | .seq _ b=>bif keyOf b==key then some b else tA key b
 |_=>none
def TC {R:Type} (G:fe R) (live:List (Nat×List Nat)) (Λ:pJ R) (key:Nat) (T:List AV->List (Option aq)->Option R):Code->(X->St->Option R)->St->Option R
 | .seq a b,K,S=>bif keyOf b==key then ev G live Λ a (fun x S'=>match x with| .normal=>T (pD (cutAt live key) S') (oK (cutAt live key) S')|x=>K x S') S else ev G live Λ a (fun x S'=>match x with| .normal=>TC G live Λ key T b K S' |x=>K x S') S
 |c,K,S=>ev G live Λ c K S
def fK {R:Type} (live:List (Nat×List Nat)) (tt:TT) (g:pL) (fn:Func) (K:List DV->Option R):X->St->Option R:=fun x S=>match x with| .exit _=>none|_=>qS (IS live) tt g fn S K
def IC {R:Type} (G:fe R) (live:List (Nat×List Nat)) (Λ:pJ R) (key:Nat) (T:List AV->List (Option aq)->Option R) (g:pL) (fn:Func) (ds:List DV) (K:List DV->Option R):Option R:=
 match fw G.tt g.params ds 0,fn.body with
 |some (xs,up,nx),some body=>TC G live Λ key T body (fK live G.tt g fn K) ⟨lY (bif pP g.gj then cY 0 xs else cY 0 xs++cY fn.ntmps xs),eA (fun _=>none) up,nx⟩
 |_,_=>none
theorem JI (hG:IJ P G) (hm:P.follows .mixedOrders=true) {C:Cx} (hN:O8 P G.nt C) {key:Nat} {T:List AV->List (Option aq)->Option R} {tl:Code} {K:X->St->Option R} (hT: ∀vs hs r,T vs hs=some r->ev G live Λ tl K (cA (cutAt live key) vs hs)=some r): ∀(c:Code),tA key c=some tl->kr G live Λ c-> ∀ {S:St} {r:R},TC G live Λ key T c K S=some r-> ∀ {a:Act} {w:World} {ρ:Place} {Fs:Nat->FP},aQ C S a w ρ Fs-> ∀ {Q:Exit->Act->World->Prop},
 (∀x S',K x S' =some r-> ∀a' w' ρ' Fs',aQ C S' a' w' ρ' Fs'->Q (Da x) a' w')->c.wp P Q a w:=by
 intro c
 induction c with
 |seq c d _ Sa=>
  intro ht hl S r he a w ρ Fs h Q hQ
  simp only[TC] at he
  simp only[tA] at ht
  cases hk:keyOf d==key with
  |true=>
   rw[hk] at he ht
   cases ht
   refine wp_seq (uU hG hm hN c hl.1 he h fun x S' hK a' w' ρ' Fs' h'=> ?_)
   cases x with
   |normal=>exact uU hG hm hN _ hl.2 (hT _ _ _ hK) (h'.norm (cutAt live key)) hQ
   |exit i=>exact hQ (.exit i) S' hK _ _ _ _ h'
   |ret=>exact hQ .ret S' hK _ _ _ _ h'
  |false=>
   rw[hk] at he ht
   refine wp_seq (uU hG hm hN c hl.1 he h fun x S' hK a' w' ρ' Fs' h'=> ?_)
   cases x with
   |normal=>exact Sa ht hl.2 hK h' hQ
   |exit i=>exact hQ (.exit i) S' hK _ _ _ _ h'
   |ret=>exact hQ .ret S' hK _ _ _ _ h'
 |_=>intro ht;cases ht
theorem Dc (hG:IJ P G) (hm:P.follows .mixedOrders=true) {f:FuncId} {fn:Func} {g:pL} {body tl:Code} (hf:P.funcs[f]? =some fn) (hb:fn.body=some body) (hl:kr G live Λ body) (hN:G.nt=fn.ntmps) (hp:g.params.length<=fn.ntmps) (Hu:fn.results.size=g.results.length)
 {ds rs:List DV} {K:List DV->Option R} {r:R} {key:Nat} {T:List AV->List (Option aq)->Option R} (W9:tA key body=some tl) (hT: ∀vs hs r,T vs hs=some r->ev G live Λ tl (fK live G.tt g fn K) (cA (cutAt live key) vs hs)=some r) (hK: ∀tH,K tH=some r->tH=rs) (he:IC G live Λ key T g fn ds K=some r):fM P f g ds rs:=by
 intro C0 args hP fj h1 h2
 let C:Cx:={C0 with N:=fn.ntmps,kv:=args}
 unfold IC at he
 split at he
 case h_2=>cases he
 rename_i xs up nx Sb JA nv
 rw[hb] at nv;cases nv
 have hlen:=n7 _ _ _ JA
 obtain ⟨ρ1,lR,FG,hrel⟩:=mw (w:=C.w0) (Zf:=C.Zf0) (ZL:=C.Zl) _ _ _ _ _ _ _ _ JA fj
 obtain ⟨UE,xT⟩:=mr.start (C:=C) FG h1 h2
 have vr:=hrel _ xT
 have Sc:args.length=g.params.length:=by rw[<- vr.length];exact hlen.1
 have Sd:xs.length<=fn.ntmps:=by rw[hlen.1];exact hp
 have h0:aQ C ⟨lY (bif pP g.gj then cY 0 xs else cY 0 xs++cY fn.ntmps xs),eA o7 up,nx⟩ {tmps:=args.toArray++Array.replicate (fn.ntmps-args.toArray.size) undef,defers:=[]} C.w0 ρ1 lR:=by
  have low: ∀t,eE (C.env C.w0 ρ1 (eA o7 up) nx lR) (lY (cY 0 xs) t) (C.val {tmps:=args.toArray++Array.replicate (fn.ntmps-args.toArray.size) undef,defers:=[]} t):=fun t=>by
   unfold lY
   rw[kh]
   simp only[Nat.zero_le,if_true,Nat.sub_zero]
   cases hx:xs[t]? with
   |none=>trivial
   |some x=>
    obtain ⟨v,hv,hr⟩:=vr.at hx
    have ht:t<args.length:=(List.getElem?_eq_some_iff.1 hv).1
    have Lz:t<C.N:=by show t<fn.ntmps;omega
    simp only[Cx.val,if_pos Lz]
    have e:(args.toArray++Array.replicate (fn.ntmps-args.toArray.size) undef).getD t undef=v:=by
     rw[Array.getD_eq_getD_getElem?,Array.getElem?_append_left (by simpa using ht)]
     simp[hv]
    rw[e];exact hr
  refine ⟨UE,rfl,?_,fun t=> ?_⟩
  ·show (args.toArray++Array.replicate (fn.ntmps-args.toArray.size) undef).size=fn.ntmps
   simp;omega
  ·show eE _ (lY (bif pP g.gj then cY 0 xs else cY 0 xs++cY fn.ntmps xs) t) _
   cases pP g.gj with
   |true=>exact low t
   |false=>
    have UF: ∀(l m:List (Nat×AV)),lY (l++m) t=match look l t with|some v=>v|none=>lY m t:=fun l m=>by
     unfold lY
     rw[qp]
     cases look l t<;>rfl
    simp only[cond_false]
    rw[UF]
    cases hq:look (cY 0 xs) t with
    |some v=>
     have:=low t
     unfold lY at this
     rw[hq] at this
     exact this
    |none=>
     show eE _ (lY (cY fn.ntmps xs) t) _
     unfold lY
     rw[kh]
     by_cases ht:fn.ntmps<=t
     ·rw[if_pos ht]
      cases hx:xs[t-fn.ntmps]? with
      |none=>trivial
      |some x=>
       obtain ⟨v,hv,hr⟩:=vr.at hx
       have e1: ¬t<C.N:=by show ¬t<fn.ntmps;omega
       simp only[Cx.val,if_neg e1]
       have e:C.kv.getD (t-C.N) undef=v:=by
        show args.getD (t-fn.ntmps) undef=v
        rw[List.getD_eq_getElem?_getD,hv];rfl
       rw[e];exact hr
     ·rw[if_neg ht];trivial
 refine calls_of_wp hf hb ?_
 refine JI hG hm (C:=C) ⟨hN,hP⟩ hT body W9 hl he h0 fun x S' Nf a' w' ρ' Fs' h'=> ?_
 have fin:qS (IS live) G.tt g fn S' K=some r->bodyPost P fn (Ends C0 g args rs) .normal a' w':=fun hf=>by
  obtain ⟨c,tH,f1,f2⟩:=uV hf
  obtain rfl:=hK tH f2
  obtain ⟨v,k1,vs,F',k2,k3,k4,k5,k6,k7⟩:=uB hG.tt h' (C:=C) (g:=g.to c) rfl rfl Sc.symm Hu f1
  exact ⟨h'.defers,v,k1,vs,F',k2,k3,⟨k4.size,k4.os,k4.tape,k4.output,k4.block⟩,k5,k6,k7⟩
 cases x with
 |normal=>exact fin Nf
 |exit i=>cases Nf
 |ret=>exact fin Nf
end
end Go.Proofs.YtbmmhdmljajcfaaGreatDoor.V
