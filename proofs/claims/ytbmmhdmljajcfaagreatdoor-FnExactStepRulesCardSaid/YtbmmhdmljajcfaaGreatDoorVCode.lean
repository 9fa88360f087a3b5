/- The abstract evaluator and its soundness: part VCode. Conditions: as each section says. -/
import Derived.Test.YtbmmhdmljajcfaaGreatDoorVOpP
import Derived.Orders
import Derived.Tactics
import Derived.LoopN
set_option linter.unusedVariables false
set_option linter.unusedSimpArgs false
namespace Go.Proofs.YtbmmhdmljajcfaaGreatDoor.V
open Go
def DLRel (w:World) (Zf ZL:Zs):DL->Value->FP->Prop
 | .i k n,v,F=>v= .int k n/\F=fz
 | .b x,v,F=>v= .bool x/\F=fz
 | .s x,v,F=>v= .string x/\F=fz
 | .er true,v,F=>v= .nilIface/\F=fz
 | .er false,v,F=>(∃t x,v= .iface t x)/\F=fz
 | .sl .frz r,v,F=>FrzRow w Zf r v/\F=fz
 | .sl .lent r,v,F=>FrzRow w ZL r v/\F=fz
 | .sl .own r,v,F=> ∃q,v=hdr q r.len/\RowRel w ZL q r.cells r.len r.size F
def DLsRel (w:World) (Zf ZL:Zs):List DL->List Value->FP->Prop
 | [],[],F=>F=fz
 |d::ds,v::vs,F=> ∃F1 F2,DLRel w Zf ZL d v F1/\DLsRel w Zf ZL ds vs F2/\F=fadd F1 F2
 |_,_,_=>False
def DVRel (w:World) (Zf ZL:Zs):DV->Value->FP->Prop
 | .l d,v,F=>DLRel w Zf ZL d v F
 | .agg ds,v,F=> ∃vs:List Value,v= .agg vs.toArray/\DLsRel w Zf ZL ds vs F
 | .ptr ds,v,F=> ∃b vs ty F',v= .pointer (some ⟨b,0,none⟩)/\w.heap[b]? =some (.cells vs ty (0,0))/\DLsRel w Zf ZL ds vs.toList F' /\F=fadd (f1 b) F'
def DVsRel (w:World) (Zf ZL:Zs):List DV->List Value->FP->Prop
 | [],[],F=>F=fz
 |d::ds,v::vs,F=> ∃F1 F2,DVRel w Zf ZL d v F1/\DVsRel w Zf ZL ds vs F2/\F=fadd F1 F2
 |_,_,_=>False
theorem upd_out (hp:Nat->Option Root): ∀(up:List (Nat×Option Root)) {j:Nat},(∀p∈up,p.1≠j)->upd hp up j=hp j:=by
 intro up
 induction up generalizing hp with
 |nil=>intro j _;rfl
 |cons p up ih=>
  intro j h
  obtain ⟨i,r⟩:=p
  rw[upd,ih _ (fun q hq=>h q (by simp[hq]))]
  have:(j==i)=false:=by have:=h (i,r) (by simp);simpa using Ne.symm this
  simp[this]
theorem upd_base: ∀(up:List (Nat×Option Root)) {hp hp':Nat->Option Root} {j:Nat},hp j=hp' j->upd hp up j=upd hp' up j:=by
 intro up
 induction up with
 |nil=>intro hp hp' j h;exact h
 |cons p up ih=>
  intro hp hp' j h
  obtain ⟨i,r⟩:=p
  simp only[upd]
  refine ih ?_
  cases j==i
  ·exact h
  ·rfl
def nohp:Nat->Option Root:=fun _=>none
structure Ext (w:World) (Zf ZL:Zs) (n n':Nat) (up:List (Nat×Option Root)) (ρ1:Place) (E:Env):Prop where
 w:E.w=w
 zf: ∀b,Zf b->E.Zf b
 zl: ∀b,ZL b->E.ZL b
 ρ: ∀j,n<=j->j<n'->E.ρ j=ρ1 j
 hp: ∀j,n<=j->j<n'->E.hp j=upd nohp up j
 nx:n' <=E.nx
structure Frag (w:World) (Zf ZL:Zs) (n n':Nat) (up:List (Nat×Option Root)) (F:FP) (ρ1:Place) (Fs1:Nat->FP):Prop where
 le:n<=n'
 out: ∀j,j<n\/n' <=j->Fs1 j=fz
 sum: ∀b,sumTo n' Fs1 b=F b
 keys: ∀p∈up,n<=p.1/\p.1<n'
 dead: ∀j,upd nohp up j=none->Fs1 j=fz
 roots: ∀E,Ext w Zf ZL n n' up ρ1 E-> ∀j root,upd nohp up j=some root->RootRel E j root (Fs1 j)
section
variable {w:World} {Zf ZL:Zs}
theorem sumTo_fz (n:Nat) (b:Nat) (Fs:Nat->FP) (h: ∀j,j<n->Fs j=fz):sumTo n Fs b=0:=by
 have:sumTo n Fs b=sumTo n (fun _=>fz) b:=sumTo_congr b (fun j hj=>by rw[h j hj])
 rw[this]
 induction n with
 |zero=>rfl
 |succ n ih=>simp[sumTo,ih (fun j hj=>h j (by omega)) (sumTo_congr b fun j hj=>by rw[h j (by omega)])]
theorem sumTo_add (n:Nat) (b:Nat) (Fs Gs:Nat->FP):sumTo n (fun j=>fadd (Fs j) (Gs j)) b=sumTo n Fs b+sumTo n Gs b:=by
 induction n with
 |zero=>rfl
 |succ n ih=>simp[sumTo,ih];omega
theorem Frag.nil (n:Nat) (ρ1:Place):Frag w Zf ZL n n [] fz ρ1 (fun _=>fz):=
 ⟨Nat.le_refl _,fun _ _=>rfl,fun b=>sumTo_fz n b _ (fun _ _=>rfl),by simp,fun _ _=>rfl,fun E h j root hj=>by simp[upd,nohp] at hj⟩
theorem Frag.join {n m n':Nat} {up up':List (Nat×Option Root)} {F F':FP} {ρ1 ρ2:Place} {Fs1 Fs2:Nat->FP} (h:Frag w Zf ZL n m up F ρ1 Fs1) (h':Frag w Zf ZL m n' up' F' ρ2 Fs2):
 Frag w Zf ZL n n' (up++up') (fadd F F') (fun j=>if j<m then ρ1 j else ρ2 j) (fun j=>fadd (Fs1 j) (Fs2 j))/\
 (∀E,Ext w Zf ZL n n' (up++up') (fun j=>if j<m then ρ1 j else ρ2 j) E->Ext w Zf ZL n m up ρ1 E/\Ext w Zf ZL m n' up' ρ2 E):=by
 have hlo: ∀j,j<m->upd nohp (up++up') j=upd nohp up j:=fun j hj=>by
  rw[upd_append]
  exact upd_out _ _ (fun p hp e=>by have:=(h'.keys p hp).1;omega)
 have hhi: ∀j,m<=j->upd nohp (up++up') j=upd nohp up' j:=fun j hj=>by
  rw[upd_append]
  refine upd_base _ ?_
  exact upd_out _ _ (fun p hp e=>by have:=(h.keys p hp).2;omega)
 have hext: ∀E,Ext w Zf ZL n n' (up++up') (fun j=>if j<m then ρ1 j else ρ2 j) E->Ext w Zf ZL n m up ρ1 E/\Ext w Zf ZL m n' up' ρ2 E:=fun E e=>by
  have l1:=h.le
  have l2:=h'.le
  refine ⟨⟨e.w,e.zf,e.zl,fun j a b=> ?_,fun j a b=> ?_,by have:=e.nx;omega⟩,⟨e.w,e.zf,e.zl,fun j a b=> ?_,fun j a b=> ?_,e.nx⟩⟩
  ·rw[e.ρ j a (by omega),if_pos b]
  ·rw[e.hp j a (by omega),hlo j b]
  ·rw[e.ρ j (by omega) b,if_neg (by omega)]
  ·rw[e.hp j (by omega) b,hhi j a]
 have hle:=h.le
 have hle':=h'.le
 refine ⟨⟨by omega,fun j hj=> ?_,fun b=> ?_,fun p hp=> ?_,fun j hj=> ?_,fun E e j root hj=> ?_⟩,hext⟩
 ·rw[h.out j (by omega),h'.out j (by omega),fadd_fz]
 ·rw[sumTo_add,h'.sum b]
  have:=sumTo_more (Fs:=Fs1) b hle' (fun j h1 _=>by rw[h.out j (.inr h1)];rfl)
  rw[this,h.sum b]
  rfl
 ·rcases List.mem_append.1 hp with hp|hp
  ·have:=h.keys p hp;omega
  ·have:=h'.keys p hp;omega
 ·by_cases e:j<m
  ·rw[hlo j e] at hj
   rw[h.dead j hj,h'.out j (.inl e),fadd_fz]
  ·rw[hhi j (by omega)] at hj
   rw[h'.dead j hj,h.out j (.inr (by omega)),fadd_fz]
 ·obtain ⟨e1,e2⟩:=hext E e
  by_cases e:j<m
  ·rw[hlo j e] at hj
   rw[h'.out j (.inl e),fadd_fz]
   exact h.roots E e1 j root hj
  ·rw[hhi j (by omega)] at hj
   rw[h.out j (.inr (by omega)),fz_fadd]
   exact h'.roots E e2 j root hj
theorem FrzRow.grow {Z Z':Zs} {r:Row} {v:Value} (h:FrzRow w Z r v) (hz: ∀b,Z b->Z' b):FrzRow w Z' r v:=h.mono (fun b hb=>⟨hz b hb,rfl⟩)
theorem Frag.row {n e:Nat} {r:Row} {q:Option (Nat×Nat)} {F:FP} (h:RowRel w ZL q r.cells r.len r.size F):Frag w Zf ZL n (n+1) [(n,some (.row e 0 r))] F (fun _=>q) (putF (fun _=>fz) n F):=by
 refine ⟨Nat.le_succ _,fun j hj=>putF_ne _ _ (by omega),fun b=> ?_,by simp,fun j hj=> ?_,fun E ex j root hj=> ?_⟩
 ·rw[sumTo_put_new,sumTo_fz n b _ (fun _ _=>rfl)];omega
 ·rw[upd_one] at hj
  split at hj
  ·cases hj
  ·exact putF_ne _ _ ‹_›
 ·rw[upd_one] at hj
  split at hj
  ·rename_i e'
   subst e'
   cases hj
   rw[putF_self]
   show RowRel E.w E.ZL (E.ρ j) r.cells r.len r.size F
   rw[ex.ρ j (Nat.le_refl _) (Nat.lt_succ_self _),ex.w]
   exact h.mono (fun b hb=>⟨ex.zl b hb,rfl⟩) (fun b _=>rfl)
  ·cases hj
theorem inLeaf_sound {tt:TT} {t n n':Nat} {d:DL} {x:LV} {up:List (Nat×Option Root)} (hi:inLeaf tt t d n=some (x,up,n')) {v:Value} {F:FP} (hd:DLRel w Zf ZL d v F):
 ∃ρ1 Fs1,Frag w Zf ZL n n' up F ρ1 Fs1/\ ∀E,Ext w Zf ZL n n' up ρ1 E->LVRel E x v:=by
 have plain:F=fz->up=[]->n' =n->(∀E,Ext w Zf ZL n n' up (fun _=>none) E->LVRel E x v)-> ∃ρ1 Fs1,Frag w Zf ZL n n' up F ρ1 Fs1/\ ∀E,Ext w Zf ZL n n' up ρ1 E->LVRel E x v:=fun h1 h2 h3 h4=>by
  subst h1 h2 h3
  exact ⟨_,_,Frag.nil n' _,h4⟩
 cases d with
 |i k z=>cases hi;exact plain hd.2 rfl rfl (fun E _=>hd.1)
 |b z=>cases hi;exact plain hd.2 rfl rfl (fun E _=>hd.1)
 |s z=>cases hi;exact plain hd.2 rfl rfl (fun E _=>hd.1)
 |er z=>cases z<;>(cases hi;exact plain hd.2 rfl rfl (fun E _=>hd.1))
 |sl c r=>
  cases c with
  |frz=>cases hi;exact plain hd.2 rfl rfl (fun E ex=>by show FrzRow E.w E.Zf r v;rw[ex.w];exact hd.1.grow ex.zf)
  |lent=>cases hi;exact plain hd.2 rfl rfl (fun E ex=>by show FrzRow E.w E.ZL r v;rw[ex.w];exact hd.1.grow ex.zl)
  |own=>
   simp only[inLeaf] at hi
   split at hi
   ·rename_i e he
    cases hi
    obtain ⟨q,hv,hr⟩:=hd
    refine ⟨_,_,Frag.row hr,fun E ex=>⟨by have:=ex.nx;omega,fun root hroot=> ?_⟩⟩
    rw[ex.hp n (Nat.le_refl _) (Nat.lt_succ_self _),upd_one,if_pos rfl] at hroot
    cases hroot
    exact ⟨r,rfl,by rw[ex.ρ n (Nat.le_refl _) (Nat.lt_succ_self _)];exact hv⟩
   ·cases hi
theorem inLeafs_sound {tt:TT}: ∀(ts:List Nat) (ds:List DL) (n n':Nat) (xs:List LV) (up:List (Nat×Option Root)) (vs:List Value) (F:FP),inLeafs tt ts ds n=some (xs,up,n')->DLsRel w Zf ZL ds vs F->
 ∃ρ1 Fs1,Frag w Zf ZL n n' up F ρ1 Fs1/\ ∀E,Ext w Zf ZL n n' up ρ1 E->LVsRel E xs vs
 | [],[],n,n',xs,up,vs,F,hi,hd=>by
   simp only[inLeafs,Option.some.injEq,Prod.mk.injEq] at hi
   obtain ⟨rfl,rfl,rfl⟩:=hi
   cases vs with
   |nil=>have:F=fz:=hd
         subst this
         exact ⟨_,_,Frag.nil n (fun _=>none),fun _ _=>trivial⟩
   |cons v vs=>exact absurd hd id
 | [],_::_,_,_,_,_,_,_,hi,_=>by simp[inLeafs] at hi
 |_::_,[],_,_,_,_,_,_,hi,_=>by simp[inLeafs] at hi
 |t::ts,d::ds,n,n',xs,up,vs,F,hi,hd=>by
  simp only[inLeafs] at hi
  split at hi
  ·rename_i x up1 m h1
   split at hi
   ·rename_i ys up2 n2 h2
    simp only[Option.some.injEq,Prod.mk.injEq] at hi
    obtain ⟨rfl,rfl,rfl⟩:=hi
    cases vs with
    |nil=>exact absurd hd id
    |cons v vs=>
     obtain ⟨F1,F2,d1,d2,rfl⟩:=hd
     obtain ⟨ρ1,Fs1,f1,r1⟩:=inLeaf_sound h1 d1
     obtain ⟨ρ2,Fs2,f2,r2⟩:=inLeafs_sound ts ds _ _ _ _ _ _ h2 d2
     obtain ⟨f3,e3⟩:=f1.join f2
     exact ⟨_,_,f3,fun E ex=>⟨r1 E (e3 E ex).1,r2 E (e3 E ex).2⟩⟩
   ·cases hi
  ·cases hi
theorem Frag.box {n n' t:Nat} {up:List (Nat×Option Root)} {F':FP} {ρ1:Place} {Fs1:Nat->FP} (h:Frag w Zf ZL (n+1) n' up F' ρ1 Fs1) {b:Nat} {vs:Array Value} {ty:TypeId} (hb:w.heap[b]? =some (.cells vs ty (0,0))) {xs:List LV} (hx: ∀E,Ext w Zf ZL (n+1) n' up ρ1 E->LVsRel E xs vs.toList):
 Frag w Zf ZL n n' (up++[(n,some (.box t xs))]) (fadd (f1 b) F') (fun j=>if j=n then some (b,1) else ρ1 j) (putF Fs1 n (f1 b))/\
 (∀E,Ext w Zf ZL n n' (up++[(n,some (.box t xs))]) (fun j=>if j=n then some (b,1) else ρ1 j) E->LVRel E (.bptr n 0) (.pointer (some ⟨b,0,none⟩))):=by
 have hle:=h.le
 have hat: ∀j,upd nohp (up++[(n,some (.box t xs))]) j=if j=n then some (.box t xs) else upd nohp up j:=fun j=>by rw[upd_append,upd_one]
 have hnn:upd nohp up n=none:=upd_out _ _ (fun p hp e=>by have:=(h.keys p hp).1;omega)
 have hFn:Fs1 n=fz:=h.out n (.inl (by omega))
 have hext: ∀E,Ext w Zf ZL n n' (up++[(n,some (.box t xs))]) (fun j=>if j=n then some (b,1) else ρ1 j) E->Ext w Zf ZL (n+1) n' up ρ1 E:=fun E e=>
  ⟨e.w,e.zf,e.zl,fun j a c=>by rw[e.ρ j (by omega) c,if_neg (by omega)],fun j a c=>by rw[e.hp j (by omega) c,hat,if_neg (by omega)],e.nx⟩
 refine ⟨⟨by omega,fun j hj=> ?_,fun b'=> ?_,fun p hp=> ?_,fun j hj=> ?_,fun E e j root hj=> ?_⟩,fun E e=> ?_⟩
 ·rw[putF_ne _ _ (by omega)]
  exact h.out j (by omega)
 ·have h1:=sumTo_put Fs1 (f1 b) b' (n:=n') (id:=n) (by omega)
  have h2:=h.sum b'
  rw[hFn] at h1
  simp at h1 ⊢
  omega
 ·rcases List.mem_append.1 hp with hp|hp
  ·have:=h.keys p hp;omega
  ·simp at hp;subst hp;simp;omega
 ·rw[hat] at hj
  split at hj
  ·cases hj
  ·rw[putF_ne _ _ ‹_›];exact h.dead j hj
 ·rw[hat] at hj
  split at hj
  ·rename_i e'
   subst e'
   cases hj
   rw[putF_self]
   exact ⟨b,1,vs,ty,by rw[e.ρ j (Nat.le_refl _) (by omega),if_pos rfl],by rw[e.w];exact hb,hx E (hext E e),rfl⟩
  ·rename_i e'
   rw[putF_ne _ _ e']
   exact h.roots E (hext E e) j root hj
 ·refine ⟨by have:=e.nx;omega,fun root hr=> ?_,b,1,by rw[e.ρ n (Nat.le_refl _) (by omega),if_pos rfl],rfl⟩
  rw[e.hp n (Nat.le_refl _) (by omega),hat,if_pos rfl] at hr
  cases hr
  trivial
theorem inArg_sound {tt:TT} {t n n':Nat} {d:DV} {x:AV} {up:List (Nat×Option Root)} (hi:inArg tt t d n=some (x,up,n')) {v:Value} {F:FP} (hd:DVRel w Zf ZL d v F):
 ∃ρ1 Fs1,Frag w Zf ZL n n' up F ρ1 Fs1/\ ∀E,Ext w Zf ZL n n' up ρ1 E->AVRel E x v:=by
 cases d with
 |l d=>
  simp only[inArg] at hi
  split at hi
  ·rename_i y up1 m h1
   simp only[Option.some.injEq,Prod.mk.injEq] at hi
   obtain ⟨rfl,rfl,rfl⟩:=hi
   exact inLeaf_sound h1 hd
  ·cases hi
 |agg ds=>
  simp only[inArg] at hi
  split at hi
  ·rename_i ys up1 m h1
   simp only[Option.some.injEq,Prod.mk.injEq] at hi
   obtain ⟨rfl,rfl,rfl⟩:=hi
   obtain ⟨vs,rfl,hd⟩:=hd
   obtain ⟨ρ1,Fs1,f1,r1⟩:=inLeafs_sound _ _ _ _ _ _ _ _ h1 hd
   exact ⟨ρ1,Fs1,f1,fun E ex=>⟨vs,rfl,r1 E ex⟩⟩
  ·cases hi
 |ptr ds=>
  simp only[inArg] at hi
  split at hi
  ·rename_i e sz bs hq
   split at hi
   ·rename_i ys up1 m h1
    simp only[Option.some.injEq,Prod.mk.injEq] at hi
    obtain ⟨rfl,rfl,rfl⟩:=hi
    obtain ⟨b,vs,ty,F',rfl,hb,hd,rfl⟩:=hd
    obtain ⟨ρ1,Fs1,f1',r1⟩:=inLeafs_sound _ _ _ _ _ _ _ _ h1 hd
    obtain ⟨f2,r2⟩:=f1'.box (t:=e) hb r1
    exact ⟨_,_,f2,r2⟩
   ·cases hi
  ·cases hi
theorem inArgs_sound {tt:TT}: ∀(ts:List Nat) (ds:List DV) (n n':Nat) (xs:List AV) (up:List (Nat×Option Root)) (vs:List Value) (F:FP),inArgs tt ts ds n=some (xs,up,n')->DVsRel w Zf ZL ds vs F->
 ∃ρ1 Fs1,Frag w Zf ZL n n' up F ρ1 Fs1/\ ∀E,Ext w Zf ZL n n' up ρ1 E->AVsRel E xs vs
 | [],[],n,n',xs,up,vs,F,hi,hd=>by
   simp only[inArgs,Option.some.injEq,Prod.mk.injEq] at hi
   obtain ⟨rfl,rfl,rfl⟩:=hi
   cases vs with
   |nil=>have:F=fz:=hd
         subst this
         exact ⟨_,_,Frag.nil n (fun _=>none),fun _ _=>trivial⟩
   |cons v vs=>exact absurd hd id
 | [],_::_,_,_,_,_,_,_,hi,_=>by simp[inArgs] at hi
 |_::_,[],_,_,_,_,_,_,hi,_=>by simp[inArgs] at hi
 |t::ts,d::ds,n,n',xs,up,vs,F,hi,hd=>by
  simp only[inArgs] at hi
  split at hi
  ·rename_i x up1 m h1
   split at hi
   ·rename_i ys up2 n2 h2
    simp only[Option.some.injEq,Prod.mk.injEq] at hi
    obtain ⟨rfl,rfl,rfl⟩:=hi
    cases vs with
    |nil=>exact absurd hd id
    |cons v vs=>
     obtain ⟨F1,F2,d1,d2,rfl⟩:=hd
     obtain ⟨ρ1,Fs1,f1,r1⟩:=inArg_sound h1 d1
     obtain ⟨ρ2,Fs2,f2,r2⟩:=inArgs_sound ts ds _ _ _ _ _ _ h2 d2
     obtain ⟨f3,e3⟩:=f1.join f2
     exact ⟨_,_,f3,fun E ex=>⟨r1 E (e3 E ex).1,r2 E (e3 E ex).2⟩⟩
   ·cases hi
  ·cases hi
theorem Frag.start {C:Cx} {n:Nat} {up:List (Nat×Option Root)} {ρ1:Place} {Fs1:Nat->FP} (h:Frag C.w0 C.Zf0 C.Zl 0 n up C.F0 ρ1 Fs1) (h1: ∀b,C.F0 b<=1) (h2: ∀b,1<=C.F0 b->b<C.w0.heap.size):
 MRel C (upd nohp up) n C.w0 ρ1 Fs1/\Ext C.w0 C.Zf0 C.Zl 0 n up ρ1 (C.env C.w0 ρ1 (upd nohp up) n Fs1):=by
 have hex:Ext C.w0 C.Zf0 C.Zl 0 n up ρ1 (C.env C.w0 ρ1 (upd nohp up) n Fs1):=⟨rfl,fun b hb=> .inl hb,fun b hb=> .inl hb,fun _ _ _=>rfl,fun _ _ _=>rfl,Nat.le_refl _⟩
 refine ⟨⟨fun id hid=> ?_,fun id root hid=>h.roots _ hex id root hid,h.dead,fun b=> ?_,fun b hb=> ?_,⟨Nat.le_refl _,rfl,rfl,rfl,fun _ _ _=>rfl⟩⟩,hex⟩
 ·exact upd_out _ _ (fun p hp e=>by have:=(h.keys p hp).2;omega)
 ·rw[h.sum b];exact h1 b
 ·rw[h.sum b] at hb
  exact ⟨h2 b hb,.inr hb⟩
end
end Go.Proofs.YtbmmhdmljajcfaaGreatDoor.V
namespace Go.Proofs.YtbmmhdmljajcfaaGreatDoor.V
open Go
section
variable {tt:TT} {C:Cx} {S:St} {w:World} {ρ:Place} {Fs:Nat->FP}
theorem DLRel.grow {Zf ZL Zf' ZL':Zs} (hf: ∀b,Zf b->Zf' b) (hl: ∀b,ZL b->ZL' b) {d:DL} {v:Value} {F:FP} (h:DLRel w Zf ZL d v F):DLRel w Zf' ZL' d v F:=by
 cases d with
 |sl c r=>
  cases c with
  |frz=>exact ⟨h.1.grow hf,h.2⟩
  |lent=>exact ⟨h.1.grow hl,h.2⟩
  |own=>obtain ⟨q,h1,h2⟩:=h;exact ⟨q,h1,h2.mono (fun b hb=>⟨hl b hb,rfl⟩) (fun b _=>rfl)⟩
 |er b=>cases b<;>exact h
 |_=>exact h
theorem DLsRel.grow {Zf ZL Zf' ZL':Zs} (hf: ∀b,Zf b->Zf' b) (hl: ∀b,ZL b->ZL' b): ∀ {ds:List DL} {vs:List Value} {F:FP},DLsRel w Zf ZL ds vs F->DLsRel w Zf' ZL' ds vs F
 | [],[],_,h=>h
 |d::ds,v::vs,F,⟨F1,F2,h1,h2,h3⟩=>⟨F1,F2,h1.grow hf hl,h2.grow hf hl,h3⟩
theorem DVRel.grow {Zf ZL Zf' ZL':Zs} (hf: ∀b,Zf b->Zf' b) (hl: ∀b,ZL b->ZL' b) {d:DV} {v:Value} {F:FP} (h:DVRel w Zf ZL d v F):DVRel w Zf' ZL' d v F:=by
 cases d with
 |l d=>exact DLRel.grow hf hl h
 |agg ds=>obtain ⟨vs,h1,h2⟩:=h;exact ⟨vs,h1,h2.grow hf hl⟩
 |ptr ds=>obtain ⟨b,vs,ty,F',h1,h2,h3,h4⟩:=h;exact ⟨b,vs,ty,F',h1,h2,h3.grow hf hl,h4⟩
theorem DVsRel.grow {Zf ZL Zf' ZL':Zs} (hf: ∀b,Zf b->Zf' b) (hl: ∀b,ZL b->ZL' b): ∀ {ds:List DV} {vs:List Value} {F:FP},DVsRel w Zf ZL ds vs F->DVsRel w Zf' ZL' ds vs F
 | [],[],_,h=>h
 |d::ds,v::vs,F,⟨F1,F2,h1,h2,h3⟩=>⟨F1,F2,h1.grow hf hl,h2.grow hf hl,h3⟩
theorem own_row (m:MRel C S.hp S.nx w ρ Fs) {id e ver:Nat} {r:Row} (hroot:S.hp id=some (.row e ver r)) {hi:Nat} (hhi:hi<=r.len): ∃F,RowRel w (C.ZL w (sumTo S.nx Fs)) (ρ id) (r.take hi).cells (r.take hi).len (r.take hi).size F/\ ∀b,F b<=Fs id b:=by
 have hl:(r.take hi).len=hi:=by rw[take_len];omega
 rcases m.roots id _ hroot with ⟨g1,g2,g3⟩| ⟨b,cap,arr,ty,F',g1,g2,g3,g4,g5,g6⟩
 ·simp only[Cx.env] at g1
  exact ⟨fz,.inl ⟨g1,by omega,rfl⟩,fun b=>by simp⟩
 ·simp only[Cx.env] at g1 g2
  obtain ⟨F1,t1,t2⟩:=g5.take (hi*r.size)
  rw[<- take_cells] at t1
  refine ⟨fadd (f1 b) F1,.inr ⟨b,cap,arr,ty,F1,g1,g2,by omega,by rw[take_size];exact g4,?_,rfl⟩,fun b'=>by have:=t2 b';rw[g6];simp;omega⟩
  have:arr.toList=arr.toList.take (hi*r.size)++arr.toList.drop (hi*r.size):=(List.take_append_drop ..).symm
  rw[this]
  exact t1.more _
theorem nil_row {Z:Zs} {r:Row} (h:r.len=0):RowRel w Z none r.cells r.len r.size fz:= .inl ⟨rfl,h,rfl⟩
theorem nil_frz {Z:Zs} {r:Row} (h:r.len=0):FrzRow w Z r (.slice none 0 0):=⟨none,0,by rw[h],by omega,fun hn=>absurd h hn⟩
def Zlent (C:Cx) (w:World) (nx:Nat) (Fs:Nat->FP) (rc:List Nat):Zs:=fun b=>C.ZL w (sumTo nx Fs) b\/ ∃id∈rc,1<=Fs id b
theorem Zlent.left {rc rc':List Nat} {b:Nat} (h:Zlent C w S.nx Fs rc b):Zlent C w S.nx Fs (rc++rc') b:=h.imp (fun h=>h) (fun ⟨i,h1,h2⟩=>⟨i,by simp[h1],h2⟩)
theorem Zlent.right {rc rc':List Nat} {b:Nat} (h:Zlent C w S.nx Fs rc' b):Zlent C w S.nx Fs (rc++rc') b:=h.imp (fun h=>h) (fun ⟨i,h1,h2⟩=>⟨i,by simp[h1],h2⟩)
def Root.solid:Root->Prop
 | .row _ _ _=>True
 | .box _ _=>True
 |_=>False
theorem solid_real {root:Root} (h:root.solid):root.real:=by cases root<;>first|trivial|exact h.elim
def RowsAt (hp:Nat->Option Root) (ks:List Nat):Prop:= ∀k∈ks,∃root,hp k=some root/\root.solid
theorem boxDL_rel {E:Env} {x:LV} {d:DL} {v:Value} (h:boxDL x=some d) (hv:LVRel E x v) (ZL:Zs):DLRel E.w E.Zf ZL d v fz:=by
 unfold boxDL at h
 split at h
 ·cases h;exact ⟨hv,rfl⟩
 ·cases h;exact ⟨hv,rfl⟩
 ·cases h;exact ⟨hv,rfl⟩
 ·cases h;exact ⟨hv,rfl⟩
 ·cases h
theorem boxDLs_rel {E:Env} (ZL:Zs): ∀ {xs:List LV} {ds:List DL} {vs:List Value},boxDLs xs=some ds->LVsRel E xs vs->DLsRel E.w E.Zf ZL ds vs fz
 | [],ds,[],h,_=>by cases h;rfl
 |x::xs,ds,v::vs,h,hv=>by
  simp only[boxDLs] at h
  split at h
  ·rename_i d h1
   split at h
   ·rename_i ds' h2
    cases h
    exact ⟨fz,fz,boxDL_rel h1 hv.1 ZL,boxDLs_rel ZL h2 hv.2,(fadd_fz _).symm⟩
   ·cases h
  ·cases h
theorem ptrOf_some {x:LV} {id:Nat} (h:ptrOf x=some id):x= .bptr id 0:=by
 unfold ptrOf at h
 split at h
 ·cases h;rfl
 ·cases h
theorem boxAt_sound (m:MRel C S.hp S.nx w ρ Fs) {t id:Nat} {ds:List DL} (he:boxAt tt S.hp t id=some ds) {v:Value} (hv:LVRel (C.env w ρ S.hp S.nx Fs) (.bptr id 0) v) (ZL:Zs):
 DVRel w (C.Zf w (sumTo S.nx Fs)) ZL (.ptr ds) v (Fs id)/\ ∃root,S.hp id=some root/\root.solid:=by
 unfold boxAt at he
 cases hp:isPtr tt t with
 |false=>rw[hp] at he;cases he
 |true=>
  rw[hp,cond_true] at he
  split at he
  ·rename_i bt cells hroot
   obtain ⟨_,_,b,cap,hρ,rfl⟩:=hv
   obtain ⟨b',cap',vs,ty,g1,g2,g3,g4⟩:=m.roots id _ hroot
   simp only[Cx.env] at hρ g1 g2
   rw[hρ] at g1;cases g1
   exact ⟨⟨b,vs,ty,fz,rfl,g2,boxDLs_rel ZL he g3,by rw[fadd_fz];exact g4⟩,_,hroot,trivial⟩
  ·cases he
theorem inner_own_cell {r:Row} {i f:Nat} (ho:r.owned=true) (hs:r.slAt f=true) (hi:i<r.len):r.cells[i*r.size+f]? =some (.sl true (innerOf r i f)):=by
 cases r with
 |rows o l=>
  simp only[Row.owned] at ho
  subst ho
  simp only[Row.slAt] at hs
  have:=eq_of_beq hs
  subst this
  simp only[Row.len] at hi
  simp[Row.cells,Row.size,innerOf,hi]
 |recs sg o l=>
  simp only[Row.owned] at ho
  subst ho
  have hf:=slAt_lt hs
  simp only[Row.slAt] at hs
  simp only[Row.size] at hf
  simp only[Row.len] at hi
  have hsf:sg[f]? =some true:=by
   cases hq:sg[f]? with
   |none=>rw[hq] at hs;cases hs
   |some b=>rw[hq] at hs;simp at hs;rw[hs]
  have:=recs_get sg true l i f hf
  rw[List.getElem?_eq_getElem hi,hsf] at this
  simp only[Row.size]
  rw[this]
  simp[innerOf,hi]
 |_=>cases hs
theorem toDL_sound (m:MRel C S.hp S.nx w ρ Fs) {md:Mode} {t:Nat} {x:LV} {d:DL} {ks io rc:List Nat} (he:toDL tt S.hp md t x=some (d,ks,io,rc)) {v:Value} (hv:LVRel (C.env w ρ S.hp S.nx Fs) x v):
 ∃F,DLRel w (C.Zf w (sumTo S.nx Fs)) (Zlent C w S.nx Fs rc) d v F/\(∀b,F b<=sumL Fs (ks++io) b)/\RowsAt S.hp (ks++io):=by
 have hz: ∀b,C.ZL w (sumTo S.nx Fs) b->Zlent C w S.nx Fs rc b:=fun b hb=> .inl hb
 have view:(match viewRow S.hp x with|some (r,rc)=>some (DL.sl .lent r,([]:List Nat),([]:List Nat),rc)|none=>none)=some (d,ks,io,rc)-> ∃F,DLRel w (C.Zf w (sumTo S.nx Fs)) (Zlent C w S.nx Fs rc) d v F/\(∀b,F b<=sumL Fs (ks++io) b)/\RowsAt S.hp (ks++io):=fun he=>by
  split at he
  ·rename_i r rc' hvr
   cases he
   exact ⟨fz,⟨viewRow_sound m hvr hv,rfl⟩,fun b=>by simp,fun k hk=>by simp at hk⟩
  ·cases he
 cases x with
 |i k z=>cases he;exact ⟨fz,⟨hv,rfl⟩,fun b=>by simp,fun k hk=>by simp at hk⟩
 |b z=>cases he;exact ⟨fz,⟨hv,rfl⟩,fun b=>by simp,fun k hk=>by simp at hk⟩
 |s z=>cases he;exact ⟨fz,⟨hv,rfl⟩,fun b=>by simp,fun k hk=>by simp at hk⟩
 |er z=>cases he;cases z<;>exact ⟨fz,⟨hv,rfl⟩,fun b=>by simp,fun k hk=>by simp at hk⟩
 |nil=>
  have hv:v= .slice none 0 0:=hv
  simp only[toDL] at he
  split at he
  ·split at he
   ·rename_i r hr
    have h0:=emptyRow_len hr
    cases md with
    |bor=>
     cases he
     exact ⟨fz,⟨by rw[hv];exact nil_frz (by rw[frz_len];exact h0),rfl⟩,fun b=>by simp,fun k hk=>by simp at hk⟩
    |mov=>
     cases he
     exact ⟨fz,⟨none,by rw[hv];rfl,nil_row h0⟩,fun b=>by simp,fun k hk=>by simp at hk⟩
    |io=>
     cases he
     exact ⟨fz,⟨none,by rw[hv];rfl,nil_row h0⟩,fun b=>by simp,fun k hk=>by simp at hk⟩
    |frz=>
     cases he
     exact ⟨fz,⟨by rw[hv];exact nil_frz (by rw[frz_len];exact h0),rfl⟩,fun b=>by simp,fun k hk=>by simp at hk⟩
   ·cases he
  ·cases he
 |val p r=>
  cases md with
  |bor=>exact view he
  |mov=>cases he
  |io=>cases he
  |frz=>
   cases p with
   |true=>cases he;exact ⟨fz,⟨hv,rfl⟩,fun b=>by simp,fun k hk=>by simp at hk⟩
   |false=>cases he
 |own id=>
  cases md with
  |bor=>exact view he
  |frz=>cases he
  |mov=>
   simp only[toDL] at he
   split at he
   ·rename_i e ver r hroot
    replace he:=bif_some he
    obtain ⟨ho,he⟩:=he
    cases he
    obtain ⟨_,hx⟩:=hv
    obtain ⟨r',e1,e2⟩:=hx _ hroot
    cases e1
    obtain ⟨F,k1,k2⟩:=own_row m hroot (Nat.le_refl r.len)
    rw[take_self] at k1
    exact ⟨F,⟨ρ id,e2,k1.mono (fun b hb=>⟨hz b hb,rfl⟩) (fun b _=>rfl)⟩,fun b=>by have:=k2 b;simp[sumL];exact this,fun k hk=>by simp at hk;subst hk;exact ⟨_,hroot,trivial⟩⟩
   ·cases he
  |io=>
   simp only[toDL] at he
   split at he
   ·rename_i e ver r hroot
    replace he:=bif_some he
    obtain ⟨ho,he⟩:=he
    cases he
    obtain ⟨_,hx⟩:=hv
    obtain ⟨r',e1,e2⟩:=hx _ hroot
    cases e1
    obtain ⟨F,k1,k2⟩:=own_row m hroot (Nat.le_refl r.len)
    rw[take_self] at k1
    exact ⟨F,⟨ρ id,e2,k1.mono (fun b hb=>⟨hz b hb,rfl⟩) (fun b _=>rfl)⟩,fun b=>by have:=k2 b;simp[sumL];exact this,fun k hk=>by simp at hk;subst hk;exact ⟨_,hroot,trivial⟩⟩
   ·cases he
 |sub id lo hi=>
  cases md with
  |bor=>exact view he
  |frz=>cases he
  |mov=>
   cases lo with
   |succ lo=>cases he
   |zero=>
    simp only[toDL] at he
    split at he
    ·rename_i e ver r hroot
     replace he:=bif_some he
     obtain ⟨ho,he⟩:=he
     cases he
     obtain ⟨_,hx⟩:=hv
     obtain ⟨r',e1,_,l2,e2⟩:=hx _ hroot
     cases e1
     obtain ⟨F,k1,k2⟩:=own_row m hroot l2
     exact ⟨F,⟨ρ id,by rw[e2,hdr_sub,take_len,Nat.min_eq_left l2];rfl,k1.mono (fun b hb=>⟨hz b hb,rfl⟩) (fun b _=>rfl)⟩,fun b=>by have:=k2 b;simp[sumL];exact this,fun k hk=>by simp at hk;subst hk;exact ⟨_,hroot,trivial⟩⟩
    ·cases he
  |io=>cases he
 |inner id ver i f=>
  cases md with
  |bor=>exact view he
  |frz=>cases he
  |mov=>cases he
  |io=>
   simp only[toDL] at he
   split at he
   ·rename_i e ver' r hroot
    have ho:=(bif_some he).1
    have he2:=(bif_some he).2
    clear he
    obtain ⟨ho1,ho2⟩:=and_bool ho
    have hver:=eq_of_beq ho1
    simp only[Option.some.injEq,Prod.mk.injEq] at he2
    obtain ⟨rfl,rfl,rfl,rfl⟩:=he2
    obtain ⟨_,hx⟩:=hv
    obtain ⟨_,_,hx3⟩:=hx _ hroot
    obtain ⟨k1,k2,k4⟩:=hx3 e r (by rw[hver])
    obtain ⟨v',F1,b1,cap1,c1,c2,hcell,hle⟩:=row_cell m hroot (inner_own_cell ho2 k1 k2)
    simp only[Cx.env] at k4
    rw[c1] at k4
    simp only[cellAt] at k4
    rw[c2] at k4
    cases k4
    refine ⟨F1,?_,fun b=>by have:=hle b;simp[sumL];exact this,fun k hk=>by simp at hk;subst hk;exact ⟨_,hroot,trivial⟩⟩
    rcases hcell with ⟨p1,p2,p3⟩| ⟨b2,cap2,arr2,ty2,q1,q2,q3,q4,q5,q6⟩
    ·exact ⟨none,by rw[p1];rfl,.inl ⟨rfl,by simp[Row.len,p2],p3⟩⟩
    ·refine ⟨some (b2,cap2),by rw[q1];rfl,.inr ⟨b2,cap2,arr2,ty2,fz,rfl,q2,by simpa[Row.len] using q3,by simpa[Row.size] using q4,?_,by rw[fadd_fz];exact q6⟩⟩
     refine CellsRel.ofFz fun j c hj=> ?_
     simp only[Row.cells,List.getElem?_map] at hj
     cases hlj:(innerOf r i f)[j]? with
     |none=>rw[hlj] at hj;cases hj
     |some z=>
      rw[hlj] at hj
      cases hj
      exact ⟨_,by simpa using q5 j z hlj,rfl,rfl⟩
   ·cases he
 |_=>cases md<;>simp[toDL,viewRow] at he
theorem sumL_mix (Fs:Nat->FP) (b:Nat) (ks ks' io io':List Nat):sumL Fs (ks++ks' ++(io++io')) b=sumL Fs (ks++io) b+sumL Fs (ks' ++io') b:=by
 simp only[sumL_append];omega
theorem RowsAt.mix {hp:Nat->Option Root} {ks ks' io io':List Nat} (h:RowsAt hp (ks++io)) (h':RowsAt hp (ks' ++io')):RowsAt hp (ks++ks' ++(io++io')):=fun k hk=>by
 simp only[List.mem_append] at hk
 rcases hk with (hk|hk)| (hk|hk)
 ·exact h k (by simp[hk])
 ·exact h' k (by simp[hk])
 ·exact h k (by simp[hk])
 ·exact h' k (by simp[hk])
theorem toDLs_sound (m:MRel C S.hp S.nx w ρ Fs) {md:Mode}: ∀(ts:List Nat) (xs:List LV) (ds:List DL) (ks io rc:List Nat) (vs:List Value),toDLs tt S.hp md ts xs=some (ds,ks,io,rc)->LVsRel (C.env w ρ S.hp S.nx Fs) xs vs->
 ∃F,DLsRel w (C.Zf w (sumTo S.nx Fs)) (Zlent C w S.nx Fs rc) ds vs F/\(∀b,F b<=sumL Fs (ks++io) b)/\RowsAt S.hp (ks++io)
 | [],[],ds,ks,io,rc,vs,he,hv=>by
   simp only[toDLs,Option.some.injEq,Prod.mk.injEq] at he
   obtain ⟨rfl,rfl,rfl,rfl⟩:=he
   cases vs with
   |nil=>exact ⟨fz,rfl,fun b=>by simp,fun k hk=>by simp at hk⟩
   |cons v vs=>exact absurd hv id
 | [],_::_,_,_,_,_,_,he,_=>by simp[toDLs] at he
 |_::_,[],_,_,_,_,_,he,_=>by simp[toDLs] at he
 |t::ts,x::xs,ds,ks,io,rc,vs,he,hv=>by
  simp only[toDLs] at he
  split at he
  ·rename_i d ks1 io1 rc1 h1
   split at he
   ·rename_i ds2 ks2 io2 rc2 h2
    simp only[Option.some.injEq,Prod.mk.injEq] at he
    obtain ⟨rfl,rfl,rfl,rfl⟩:=he
    cases vs with
    |nil=>exact absurd hv id
    |cons v vs=>
     obtain ⟨F1,a1,a2,a3⟩:=toDL_sound m h1 hv.1
     obtain ⟨F2,b1,b2,b3⟩:=toDLs_sound m ts xs _ _ _ _ _ h2 hv.2
     refine ⟨fadd F1 F2,⟨F1,F2,a1.grow (fun b h=>h) (fun b h=>Zlent.left (S:=S) h),b1.grow (fun b h=>h) (fun b h=>Zlent.right (S:=S) h),rfl⟩,fun b=> ?_,a3.mix b3⟩
     have:=a2 b;have:=b2 b
     rw[sumL_mix];simp;omega
   ·cases he
  ·cases he
theorem toDV_sound (m:MRel C S.hp S.nx w ρ Fs) {md:Mode} {t:Nat} {x:AV} {d:DV} {ks io rc:List Nat} (he:toDV tt S.hp md t x=some (d,ks,io,rc)) {v:Value} (hv:AVRel (C.env w ρ S.hp S.nx Fs) x v):
 ∃F,DVRel w (C.Zf w (sumTo S.nx Fs)) (Zlent C w S.nx Fs rc) d v F/\(∀b,F b<=sumL Fs (ks++io) b)/\RowsAt S.hp (ks++io):=by
 cases x with
 |tup xs=>cases he
 |one x=>
  cases x with
  |l x=>
   simp only[toDV] at he
   split at he
   ·rename_i id hid
    obtain rfl:=ptrOf_some hid
    cases md with
    |io=>
     simp only[toPtr] at he
     split at he
     ·rename_i ds' h1
      simp only[Option.some.injEq,Prod.mk.injEq] at he
      obtain ⟨rfl,rfl,rfl,rfl⟩:=he
      obtain ⟨a1,root,a2,a3⟩:=boxAt_sound m h1 hv (Zlent C w S.nx Fs [])
      exact ⟨_,a1,fun b=>by simp[sumL],fun k hk=>by simp at hk;subst hk;exact ⟨root,a2,a3⟩⟩
     ·cases he
    |_=>cases he
   ·split at he
    ·rename_i d' ks1 io1 rc1 h1
     simp only[Option.some.injEq,Prod.mk.injEq] at he
     obtain ⟨rfl,rfl,rfl,rfl⟩:=he
     exact toDL_sound m h1 hv
    ·cases he
  |agg xs=>
   simp only[toDV] at he
   split at he
   ·rename_i d' ks1 io1 rc1 h1
    simp only[Option.some.injEq,Prod.mk.injEq] at he
    obtain ⟨rfl,rfl,rfl,rfl⟩:=he
    obtain ⟨vs,rfl,hv⟩:=hv
    obtain ⟨F,a1,a2,a3⟩:=toDLs_sound m _ _ _ _ _ _ _ h1 hv
    exact ⟨F,⟨vs,rfl,a1⟩,a2,a3⟩
   ·cases he
theorem toDVs_sound (m:MRel C S.hp S.nx w ρ Fs): ∀(ms:List Mode) (ts:List Nat) (xs:List AV) (ds:List DV) (ks io rc:List Nat) (vs:List Value),toDVs tt S.hp ms ts xs=some (ds,ks,io,rc)->AVsRel (C.env w ρ S.hp S.nx Fs) xs vs->
 ∃F,DVsRel w (C.Zf w (sumTo S.nx Fs)) (Zlent C w S.nx Fs rc) ds vs F/\(∀b,F b<=sumL Fs (ks++io) b)/\RowsAt S.hp (ks++io)
 |ms,[],[],ds,ks,io,rc,vs,he,hv=>by
  simp only[toDVs,Option.some.injEq,Prod.mk.injEq] at he
  obtain ⟨rfl,rfl,rfl,rfl⟩:=he
  cases vs with
  |nil=>exact ⟨fz,rfl,fun b=>by simp,fun k hk=>by simp at hk⟩
  |cons v vs=>exact absurd hv id
 |_,[],_::_,_,_,_,_,_,he,_=>by simp[toDVs] at he
 |_,_::_,[],_,_,_,_,_,he,_=>by simp[toDVs] at he
 |ms,t::ts,x::xs,ds,ks,io,rc,vs,he,hv=>by
  simp only[toDVs] at he
  split at he
  ·rename_i d ks1 io1 rc1 h1
   split at he
   ·rename_i ds2 ks2 io2 rc2 h2
    simp only[Option.some.injEq,Prod.mk.injEq] at he
    obtain ⟨rfl,rfl,rfl,rfl⟩:=he
    cases vs with
    |nil=>exact absurd hv id
    |cons v vs=>
     obtain ⟨F1,a1,a2,a3⟩:=toDV_sound m h1 hv.1
     obtain ⟨F2,b1,b2,b3⟩:=toDVs_sound m _ ts xs _ _ _ _ _ h2 hv.2
     refine ⟨fadd F1 F2,⟨F1,F2,a1.grow (fun b h=>h) (fun b h=>Zlent.left (S:=S) h),b1.grow (fun b h=>h) (fun b h=>Zlent.right (S:=S) h),rfl⟩,fun b=> ?_,a3.mix b3⟩
     have:=a2 b;have:=b2 b
     rw[sumL_mix];simp;omega
   ·cases he
  ·cases he
end
end Go.Proofs.YtbmmhdmljajcfaaGreatDoor.V
namespace Go.Proofs.YtbmmhdmljajcfaaGreatDoor.V
open Go
section
variable {tt:TT} {C:Cx} {S:St} {w:World} {ρ:Place} {Fs:Nat->FP}
def Zend (Z:Zs) (Fs:Nat->FP) (fk:List Nat):Zs:=fun b=>Z b\/1<=sumL Fs fk b
theorem Zend.left {Z:Zs} {fk fk':List Nat} {b:Nat} (h:Zend Z Fs fk b):Zend Z Fs (fk++fk') b:=h.imp (fun h=>h) (fun h=>by rw[sumL_append];omega)
theorem Zend.right {Z:Zs} {fk fk':List Nat} {b:Nat} (h:Zend Z Fs fk' b):Zend Z Fs (fk++fk') b:=h.imp (fun h=>h) (fun h=>by rw[sumL_append];omega)
theorem owned_cells {r:Row} (h:r.owned=true): ∀c∈r.cells,(∃v,c= .sc v)\/ ∃l,c= .sl true l:=by
 intro c hc
 cases r with
 |ints k l=>simp only[Row.cells,List.mem_map] at hc;obtain ⟨x,_,rfl⟩:=hc;exact .inl ⟨_,rfl⟩
 |bools l=>simp only[Row.cells,List.mem_map] at hc;obtain ⟨x,_,rfl⟩:=hc;exact .inl ⟨_,rfl⟩
 |strs l=>simp only[Row.cells,List.mem_map] at hc;obtain ⟨x,_,rfl⟩:=hc;exact .inl ⟨_,rfl⟩
 |rows o l=>cases o with
  |false=>cases h
  |true=>simp only[Row.cells,List.mem_map] at hc;obtain ⟨x,_,rfl⟩:=hc;exact .inr ⟨_,rfl⟩
 |recs sg o l=>cases o with
  |false=>cases h
  |true=>
   simp only[Row.cells,List.mem_flatMap] at hc
   obtain ⟨x,_,hc⟩:=hc
   obtain ⟨j,hj⟩:=List.getElem?_of_mem hc
   rw[recCells_get] at hj
   cases hs:sg[j]? with
   |none=>rw[hs] at hj;cases hj
   |some b=>rw[hs] at hj;cases b<;>(simp at hj;subst hj)<;>first|exact .inl ⟨_,rfl⟩|exact .inr ⟨_,rfl⟩
theorem owned_any {w:World} {Z Z':Zs}: ∀ {cs:List Cell} {vs:List Value} {F:FP},(∀c∈cs,(∃v,c= .sc v)\/ ∃l,c= .sl true l)->CellsRel w Z cs vs F->CellsRel w Z' cs vs F
 | [],_,_,_,h=>h
 |c::cs,v::vs,F,hc,⟨F1,F2,h1,h2,hF⟩=>by
  refine ⟨F1,F2,?_,owned_any (fun c' hc'=>hc c' (by simp[hc'])) h2,hF⟩
  rcases hc c (by simp) with ⟨u,rfl⟩| ⟨l,rfl⟩<;>exact h1
theorem own_frz (m:MRel C S.hp S.nx w ρ Fs) {id e ver:Nat} {r:Row} (hroot:S.hp id=some (.row e ver r)) (Z:Zs) (hz:r.owned=true\/ ∀b,C.ZL w (sumTo S.nx Fs) b->Z b):FrzRow w (Zend Z Fs [id]) r.frz (hdr (ρ id) r.len):=by
 have h1b: ∀b,1<=Fs id b->Zend Z Fs [id] b:=fun b hb=> .inr (by simp[sumL];exact hb)
 rcases m.roots id _ hroot with ⟨g1,g2,g3⟩| ⟨b,cap,arr,ty,F',g1,g2,g3,g4,g5,g6⟩
 ·simp only[Cx.env] at g1
  rw[g1,show hdr none r.len= .slice none 0 0 from rfl]
  exact nil_frz (by rw[frz_len];exact g2)
 ·simp only[Cx.env] at g1 g2
  rw[g1]
  refine ⟨some ⟨b,0,none⟩,cap,by rw[frz_len];rfl,by rw[frz_len];exact g3,fun _=>⟨_,rfl,h1b b (by rw[g6];simp),arr.toList,fun j hj=>by rw[plain_add,cell?_plain g2];simp,?_⟩⟩
  rw[frz_cells]
  rcases hz with ho|hz
  ·exact (owned_any (Z':=Z) (owned_cells ho) g5).frz (fun b hb=> .inl hb) (fun b' hb=>h1b b' (by rw[g6];simp;omega))
  ·exact g5.frz (fun b hb=> .inl (hz b hb)) (fun b' hb=>h1b b' (by rw[g6];simp;omega))
theorem outLeaf_sound (m:MRel C S.hp S.nx w ρ Fs) {oc:Cls} {t:Nat} {x:LV} {d:DL} {ks fk:List Nat} (he:outLeaf tt S.hp oc t x=some (d,ks,fk)) {v:Value} (hv:LVRel (C.env w ρ S.hp S.nx Fs) x v):
 ∃F,DLRel w (Zend (C.Zf w (sumTo S.nx Fs)) Fs fk) (Zend (C.ZL w (sumTo S.nx Fs)) Fs fk) d v F/\(∀b,F b<=sumL Fs ks b)/\RowsAt S.hp (ks++fk):=by
 have hz: ∀b,C.ZL w (sumTo S.nx Fs) b->Zend (C.ZL w (sumTo S.nx Fs)) Fs fk b:=fun b hb=> .inl hb
 have hzf: ∀b,C.Zf w (sumTo S.nx Fs) b->Zend (C.Zf w (sumTo S.nx Fs)) Fs fk b:=fun b hb=> .inl hb
 have hsc: ∀ {d':DL},some (d',([]:List Nat),([]:List Nat))=some (d,ks,fk)->DLRel w (Zend (C.Zf w (sumTo S.nx Fs)) Fs fk) (Zend (C.ZL w (sumTo S.nx Fs)) Fs fk) d' v fz-> ∃F,DLRel w (Zend (C.Zf w (sumTo S.nx Fs)) Fs fk) (Zend (C.ZL w (sumTo S.nx Fs)) Fs fk) d v F/\(∀b,F b<=sumL Fs ks b)/\RowsAt S.hp (ks++fk):=fun he hd=>by
  simp only[Option.some.injEq,Prod.mk.injEq] at he
  obtain ⟨rfl,rfl,rfl⟩:=he
  exact ⟨fz,hd,fun b=>by simp,fun k hk=>by simp at hk⟩
 cases x with
 |i k z=>exact hsc he ⟨hv,rfl⟩
 |b z=>exact hsc he ⟨hv,rfl⟩
 |s z=>exact hsc he ⟨hv,rfl⟩
 |er z=>cases z<;>exact hsc he ⟨hv,rfl⟩
 |nil=>
  have hv:v= .slice none 0 0:=hv
  simp only[outLeaf] at he
  split at he
  ·split at he
   ·rename_i r hr
    have h0:=emptyRow_len hr
    cases oc with
    |own=>exact hsc he ⟨none,by rw[hv];rfl,nil_row h0⟩
    |frz=>exact hsc he ⟨by rw[hv];exact nil_frz (by rw[frz_len];exact h0),rfl⟩
    |lent=>exact hsc he ⟨by rw[hv];exact nil_frz (by rw[frz_len];exact h0),rfl⟩
   ·cases he
  ·cases he
 |val p r=>
  cases oc with
  |own=>cases he
  |frz=>
   cases p with
   |true=>exact hsc he ⟨FrzRow.grow hv hzf,rfl⟩
   |false=>cases he
  |lent=>
   refine hsc (d':= .sl .lent r) he ⟨?_,rfl⟩
   cases p with
   |true=>exact FrzRow.grow hv (fun b hb=>hz b (.inr hb))
   |false=>exact FrzRow.grow hv hz
 |own id=>
  simp only[outLeaf] at he
  split at he
  ·rename_i e ver r hroot
   obtain ⟨_,hx⟩:=hv
   obtain ⟨r',e1,e2⟩:=hx _ hroot
   cases e1
   simp only[Cx.env] at e2
   have hrow:RowsAt S.hp [id]:=fun k hk=>by simp at hk;subst hk;exact ⟨_,hroot,trivial⟩
   cases oc with
   |own=>
    have he2:=(bif_some he).2
    clear he
    simp only[Option.some.injEq,Prod.mk.injEq] at he2
    obtain ⟨rfl,rfl,rfl⟩:=he2
    obtain ⟨F,k1,k2⟩:=own_row m hroot (Nat.le_refl r.len)
    rw[take_self] at k1
    exact ⟨F,⟨ρ id,e2,k1.mono (fun b hb=>⟨hz b hb,rfl⟩) (fun b _=>rfl)⟩,fun b=>by have:=k2 b;simp[sumL];exact this,hrow⟩
   |frz=>
    have he1:=(bif_some he).1
    have he2:=(bif_some he).2
    clear he
    simp only[Option.some.injEq,Prod.mk.injEq] at he2
    obtain ⟨rfl,rfl,rfl⟩:=he2
    exact ⟨fz,⟨by rw[e2];exact own_frz m hroot _ (.inl he1),rfl⟩,fun b=>by simp,hrow⟩
   |lent=>
    simp only[Option.some.injEq,Prod.mk.injEq] at he
    obtain ⟨rfl,rfl,rfl⟩:=he
    exact ⟨fz,⟨by rw[e2];exact own_frz m hroot _ (.inr fun b hb=>hb),rfl⟩,fun b=>by simp,hrow⟩
  ·cases he
 |sub id lo hi=>
  simp only[outLeaf] at he
  split at he
  ·rename_i e ver r hroot
   cases oc with
    |own=>
     have he2:=(bif_some he).2
     have hlo:lo=0:=Nat.eq_of_beq_eq_true (and_bool (bif_some he).1).1
     clear he
     subst hlo
     simp only[Option.some.injEq,Prod.mk.injEq] at he2
     obtain ⟨rfl,rfl,rfl⟩:=he2
     obtain ⟨_,hx⟩:=hv
     obtain ⟨r',e1,_,l2,e2⟩:=hx _ hroot
     cases e1
     obtain ⟨F,k1,k2⟩:=own_row m hroot l2
     exact ⟨F,⟨ρ id,by rw[e2,hdr_sub,take_len,Nat.min_eq_left l2];rfl,k1.mono (fun b hb=>⟨hz b hb,rfl⟩) (fun b _=>rfl)⟩,fun b=>by have:=k2 b;simp[sumL];exact this,fun k hk=>by simp at hk;subst hk;exact ⟨_,hroot,trivial⟩⟩
    |frz=>
     have he1:=(bif_some he).1
     have he2:=(bif_some he).2
     clear he
     simp only[Option.some.injEq,Prod.mk.injEq] at he2
     obtain ⟨rfl,rfl,rfl⟩:=he2
     obtain ⟨_,hx⟩:=hv
     obtain ⟨r',e1,l1,l2,e2⟩:=hx _ hroot
     cases e1
     refine ⟨fz,⟨?_,rfl⟩,fun b=>by simp,fun k hk=>by simp at hk;subst hk;exact ⟨_,hroot,trivial⟩⟩
     have hfr:=own_frz m hroot (C.Zf w (sumTo S.nx Fs)) (.inl he1)
     rw[e2]
     simp only[Cx.env]
     cases hρ:ρ id with
     |none=>
      have h0:r.len=0:=by
       rcases m.roots id _ hroot with ⟨_,g2,_⟩| ⟨b,cap,arr,ty,F',g1,_⟩
       ·exact g2
       ·simp only[Cx.env] at g1;rw[hρ] at g1;cases g1
      have:FrzRow w (Zend (C.Zf w (sumTo S.nx Fs)) Fs [id]) ((r.frz.take hi).drop lo) (.slice none 0 0):=nil_frz (by rw[drop_len,take_len,frz_len];omega)
      exact this
     |some q=>
      obtain ⟨b,cap⟩:=q
      rw[hρ] at hfr
      obtain ⟨A,cap',k1,k2,k3⟩:=hfr
      simp only[hdr,Value.slice.injEq] at k1
      obtain ⟨rfl,_,rfl⟩:=k1
      have:=FrzRow_cut (w:=w) (Z:=Zend (C.Zf w (sumTo S.nx Fs)) Fs [id]) (r:=r.frz) (A:=some ⟨b,0,none⟩) (cap:=cap) k2 k3 lo hi l1 (by rw[frz_len];exact l2)
      simp only[subHdr]
      rw[frz_size] at this
      have e3:(if cap=lo then some (⟨b,0,none⟩:Addr) else (some (⟨b,0,none⟩:Addr)).map (·.add (lo*r.size)))=some (if cap=lo then ⟨b,0,none⟩ else ⟨b,lo*r.size,none⟩):=by
       split
       ·rfl
       ·simp[plain_add]
      rw[e3] at this
      exact this
    |lent=>cases he
  ·cases he
 |_=>cases he
theorem outLeafs_sound (m:MRel C S.hp S.nx w ρ Fs) {oc:Cls}: ∀(ts:List Nat) (xs:List LV) (ds:List DL) (ks fk:List Nat) (vs:List Value),outLeafs tt S.hp oc ts xs=some (ds,ks,fk)->LVsRel (C.env w ρ S.hp S.nx Fs) xs vs->
 ∃F,DLsRel w (Zend (C.Zf w (sumTo S.nx Fs)) Fs fk) (Zend (C.ZL w (sumTo S.nx Fs)) Fs fk) ds vs F/\(∀b,F b<=sumL Fs ks b)/\RowsAt S.hp (ks++fk)
 | [],[],ds,ks,fk,vs,he,hv=>by
   simp only[outLeafs,Option.some.injEq,Prod.mk.injEq] at he
   obtain ⟨rfl,rfl,rfl⟩:=he
   cases vs with
   |nil=>exact ⟨fz,rfl,fun b=>by simp,fun k hk=>by simp at hk⟩
   |cons v vs=>exact absurd hv id
 | [],_::_,_,_,_,_,he,_=>by simp[outLeafs] at he
 |_::_,[],_,_,_,_,he,_=>by simp[outLeafs] at he
 |t::ts,x::xs,ds,ks,fk,vs,he,hv=>by
  simp only[outLeafs] at he
  split at he
  ·rename_i d ks1 fk1 h1
   split at he
   ·rename_i ds2 ks2 fk2 h2
    simp only[Option.some.injEq,Prod.mk.injEq] at he
    obtain ⟨rfl,rfl,rfl⟩:=he
    cases vs with
    |nil=>exact absurd hv id
    |cons v vs=>
     obtain ⟨F1,a1,a2,a3⟩:=outLeaf_sound m h1 hv.1
     obtain ⟨F2,b1,b2,b3⟩:=outLeafs_sound m ts xs _ _ _ _ h2 hv.2
     refine ⟨fadd F1 F2,⟨F1,F2,a1.grow (fun b h=>Zend.left h) (fun b h=>Zend.left h),b1.grow (fun b h=>Zend.right h) (fun b h=>Zend.right h),rfl⟩,fun b=> ?_,a3.mix b3⟩
     have:=a2 b;have:=b2 b
     rw[sumL_append];simp;omega
   ·cases he
  ·cases he
theorem outArg_sound (m:MRel C S.hp S.nx w ρ Fs) {oc:Cls} {t:Nat} {x:AV} {d:DV} {ks fk:List Nat} (he:outArg tt S.hp oc t x=some (d,ks,fk)) {v:Value} (hv:AVRel (C.env w ρ S.hp S.nx Fs) x v):
 ∃F,DVRel w (Zend (C.Zf w (sumTo S.nx Fs)) Fs fk) (Zend (C.ZL w (sumTo S.nx Fs)) Fs fk) d v F/\(∀b,F b<=sumL Fs ks b)/\RowsAt S.hp (ks++fk):=by
 cases x with
 |tup xs=>cases he
 |one x=>
  cases x with
  |l x=>
   simp only[outArg] at he
   split at he
   ·rename_i id hid
    obtain rfl:=ptrOf_some hid
    split at he
    ·rename_i ds' h1
     simp only[Option.some.injEq,Prod.mk.injEq] at he
     obtain ⟨rfl,rfl,rfl⟩:=he
     obtain ⟨a1,root,a2,a3⟩:=boxAt_sound m h1 hv (Zend (C.ZL w (sumTo S.nx Fs)) Fs [])
     exact ⟨_,a1.grow (fun b hb=> .inl hb) (fun b hb=>hb),fun b=>by simp[sumL],fun k hk=>by simp at hk;subst hk;exact ⟨root,a2,a3⟩⟩
    ·cases he
   ·split at he
    ·rename_i d' ks1 fk1 h1
     simp only[Option.some.injEq,Prod.mk.injEq] at he
     obtain ⟨rfl,rfl,rfl⟩:=he
     exact outLeaf_sound m h1 hv
    ·cases he
  |agg xs=>
   simp only[outArg] at he
   split at he
   ·rename_i d' ks1 fk1 h1
    simp only[Option.some.injEq,Prod.mk.injEq] at he
    obtain ⟨rfl,rfl,rfl⟩:=he
    obtain ⟨vs,rfl,hv⟩:=hv
    obtain ⟨F,a1,a2,a3⟩:=outLeafs_sound m _ _ _ _ _ _ h1 hv
    exact ⟨F,⟨vs,rfl,a1⟩,a2,a3⟩
   ·cases he
theorem outArgs_sound (m:MRel C S.hp S.nx w ρ Fs) {oc:Cls}: ∀(ts:List Nat) (xs:List AV) (ds:List DV) (ks fk:List Nat) (vs:List Value),outArgs tt S.hp oc ts xs=some (ds,ks,fk)->AVsRel (C.env w ρ S.hp S.nx Fs) xs vs->
 ∃F,DVsRel w (Zend (C.Zf w (sumTo S.nx Fs)) Fs fk) (Zend (C.ZL w (sumTo S.nx Fs)) Fs fk) ds vs F/\(∀b,F b<=sumL Fs ks b)/\RowsAt S.hp (ks++fk)
 | [],[],ds,ks,fk,vs,he,hv=>by
   simp only[outArgs,Option.some.injEq,Prod.mk.injEq] at he
   obtain ⟨rfl,rfl,rfl⟩:=he
   cases vs with
   |nil=>exact ⟨fz,rfl,fun b=>by simp,fun k hk=>by simp at hk⟩
   |cons v vs=>exact absurd hv id
 | [],_::_,_,_,_,_,he,_=>by simp[outArgs] at he
 |_::_,[],_,_,_,_,he,_=>by simp[outArgs] at he
 |t::ts,x::xs,ds,ks,fk,vs,he,hv=>by
  simp only[outArgs] at he
  split at he
  ·rename_i d ks1 fk1 h1
   split at he
   ·rename_i ds2 ks2 fk2 h2
    simp only[Option.some.injEq,Prod.mk.injEq] at he
    obtain ⟨rfl,rfl,rfl⟩:=he
    cases vs with
    |nil=>exact absurd hv id
    |cons v vs=>
     obtain ⟨F1,a1,a2,a3⟩:=outArg_sound m h1 hv.1
     obtain ⟨F2,b1,b2,b3⟩:=outArgs_sound m ts xs _ _ _ _ h2 hv.2
     refine ⟨fadd F1 F2,⟨F1,F2,a1.grow (fun b h=>Zend.left h) (fun b h=>Zend.left h),b1.grow (fun b h=>Zend.right h) (fun b h=>Zend.right h),rfl⟩,fun b=> ?_,a3.mix b3⟩
     have:=a2 b;have:=b2 b
     rw[sumL_append];simp;omega
   ·cases he
  ·cases he
end
end Go.Proofs.YtbmmhdmljajcfaaGreatDoor.V
namespace Go.Proofs.YtbmmhdmljajcfaaGreatDoor.V
open Go
section
variable {C:Cx} {S:St} {a:Act} {w:World} {ρ:Place} {Fs:Nat->FP}
theorem SRel.reslot (h:SRel C S a w ρ Fs) (t:Nat) (x:AV) (hx:AVRel (C.env w ρ S.hp S.nx Fs) x (C.val a t)):SRel C ⟨fun j=>bif j==t then x else S.sl j,S.hp,S.nx⟩ a w ρ Fs:=by
 refine ⟨h.mem,h.defers,h.size,fun j=> ?_⟩
 show AVRel _ (bif j==t then x else S.sl j) _
 cases e:j==t with
 |true=>have:=eq_of_beq e;subst this;exact hx
 |false=>exact h.slots j
theorem SRel.drop1 (h:SRel C S a w ρ Fs) {id e ver:Nat} {r:Row} (hr:S.hp id=some (.row e ver r)):SRel C ⟨S.sl,fun j=>bif j==id then none else S.hp j,S.nx⟩ a w ρ (putF Fs id fz)/\FrzRow w (C.ZL w (sumTo S.nx (putF Fs id fz))) r.frz (hdr (ρ id) r.len):=by
 have hlt:=live_lt h.mem hr
 have hsum: ∀b,sumTo S.nx (putF Fs id fz) b+Fs id b=sumTo S.nx Fs b:=fun b=>by
  have e1:=sumTo_put Fs fz b hlt
  simp at e1
  omega
 have hz: ∀b,C.Zf w (sumTo S.nx Fs) b->C.Zf w (sumTo S.nx (putF Fs id fz)) b:=fun b hb=>by
  rcases hb with hb| ⟨h1,h2,h3⟩
  ·exact .inl hb
  ·exact .inr ⟨h1,h2,by have:=hsum b;omega⟩
 refine ⟨?_,?_⟩
 ·refine h.gen _ _ w _ _ (fun _=>False) (Nat.le_refl _) rfl rfl rfl (fun _ _ _=>rfl) (fun _ h=>h.elim) (Nat.le_refl _) (fun j hj hre=>rfl) (fun j hj=> ?_) (fun j hj=> .inl ⟨?_,?_⟩) (fun b'=>by have:=hsum b';have:=h.mem.one b';omega) (fun b' hb'=> .inl (by have:=hsum b';omega))
  ·by_cases e1:j=id
   ·subst e1;exact .gone (by simp) (putF_self ..)
   ·have e2:(j==id)=false:=by simp[e1]
    exact .same (by simp[e2]) (by rw[putF_ne _ _ e1]) (fun _ _ h=>h)
  ·have e1:j≠id:=by omega
   have e2:(j==id)=false:=by simp[e1]
   simp only[e2,cond_false];exact h.mem.fresh j hj
  ·rw[putF_ne _ _ (by omega)];exact h.mem.dead j (h.mem.fresh j hj)
 ·refine (own_frz h.mem hr (C.ZL w (sumTo S.nx Fs)) (.inr fun b hb=>hb)).grow fun b hb=> ?_
  rcases hb with hb|hb
  ·rcases hb with hb|hb
   ·exact .inl hb
   ·exact .inr (hz b hb)
  ·have hb:1<=Fs id b:=by simpa[sumL] using hb
   have h1:=hsum b
   have h2:=h.mem.one b
   obtain ⟨h3,h4⟩:=h.mem.mine b (by omega)
   exact .inr (.inr ⟨h4,h3,by omega⟩)
theorem SRel.dropZ (h:SRel C S a w ρ Fs) {id e ver:Nat} {r:Row} (hr:S.hp id=some (.row e ver r)) (b:Nat) (hb:C.ZL w (sumTo S.nx Fs) b\/ ∃i∈[id],1<=Fs i b):C.ZL w (sumTo S.nx (putF Fs id fz)) b:=by
 have hlt:=live_lt h.mem hr
 have hsum: ∀b,sumTo S.nx (putF Fs id fz) b+Fs id b=sumTo S.nx Fs b:=fun b=>by
  have e1:=sumTo_put Fs fz b hlt
  simp at e1
  omega
 have hz: ∀b,C.Zf w (sumTo S.nx Fs) b->C.Zf w (sumTo S.nx (putF Fs id fz)) b:=fun b hb=>by
  rcases hb with hb| ⟨h1,h2,h3⟩
  ·exact .inl hb
  ·exact .inr ⟨h1,h2,by have:=hsum b;omega⟩
 rcases hb with hb| ⟨i,hi,hb⟩
 ·rcases hb with hb|hb
  ·exact .inl hb
  ·exact .inr (hz b hb)
 ·obtain rfl:=List.mem_singleton.1 hi
  have h1:=hsum b
  have h2:=h.mem.one b
  obtain ⟨h3,h4⟩:=h.mem.mine b (by omega)
  exact .inr (.inr ⟨h4,h3,by omega⟩)
theorem SRel.leaf (h:SRel C S a w ρ Fs) {x y:LV} {o:Option Nat} (hl:frzLeaf S.hp x=some (y,o)): ∃Fs',SRel C ⟨S.sl,dropR S.hp o,S.nx⟩ a w ρ Fs' /\(∀j,dropR S.hp o j=S.hp j\/dropR S.hp o j=none)/\(∀id,o=some id-> ∃e v r,S.hp id=some (.row e v r))/\(∀id t c,S.hp id=some (.box t c)->dropR S.hp o id=some (.box t c))/\ ∀v,LVRel (C.env w ρ S.hp S.nx Fs) x v->LVRel (C.env w ρ (dropR S.hp o) S.nx Fs') y v:=by
 unfold frzLeaf at hl
 split at hl
 ·rename_i id
  split at hl
  ·rename_i e ver r hr
   simp only[Option.some.injEq,Prod.mk.injEq] at hl
   obtain ⟨rfl,rfl⟩:=hl
   obtain ⟨h1,h2⟩:=h.drop1 hr
   refine ⟨_,h1,fun j=> ?_,(fun i hi=>by cases hi;exact ⟨_,_,_,hr⟩),fun i t c hi=> ?_,fun v hv=> ?_⟩
   ·by_cases e1:j=id
    ·right;simp[dropR,e1]
    ·have e2:(j==id)=false:=by simp[e1]
     left;simp only[dropR,e2,cond_false]
   ·have e1:i≠id:=by rintro rfl;rw[hr] at hi;cases hi
    have e2:(i==id)=false:=by simp[e1]
    simp only[dropR,e2,cond_false];exact hi
   ·obtain ⟨_,hv⟩:=hv
    obtain ⟨r',hr',hv⟩:=hv _ hr
    cases hr'
    rw[hv]
    exact h2
  ·cases hl
 ·rename_i p r
  simp only[Option.some.injEq,Prod.mk.injEq] at hl
  obtain ⟨rfl,rfl⟩:=hl
  refine ⟨Fs,h,fun j=> .inl rfl,(fun i hi=>by cases hi),fun i t c hi=>hi,fun v hv=> ?_⟩
  cases p with
  |false=>exact hv
  |true=>exact FrzRow.grow hv fun b hb=> .inr hb
 ·cases hl
theorem SRel.frzA (h:SRel C S a w ρ Fs) (t j:Nat): ∃Fs',SRel C (frzA t j S) a w ρ Fs':=by
 have ht:=h.slots t
 unfold V.frzA
 split
 ·rename_i xs hs
  split
  ·rename_i x hx
   split
   ·rename_i y o hl
    obtain ⟨F1,h1,_,_,_,hy⟩:=h.leaf hl
    have ht1:=h1.slots t
    simp only[] at ht1
    rw[hs] at ht ht1
    refine ⟨F1,h1.reslot t (.one (.agg (xs.set j y))) ?_⟩
    obtain ⟨vs,e,hv⟩:=ht
    obtain ⟨vs1,e1,hv1⟩:=ht1
    have:vs=vs1:=by rw[e] at e1;simpa using e1
    subst this
    refine ⟨vs,e,?_⟩
    have key: ∀ {xs:List LV} {vs:List Value} {j:Nat},LVsRel (C.env w ρ S.hp S.nx Fs) xs vs->LVsRel (C.env w ρ (dropR S.hp o) S.nx F1) xs vs->xs[j]? =some x->LVsRel (C.env w ρ (dropR S.hp o) S.nx F1) (xs.set j y) vs:=by
     intro xs
     induction xs with
     |nil=>intro vs j _ _ hx;simp at hx
     |cons z xs ih=>
      intro vs j g1 g2 hx
      cases vs with
      |nil=>exact g1.elim
      |cons v vs=>
       cases j with
       |zero=>simp at hx;subst hx;exact ⟨hy v g1.1,g2.2⟩
       |succ j=>exact ⟨g2.1,ih g1.2 g2.2 (by simpa using hx)⟩
    exact key hv hv1 hx
   ·exact ⟨Fs,h⟩
  ·exact ⟨Fs,h⟩
 ·rename_i id k hs
  split
  ·rename_i bt cells hb
   split
   ·rename_i x hx
    split
    ·rename_i y o hl
     obtain ⟨F1,h1,_,_,hbox,hy⟩:=h.leaf hl
     have hb1:dropR S.hp o id=some (.box bt cells):=hbox _ _ _ hb
     have hidlt:id<S.nx:=live_lt h.mem hb
     obtain ⟨b,cap,vs,ty,g1,g2,g3,g4⟩:=h.mem.roots id _ hb
     obtain ⟨b',cap',vs',ty',g1',g2',g3',g4'⟩:=h1.mem.roots id _ hb1
     simp only[Cx.env] at g1 g2 g1' g2'
     rw[g1] at g1';cases g1'
     rw[g2] at g2';cases g2'
     have key: ∀ {xs:List LV} {vs:List Value} {j:Nat},LVsRel (C.env w ρ S.hp S.nx Fs) xs vs->LVsRel (C.env w ρ (dropR S.hp o) S.nx F1) xs vs->xs[j]? =some x->LVsRel (C.env w ρ (dropR S.hp o) S.nx F1) (xs.set j y) vs:=by
      intro xs
      induction xs with
      |nil=>intro vs j _ _ hx;simp at hx
      |cons z xs ih=>
       intro vs j g1 g2 hx
       cases vs with
       |nil=>exact g1.elim
       |cons v vs=>
        cases j with
        |zero=>simp at hx;subst hx;exact ⟨hy v g1.1,g2.2⟩
        |succ j=>exact ⟨g2.1,ih g1.2 g2.2 (by simpa using hx)⟩
     have hcs:=key g3 g3' hx
     refine ⟨F1,h1.gen _ _ w _ _ (fun _=>False) (Nat.le_refl _) rfl rfl rfl (fun _ _ _=>rfl) (fun _ h=>h.elim) (Nat.le_refl _) (fun j hj hre=>rfl) (fun i hi=> ?_) (fun i hi=> .inl ⟨?_,h1.mem.dead i (h1.mem.fresh i hi)⟩) h1.mem.one (fun b' hb'=> .inl hb')⟩
     ·by_cases e1:i=id
      ·subst e1
       refine .turned (.box bt cells) (.box bt (cells.set j y)) hb1 (by simp) trivial (fun M=> ?_)
       exact ⟨b,cap,vs,ty,g1,g2,hcs.mono M,g4'⟩
      ·have e2:(i==id)=false:=by simp[e1]
       exact .same (by simp[e2]) rfl (fun _ _ h=>h)
     ·have e1:i≠id:=by rintro rfl;have:S.nx<=i:=hi;omega
      have e2:(i==id)=false:=by simp[e1]
      simp only[e2,cond_false];exact h1.mem.fresh i hi
    ·exact ⟨Fs,h⟩
   ·exact ⟨Fs,h⟩
  ·exact ⟨Fs,h⟩
 ·exact ⟨Fs,h⟩
theorem SRel.frzAs (t:Nat): ∀(l:List Nat) {S:St} {Fs:Nat->FP},SRel C S a w ρ Fs-> ∃Fs',SRel C (l.foldl (fun S j=>V.frzA t j S) S) a w ρ Fs'
 | [],_,Fs,h=>⟨Fs,h⟩
 |j::l,_,_,h=>by
  obtain ⟨F1,h1⟩:=h.frzA t j
  exact SRel.frzAs t l h1
theorem SRel.frz1 (h:SRel C S a w ρ Fs) (t:Nat): ∃Fs',SRel C (frz1 t S) a w ρ Fs':=by
 have ht:=h.slots t
 unfold V.frz1
 split
 ·rename_i id hs
  split
  ·rename_i e ver r hr
   rw[hs] at ht
   obtain ⟨_,ht⟩:=ht
   obtain ⟨r',hr',hv⟩:=ht _ hr
   cases hr'
   obtain ⟨h1,h2⟩:=h.drop1 hr
   refine ⟨_,h1.reslot t (.one (.l (.val false r.frz))) ?_⟩
   rw[hv]
   exact h2
  ·exact ⟨Fs,h⟩
 ·rename_i id lo hi hs
  split
  ·rename_i e ver r hr
   rw[hs] at ht
   have hv:=viewRow_sound (x:= .sub id lo hi) (v:=C.val a t) (r:=(r.frz.take hi).drop lo) (rc:=[id]) h.mem (by show (match S.hp id with|some (.row _ _ r)=>some (((r.frz).take hi).drop lo,[id])|_=>none)=_;rw[hr]) ht
   obtain ⟨h1,h2⟩:=h.drop1 hr
   exact ⟨_,h1.reslot t (.one (.l (.val false ((r.frz.take hi).drop lo)))) (hv.grow (h.dropZ hr))⟩
  ·exact ⟨Fs,h⟩
 ·rename_i p r hs
  rw[hs] at ht
  refine ⟨Fs,h.reslot t (.one (.l (.val false r))) ?_⟩
  cases p with
  |false=>exact ht
  |true=>exact FrzRow.grow ht fun b hb=> .inr hb
 ·exact SRel.frzAs t _ h
 ·split
  ·exact SRel.frzAs t _ h
  ·exact ⟨Fs,h⟩
 ·exact ⟨Fs,h⟩
theorem rowNo_len (n:Nat):(rowNo n).len=0:=by unfold rowNo;split<;>rfl
theorem SRel.newNil (h:SRel C S a w ρ Fs) {r:Row} (hr:r.len=0):SRel C ⟨S.sl,fun i=>bif i==S.nx then some (.row 0 0 r) else S.hp i,S.nx+1⟩ a w (newρ ρ S.nx none) Fs/\
 Mono (C.env w ρ S.hp S.nx Fs) (C.env w (newρ ρ S.nx none) (fun i=>bif i==S.nx then some (.row 0 0 r) else S.hp i) (S.nx+1) Fs):=by
 have hF:Fs S.nx=fz:=h.mem.dead S.nx (h.mem.fresh S.nx (Nat.le_refl _))
 have hsum: ∀b,sumTo (S.nx+1) Fs b=sumTo S.nx Fs b:=fun b=>by simp[sumTo,hF]
 refine h.genM _ _ w _ _ (fun _=>False) (Nat.le_refl _) rfl rfl rfl (fun _ _ _=>rfl) (fun _ h=>h.elim) (Nat.le_succ _) (fun j hj _=>newρ_ne _ _ (by omega)) (fun j hj=> .same ?_ rfl (fun _ _ h=>h)) (fun j hj=> ?_) (fun b=>by rw[hsum];exact h.mem.one b) (fun b hb=> .inl (by rw[hsum] at hb;exact hb))
 ·have e:(j==S.nx)=false:=by simp;omega
  simp only[e,cond_false]
 ·by_cases e:j=S.nx
  ·subst e
   refine .inr ⟨Nat.lt_succ_self _,.row 0 0 r,by simp,fun _=> ?_⟩
   show RowRel w _ (newρ ρ S.nx none S.nx) r.cells r.len r.size (Fs S.nx)
   rw[newρ_self,hF]
   exact .inl ⟨rfl,hr,rfl⟩
  ·have e2:(j==S.nx)=false:=by simp[e]
   refine .inl ⟨?_,h.mem.dead j (h.mem.fresh j hj)⟩
   simp only[e2,cond_false];exact h.mem.fresh j hj
theorem nil_own (h:SRel C S a w ρ Fs) {r:Row} (hr:r.len=0) {v:Value} (hv:LVRel (C.env w ρ S.hp S.nx Fs) .nil v):LVRel (C.env w (newρ ρ S.nx none) (fun i=>bif i==S.nx then some (.row 0 0 r) else S.hp i) (S.nx+1) Fs) (.own S.nx) v:=by
 have hv:v= .slice none 0 0:=hv
 refine ⟨Nat.lt_succ_self _,fun root hroot=> ?_⟩
 simp only[Cx.env,beq_self_eq_true,cond_true] at hroot
 cases hroot
 refine ⟨r,rfl,?_⟩
 rw[hv]
 show _=hdr (newρ ρ S.nx none S.nx) r.len
 rw[newρ_self];rfl
theorem set_rel {E E':Env} {x y:LV} (hy: ∀v,LVRel E x v->LVRel E' y v): ∀ {xs:List LV} {vs:List Value} {j:Nat},LVsRel E xs vs->LVsRel E' xs vs->xs[j]? =some x->LVsRel E' (xs.set j y) vs:=by
 intro xs
 induction xs with
 |nil=>intro vs j _ _ hx;simp at hx
 |cons z xs ih=>
  intro vs j g1 g2 hx
  cases vs with
  |nil=>exact g1.elim
  |cons v vs=>
   cases j with
   |zero=>simp at hx;subst hx;exact ⟨hy v g1.1,g2.2⟩
   |succ j=>exact ⟨g2.1,ih g1.2 g2.2 (by simpa using hx)⟩
theorem SRel.matAt (h:SRel C S a w ρ Fs) (t j:Nat) {r:Row} (hr:r.len=0): ∃ρ' Fs',SRel C (matAt t j r S) a w ρ' Fs':=by
 have ht:=h.slots t
 obtain ⟨h1,hM⟩:=h.newNil hr
 have hy:=fun v=>nil_own h hr (v:=v)
 unfold V.matAt
 split
 ·rename_i hs
  rw[hs] at ht
  exact ⟨_,_,h1.reslot t (.one (.l (.own S.nx))) (hy _ ht)⟩
 ·rename_i xs hs
  split
  ·rename_i hx
   rw[hs] at ht
   obtain ⟨vs,e,hv⟩:=ht
   exact ⟨_,_,h1.reslot t (.one (.agg (xs.set j (.own S.nx)))) ⟨vs,e,set_rel hy hv (hv.mono hM) hx⟩⟩
  ·exact ⟨_,_,h⟩
 ·rename_i id k hs
  split
  ·rename_i bt cells hb
   split
   ·rename_i hx
    have hidlt:id<S.nx:=live_lt h.mem hb
    have hne:(id==S.nx)=false:=by simp;omega
    have hb1:(fun i=>bif i==S.nx then some (Root.row 0 0 r) else S.hp i) id=some (.box bt cells):=by simp only[hne,cond_false];exact hb
    obtain ⟨b,cap,vs,ty,g1,g2,g3,g4⟩:=h.mem.roots id _ hb
    obtain ⟨b',cap',vs',ty',g1',g2',g3',g4'⟩:=h1.mem.roots id _ hb1
    simp only[Cx.env] at g1 g2 g1' g2'
    have g1b:newρ ρ S.nx none id=some (b,cap):=by rw[newρ_ne _ _ (by omega)];exact g1
    rw[g1b] at g1';cases g1'
    rw[g2] at g2';cases g2'
    have hcs:=set_rel hy g3 g3' hx
    refine ⟨newρ ρ S.nx none,Fs,h1.gen _ _ w _ _ (fun _=>False) (Nat.le_refl _) rfl rfl rfl (fun _ _ _=>rfl) (fun _ h=>h.elim) (Nat.le_refl _) (fun j hj hre=>rfl) (fun i hi=> ?_) (fun i hi=> .inl ⟨?_,h1.mem.dead i (h1.mem.fresh i hi)⟩) h1.mem.one (fun b' hb'=> .inl hb')⟩
    ·by_cases e1:i=id
     ·subst e1
      refine .turned (.box bt cells) (.box bt (cells.set j (.own S.nx))) hb1 (by simp) trivial (fun M=> ?_)
      exact ⟨b,cap,vs,ty,g1b,g2,hcs.mono M,g4'⟩
     ·have e2:(i==id)=false:=by simp[e1]
      exact .same (by simp only[e2,cond_false]) rfl (fun _ _ h=>h)
    ·have hi:S.nx+1<=i:=hi
     have e1:(i==id)=false:=by simp;omega
     simp only[e1,cond_false];exact h1.mem.fresh i hi
   ·exact ⟨_,_,h⟩
  ·exact ⟨_,_,h⟩
 ·exact ⟨_,_,h⟩
theorem SRel.frzS: ∀(ts:List Nat) {S:St} {ρ:Place} {Fs:Nat->FP},SRel C S a w ρ Fs-> ∃ρ' Fs',SRel C (frzS ts S) a w ρ' Fs'
 | [],_,ρ,Fs,h=>⟨ρ,Fs,h⟩
 |t::ts,S,ρ,Fs,h=>by
  show ∃ρ' Fs',SRel C (ts.foldl _ (bif Nat.blt 999999999 t then matN (t-1000000000) S else V.frz1 t S)) a w ρ' Fs'
  cases Nat.blt 999999999 t with
  |true=>
   obtain ⟨ρ1,F1,h1⟩:=h.matAt ((t-1000000000)%4096) ((t-1000000000)/4096%64) (rowNo_len ((t-1000000000)/262144))
   exact SRel.frzS ts h1
  |false=>
   obtain ⟨F1,h1⟩:=h.frz1 t
   exact SRel.frzS ts h1
end
end Go.Proofs.YtbmmhdmljajcfaaGreatDoor.V
namespace Go.Proofs.YtbmmhdmljajcfaaGreatDoor.V
open Go
def pack:List Value->Value
 | [v]=>v
 |vs=> .tuple vs.toArray
def ioVals:List Mode->List Value->List Value
 |m::ms,v::vs=>(match m with| .io=>[v]|_=>[])++ioVals ms vs
 |_,_=>[]
def Ends (C:Cx) (g:Sig) (args:List Value) (rs:List DV) (e:Ending) (w':World):Prop:=
 ∃vs F',e= .returned (pack vs)/\vs.length=g.results.length/\Frame C w' /\(∀b,F' b<=1)/\(∀b,1<=F' b->b<w'.heap.size/\(C.w0.heap.size<=b\/1<=C.F0 b))/\DVsRel w' (C.Zf w' F') (C.ZL w' F') rs (vs++ioVals g.modes args) F'
def Contract (P:Program) (f:FuncId) (g:Sig) (ds rs:List DV):Prop:=
 ∀(C:Cx) (args:List Value),C.P0=P->DVsRel C.w0 C.Zf0 C.Zl ds args C.F0->(∀b,C.F0 b<=1)->(∀b,1<=C.F0 b->b<C.w0.heap.size)->Calls P f args.toArray C.w0 (Ends C g args rs)
section
variable {P:Program} {tt:TT} {C:Cx} {S:St} {a:Act} {w:World} {ρ:Place} {Fs:Nat->FP}
theorem AVsRel.append {E:Env}: ∀ {xs ys:List AV} {us vs:List Value},AVsRel E xs us->AVsRel E ys vs->AVsRel E (xs++ys) (us++vs)
 | [],_,[],_,_,h=>h
 |x::xs,_,u::us,_,h,h'=>⟨h.1,AVsRel.append h.2 h'⟩
theorem AVsRel.length {E:Env}: ∀ {xs:List AV} {us:List Value},AVsRel E xs us->xs.length=us.length
 | [],[],_=>rfl
 |x::xs,u::us,h=>by simp[AVsRel.length h.2]
theorem DVsRel.append {w:World} {Zf ZL:Zs}: ∀ {ds es:List DV} {us vs:List Value} {F G:FP},DVsRel w Zf ZL ds us F->DVsRel w Zf ZL es vs G->DVsRel w Zf ZL (ds++es) (us++vs) (fadd F G)
 | [],_,[],_,F,G,h,h'=>by have:F=fz:=h
                          subst this
                          rw[fz_fadd];exact h'
 |d::ds,_,u::us,_,F,G,⟨F1,F2,h1,h2,h3⟩,h'=>⟨F1,fadd F2 G,h1,DVsRel.append h2 h',by rw[h3,fadd_assoc]⟩
def resOne (a:Act):ResultVar->Sem Value
 | .tmp t=>pure (a.tmps.getD t undef)
 | .cell p t=>do loadVar t (<- asAddr (a.tmps.getD p undef))
theorem resVals_sound (T:TOK P tt) (h:SRel C S a w ρ Fs): ∀(rs:List ResultVar) (xs:List AV),resVals tt C.N S rs=some xs-> ∃vs:List Value,(rs.mapM (resOne a)).run P w= .ok vs w/\AVsRel (C.env w ρ S.hp S.nx Fs) xs vs
 | [],xs,he=>by
   simp only[resVals,Option.some.injEq] at he
   subst he
   exact ⟨[],by simp,trivial⟩
 | .tmp t::rs,xs,he=>by
   simp only[resVals] at he
   obtain ⟨h1,he⟩:=bif_some he
   have h1:t<C.N:=by simpa[Nat.blt_eq] using h1
   split at he
   ·rename_i ys hys
    simp only[Option.some.injEq] at he
    subst he
    obtain ⟨vs,k1,k2⟩:=resVals_sound T h rs ys hys
    have:=h.slots t
    simp only[Cx.val,if_pos h1] at this
    exact ⟨a.tmps.getD t undef::vs,by simp[List.mapM_cons,resOne,k1],this,k2⟩
   ·cases he
 | .cell p t::rs,xs,he=>by
   simp only[resVals] at he
   obtain ⟨h1,he⟩:=bif_some he
   obtain ⟨h1,hst⟩:=and_bool h1
   have h1:p<C.N:=by simpa[Nat.blt_eq] using h1
   split at he
   ·rename_i id hsl
    split at he
    ·rename_i bt cells hroot
     obtain ⟨hsz,he⟩:=bif_some he
     have hsz:=eq_of_beq hsz
     split at he
     ·rename_i ys hys
      simp only[Option.some.injEq] at he
      subst he
      obtain ⟨vs,k1,k2⟩:=resVals_sound T h rs ys hys
      have hp:=h.slots p
      simp only[Cx.val,if_pos h1,hsl] at hp
      obtain ⟨_,_,b,cap,hρ,hv⟩:=hp
      obtain ⟨b',cap',us,ty,g1,g2,g3,g4⟩:=h.mem.roots id _ hroot
      simp only[Cx.env] at hρ g1 g2
      rw[hρ] at g1;cases g1
      obtain ⟨fields,i,d1,d2,d3⟩:=isStruct_facts T hst
      have hl:=g3.length
      have hload:=run_loadVar_agg (P:=P) (w:=w) d1 d2 (a:=⟨b,0,none⟩) (vs:=us.toList) (by rw[d3,<- hsz,hl]) (fun j v hj=>by
       rw[plain_add,cell?_plain g2];simpa using hj)
      unfold Instr.loadAt at hload
      rw[run_then (x:=(⟨b,0,none⟩:Addr)) (w':=w) rfl] at hload
      refine ⟨.agg us.toList.toArray::vs,?_,⟨us.toList,rfl,g3⟩,k2⟩
      simp[List.mapM_cons,resOne,hv,asAddr,hload,k1]
     ·cases he
    ·cases he
   ·cases he
theorem nodupB_sound: ∀ {l:List Nat},nodupB l=true->l.Nodup
 | [],_=>by simp
 |x::l,h=>by
  obtain ⟨h1,h2⟩:=and_bool h
  refine List.nodup_cons.2 ⟨fun hx=> ?_,nodupB_sound h2⟩
  rw[List.elem_iff.2 hx] at h1
  cases h1
theorem RowsAt.lt (m:MRel C S.hp S.nx w ρ Fs) {ks:List Nat} (h:RowsAt S.hp ks): ∀k∈ks,k<S.nx:=fun k hk=>by
 obtain ⟨root,h2,_⟩:=h k hk
 exact live_lt m h2
theorem ioArgs_rel (h:SRel C S a w ρ Fs): ∀(ms:List Mode) (ts:List Nat) (vs:List Value) (i:Nat),ts.length=vs.length->(∀j v,vs[j]? =some v->C.val a (i+j)=v)->AVsRel (C.env w ρ S.hp S.nx Fs) ((ioArgs i ms ts).map fun p=>S.sl p.2) (ioVals ms vs)
 | [],ts,vs,i,hl,hv=>by
   have e1:ioArgs i [] ts=[]:=by simp[ioArgs]
   have e2:ioVals [] vs=[]:=by simp[ioVals]
   rw[e1,e2];trivial
 |m::ms,[],[],i,hl,hv=>by
  have e1:ioArgs i (m::ms) [] =[]:=by simp[ioArgs]
  have e2:ioVals (m::ms) [] =[]:=by simp[ioVals]
  rw[e1,e2];trivial
 |m::ms,[],v::vs,i,hl,hv=>by simp at hl
 |m::ms,t::ts,[],i,hl,hv=>by simp at hl
 |m::ms,t::ts,v::vs,i,hl,hv=>by
  simp only[ioArgs,ioVals,List.map_append]
  refine AVsRel.append ?_ (ioArgs_rel h ms ts vs (i+1) (by simpa using hl) (fun j u hj=>by have:=hv (j+1) u (by simpa using hj);rwa [show i+(j+1)=i+1+j by omega] at this))
  cases m with
  |io=>
   have:=h.slots i
   have e:=hv 0 v rfl
   rw[Nat.add_zero] at e
   rw[e] at this
   exact ⟨this,trivial⟩
  |_=>trivial
theorem run_results {fn:Func} {a:Act} {w:World} {vs:List Value} (h:(fn.results.toList.mapM (resOne a)).run P w= .ok vs w):(results fn a.tmps).run P w= .ok (pack vs) w:=by
 have e:(fn.results.mapM (resOne a)).run P w= .ok vs.toArray w:=by
  rw[Array.mapM_eq_mapM_toList]
  simp[h]
 have e2:results fn a.tmps=(do let vs <- fn.results.mapM (resOne a);pure (if h:vs.size=1 then vs[0] else .tuple vs)):=by
  unfold results
  congr 1
 rw[e2,run_then e]
 match vs with
 | []=>rfl
 | [v]=>rfl
 |u::v::vs=>
  have: ¬((u::v::vs).toArray.size=1):=by simp
  simp only[this,dif_neg,not_false_iff]
  try rfl
theorem finish_sound (T:TOK P tt) (h:SRel C S a w ρ Fs) {g:Sig} {fn:Func} (hN:C.N=fn.ntmps) {args:List Value} (hkv:C.kv=args) (hlen:g.params.length=args.length) (hres:fn.results.size=g.results.length) {rs:List DV} (he:finish (R:=List DV) tt g fn S some=some rs):
 ∃v,(results fn a.tmps).run P w= .ok v w/\Ends C g args rs (.returned v) w:=by
 unfold finish at he
 split at he
 ·cases he
 ·rename_i xs hxs
  split at he
  ·cases he
  ·rename_i ds ks fk hds
   simp only[] at he
   split at he
   ·cases he
   ·rename_i ds' ks' fk' hds'
    obtain ⟨hnd,he⟩:=bif_some he
    cases he
    have hnd:=nodupB_sound hnd
    rw[<- hN] at hxs
    obtain ⟨vs,k1,k2⟩:=resVals_sound (P:=P) T h _ xs hxs
    obtain ⟨F1,a1,a2,a3⟩:=outArgs_sound h.mem _ _ _ _ _ _ hds k2
    have hio:=ioArgs_rel h g.modes g.params args C.N hlen (fun j v hj=>by
     simp only[Cx.val,if_neg (show ¬C.N+j<C.N by omega),Nat.add_sub_cancel_left,hkv]
     simp[List.getD_eq_getElem?_getD,hj])
    rw[hN] at hio
    obtain ⟨F2,b1,b2,b3⟩:=outArgs_sound h.mem _ _ _ _ _ _ hds' hio
    have hrows:=RowsAt.mix (ks:=ks) (ks':=ks') (io:=fk) (io':=fk') a3 b3
    have hlt:=hrows.lt h.mem
    have htot: ∀b,sumL Fs (ks++ks') b+sumL Fs (fk++fk') b<=sumTo S.nx Fs b:=fun b=>by
     have:=sumL_le Fs b S.nx hnd hlt
     rw[sumL_append] at this
     exact this
    have hF: ∀b,fadd F1 F2 b<=sumL Fs (ks++ks') b:=fun b=>by
     have:=a2 b;have:=b2 b;rw[sumL_append];simp;omega
    have hle: ∀b,fadd F1 F2 b<=sumTo S.nx Fs b:=fun b=>by have:=hF b;have:=htot b;omega
    have hzf: ∀b,Zend (C.Zf w (sumTo S.nx Fs)) Fs (fk++fk') b->C.Zf w (fadd F1 F2) b:=fun b hb=>by
     rcases hb with (hb| ⟨c1,c2,c3⟩)|hb
     ·exact .inl hb
     ·exact .inr ⟨c1,c2,by have:=hle b;omega⟩
     ·have:=htot b
      have:=h.mem.one b
      obtain ⟨o1,o2⟩:=h.mem.mine b (by omega)
      exact .inr ⟨o2,o1,by have:=hF b;omega⟩
    have hzl: ∀b,Zend (C.ZL w (sumTo S.nx Fs)) Fs (fk++fk') b->C.ZL w (fadd F1 F2) b:=fun b hb=>by
     rcases hb with (hb|hb)|hb
     ·exact .inl hb
     ·exact .inr (hzf b (.inl hb))
     ·exact .inr (hzf b (.inr hb))
    refine ⟨pack vs,run_results k1,vs,fadd F1 F2,rfl,?_,h.mem.frame,fun b=>by have:=hle b;have:=h.mem.one b;omega,fun b hb=>h.mem.mine b (by have:=hle b;omega),?_⟩
    ·rw[<- k2.length,<- hres]
     have: ∀(l:List ResultVar) (xs:List AV),resVals tt C.N S l=some xs->xs.length=l.length:=by
      intro l
      induction l with
      |nil=>intro xs hx;simp only[resVals,Option.some.injEq] at hx;subst hx;rfl
      |cons r l ih=>
       intro xs hx
       cases r with
       |tmp t=>
        simp only[resVals] at hx
        obtain ⟨_,hx⟩:=bif_some hx
        split at hx
        ·rename_i ys hys;cases hx;simp[ih ys hys]
        ·cases hx
       |cell p t=>
        simp only[resVals] at hx
        obtain ⟨_,hx⟩:=bif_some hx
        split at hx
        ·split at hx
         ·obtain ⟨_,hx⟩:=bif_some hx
          split at hx
          ·rename_i ys hys;cases hx;simp[ih ys hys]
          ·cases hx
         ·cases hx
        ·cases hx
     rw[this _ _ hxs,Array.length_toList]
    ·exact DVsRel.append (a1.grow (fun b hb=>hzf b hb.left) (fun b hb=>hzl b hb.left)) (b1.grow (fun b hb=>hzf b hb.right) (fun b hb=>hzl b hb.right))
end
end Go.Proofs.YtbmmhdmljajcfaaGreatDoor.V
namespace Go.Proofs.YtbmmhdmljajcfaaGreatDoor.V
open Go
section
variable {R:Type} {tt:TT}
theorem dI_some {k:IntKind} {d:DL} {K:Int->Option R} {r:R} (h:dI k d K=some r): ∃n,d= .i k n/\K n=some r:=by
 cases d with
 |i k' n=>
  simp only[dI] at h
  obtain ⟨h1,h2⟩:=bif_some h
  have e:k=k':=of_decide_eq_true h1
  subst e;exact ⟨n,rfl,h2⟩
 |_=>cases h
theorem dB_some {d:DL} {K:Bool->Option R} {r:R} (h:dB d K=some r): ∃x,d= .b x/\K x=some r:=by
 cases d with
 |b x=>exact ⟨x,rfl,h⟩
 |_=>cases h
theorem dS_some {d:DL} {K:ByteArray->Option R} {r:R} (h:dS d K=some r): ∃x,d= .s x/\K x=some r:=by
 cases d with
 |s x=>exact ⟨x,rfl,h⟩
 |_=>cases h
theorem dE_some {d:DL} {K:Bool->Option R} {r:R} (h:dE d K=some r): ∃x,d= .er x/\K x=some r:=by
 cases d with
 |er x=>exact ⟨x,rfl,h⟩
 |_=>cases h
theorem dInts_some {oc:Cls} {k:IntKind} {d:DL} {K:List Int->Option R} {r:R} (h:dInts oc k d K=some r): ∃l,d= .sl oc (.ints k l)/\K l=some r:=by
 unfold dInts at h
 split at h
 ·obtain ⟨h1,h2⟩:=bif_some h
  obtain ⟨h1,h3⟩:=and_bool h1
  have e:=of_decide_eq_true h1
  have e3:=of_decide_eq_true h3
  subst e;subst e3;exact ⟨_,rfl,h2⟩
 ·cases h
theorem dBools_some {oc:Cls} {d:DL} {K:List Bool->Option R} {r:R} (h:dBools oc d K=some r): ∃l,d= .sl oc (.bools l)/\K l=some r:=by
 unfold dBools at h
 split at h
 ·obtain ⟨h1,h2⟩:=bif_some h
  have e:=of_decide_eq_true h1
  subst e;exact ⟨_,rfl,h2⟩
 ·cases h
theorem dStrs_some {oc:Cls} {d:DL} {K:List ByteArray->Option R} {r:R} (h:dStrs oc d K=some r): ∃l,d= .sl oc (.strs l)/\K l=some r:=by
 unfold dStrs at h
 split at h
 ·obtain ⟨h1,h2⟩:=bif_some h
  have e:=of_decide_eq_true h1
  subst e;exact ⟨_,rfl,h2⟩
 ·cases h
theorem dRows_some {oc:Cls} {d:DL} {K:List (List Int)->Option R} {r:R} (h:dRows oc d K=some r): ∃l,d= .sl oc (.rows (decide (oc= .own)) l)/\K l=some r:=by
 unfold dRows at h
 split at h
 ·obtain ⟨h1,h2⟩:=bif_some h
  obtain ⟨h1,h3⟩:=and_bool h1
  have e:=of_decide_eq_true h1
  have e3:=eq_of_beq h3
  subst e;subst e3;exact ⟨_,rfl,h2⟩
 ·cases h
theorem dRecs_some {oc:Cls} {sg:List Bool} {d:DL} {K:List (List Leaf)->Option R} {r:R} (h:dRecs oc sg d K=some r): ∃l,d= .sl oc (.recs sg (decide (oc= .own)) l)/\K l=some r:=by
 unfold dRecs at h
 split at h
 ·obtain ⟨h1,h2⟩:=bif_some h
  obtain ⟨h1,h4⟩:=and_bool h1
  obtain ⟨h1,h3⟩:=and_bool h1
  have e:=of_decide_eq_true h1
  have e3:=eq_of_beq h3
  have e4:=eq_of_beq h4
  subst e;subst e3;subst e4;exact ⟨_,rfl,h2⟩
 ·cases h
theorem dHead_some {ds:List DV} {K:DV->List DV->Option R} {r:R} (h:dHead ds K=some r): ∃d ds',ds=d::ds' /\K d ds' =some r:=by
 cases ds with
 |nil=>cases h
 |cons d ds'=>exact ⟨d,ds',rfl,h⟩
theorem dNil_some {ds:List DV} {K:Option R} {r:R} (h:dNil ds K=some r):ds=[]/\K=some r:=by
 cases ds with
 |nil=>exact ⟨rfl,h⟩
 |cons d ds'=>cases h
theorem lHead_some {ds:List DL} {K:DL->List DL->Option R} {r:R} (h:lHead ds K=some r): ∃d ds',ds=d::ds' /\K d ds' =some r:=by
 cases ds with
 |nil=>cases h
 |cons d ds'=>exact ⟨d,ds',rfl,h⟩
theorem lNil_some {ds:List DL} {K:Option R} {r:R} (h:lNil ds K=some r):ds=[]/\K=some r:=by
 cases ds with
 |nil=>exact ⟨rfl,h⟩
 |cons d ds'=>cases h
theorem dL_some {d:DV} {K:DL->Option R} {r:R} (h:dL d K=some r): ∃x,d= .l x/\K x=some r:=by
 cases d with
 |l x=>exact ⟨x,rfl,h⟩
 |_=>cases h
theorem dPtr_some {d:DV} {K:List DL->Option R} {r:R} (h:dPtr d K=some r): ∃x,d= .ptr x/\K x=some r:=by
 cases d with
 |ptr x=>exact ⟨x,rfl,h⟩
 |_=>cases h
theorem dAgg_some {d:DV} {K:List DL->Option R} {r:R} (h:dAgg d K=some r): ∃x,d= .agg x/\K x=some r:=by
 cases d with
 |agg x=>exact ⟨x,rfl,h⟩
 |_=>cases h
def clsL (oc:Cls):DL->Prop
 | .sl c r=>c=oc/\(oc= .own->r.owned=true)
 |_=>True
def clsV (oc:Cls):DV->Prop
 | .l d=>clsL oc d
 | .agg ds=> ∀d∈ds,clsL oc d
 | .ptr ds=> ∀d∈ds,clsL .frz d
theorem fin_elim {oc:Cls} {t e n:Nat} {K:LV->List (Nat×Option Root)->Nat->Option R} {r:R} (hel:elemTy tt t=some e) (row:Row) (hk:(match oc with
 | .own=>K (.own n) [(n,some (.row e 0 row))] (n+1)
 | .frz=>K (.val true row) [] n
 | .lent=>K (.val false row) [] n)=some r) (ho:oc= .own->row.owned=true): ∃x up n',inLeaf tt t (.sl oc row) n=some (x,up,n')/\clsL oc (.sl oc row)/\K x up n' =some r:=by
 cases oc with
 |own=>exact ⟨_,_,_,by simp only[inLeaf,hel],⟨rfl,ho⟩,hk⟩
 |frz=>exact ⟨_,_,_,rfl,⟨rfl,ho⟩,hk⟩
 |lent=>exact ⟨_,_,_,rfl,⟨rfl,ho⟩,hk⟩
theorem fromDL_elim {oc:Cls} {t:Nat} {d:DL} {n:Nat} {K:LV->List (Nat×Option Root)->Nat->Option R} {r:R} (h:fromDL tt oc t d n K=some r): ∃x up n',inLeaf tt t d n=some (x,up,n')/\clsL oc d/\K x up n' =some r:=by
 unfold fromDL at h
 split at h
 ·obtain ⟨z,rfl,h2⟩:=dI_some h;exact ⟨_,_,_,rfl,trivial,h2⟩
 ·obtain ⟨z,rfl,h2⟩:=dB_some h;exact ⟨_,_,_,rfl,trivial,h2⟩
 ·obtain ⟨z,rfl,h2⟩:=dS_some h;exact ⟨_,_,_,rfl,trivial,h2⟩
 ·obtain ⟨z,rfl,h2⟩:=dE_some h;exact ⟨_,_,_,rfl,trivial,h2⟩
 ·rename_i e sz bs ht
  have hel:elemTy tt t=some e:=by unfold elemTy;rw[ht]
  simp only[] at h
  split at h
  ·obtain ⟨l,rfl,h2⟩:=dInts_some h;exact fin_elim hel _ h2 (fun _=>rfl)
  ·obtain ⟨l,rfl,h2⟩:=dBools_some h;exact fin_elim hel _ h2 (fun _=>rfl)
  ·obtain ⟨l,rfl,h2⟩:=dStrs_some h;exact fin_elim hel _ h2 (fun _=>rfl)
  ·obtain ⟨l,rfl,h2⟩:=dRows_some h;exact fin_elim hel _ h2 (fun e=>by simp[Row.owned,e])
  ·obtain ⟨l,rfl,h2⟩:=dRecs_some h;exact fin_elim hel _ h2 (fun e=>by simp[Row.owned,e])
  ·cases h
 ·cases h
theorem fromDLs_elim {oc:Cls} {r:R}: ∀ {ts:List Nat} {ds:List DL} {n:Nat} {K:List LV->List (Nat×Option Root)->Nat->Option R},fromDLs tt oc ts ds n K=some r-> ∃xs up n',inLeafs tt ts ds n=some (xs,up,n')/\(∀d∈ds,clsL oc d)/\K xs up n' =some r
 | [],ds,n,K,h=>by
   obtain ⟨rfl,h0⟩:=lNil_some h
   exact ⟨_,_,_,rfl,by simp,h0⟩
 |t::ts,ds,n,K,h=>by
  obtain ⟨d,ds',rfl,h0⟩:=lHead_some h
  obtain ⟨x,up,n1,h1,c1,h3⟩:=fromDL_elim h0
  obtain ⟨xs,up',n2,h2,c2,h4⟩:=fromDLs_elim h3
  exact ⟨_,_,_,by simp only[inLeafs,h1,h2],by simp only[List.mem_cons,forall_eq_or_imp];exact ⟨c1,c2⟩,h4⟩
theorem fromDV_elim {oc:Cls} {t:Nat} {d:DV} {n:Nat} {K:A1->List (Nat×Option Root)->Nat->Option R} {r:R} (h:fromDV tt oc t d n K=some r): ∃x up n',inArg tt t d n=some (.one x,up,n')/\clsV oc d/\K x up n' =some r:=by
 unfold fromDV at h
 split at h
 ·obtain ⟨ds,rfl,h0⟩:=dAgg_some h
  obtain ⟨xs,up,n',h1,c,h2⟩:=fromDLs_elim h0
  exact ⟨_,_,_,by simp only[inArg,h1],c,h2⟩
 ·rename_i e sz bs ht
  obtain ⟨ds,rfl,h0⟩:=dPtr_some h
  obtain ⟨xs,up,n',h1,c,h2⟩:=fromDLs_elim h0
  exact ⟨_,_,_,by simp only[inArg,ht,h1],c,h2⟩
 ·obtain ⟨d',rfl,h0⟩:=dL_some h
  obtain ⟨x,up,n',h1,c,h2⟩:=fromDL_elim h0
  exact ⟨_,_,_,by simp only[inArg,h1],c,h2⟩
theorem fromDVs_elim {oc:Cls} {r:R}: ∀ {ts:List Nat} {ds:List DV} {n:Nat} {K:List A1->List (Nat×Option Root)->Nat->List DV->Option R},fromDVs tt oc ts ds n K=some r-> ∃ds1 ds2 xs up n',ds=ds1++ds2/\inArgs tt ts ds1 n=some (xs.map AV.one,up,n')/\(∀d∈ds1,clsV oc d)/\K xs up n' ds2=some r
 | [],ds,n,K,h=>⟨[],ds,[],[],n,rfl,rfl,by simp,h⟩
 |t::ts,ds,n,K,h=>by
  obtain ⟨d,ds',rfl,h0⟩:=dHead_some h
  obtain ⟨x,up,n1,h1,c1,h3⟩:=fromDV_elim h0
  obtain ⟨ds1,ds2,xs,up',n2,rfl,h2,c2,h4⟩:=fromDVs_elim h3
  exact ⟨d::ds1,ds2,x::xs,_,_,rfl,by simp only[inArgs,h1,h2,List.map_cons],by simp only[List.mem_cons,forall_eq_or_imp];exact ⟨c1,c2⟩,h4⟩
section
variable {w:World} {Zf ZL Z:Zs}
theorem DLRel.noLent {oc:Cls} (ho:oc≠ .lent) {d:DL} (hc:clsL oc d) {v:Value} {F:FP} (h:DLRel w Zf ZL d v F):DLRel w Zf Z d v F:=by
 cases d with
 |sl c r=>
  obtain ⟨rfl,h2⟩:=hc
  cases c with
  |lent=>exact absurd rfl ho
  |frz=>exact h
  |own=>
   obtain ⟨q,e1,e2⟩:=h
   refine ⟨q,e1,?_⟩
   rcases e2 with e2| ⟨b,cap,arr,ty,F',g1,g2,g3,g4,g5,g6⟩
   ·exact .inl e2
   ·exact .inr ⟨b,cap,arr,ty,F',g1,g2,g3,g4,owned_any (owned_cells (h2 rfl)) g5,g6⟩
 |er x=>cases x<;>exact h
 |_=>exact h
theorem DLsRel.noLent {oc:Cls} (ho:oc≠ .lent): ∀ {ds:List DL} {vs:List Value} {F:FP},(∀d∈ds,clsL oc d)->DLsRel w Zf ZL ds vs F->DLsRel w Zf Z ds vs F
 | [],[],_,_,h=>h
 |d::ds,v::vs,F,hc,⟨F1,F2,h1,h2,h3⟩=>⟨F1,F2,h1.noLent ho (hc d (by simp)),DLsRel.noLent ho (fun d hd=>hc d (by simp[hd])) h2,h3⟩
theorem DVRel.noLent {oc:Cls} (ho:oc≠ .lent) {d:DV} (hc:clsV oc d) {v:Value} {F:FP} (h:DVRel w Zf ZL d v F):DVRel w Zf Z d v F:=by
 cases d with
 |l d=>exact DLRel.noLent ho hc h
 |agg ds=>obtain ⟨vs,e,h⟩:=h;exact ⟨vs,e,DLsRel.noLent ho hc h⟩
 |ptr ds=>obtain ⟨b,vs,ty,F',e1,e2,h,e3⟩:=h;exact ⟨b,vs,ty,F',e1,e2,DLsRel.noLent (oc:= .frz) (by decide) hc h,e3⟩
theorem DVsRel.noLent {oc:Cls} (ho:oc≠ .lent): ∀ {ds:List DV} {vs:List Value} {F:FP},(∀d∈ds,clsV oc d)->DVsRel w Zf ZL ds vs F->DVsRel w Zf Z ds vs F
 | [],[],_,_,h=>h
 |d::ds,v::vs,F,hc,⟨F1,F2,h1,h2,h3⟩=>⟨F1,F2,h1.noLent ho (hc d (by simp)),DVsRel.noLent ho (fun d hd=>hc d (by simp[hd])) h2,h3⟩
end
theorem ioVals_none: ∀(ms:List Mode) (vs:List Value),noIO ms=true->ioVals ms vs=[]
 | [],_,_=>by simp[ioVals]
 |m::ms,[],_=>by simp[ioVals]
 | .io::ms,v::vs,h=>by cases h
 | .bor::ms,v::vs,h=>by simp[ioVals,ioVals_none ms vs h]
 | .mov::ms,v::vs,h=>by simp[ioVals,ioVals_none ms vs h]
 | .frz::ms,v::vs,h=>by simp[ioVals,ioVals_none ms vs h]
theorem A1sRel.of {E:Env}: ∀ {xs:List A1} {vs:List Value},AVsRel E (xs.map AV.one) vs->A1sRel E xs vs
 | [],[],_=>trivial
 |x::xs,v::vs,h=>⟨h.1,A1sRel.of h.2⟩
theorem resAV_rel {E:Env} {xs:List A1} {vs:List Value} (h:AVsRel E (xs.map AV.one) vs):AVRel E (resAV xs) (pack vs):=by
 match xs,vs,h with
 | [],[],h=>exact ⟨[],rfl,trivial⟩
 | [x],[v],h=>exact h.1
 |x::y::xs,u::v::vs,h=>exact ⟨u::v::vs,rfl,A1sRel.of h⟩
end
section
variable {P:Program} {tt:TT} {C:Cx} {S:St} {a:Act} {w:World} {ρ:Place} {Fs:Nat->FP}
def callCx (C:Cx) (S:St) (w:World) (Fs:Nat->FP) (F:FP) (rc:List Nat) (hg:Ground C.P0 w (C.Zf w (sumTo S.nx Fs))) (h: ∀b,Zlent C w S.nx Fs rc b\/C.Zf w (sumTo S.nx Fs) b->b<w.heap.size/\F b=0):Cx:=
 {P0:=C.P0,gnd:=hg,w0:=w,F0:=F,Zl:=Zlent C w S.nx Fs rc,Zf0:=C.Zf w (sumTo S.nx Fs),N:=0,kv:=[],good:=h}
theorem MRel.old (m:MRel C S.hp S.nx w ρ Fs) {b:Nat} (h:C.Zl b\/C.Zf0 b):b<w.heap.size/\sumTo S.nx Fs b=0:=by
 obtain ⟨g1,g2⟩:=C.good b h
 have:=m.frame.size
 refine ⟨by omega,?_⟩
 rcases Nat.eq_zero_or_pos (sumTo S.nx Fs b) with e|e
 ·exact e
 ·obtain ⟨_,k⟩:=m.mine b e;omega
theorem disjoint_sound: ∀ {l m:List Nat},disjoint l m=true-> ∀x∈l,x∉m
 | [],m,_,x,hx=>by simp at hx
 |y::l,m,h,x,hx=>by
  obtain ⟨h1,h2⟩:=and_bool h
  rcases List.mem_cons.1 hx with rfl|hx
  ·intro hm;rw[List.elem_iff.2 hm] at h1;cases h1
  ·exact disjoint_sound h2 x hx
theorem Fs_lt (m:MRel C S.hp S.nx w ρ Fs) {id b:Nat} (h:1<=Fs id b):id<S.nx:=by
 rcases Nat.lt_or_ge id S.nx with k|k
 ·exact k
 ·rw[m.dead id (m.fresh id k)] at h;simp at h
theorem call_good (m:MRel C S.hp S.nx w ρ Fs) {F:FP} {ks rc:List Nat} (hk:ks.Nodup) (hlt: ∀k∈ks,k<S.nx) (hF: ∀b,F b<=sumL Fs ks b) (hd: ∀k∈ks,k∉rc): ∀b,Zlent C w S.nx Fs rc b\/C.Zf w (sumTo S.nx Fs) b->b<w.heap.size/\F b=0:=by
 intro b hb
 have hle:=sumL_le Fs b S.nx hk hlt
 have hFb:=hF b
 have zf:C.Zf w (sumTo S.nx Fs) b->b<w.heap.size/\F b=0:=fun h=>by
  rcases h with h| ⟨_,h1,h2⟩
  ·obtain ⟨k1,k2⟩:=m.old (.inr h);exact ⟨k1,by omega⟩
  ·exact ⟨h1,by omega⟩
 rcases hb with (hb| ⟨id,hid,hb⟩)|hb
 ·rcases hb with hb|hb
  ·obtain ⟨k1,k2⟩:=m.old (.inl hb);exact ⟨k1,by omega⟩
  ·exact zf hb
 ·have hi:=Fs_lt m hb
  have h1:=sumL_out Fs b S.nx hk hlt hi (fun h=>hd id h hid)
  have h2:=m.one b
  have h3:=m.mine b (by have:=sumTo_le Fs b hi;omega)
  exact ⟨h3.1,by omega⟩
 ·exact zf hb
theorem lentKill_upd (hp:Nat->Option Root) (oc:Cls) (rc:List Nat):upd hp (lentKill oc rc)=kill hp (match oc with| .lent=>rc|_=>[]):=by
 cases oc with
 |lent=>exact upd_kill hp rc
 |_=>funext j;simp[lentKill,upd,kill]
def killedOf (oc:Cls) (ks rc:List Nat):List Nat:=ks++(match oc with| .lent=>rc|_=>[])
theorem kill_kill (hp:Nat->Option Root) (ks ls:List Nat):kill (kill hp ks) ls=kill hp (ks++ls):=by
 funext j
 simp only[kill_at,List.mem_append]
 by_cases h1:j∈ls<;>by_cases h2:j∈ks<;>simp[h1,h2]
def Named (n n':Nat) (up:List (Nat×Option Root)):Prop:=n<=n' /\(∀p∈up,n<=p.1/\p.1<n')/\ ∀j,n<=j->j<n'-> ∃p∈up,p.1=j
theorem Named.nil (n:Nat):Named n n []:=⟨Nat.le_refl _,by simp,fun j h1 h2=>by omega⟩
theorem Named.join {n m n':Nat} {up up':List (Nat×Option Root)} (h:Named n m up) (h':Named m n' up'):Named n n' (up++up'):=by
 obtain ⟨a1,a2,a3⟩:=h
 obtain ⟨b1,b2,b3⟩:=h'
 refine ⟨by omega,fun p hp=> ?_,fun j h1 h2=> ?_⟩
 ·rcases List.mem_append.1 hp with hp|hp
  ·have:=a2 p hp;omega
  ·have:=b2 p hp;omega
 ·rcases Nat.lt_or_ge j m with k|k
  ·obtain ⟨p,hp,e⟩:=a3 j h1 k;exact ⟨p,by simp[hp],e⟩
  ·obtain ⟨p,hp,e⟩:=b3 j k h2;exact ⟨p,by simp[hp],e⟩
theorem inLeaf_named {tt:TT} {t n n':Nat} {d:DL} {x:LV} {up:List (Nat×Option Root)} (hi:inLeaf tt t d n=some (x,up,n')):Named n n' up:=by
 cases d with
 |sl c r=>
  cases c with
  |own=>
   simp only[inLeaf] at hi
   split at hi
   ·cases hi
    exact ⟨by omega,by simp,fun j h1 h2=>⟨_,List.mem_singleton.2 rfl,by show n=j;omega⟩⟩
   ·cases hi
  |_=>cases hi;exact Named.nil _
 |_=>cases hi;exact Named.nil _
theorem inLeafs_named {tt:TT}: ∀(ts:List Nat) (ds:List DL) (n n':Nat) (xs:List LV) (up:List (Nat×Option Root)),inLeafs tt ts ds n=some (xs,up,n')->Named n n' up
 | [],[],n,n',xs,up,hi=>by cases hi;exact Named.nil _
 | [],_::_,_,_,_,_,hi=>by simp[inLeafs] at hi
 |_::_,[],_,_,_,_,hi=>by simp[inLeafs] at hi
 |t::ts,d::ds,n,n',xs,up,hi=>by
  simp only[inLeafs] at hi
  split at hi
  ·rename_i x up1 m h1
   split at hi
   ·rename_i ys up2 n2 h2
    cases hi
    exact (inLeaf_named h1).join (inLeafs_named ts ds _ _ _ _ h2)
   ·cases hi
  ·cases hi
theorem inArg_named {tt:TT} {t n n':Nat} {d:DV} {x:A1} {up:List (Nat×Option Root)} {oc:Cls} (hc:clsV oc d) (hi:inArg tt t d n=some (.one x,up,n')):Named n n' up:=by
 cases d with
 |l d=>
  simp only[inArg] at hi
  split at hi
  ·rename_i y up1 m h1;cases hi;exact inLeaf_named h1
  ·cases hi
 |agg ds=>
  simp only[inArg] at hi
  split at hi
  ·rename_i ys up1 m h1;cases hi;exact inLeafs_named _ _ _ _ _ _ h1
  ·cases hi
 |ptr ds=>
  simp only[inArg] at hi
  split at hi
  ·split at hi
   ·rename_i ys up1 m h1
    cases hi
    obtain ⟨k1,k2,k3⟩:=inLeafs_named _ _ _ _ _ _ h1
    refine ⟨by omega,fun p hp=> ?_,fun j h1 h2=> ?_⟩
    ·rcases List.mem_append.1 hp with hp|hp
     ·have:=k2 p hp;omega
     ·simp at hp;subst hp;simp;omega
    ·rcases Nat.eq_or_lt_of_le h1 with e|e
     ·exact ⟨_,List.mem_append_right _ (List.mem_singleton.2 rfl),e⟩
     ·obtain ⟨p,hp,e⟩:=k3 j e h2
      exact ⟨p,by simp[hp],e⟩
   ·cases hi
  ·cases hi
theorem inArgs_named {tt:TT} {oc:Cls}: ∀(ts:List Nat) (ds:List DV) (n n':Nat) (xs:List A1) (up:List (Nat×Option Root)),(∀d∈ds,clsV oc d)->inArgs tt ts ds n=some (xs.map AV.one,up,n')->Named n n' up
 | [],[],n,n',xs,up,_,hi=>by
   simp only[inArgs,Option.some.injEq,Prod.mk.injEq] at hi
   obtain ⟨_,rfl,rfl⟩:=hi
   exact Named.nil _
 | [],_::_,_,_,_,_,_,hi=>by simp[inArgs] at hi
 |_::_,[],_,_,_,_,_,hi=>by simp[inArgs] at hi
 |t::ts,d::ds,n,n',xs,up,hc,hi=>by
  simp only[inArgs] at hi
  split at hi
  ·rename_i x up1 m h1
   split at hi
   ·rename_i ys up2 n2 h2
    simp only[Option.some.injEq,Prod.mk.injEq] at hi
    obtain ⟨e1,rfl,rfl⟩:=hi
    cases xs with
    |nil=>simp at e1
    |cons y zs=>
     simp only[List.map_cons,List.cons.injEq] at e1
     obtain ⟨rfl,rfl⟩:=e1
     exact (inArg_named (hc d (by simp)) h1).join (inArgs_named ts ds _ _ _ _ (fun d hd=>hc d (by simp[hd])) h2)
   ·cases hi
  ·cases hi
theorem upd_in: ∀(up:List (Nat×Option Root)) {hp hp':Nat->Option Root} {j:Nat},(∃p∈up,p.1=j)->upd hp up j=upd hp' up j:=by
 intro up
 induction up with
 |nil=>rintro hp hp' j ⟨p,h,_⟩;simp at h
 |cons p up ih=>
  rintro hp hp' j ⟨q,h,e⟩
  obtain ⟨i,r⟩:=p
  simp only[upd]
  rcases List.mem_cons.1 h with rfl|h
  ·simp only[] at e
   subst e
   exact upd_base _ (by simp)
  ·exact ih ⟨q,h,e⟩
theorem sumTo_kil_mem (Fs:Nat->FP) (kl:List Nat) (b:Nat) {n id:Nat} (hid:id<n) (hk:id∈kl):sumTo n (kilF Fs kl) b+Fs id b<=sumTo n Fs b:=by
 have h1:=sumTo_put (kilF Fs kl) (Fs id) b hid
 have h2:kilF Fs kl id=fz:=by simp[kilF,hk]
 rw[h2] at h1
 have h3: ∀m,sumTo m (putF (kilF Fs kl) id (Fs id)) b<=sumTo m Fs b:=fun m=>by
  induction m with
  |zero=>exact Nat.le_refl _
  |succ m ih=>
   have:putF (kilF Fs kl) id (Fs id) m b<=Fs m b:=by
    unfold putF
    split
    ·rename_i e;subst e;exact Nat.le_refl _
    ·exact kilF_le Fs kl m b
   simp only[sumTo,fadd_at];omega
 have:=h3 n
 simp at h1
 omega
def BackRel (w':World) (Zf ZL:Zs) (q:Option (Nat×Nat)):Root->Root->FP->Prop
 | .row e ver r0,.row e' ver' r1,F=>e' =e/\ver' =ver+1/\r1.len=r0.len/\r1.size=r0.size/\(∀f,r1.slAt f=r0.slAt f)/\r1.owned=true/\RowRel w' ZL q r1.cells r1.len r1.size F
 | .box _ _,.box _ c1,F=> ∃b cap vs ty,q=some (b,cap)/\w'.heap[b]? =some (.cells vs ty (0,0))/\(∀E:Env,E.w=w'->(∀b,Zf b->E.Zf b)->LVsRel E c1 vs.toList)/\F=f1 b
 |_,_,_=>False
theorem BackRel.solid {w':World} {Zf ZL:Zs} {q:Option (Nat×Nat)} {root root':Root} {F:FP} (h:BackRel w' Zf ZL q root root' F):root.solid:=by
 cases root<;>first|trivial| (cases root'<;>exact h.elim)
structure BackOK (C:Cx) (S:St) (w:World) (ρ:Place) (w':World) (Zf ZL:Zs) (ids:List Nat) (up:List (Nat×Option Root)) (F:FP) (Gk:Nat->FP):Prop where
 out: ∀j,j∉ids->Gk j=fz
 sum: ∀b,sumTo S.nx Gk b=F b
 keys: ∀p∈up,p.1∈ids
 roots: ∀id∈ids,∃root root',S.hp id=some root/\(∀hp,upd hp up id=some root')/\BackRel w' Zf ZL (ρ id) root root' (Gk id)
theorem BackOK.nil {w':World} {Zf ZL:Zs}:BackOK C S w ρ w' Zf ZL [] [] fz (fun _=>fz):=
 ⟨fun _ _=>rfl,fun b=>sumTo_fz _ b _ (fun _ _=>rfl),by simp,by simp⟩
theorem BackOK.join {w':World} {Zf ZL:Zs} {ids ids':List Nat} {up up':List (Nat×Option Root)} {F F':FP} {Gk Gk':Nat->FP} (h:BackOK C S w ρ w' Zf ZL ids up F Gk) (h':BackOK C S w ρ w' Zf ZL ids' up' F' Gk') (hnd:(ids++ids').Nodup):BackOK C S w ρ w' Zf ZL (ids++ids') (up++up') (fadd F F') (fun j=>fadd (Gk j) (Gk' j)):=by
 obtain ⟨n1,n2,n3⟩:=List.nodup_append.1 hnd
 refine ⟨fun j hj=> ?_,fun b=> ?_,fun p hp=> ?_,fun id hid=> ?_⟩
 ·have h1:j∉ids:=fun hh=>hj (by simp[hh])
  have h2:j∉ids':=fun hh=>hj (by simp[hh])
  rw[h.out j h1,h'.out j h2,fadd_fz]
 ·rw[sumTo_add,h.sum,h'.sum];rfl
 ·rcases List.mem_append.1 hp with hp|hp
  ·simp[h.keys p hp]
  ·simp[h'.keys p hp]
 ·rcases List.mem_append.1 hid with hi|hi
  ·have hni:id∉ids':=fun hh=>n3 id hi id hh rfl
   obtain ⟨root,root',g1,g2,g3⟩:=h.roots id hi
   refine ⟨root,root',g1,fun hp=> ?_,by rw[h'.out id hni,fadd_fz];exact g3⟩
   rw[upd_append,upd_out _ _ (fun p hp e2=>hni (by rw[<- e2];exact h'.keys p hp))]
   exact g2 hp
  ·have hni:id∉ids:=fun hh=>n3 id hh id hi rfl
   obtain ⟨root,root',g1,g2,g3⟩:=h'.roots id hi
   refine ⟨root,root',g1,fun hp=> ?_,by rw[h.out id hni,fz_fadd];exact g3⟩
   rw[upd_append]
   exact g2 _
theorem hdr_inj {q q':Option (Nat×Nat)} {n n':Nat} (h:hdr q n=hdr q' n') (h0:q=none->n=0) (h0':q' =none->n' =0):q=q' /\n=n':=by
 cases q with
 |none=>cases q' with
  |none=>exact ⟨rfl,by rw[h0 rfl,h0' rfl]⟩
  |some p=>obtain ⟨b,c⟩:=p;simp[hdr] at h
 |some p=>
  obtain ⟨b,c⟩:=p
  cases q' with
  |none=>simp[hdr] at h
  |some p'=>
   obtain ⟨b',c'⟩:=p'
   simp only[hdr,Value.slice.injEq,Option.some.injEq,Addr.mk.injEq] at h
   obtain ⟨⟨rfl,_⟩,rfl,rfl⟩:=h
   exact ⟨rfl,rfl⟩
theorem RowRel.nil_len {w:World} {Z:Zs} {q:Option (Nat×Nat)} {cs:List Cell} {len size:Nat} {F:FP} (h:RowRel w Z q cs len size F) (hq:q=none):len=0:=by
 rcases h with h| ⟨b,cap,arr,ty,F',g1,_⟩
 ·exact h.2.1
 ·rw[hq] at g1;cases g1
theorem RowRel.anyZ {w:World} {Z Z':Zs} {q:Option (Nat×Nat)} {r:Row} {F:FP} (h:RowRel w Z q r.cells r.len r.size F) (ho:r.owned=true):RowRel w Z' q r.cells r.len r.size F:=by
 rcases h with h| ⟨b,cap,arr,ty,F',g1,g2,g3,g4,g5,g6⟩
 ·exact .inl h
 ·exact .inr ⟨b,cap,arr,ty,F',g1,g2,g3,g4,owned_any (owned_cells ho) g5,g6⟩
theorem backLeaf_main {R:Type} {r:R} (m:MRel C S.hp S.nx w ρ Fs) {w':World} {Zf ZL:Zs} {x:LV} {d:DL} {v:Value} {F:FP} {K:List (Nat×Option Root)->Option R} (hx:LVRel (C.env w ρ S.hp S.nx Fs) x v) (hd:DLRel w' Zf ZL d v F) (h:backLeaf S.hp x d K=some r):
 ∃up Gk,K up=some r/\BackOK C S w ρ w' Zf ZL (ownLV x) up F Gk:=by
 have plain:F=fz->ownLV x=[]->K [] =some r-> ∃up Gk,K up=some r/\BackOK C S w ρ w' Zf ZL (ownLV x) up F Gk:=fun h1 h2 h3=>by
  subst h1;rw[h2];exact ⟨[],_,h3,BackOK.nil⟩
 cases x with
 |i k n=>
  have hx:v= .int k n:=hx
  subst hx
  refine plain ?_ rfl h
  cases d with
  |i k' n'=>exact hd.2
  |b z=>exact hd.2
  |s z=>exact hd.2
  |er z=>cases z<;>exact hd.2
  |sl c r=>
   cases c with
   |frz=>exact hd.2
   |lent=>exact hd.2
   |own=>obtain ⟨q,e,_⟩:=hd;cases q<;>cases e
 |b z=>
  have hx:v= .bool z:=hx
  subst hx
  refine plain ?_ rfl h
  cases d with
  |i k' n'=>exact hd.2
  |b z=>exact hd.2
  |s z=>exact hd.2
  |er z=>cases z<;>exact hd.2
  |sl c r=>
   cases c with
   |frz=>exact hd.2
   |lent=>exact hd.2
   |own=>obtain ⟨q,e,_⟩:=hd;cases q<;>cases e
 |s z=>
  have hx:v= .string z:=hx
  subst hx
  refine plain ?_ rfl h
  cases d with
  |i k' n'=>exact hd.2
  |b z=>exact hd.2
  |s z=>exact hd.2
  |er z=>cases z<;>exact hd.2
  |sl c r=>
   cases c with
   |frz=>exact hd.2
   |lent=>exact hd.2
   |own=>obtain ⟨q,e,_⟩:=hd;cases q<;>cases e
 |er z=>
  refine plain ?_ rfl h
  cases d with
  |i k' n'=>exact hd.2
  |b z=>exact hd.2
  |s z=>exact hd.2
  |er z=>cases z<;>exact hd.2
  |sl c r=>
   cases c with
   |frz=>exact hd.2
   |lent=>exact hd.2
   |own=>
    obtain ⟨q,e,_⟩:=hd
    cases z with
    |true=>have hx:v= .nilIface:=hx;subst hx;cases q<;>cases e
    |false=>obtain ⟨t,y,hx⟩:=(show ∃t x,v= .iface t x from hx);subst hx;cases q<;>cases e
 |nil=>
  have hx:v= .slice none 0 0:=hx
  subst hx
  refine plain ?_ rfl h
  cases d with
  |i k' n'=>exact hd.2
  |b z=>exact hd.2
  |s z=>exact hd.2
  |er z=>cases z<;>exact hd.2
  |sl c r=>
   cases c with
   |frz=>exact hd.2
   |lent=>exact hd.2
   |own=>
    obtain ⟨q,e,hr⟩:=hd
    cases q with
    |some p=>obtain ⟨b,c⟩:=p;simp[hdr] at e
    |none=>
     rcases hr with hr| ⟨b,cap,arr,ty,F',g1,_⟩
     ·exact hr.2.2
     ·cases g1
 |own id=>
  obtain ⟨hlt,hx⟩:=hx
  have hlt:id<S.nx:=hlt
  have fin: ∀(e ver:Nat) (r0 r1:Row),S.hp id=some (.row e ver r0)->d= .sl .own r1->r1.size=r0.size->(∀f,r1.slAt f=r0.slAt f)->r1.owned=true->K [(id,some (.row e (ver+1) r1))] =some r-> ∃up Gk,K up=some r/\BackOK C S w ρ w' Zf ZL (ownLV (.own id)) up F Gk:=fun e ver r0 r1 hr hde hs hsl how hK=>by
   subst hde
   obtain ⟨q,hv,hrr⟩:=hd
   obtain ⟨r',e1,e2⟩:=hx _ hr
   cases e1
   have h0:=m.roots id _ hr
   have h0':RowRel w (C.ZL w (sumTo S.nx Fs)) (ρ id) r0.cells r0.len r0.size (Fs id):=h0
   obtain ⟨rfl,hlen⟩:=hdr_inj (e2.symm.trans hv) (fun hq=>h0'.nil_len hq) (fun hq=>hrr.nil_len hq)
   refine ⟨_,putF (fun _=>fz) id F,hK,fun j hj=> ?_,fun b=> ?_,?_,?_⟩
   ·exact putF_ne _ _ (fun e=>hj (by simp[ownLV,e]))
   ·have:=sumTo_put (fun _=>fz) F b hlt
    rw[sumTo_fz _ b _ (fun _ _=>rfl)] at this
    simpa using this
   ·simp[ownLV]
   ·intro i hi
    simp only[ownLV,List.mem_singleton] at hi
    subst hi
    exact ⟨_,.row e (ver+1) r1,hr,fun hp=>by rw[upd_one,if_pos rfl],rfl,rfl,hlen.symm,hs,hsl,how,by rw[putF_self];exact hrr⟩
  simp only[backLeaf] at h
  split at h
  ·rename_i e ver k l hr
   obtain ⟨l',hde,hK⟩:=dInts_some h
   exact fin _ _ _ _ hr hde rfl (fun _=>rfl) rfl hK
  ·rename_i e ver l hr
   obtain ⟨l',hde,hK⟩:=dBools_some h
   exact fin _ _ _ _ hr hde rfl (fun _=>rfl) rfl hK
  ·rename_i e ver l hr
   obtain ⟨l',hde,hK⟩:=dStrs_some h
   exact fin _ _ _ _ hr hde rfl (fun _=>rfl) rfl hK
  ·rename_i e ver l hr
   obtain ⟨l',hde,hK⟩:=dRows_some h
   exact fin _ _ _ _ hr hde rfl (fun _=>rfl) rfl hK
  ·rename_i e ver sg l hr
   obtain ⟨l',hde,hK⟩:=dRecs_some h
   exact fin _ _ _ _ hr hde rfl (fun _=>rfl) rfl hK
  ·cases h
 |_=>cases h
theorem backLeafs_main {R:Type} {r:R} (m:MRel C S.hp S.nx w ρ Fs) {w':World} {Zf ZL:Zs}: ∀ {xs:List LV} {ds:List DL} {vs:List Value} {F:FP} {K:List (Nat×Option Root)->Option R},LVsRel (C.env w ρ S.hp S.nx Fs) xs vs->DLsRel w' Zf ZL ds vs F->backLeafs S.hp xs ds K=some r->(xs.flatMap ownLV).Nodup->
 ∃up Gk,K up=some r/\BackOK C S w ρ w' Zf ZL (xs.flatMap ownLV) up F Gk
 | [],ds,[],F,K,_,hd,h,_=>by
   obtain ⟨rfl,hK⟩:=lNil_some h
   have:F=fz:=hd
   subst this
   exact ⟨[],_,hK,BackOK.nil⟩
 |x::xs,ds,v::vs,F,K,hx,hd,h,hnd=>by
  obtain ⟨d,ds',rfl,h1⟩:=lHead_some h
  obtain ⟨F1,F2,d1,d2,rfl⟩:=hd
  obtain ⟨up,Gk,h2,b1⟩:=backLeaf_main m hx.1 d1 h1
  rw[List.flatMap_cons] at hnd ⊢
  obtain ⟨up',Gk',h3,b2⟩:=backLeafs_main m hx.2 d2 h2 (List.nodup_append.1 hnd).2.1
  exact ⟨_,_,h3,b1.join b2 hnd⟩
theorem backCell_main {R:Type} {r:R} {E:Env} {w':World} {Zf ZL:Zs} {x:LV} {d:DL} {v:Value} {F:FP} {K:LV->Option R} (hd:DLRel w' Zf ZL d v F) (h:backCell x d K=some r):
 ∃y,K y=some r/\F=fz/\ ∀E:Env,E.w=w'->(∀b,Zf b->E.Zf b)->LVRel E y v:=by
 unfold backCell at h
 split at h
 ·obtain ⟨n,rfl,h1⟩:=dI_some h
  exact ⟨_,h1,hd.2,fun _ _ _=>hd.1⟩
 ·obtain ⟨n,rfl,h1⟩:=dB_some h
  exact ⟨_,h1,hd.2,fun _ _ _=>hd.1⟩
 ·obtain ⟨n,rfl,h1⟩:=dS_some h
  exact ⟨_,h1,hd.2,fun _ _ _=>hd.1⟩
 ·obtain ⟨n,rfl,h1⟩:=dInts_some h
  exact ⟨_,h1,hd.2,fun E hw hz=>by show FrzRow E.w E.Zf _ v;rw[hw];exact hd.1.grow hz⟩
 ·cases h
theorem backCells_main {R:Type} {r:R} {w':World} {Zf ZL:Zs}: ∀ {xs:List LV} {ds:List DL} {vs:List Value} {F:FP} {K:List LV->Option R},DLsRel w' Zf ZL ds vs F->backCells xs ds K=some r->
 ∃ys,K ys=some r/\F=fz/\ ∀E:Env,E.w=w'->(∀b,Zf b->E.Zf b)->LVsRel E ys vs
 | [],ds,vs,F,K,hd,h=>by
   obtain ⟨rfl,h1⟩:=lNil_some h
   cases vs with
   |nil=>exact ⟨_,h1,hd,fun _ _ _=>trivial⟩
   |cons v vs=>exact hd.elim
 |x::xs,ds,vs,F,K,hd,h=>by
  obtain ⟨d,ds',rfl,h1⟩:=lHead_some h
  cases vs with
  |nil=>exact hd.elim
  |cons v vs=>
   obtain ⟨F1,F2,d1,d2,rfl⟩:=hd
   obtain ⟨y,h2,rfl,r1⟩:=backCell_main (E:=⟨w',Zf,ZL,fun _=>none,fun _=>none,0⟩) d1 h1
   obtain ⟨ys,h3,rfl,r2⟩:=backCells_main d2 h2
   exact ⟨_,h3,fadd_fz _,fun E hw hz=>⟨r1 E hw hz,r2 E hw hz⟩⟩
theorem backPtr_main {R:Type} {r:R} (m:MRel C S.hp S.nx w ρ Fs) {w':World} {Zf ZL:Zs} {id:Nat} {d:DV} {v:Value} {F:FP} {K:List (Nat×Option Root)->Option R} (hx:LVRel (C.env w ρ S.hp S.nx Fs) (.bptr id 0) v) (hd:DVRel w' Zf ZL d v F) (h:backPtr S.hp id d K=some r):
 ∃up Gk,K up=some r/\BackOK C S w ρ w' Zf ZL [id] up F Gk:=by
 obtain ⟨ds,rfl,h1⟩:=dPtr_some h
 split at h1
 ·rename_i t cells hroot
  obtain ⟨hlt,_,b,cap,hρ,rfl⟩:=hx
  have hlt:id<S.nx:=hlt
  have hρ:ρ id=some (b,cap):=hρ
  obtain ⟨b',vs,ty,F',e1,e2,hd,rfl⟩:=hd
  simp only[Value.pointer.injEq,Option.some.injEq,Addr.mk.injEq] at e1
  obtain ⟨rfl,_⟩:=e1
  obtain ⟨cs,h2,rfl,hcs⟩:=backCells_main hd h1
  refine ⟨_,putF (fun _=>fz) id (f1 b),h2,fun j hj=>putF_ne _ _ (fun e=>hj (by simp[e])),fun b'=> ?_,by simp,fun i hi=> ?_⟩
  ·have:=sumTo_put (fun _=>fz) (f1 b) b' hlt
   rw[sumTo_fz _ b' _ (fun _ _=>rfl)] at this
   rw[fadd_fz]
   simpa using this
  ·simp only[List.mem_singleton] at hi
   subst hi
   exact ⟨_,.box t cs,hroot,fun hp=>by rw[upd_one,if_pos rfl],b,cap,vs,ty,hρ,e2,hcs,putF_self ..⟩
 ·cases h1
theorem backAV_main {R:Type} {r:R} (m:MRel C S.hp S.nx w ρ Fs) {w':World} {Zf ZL:Zs} {x:AV} {d:DV} {v:Value} {F:FP} {K:List (Nat×Option Root)->Option R} (hx:AVRel (C.env w ρ S.hp S.nx Fs) x v) (hd:DVRel w' Zf ZL d v F) (h:backAV S.hp x d K=some r) (hnd:(ownAV x).Nodup):
 ∃up Gk,K up=some r/\BackOK C S w ρ w' Zf ZL (ownAV x) up F Gk:=by
 match x,h with
 | .one (.l x),h=>
   simp only[backAV] at h
   split at h
   ·rename_i id hid
    obtain rfl:=ptrOf_some hid
    exact backPtr_main m hx hd h
   ·rename_i hid
    obtain ⟨d',rfl,h1⟩:=dL_some h
    have e:ownAV (.one (.l x))=ownLV x:=by simp only[ownAV,hid]
    rw[e]
    exact backLeaf_main m hx hd h1
 | .one (.agg xs),h=>
   obtain ⟨ds,rfl,h1⟩:=dAgg_some h
   obtain ⟨vs,rfl,hx⟩:=hx
   obtain ⟨vs',e,hd⟩:=hd
   have:vs=vs':=by simpa using e
   subst this
   exact backLeafs_main m hx hd h1 hnd
theorem backs_main {R:Type} {r:R} (m:MRel C S.hp S.nx w ρ Fs) {w':World} {Zf ZL:Zs}: ∀ {ms:List Mode} {xs:List AV} {ds:List DV} {vs:List Value} {F:FP} {K:List (Nat×Option Root)->Option R},AVsRel (C.env w ρ S.hp S.nx Fs) xs vs->DVsRel w' Zf ZL ds (ioVals ms vs) F->backs S.hp ms xs ds K=some r->(ioIds ms xs).Nodup->
 ∃up Gk,K up=some r/\BackOK C S w ρ w' Zf ZL (ioIds ms xs) up F Gk
 | [],xs,ds,vs,F,K,hx,hd,h,hnd=>by
   obtain ⟨rfl,hK⟩:=dNil_some (show dNil ds (K [])=some r by simpa[backs] using h)
   have e:ioVals [] vs=[]:=by simp[ioVals]
   rw[e] at hd
   have:F=fz:=hd
   subst this
   exact ⟨[],_,hK,by simpa[ioIds] using BackOK.nil⟩
 |md::ms,[],ds,[],F,K,hx,hd,h,hnd=>by
  have h:dNil ds (K [])=some r:=by cases md<;>simpa[backs] using h
  obtain ⟨rfl,hK⟩:=dNil_some h
  have e:ioVals (md::ms) [] =[]:=by simp[ioVals]
  rw[e] at hd
  have:F=fz:=hd
  subst this
  have e2:ioIds (md::ms) [] =[]:=by cases md<;>simp[ioIds]
  exact ⟨[],_,hK,by rw[e2];exact BackOK.nil⟩
 | .io::ms,x::xs,ds,v::vs,F,K,hx,hd,h,hnd=>by
   simp only[backs] at h
   obtain ⟨d,ds',rfl,h1⟩:=dHead_some h
   have e:ioVals (.io::ms) (v::vs)=v::ioVals ms vs:=by simp[ioVals]
   rw[e] at hd
   obtain ⟨F1,F2,d1,d2,rfl⟩:=hd
   have e2:ioIds (.io::ms) (x::xs)=ownAV x++ioIds ms xs:=by simp[ioIds]
   rw[e2] at hnd ⊢
   obtain ⟨up,Gk,h2,b1⟩:=backAV_main m hx.1 d1 h1 (List.nodup_append.1 hnd).1
   obtain ⟨up',Gk',h3,b2⟩:=backs_main m hx.2 d2 h2 (List.nodup_append.1 hnd).2.1
   exact ⟨_,_,h3,b1.join b2 hnd⟩
 | .bor::ms,x::xs,ds,v::vs,F,K,hx,hd,h,hnd=>by
   simp only[backs] at h
   have e:ioVals (.bor::ms) (v::vs)=ioVals ms vs:=by simp[ioVals]
   rw[e] at hd
   have e2:ioIds (.bor::ms) (x::xs)=ioIds ms xs:=by simp[ioIds]
   rw[e2] at hnd ⊢
   exact backs_main m hx.2 hd h hnd
 | .mov::ms,x::xs,ds,v::vs,F,K,hx,hd,h,hnd=>by
   simp only[backs] at h
   have e:ioVals (.mov::ms) (v::vs)=ioVals ms vs:=by simp[ioVals]
   rw[e] at hd
   have e2:ioIds (.mov::ms) (x::xs)=ioIds ms xs:=by simp[ioIds]
   rw[e2] at hnd ⊢
   exact backs_main m hx.2 hd h hnd
 | .frz::ms,x::xs,ds,v::vs,F,K,hx,hd,h,hnd=>by
   simp only[backs] at h
   have e:ioVals (.frz::ms) (v::vs)=ioVals ms vs:=by simp[ioVals]
   rw[e] at hd
   have e2:ioIds (.frz::ms) (x::xs)=ioIds ms xs:=by simp[ioIds]
   rw[e2] at hnd ⊢
   exact backs_main m hx.2 hd h hnd
theorem DVsRel.split {w:World} {Zf ZL:Zs}: ∀ {ds es:List DV} {us vs:List Value} {F:FP},ds.length=us.length->DVsRel w Zf ZL (ds++es) (us++vs) F-> ∃F1 F2,DVsRel w Zf ZL ds us F1/\DVsRel w Zf ZL es vs F2/\F=fadd F1 F2
 | [],es,[],vs,F,_,h=>⟨fz,F,rfl,h,(fz_fadd F).symm⟩
 |d::ds,es,u::us,vs,F,hl,h=>by
  obtain ⟨F1,F2,h1,h2,rfl⟩:=h
  obtain ⟨G1,G2,g1,g2,rfl⟩:=DVsRel.split (by simpa using hl) h2
  exact ⟨fadd F1 G1,G2,⟨F1,G1,h1,g1,rfl⟩,g2,(fadd_assoc ..).symm⟩
theorem inArgs_len {tt:TT}: ∀(ts:List Nat) (ds:List DV) (n:Nat) {xs:List AV} {up:List (Nat×Option Root)} {n':Nat},inArgs tt ts ds n=some (xs,up,n')->xs.length=ts.length/\ds.length=ts.length
 | [],[],n,xs,up,n',h=>by simp only[inArgs,Option.some.injEq,Prod.mk.injEq] at h;obtain ⟨rfl,_⟩:=h;exact ⟨rfl,rfl⟩
 | [],_::_,_,_,_,_,h=>by simp[inArgs] at h
 |_::_,[],_,_,_,_,h=>by simp[inArgs] at h
 |t::ts,d::ds,n,xs,up,n',h=>by
  simp only[inArgs] at h
  split at h
  ·split at h
   ·rename_i h2
    cases h
    obtain ⟨k1,k2⟩:=inArgs_len ts ds _ h2
    exact ⟨by simp[k1],by simp[k2]⟩
   ·cases h
  ·cases h
theorem call_back {R:Type} {r:R} (h:SRel C S a w ρ Fs) {g:Sig} {F:FP} {ks io rc:List Nat} {args:List Value} {ax:List AV} (hax:AVsRel (C.env w ρ S.hp S.nx Fs) ax args) (hio:io=ioIds g.modes ax) (hk:(ks++io).Nodup) (hks:RowsAt S.hp (ks++io)) (hF: ∀b,F b<=sumL Fs (ks++io) b) (hd: ∀k∈ks++io,k∉rc)
 {rs rs':List DV} {xs:List A1} {up:List (Nat×Option Root)} {n n':Nat} (hin:inArgs tt g.results rs n=some (xs.map AV.one,up,n')) (hcl: ∀d∈rs,clsV g.oc d) (hn:n' <=S.nx) (hg: ∀k,n<=k->k<n'->S.hp k=some .ghost)
 {K:List (Nat×Option Root)->Option R} (hK:backs S.hp g.modes ax rs' K=some r)
 {e:Ending} {w':World} (he:Ends (callCx C S w Fs F rc (h.mem.ground _) (call_good h.mem hk (hks.lt h.mem) hF hd)) g args (rs++rs') e w'):
 ∃v ρ' Fs' up',e= .returned v/\K up' =some r/\(∀p∈up',p.1∈io)/\(∀b,b<w.heap.size->F b=0->w'.heap[b]? =w.heap[b]?)/\(∀id,id<S.nx->(∀root,S.hp id=some root->root.real)->ρ' id=ρ id)/\(∀id root root',S.hp id=some root->root.real->id∉io->upd S.hp (killUp ks++lentKill g.oc rc++up++up') id=some root'->Fs' id=Fs id)/\
  (∀id∈io,∃root root',S.hp id=some root/\(∀hp,upd hp up' id=some root')/\ ∀e ver r0,root= .row e ver r0-> ∃r1,root' = .row e (ver+1) r1/\r1.len=r0.len)/\
  SRel C ⟨S.sl,upd S.hp (killUp ks++lentKill g.oc rc++up++up'),S.nx⟩ a w' ρ' Fs' /\AVRel (C.env w' ρ' (upd S.hp (killUp ks++lentKill g.oc rc++up++up')) S.nx Fs') (resAV xs) v:=by
 obtain ⟨vs,F',he,hlen,hfr,hone,hmine,hrel⟩:=he
 have hlt:=hks.lt h.mem
 have hgood:=call_good h.mem hk hlt hF hd
 generalize hall':ks++io=kg at*
 generalize hKl:killedOf g.oc kg rc=kl
 obtain ⟨hnle,hkeys,hall⟩:=inArgs_named _ _ _ _ _ _ hcl hin
 have hksub: ∀k∈kg,k∈kl:=fun k hk=>by rw[<- hKl];simp[killedOf,hk]
 have hiosub: ∀k∈io,k∈kg:=fun k hk=>by rw[<- hall'];simp[hk]
 have hsz:w.heap.size<=w'.heap.size:=hfr.size
 have hfb: ∀b,b<w.heap.size->F b=0->w'.heap[b]? =w.heap[b]? :=fun b h1 h2=>hfr.block b h1 h2
 have hmine: ∀b,1<=F' b->b<w'.heap.size/\(w.heap.size<=b\/1<=F b):=hmine
 have hkF: ∀b,sumTo S.nx (kilF Fs kl) b+F b<=sumTo S.nx Fs b:=fun b=>by
  have h1:=sumTo_kil Fs b S.nx kg hk hlt
  have h2: ∀m,sumTo m (kilF Fs kl) b<=sumTo m (kilF Fs kg) b:=fun m=>by
   induction m with
   |zero=>exact Nat.le_refl _
   |succ m ih=>
    have:kilF Fs kl m b<=kilF Fs kg m b:=by
     unfold kilF
     by_cases e1:m∈kg
     ·simp[e1,hksub m e1]
     ·rw[if_neg e1];split<;>simp
    simp only[sumTo,fadd_at];omega
  have h3:=hF b
  have:=h2 S.nx
  omega
 have hghF: ∀k,n<=k->k<n'->Fs k=fz:=fun k h1 h2=>h.mem.roots k _ (hg k h1 h2)
 let T:FP:=fun b=>sumTo S.nx (kilF Fs kl) b+F' b
 have hone0:=h.mem.one
 have hmine0:=h.mem.mine
 have hsz0:=h.mem.frame.size
 have hZf: ∀b,(callCx C S w Fs F rc (h.mem.ground _) hgood).Zf w' F' b->C.Zf w' T b:=fun b hb=>by
  have k1:=hkF b
  have k2:=hone0 b
  have k3:=hmine0 b
  have k4:=hmine b
  rcases hb with hb| ⟨hb1,hb2,hb3⟩
  ·have hb:C.Zf w (sumTo S.nx Fs) b:=hb
   rcases hb with hb| ⟨c1,c2,c3⟩
   ·exact .inl hb
   ·refine .inr ⟨c1,by omega,?_⟩
    show sumTo S.nx (kilF Fs kl) b+F' b=0
    rcases Nat.eq_zero_or_pos (F' b) with z|z
    ·omega
    ·have:=k4 z;omega
  ·have hb1:w.heap.size<=b\/1<=F b:=hb1
   refine .inr ⟨?_,hb2,?_⟩
   ·rcases hb1 with hb1|hb1
    ·exact .inl (by omega)
    ·exact (k3 (by omega)).2
   ·show sumTo S.nx (kilF Fs kl) b+F' b=0
    rcases hb1 with hb1|hb1
    ·rcases Nat.eq_zero_or_pos (sumTo S.nx Fs b) with z|z
     ·omega
     ·have:=k3 z;omega
    ·omega
 obtain ⟨Fr,Fk,hrel1,hrel2,hFF⟩:=hrel.split (by rw[(inArgs_len _ _ _ hin).2,hlen])
 have hres:DVsRel w' (C.Zf w' T) (C.ZL w' T) rs vs Fr:=by
  by_cases hoc:g.oc= .lent
  ·refine hrel1.grow hZf (fun b hb=> ?_)
   rcases hb with hb|hb
   ·have hb:Zlent C w S.nx Fs rc b:=hb
    rcases hb with hb| ⟨id,hid,hb⟩
    ·rcases hb with hb|hb
     ·exact .inl hb
     ·exact .inr (hZf b (.inl hb))
    ·obtain ⟨g1,g2⟩:=hgood b (.inl (.inr ⟨id,hid,hb⟩))
     have hi:=Fs_lt h.mem hb
     have hkl:id∈kl:=by rw[<- hKl];simp[killedOf,hoc,hid]
     have k1:=sumTo_kil_mem Fs kl b hi hkl
     have k2:=hone0 b
     have k3:=hmine0 b (by omega)
     refine .inr (.inr ⟨k3.2,by omega,?_⟩)
     show sumTo S.nx (kilF Fs kl) b+F' b=0
     rcases Nat.eq_zero_or_pos (F' b) with z|z
     ·omega
     ·have:=hmine b z;omega
   ·exact .inr (hZf b hb)
  ·exact (hrel1.noLent hoc hcl).grow hZf (fun b hb=>hb)
 obtain ⟨ρ1,Fs1,f1,r1⟩:=inArgs_sound _ _ _ _ _ _ _ _ hin hres
 obtain ⟨up',Gk,hK',b1⟩:=backs_main h.mem hax hrel2 hK (by rw[<- hio];rw[<- hall'] at hk;exact (List.nodup_append.1 hk).2.1)
 rw[<- hio] at b1
 have hioreal: ∀id∈io,∃root,S.hp id=some root/\root.real:=fun id hid=>by
  obtain ⟨root,root',g1,_,g3⟩:=b1.roots id hid
  exact ⟨_,g1,solid_real g3.solid⟩
 have hiolt: ∀id∈io,id<S.nx:=fun id hid=>hlt id (hiosub id hid)
 have hion: ∀id∈io,¬(n<=id/\id<n'):=fun id hid hh=>by
  obtain ⟨root,e1,e2⟩:=hioreal id hid
  rw[hg id hh.1 hh.2] at e1;cases e1;exact e2
 have hup:upd S.hp (killUp ks++lentKill g.oc rc++up++up')=upd (upd (kill S.hp kl) up) up':=by
  rw[upd_append]
  funext j
  by_cases hj: ∃p∈up',p.1=j
  ·exact upd_in _ hj
  ·have hj': ∀p∈up',p.1≠j:=fun p hp e=>hj ⟨p,hp,e⟩
   rw[upd_out _ _ hj',upd_out _ _ hj']
   by_cases hjn: ∃p∈up,p.1=j
   ·rw[upd_append];exact upd_in _ hjn
   ·have hjn': ∀p∈up,p.1≠j:=fun p hp e=>hjn ⟨p,hp,e⟩
    rw[upd_append,upd_out _ _ hjn',upd_out _ _ hjn',upd_append,upd_kill,lentKill_upd,kill_kill]
    have hjio:j∉io:=fun hh=>by
     obtain ⟨root,root',g1,g2,_⟩:=b1.roots j hh
     have:=g2 (fun _=>none)
     rw[upd_out _ _ hj'] at this
     cases this
    rw[kill_at,kill_at]
    have:j∈kl↔j∈ks++(match g.oc with| .lent=>rc|_=>[]):=by
     rw[<- hKl,<- hall']
     simp only[killedOf,List.mem_append,hjio,or_false]
    by_cases hh:j∈kl
    ·rw[if_pos (this.1 hh),if_pos hh]
    ·rw[if_neg (fun h=>hh (this.2 h)),if_neg hh]
 let Fs':Nat->FP:=fun j=>fadd (kilF Fs kl j) (fadd (Fs1 j) (Gk j))
 let ρ':Place:=fun j=>if n<=j/\j<n' then ρ1 j else ρ j
 have hsum:sumTo S.nx Fs' =T:=by
  funext b
  show sumTo S.nx (fun j=>fadd (kilF Fs kl j) (fadd (Fs1 j) (Gk j))) b=_
  have e1:=sumTo_add S.nx b (kilF Fs kl) (fun j=>fadd (Fs1 j) (Gk j))
  have e2:=sumTo_add S.nx b Fs1 Gk
  have e3:=sumTo_more (Fs:=Fs1) b hn (fun j h1 _=>by rw[f1.out j (.inr h1)];rfl)
  have e4:=f1.sum b
  have e5:=b1.sum b
  have e6:F' b=Fr b+Fk b:=by rw[hFF];rfl
  show _=sumTo S.nx (kilF Fs kl) b+F' b
  omega
 have hin': ∀j,n<=j->j<n'->upd (upd (kill S.hp kl) up) up' j=upd nohp up j:=fun j h1 h2=>by
  rw[upd_out _ up' (fun p hp e=>hion j (by rw[<- e];exact b1.keys p hp) ⟨h1,h2⟩)]
  exact upd_in _ (hall j h1 h2)
 have hout': ∀j,¬(n<=j/\j<n')->j∉io->upd (upd (kill S.hp kl) up) up' j=kill S.hp kl j:=fun j hj hji=>by
  rw[upd_out _ up' (fun p hp e=>hji (by rw[<- e];exact b1.keys p hp))]
  exact upd_out _ _ (fun p hp e=>by have:=hkeys p hp;omega)
 have hFrom: ∀j,n<=j->j<n'->Fs' j=Fs1 j:=fun j h1 h2=>by
  show fadd (kilF Fs kl j) (fadd (Fs1 j) (Gk j))=Fs1 j
  have e1:kilF Fs kl j=fz:=by unfold kilF;split;rfl;exact hghF j h1 h2
  have e2:Gk j=fz:=b1.out j (fun hh=>hion j hh ⟨h1,h2⟩)
  rw[e1,e2,fadd_fz,fz_fadd]
 have hFio: ∀j∈io,Fs' j=Gk j:=fun j hj=>by
  show fadd (kilF Fs kl j) (fadd (Fs1 j) (Gk j))=Gk j
  have e1:kilF Fs kl j=fz:=by simp[kilF,hksub j (hiosub j hj)]
  have e2:Fs1 j=fz:=f1.out j (by have:=hion j hj;omega)
  rw[e1,e2,fz_fadd,fz_fadd]
 have hFel: ∀j,¬(n<=j/\j<n')->j∉io->Fs' j=kilF Fs kl j:=fun j h1 h2=>by
  show fadd (kilF Fs kl j) (fadd (Fs1 j) (Gk j))=_
  rw[f1.out j (by omega),b1.out j h2,fadd_fz,fadd_fz]
 have hext:Ext w' (C.Zf w' T) (C.ZL w' T) n n' up ρ1 (C.env w' ρ' (upd (upd (kill S.hp kl) up) up') S.nx Fs'):=by
  refine ⟨rfl,fun b hb=> ?_,fun b hb=> ?_,fun j h1 h2=> ?_,hin',hn⟩
  ·show C.Zf w' (sumTo S.nx Fs') b;rw[hsum];exact hb
  ·show C.ZL w' (sumTo S.nx Fs') b;rw[hsum];exact hb
  ·show (if n<=j/\j<n' then ρ1 j else ρ j)=ρ1 j
   rw[if_pos ⟨h1,h2⟩]
 have hρ: ∀id,id<S.nx->(∀root,S.hp id=some root->root.real)->ρ' id=ρ id:=fun id hid hre=>by
  show (if n<=id/\id<n' then ρ1 id else ρ id)=ρ id
  rw[if_neg]
  rintro ⟨h1,h2⟩
  exact hre _ (hg id h1 h2)
 have hioZL: ∀b,(callCx C S w Fs F rc (h.mem.ground _) hgood).ZL w' F' b->True:=fun _ _=>trivial
 refine ⟨pack vs,ρ',Fs',up',he,hK',b1.keys,hfb,hρ,fun id root root' hr hre hnio hq=> ?_,fun id hid=> ?_,?_,by rw[hup];exact resAV_rel (r1 _ hext)⟩
 ·have hjn: ¬(n<=id/\id<n'):=fun hh=>by
   rw[hg id hh.1 hh.2] at hr;cases hr;exact hre
  rw[hup,hout' id hjn hnio,kill_at] at hq
  have hnkl:id∉kl:=fun hh=>by rw[if_pos hh] at hq;cases hq
  rw[hFel id hjn hnio];simp[kilF,hnkl]
 ·obtain ⟨root,root',g1,g2,g3⟩:=b1.roots id hid
  refine ⟨root,root',g1,g2,fun e ver r0 he=> ?_⟩
  subst he
  cases root' with
  |row e' ver' r1=>obtain ⟨rfl,rfl,g4,_⟩:=g3;exact ⟨r1,rfl,g4⟩
  |_=>exact g3.elim
 rw[hup]
 refine h.gen (upd (upd (kill S.hp kl) up) up') S.nx w' ρ' Fs' (fun b=>1<=F b) hsz hfr.os hfr.tape hfr.output (fun b h1 h2=>hfb b h1 (by omega)) (fun b hb=>by have:=hkF b;omega) (Nat.le_refl _) hρ (fun j hj=> ?_) (fun j hj=> ?_) (fun b=> ?_) (fun b hb=> ?_)
 ·by_cases hjn:n<=j/\j<n'
  ·have hFj:=hFrom j hjn.1 hjn.2
   cases hq:upd (upd (kill S.hp kl) up) up' j with
   |none=>exact .gone hq (by rw[hFj];exact f1.dead j (by rw[<- hin' j hjn.1 hjn.2];exact hq))
   |some root'=>exact .turned .ghost root' (hg j hjn.1 hjn.2) hq trivial (fun M=>by rw[hFj];exact f1.roots _ hext j root' (by rw[<- hin' j hjn.1 hjn.2];exact hq))
  ·by_cases hji:j∈io
   ·obtain ⟨root,root',g1,g2,g0⟩:=b1.roots j hji
    cases root with
    |row e ver r0=>
     cases root' with
     |row e' ver' r1=>
      obtain ⟨rfl,rfl,g3,g4,g5,g5',g6⟩:=g0
      refine .turned _ (.row e' (ver+1) r1) g1 (g2 _) ⟨g3,g4,by omega,g5,fun hh=>by omega⟩ (fun M=> ?_)
      rw[hFio j hji]
      show RowRel w' (C.ZL w' (sumTo S.nx Fs')) (ρ' j) r1.cells r1.len r1.size (Gk j)
      rw[hρ j hj (fun root hr=>by rw[g1] at hr;cases hr;trivial),hsum]
      exact g6.anyZ g5'
     |_=>exact g0.elim
    |box t c0=>
     cases root' with
     |box t' c1=>
      obtain ⟨b,cap,vs,ty,g3,g4,g5,g6⟩:=g0
      refine .turned _ (.box t' c1) g1 (g2 _) trivial (fun M=> ?_)
      rw[hFio j hji]
      refine ⟨b,cap,vs,ty,?_,g4,g5 _ rfl (fun b hb=> ?_),g6⟩
      ·show ρ' j=_
       rw[hρ j hj (fun root hr=>by rw[g1] at hr;cases hr;trivial)];exact g3
      ·show C.Zf w' (sumTo S.nx Fs') b
       rw[hsum];exact hZf b hb
     |_=>exact g0.elim
    |hole=>exact g0.elim
    |ghost=>exact g0.elim
   ·have hFj:=hFel j hjn hji
    by_cases hjk:j∈kl
    ·exact .gone (by rw[hout' j hjn hji,kill_at,if_pos hjk]) (by rw[hFj];simp[kilF,hjk])
    ·refine .same (by rw[hout' j hjn hji,kill_at,if_neg hjk]) (by rw[hFj];simp[kilF,hjk]) (fun b h1 h2=> ?_)
     have:=sumL_out Fs b S.nx hk hlt hj (fun h=>hjk (hksub j h))
     have:=hF b
     have:=hone0 b
     omega
 ·have hji:j∉io:=fun hh=>by have:=hiolt j hh;omega
  refine .inl ⟨?_,?_⟩
  ·rw[hout' j (by omega) hji,kill_at];split;rfl;exact h.mem.fresh j hj
  ·rw[hFel j (by omega) hji]
   unfold kilF;split;rfl;exact h.mem.dead j (h.mem.fresh j hj)
 ·rw[hsum]
  show sumTo S.nx (kilF Fs kl) b+F' b<=1
  have k1:=hkF b
  have k2:=hone0 b
  have k3:=hone b
  rcases Nat.eq_zero_or_pos (F' b) with z|z
  ·omega
  ·have:=hmine b z
   rcases Nat.eq_zero_or_pos (sumTo S.nx Fs b) with z2|z2
   ·omega
   ·have:=hmine0 b z2;omega
 ·rw[hsum] at hb
  have hb:1<=sumTo S.nx (kilF Fs kl) b+F' b:=hb
  have k1:=hkF b
  rcases Nat.eq_zero_or_pos (F' b) with z|z
  ·left;omega
  ·have:=hmine b z;omega
end
end Go.Proofs.YtbmmhdmljajcfaaGreatDoor.V
namespace Go.Proofs.YtbmmhdmljajcfaaGreatDoor.V
open Go
section
variable {P:Program} {tt:TT} {C:Cx} {S:St} {a:Act} {w:World} {ρ:Place} {Fs:Nat->FP} {n:Nat}
def takeUp (id n e ver i f:Nat) (r:Row):List (Nat×Option Root):=[(id,some (.hole e ver r i f)),(n,some (.row 0 0 (.ints .i64 (innerOf r i f))))]
theorem takeUp_at (hp:Nat->Option Root) (id n e ver i f:Nat) (r:Row) (j:Nat):upd hp (takeUp id n e ver i f r) j=if j=n then some (.row 0 0 (.ints .i64 (innerOf r i f))) else if j=id then some (.hole e ver r i f) else hp j:=by
 rw[show takeUp id n e ver i f r=[(id,some (Root.hole e ver r i f))]++[(n,some (.row 0 0 (.ints .i64 (innerOf r i f))))] from rfl,upd_append,upd_one,upd_one]
theorem SRel.takeAny (h:SRel C S a w ρ Fs) (hg:S.hp n=some .ghost) {id e ver i f:Nat} {r:Row} (hroot:S.hp id=some (.row e ver r)) (ho:r.owned=true) (hs:r.slAt f=true) (hi:i<r.len) {v:Value} (hv:cellAt w (ρ id) (i*r.size+f)=some v):
 ∃q Fs' b cap,ρ id=some (b,cap)/\1<=Fs' id b/\SRel C ⟨S.sl,upd S.hp (takeUp id n e ver i f r),S.nx⟩ a w (newρ ρ n q) Fs' /\v=hdr q (innerOf r i f).length:=by
 have hne:id≠n:=by rintro rfl;rw[hroot] at hg;cases hg
 have hidlt:=live_lt h.mem hroot
 have hnlt:=live_lt h.mem hg
 have hg0:Fs n=fz:=h.mem.roots n _ hg
 cases hρ:ρ id with
 |none=>rw[hρ] at hv;cases hv
 |some q=>
  obtain ⟨b,cap⟩:=q
  rw[hρ] at hv
  obtain ⟨arr,ty,F,g1,g2,g3,g4,g5,g6⟩:=row_mem h.mem hroot hρ (by omega)
  simp only[cellAt] at hv
  rw[cell?_plain g1] at hv
  have hc:=inner_own_cell ho hs hi
  obtain ⟨v',F1,F2,k1,k2,k3,k4⟩:=g4.get hc
  have hv':arr.toList[i*r.size+f]? =some v:=by simpa using hv
  rw[hv'] at k1;cases k1
  have hhole:=k4 .free v fz rfl
  have hset:arr.toList.set (i*r.size+f) v=arr.toList:=by
   apply List.ext_getElem?
   intro j
   rw[List.getElem?_set]
   by_cases e:i*r.size+f=j
   ·subst e;rw[if_pos rfl,if_pos (List.getElem?_eq_some_iff.1 hv').1,hv']
   ·rw[if_neg e]
  rw[hset,fz_fadd] at hhole
  have hcase: ∃q,v=hdr q (innerOf r i f).length/\ ∀(E':Env),E'.w=w->E'.ρ n=q->RootRel E' n (.row 0 0 (.ints .i64 (innerOf r i f))) F1:=by
   rcases k2 with ⟨p1,p2,p3⟩| ⟨b2,cap2,arr2,ty2,q1,q2,q3,q4,q5,q6⟩
   ·refine ⟨none,by rw[p1,p2];rfl,fun E' hw' hq=> .inl ⟨hq,by rw[p2];rfl,p3⟩⟩
   ·refine ⟨some (b2,cap2),by rw[q1];rfl,fun E' hw' hq=> .inr ⟨b2,cap2,arr2,ty2,fz,hq,by rw[hw'];exact q2,by simpa[Row.len] using q3,by simpa[Row.size] using q4,?_,by rw[fadd_fz];exact q6⟩⟩
    refine CellsRel.ofFz fun j c hj=> ?_
    simp only[Row.cells,List.getElem?_map] at hj
    cases hlj:(innerOf r i f)[j]? with
    |none=>rw[hlj] at hj;cases hj
    |some z=>
     rw[hlj] at hj
     cases hj
     exact ⟨_,by simpa using q5 j z hlj,rfl,rfl⟩
  obtain ⟨q,hvq,hrr⟩:=hcase
  have hat:=takeUp_at S.hp id n e ver i f r
  have hsum: ∀b',sumTo S.nx (putF (putF Fs id (fadd (f1 b) F2)) n F1) b' =sumTo S.nx Fs b':=fun b'=>by
   have e1:=sumTo_put (putF Fs id (fadd (f1 b) F2)) F1 b' hnlt
   have e2:=sumTo_put Fs (fadd (f1 b) F2) b' hidlt
   rw[putF_ne _ _ (Ne.symm hne),hg0] at e1
   rw[g5,k3] at e2
   simp at e1 e2
   omega
  refine ⟨q,putF (putF Fs id (fadd (f1 b) F2)) n F1,b,cap,rfl,by rw[putF_ne _ _ hne,putF_self];simp,?_,hvq⟩
  refine h.gen _ _ w _ _ (fun _=>False) (Nat.le_refl _) rfl rfl rfl (fun _ _ _=>rfl) (fun _ h=>h.elim) (Nat.le_refl _) (fun j hj hre=>newρ_ne _ _ (by rintro rfl;exact hre _ hg)) (fun j hj=> ?_) (fun j hj=> .inl ⟨by rw[hat,if_neg (by omega),if_neg (by omega)];exact h.mem.fresh j hj,by rw[putF_ne _ _ (by omega),putF_ne _ _ (by omega)];exact h.mem.dead j (h.mem.fresh j hj)⟩) (fun b'=>by rw[hsum];exact h.mem.one b') (fun b' hb'=> .inl (by rw[hsum] at hb';exact hb'))
  by_cases e1:j=n
  ·subst e1
   exact .turned .ghost _ hg (by rw[hat,if_pos rfl]) trivial (fun M=>by rw[putF_self];exact hrr _ rfl (newρ_self ..))
  ·by_cases e2:j=id
   ·subst e2
    refine .turned _ (.hole e ver r i f) hroot (by rw[hat,if_neg e1,if_pos rfl]) ⟨rfl,rfl,Nat.le_refl _⟩ (fun M=> ?_)
    rw[putF_ne _ _ e1,putF_self]
    refine ⟨hi,slAt_lt hs,.inr ⟨b,cap,arr,ty,F2,by show newρ ρ n q j=_;rw[newρ_ne _ _ e1];exact hρ,g1,g2,g3,?_,rfl⟩⟩
    exact hhole.mono (fun b hb=>M.zl b hb) (fun b _=>rfl)
   ·exact .same (by rw[hat,if_neg e1,if_neg e2]) (by rw[putF_ne _ _ e1,putF_ne _ _ e2]) (fun _ _ h=>h)
theorem setInnerRow_cells {i f:Nat} {y:List Int} {r r':Row} (h:setInnerRow i f y r=some r') (hs:r.slAt f=true) (hi:i<r.len):r'.cells=r.cells.set (i*r.size+f) (.sl true y)/\r'.len=r.len/\r'.size=r.size:=by
 unfold setInnerRow at h
 split at h
 ·rename_i l
  cases h
  have hf:f=0:=by simpa[Row.slAt] using hs
  subst hf
  exact ⟨by simp[Row.cells,Row.size],by simp[Row.len],rfl⟩
 ·rename_i sg l
  split at h
  ·rename_i hsg
   cases h
   have hi':i<l.length:=hi
   have hli:l[i]? =some l[i]:=List.getElem?_eq_getElem hi'
   have hgd:l.getD i [] =l[i]:=by simp[hi']
   refine ⟨?_,by simp[Row.len],rfl⟩
   simp only[Row.cells,Row.size]
   refine flatMap_set (fun r=>recCells true r 0 sg) sg.length (fun r=>recCells_length ..) f (List.getElem?_eq_some_iff.1 hsg).1 _ _ l i l[i] hli ?_
   rw[hgd]
   exact setLeaf_cells true sg l[i] f (.ints y) _ ⟨true,hsg,rfl⟩
  ·cases h
 ·cases h
theorem SRel.putBack (h:SRel C S a w ρ Fs) {id n e ver i f:Nat} {r r':Row} (hroot:S.hp id=some (.hole e ver r i f)) (hs:r.slAt f=true) {l:List Int} {e2 v2:Nat} (hn:S.hp n=some (.row e2 v2 (.ints .i64 l))) (hset:setInnerRow i f l r=some r') {v:Value} (hv:cellAt w (ρ id) (i*r.size+f)=some v) (hvq:v=hdr (ρ n) l.length):
 ∃Fs',SRel C ⟨S.sl,upd S.hp [(id,some (.row e (ver+1) r')),(n,none)],S.nx⟩ a w ρ Fs' /\Mono (C.env w ρ S.hp S.nx Fs) (C.env w ρ (upd S.hp [(id,some (.row e (ver+1) r')),(n,none)]) S.nx Fs'):=by
 have hne:id≠n:=by rintro rfl;rw[hroot] at hn;cases hn
 have hidlt:=live_lt h.mem hroot
 have hnlt:=live_lt h.mem hn
 obtain ⟨hi,hfs,hrow⟩:=h.mem.roots id _ hroot
 have hrow:RowRel w (C.ZL w (sumTo S.nx Fs)) (ρ id) (r.cells.set (i*r.size+f) .free) r.len r.size (Fs id):=hrow
 have hrn:RowRel w (C.ZL w (sumTo S.nx Fs)) (ρ n) (Row.ints .i64 l).cells l.length 1 (Fs n):=h.mem.roots n _ hn
 obtain ⟨c1,c2,c3⟩:=setInnerRow_cells hset hs hi
 rcases hrow with ⟨z1,z2,z3⟩| ⟨b,cap,arr,ty,F,g1,g2,g3,g4,g5,g6⟩
 ·rw[z1] at hv;cases hv
 rw[g1] at hv
 simp only[cellAt] at hv
 rw[cell?_plain g2] at hv
 have hv':arr.toList[i*r.size+f]? =some v:=by simpa using hv
 have hjlt:i*r.size+f<r.cells.length:=by
  rw[Row.cells_length]
  have:(i+1)*r.size<=r.len*r.size:=Nat.mul_le_mul_right _ hi
  rw[Nat.succ_mul] at this
  omega
 have hcf:(r.cells.set (i*r.size+f) .free)[i*r.size+f]? =some .free:=by rw[List.getElem?_set_self hjlt]
 obtain ⟨v',F1,F2,k1,k2,k3,k4⟩:=g5.get hcf
 rw[hv'] at k1;cases k1
 have hF1:F1=fz:=k2
 subst hF1
 have hcell:CellRel w (C.ZL w (sumTo S.nx Fs)) (.sl true l) v (Fs n):=by
  rcases hrn with ⟨y1,y2,y3⟩| ⟨b2,cap2,arr2,ty2,F',q1,q2,q3,q4,q5,q6⟩
  ·left
   refine ⟨by rw[hvq,y1];rfl,?_,y3⟩
   exact List.length_eq_zero_iff.1 y2
  ·right
   have hF':F' =fz:=plain_fz (fun c hc=>by
    simp only[Row.cells,List.mem_map] at hc
    obtain ⟨x,_,rfl⟩:=hc
    exact .inl ⟨_,rfl⟩) q5
   subst hF'
   refine ⟨b2,cap2,arr2,ty2,by rw[hvq,q1];rfl,q2,q3,by simpa using q4,fun j z hj=> ?_,by rw[q6,fadd_fz]⟩
   have hcj:(Row.ints .i64 l).cells[j]? =some (.sc (.int .i64 z)):=by simp[Row.cells,hj]
   obtain ⟨u,G1,G2,m1,m2,_⟩:=q5.get hcj
   have:u= .int .i64 z:=m2.1
   subst this
   simpa using m1
 have hnew:=k4 (.sl true l) v (Fs n) hcell
 have hset2:arr.toList.set (i*r.size+f) v=arr.toList:=by
  apply List.ext_getElem?
  intro j
  rw[List.getElem?_set]
  by_cases e:i*r.size+f=j
  ·subst e;rw[if_pos rfl,if_pos (List.getElem?_eq_some_iff.1 hv').1,hv']
  ·rw[if_neg e]
 rw[hset2,List.set_set] at hnew
 rw[fz_fadd] at k3
 have hat: ∀j,upd S.hp [(id,some (.row e (ver+1) r')),(n,none)] j=if j=n then none else if j=id then some (.row e (ver+1) r') else S.hp j:=fun j=>by
  rw[show [(id,some (Root.row e (ver+1) r')),(n,none)] =[(id,some (Root.row e (ver+1) r'))]++[(n,none)] from rfl,upd_append,upd_one,upd_one]
 have hsum: ∀b',sumTo S.nx (putF (putF Fs id (fadd (f1 b) (fadd (Fs n) F2))) n fz) b' =sumTo S.nx Fs b':=fun b'=>by
  have e1:=sumTo_put (putF Fs id (fadd (f1 b) (fadd (Fs n) F2))) fz b' hnlt
  have e2:=sumTo_put Fs (fadd (f1 b) (fadd (Fs n) F2)) b' hidlt
  rw[putF_ne _ _ (Ne.symm hne)] at e1
  rw[g6,k3] at e2
  simp at e1 e2
  omega
 refine ⟨putF (putF Fs id (fadd (f1 b) (fadd (Fs n) F2))) n fz,?_⟩
 refine h.genM _ _ w _ _ (fun _=>False) (Nat.le_refl _) rfl rfl rfl (fun _ _ _=>rfl) (fun _ h=>h.elim) (Nat.le_refl _) (fun j hj hre=>rfl) (fun j hj=> ?_) (fun j hj=> .inl ⟨by rw[hat,if_neg (by omega),if_neg (by omega)];exact h.mem.fresh j hj,by rw[putF_ne _ _ (by omega),putF_ne _ _ (by omega)];exact h.mem.dead j (h.mem.fresh j hj)⟩) (fun b'=>by rw[hsum];exact h.mem.one b') (fun b' hb'=> .inl (by rw[hsum] at hb';exact hb'))
 by_cases e1:j=n
 ·subst e1
  exact .gone (by rw[hat,if_pos rfl]) (putF_self ..)
 ·by_cases e2:j=id
  ·subst e2
   refine .turned _ (.row e (ver+1) r') hroot (by rw[hat,if_neg e1,if_pos rfl]) ⟨c2,c3,Nat.lt_succ_self _⟩ (fun M=> ?_)
   rw[putF_ne _ _ e1,putF_self]
   refine .inr ⟨b,cap,arr,ty,fadd (Fs n) F2,g1,g2,by rw[c2];exact g3,by rw[c3];exact g4,?_,rfl⟩
   rw[c1]
   exact hnew.mono (fun b hb=>M.zl b hb) (fun b _=>rfl)
  ·exact .same (by rw[hat,if_neg e1,if_neg e2]) (by rw[putF_ne _ _ e1,putF_ne _ _ e2]) (fun _ _ h=>h)
end
end Go.Proofs.YtbmmhdmljajcfaaGreatDoor.V
namespace Go.Proofs.YtbmmhdmljajcfaaGreatDoor.V
open Go
section
variable {R:Type} {P:Program}
def Enters (P:Program) (f:FuncId):Prop:= ∃fn,P.funcs[f]? =some fn/\(fn.name== "runtime.NumGoroutine")=false/\fn.body.isNone=false
structure GOK (P:Program) (G:Glob R):Prop where
 tt:TOK P G.tt
 call: ∀(f:FuncId) (g:Sig) (ds:List DV) (K:List DV->Option R) (r:R),G.sig f=some g->G.Φ f ds K=some r->Enters P f/\ ∃rs,Contract P f g ds rs/\K rs=some r
structure Call0 (P:Program) (G:Glob R) (f:FuncId) (g:Sig) (xs:List AV) (hp:Nat->Option Root) (n:Nat) (E:Eff) (ks io rc:List Nat) (ds rs rs':List DV) (vs:List A1) (up up':List (Nat×Option Root)) (n':Nat):Prop where
 to:toDVs G.tt hp g.modes g.params xs=some (ds,ks,io,rc)
 nd:nodupB (ks++io)=true
 dj:disjoint (ks++io) rc=true
 hio:io=ioIds g.modes xs
 con:Contract P f g ds (rs++rs')
 inn:inArgs G.tt g.results rs n=some (vs.map AV.one,up,n')
 cl: ∀d∈rs,clsV g.oc d
 bk:backs hp g.modes xs rs' some=some up'
 eff:E=⟨resAV vs,killUp ks++lentKill g.oc rc++up++up',n',[],ks++io++rc⟩
inductive Does (P:Program) (G:Glob R) (op:Op) (sl:Nat->AV) (hp:Nat->Option Root) (n:Nat) (E:Eff):Prop
 |plain (hf:isFn op=false) (he:evOp G.eff op sl hp n some=some E)
 |call (c:Call) (x:Operand) (hc:op= .call c) (hx:c.callee= .value x) (f:FuncId) (g:Sig) (hfn:St.rd G.nt sl x= .one (.l (.fn f))) (hg: ∃g0,G.sig f=some g0) (hen:Enters P f)
  (hni:innerArg g.modes (c.args.toList.map (St.rd G.nt sl))=none) {ks io rc:List Nat} {ds rs rs':List DV} {vs:List A1} {up up':List (Nat×Option Root)} {n':Nat} (h0:Call0 P G f g (c.args.toList.map (St.rd G.nt sl)) hp n E ks io rc ds rs rs' vs up up' n')
 |inner (c:Call) (x:Operand) (hc:op= .call c) (hx:c.callee= .value x) (f:FuncId) (g:Sig) (hfn:St.rd G.nt sl x= .one (.l (.fn f))) (hg: ∃g0,G.sig f=some g0) (hen:Enters P f)
  (id ver i fl e:Nat) (r r':Row) (hni:innerArg g.modes (c.args.toList.map (St.rd G.nt sl))=some (id,ver,i,fl)) (hr:hp id=some (.row e ver r)) (hro:r.owned=true) (hsl:r.slAt fl=true) (hi:i<r.len)
  {E0:Eff} {ks io rc:List Nat} {ds rs rs':List DV} {vs:List A1} {up up':List (Nat×Option Root)} {n':Nat} (h0:Call0 P G f g (putArg n g.modes (c.args.toList.map (St.rd G.nt sl))) (upd hp (takeUp id n e ver i fl r)) (n+1) E0 ks io rc ds rs rs' vs up up' n')
  {e2 v2 e3 v3 i3 f3:Nat} {l:List Int} {r3:Row} (hl:upd (upd hp (takeUp id n e ver i fl r)) E0.up n=some (.row e2 v2 (.ints .i64 l))) (hh:upd (upd hp (takeUp id n e ver i fl r)) E0.up id=some (.hole e3 v3 r3 i3 f3)) (hset:setInnerRow i fl l r=some r')
  (hE:E=⟨E0.v,takeUp id n e ver i fl r++E0.up++[(id,some (.row e (ver+1) r')),(n,none)],E0.nx,[],E0.rc⟩)
theorem dInts_bind {A B:Type} (oc:Cls) (k:IntKind) (d:DL) (K:List Int->Option A) (F:A->Option B):(dInts oc k d K).bind F=dInts oc k d fun l=>(K l).bind F:=by
 unfold dInts;split
 ·exact cond_bind ..
 ·rfl
theorem dBools_bind {A B:Type} (oc:Cls) (d:DL) (K:List Bool->Option A) (F:A->Option B):(dBools oc d K).bind F=dBools oc d fun l=>(K l).bind F:=by
 unfold dBools;split
 ·exact cond_bind ..
 ·rfl
theorem dStrs_bind {A B:Type} (oc:Cls) (d:DL) (K:List ByteArray->Option A) (F:A->Option B):(dStrs oc d K).bind F=dStrs oc d fun l=>(K l).bind F:=by
 unfold dStrs;split
 ·exact cond_bind ..
 ·rfl
theorem dRows_bind {A B:Type} (oc:Cls) (d:DL) (K:List (List Int)->Option A) (F:A->Option B):(dRows oc d K).bind F=dRows oc d fun l=>(K l).bind F:=by
 unfold dRows;split
 ·exact cond_bind ..
 ·rfl
theorem dRecs_bind {A B:Type} (oc:Cls) (sg:List Bool) (d:DL) (K:List (List Leaf)->Option A) (F:A->Option B):(dRecs oc sg d K).bind F=dRecs oc sg d fun l=>(K l).bind F:=by
 unfold dRecs;split
 ·exact cond_bind ..
 ·rfl
section
variable (hp:Nat->Option Root)
abbrev Ups:=List (Nat×Option Root)
theorem backLeaf_bind {A:Type} (x:LV) (d:DL) (K:Ups->Option A):backLeaf hp x d K=(backLeaf hp x d some).bind K:=by
 unfold backLeaf
 split
 ·rfl
 ·rfl
 ·rfl
 ·rfl
 ·rfl
 ·split
  ·rw[dInts_bind];rfl
  ·rw[dBools_bind];rfl
  ·rw[dStrs_bind];rfl
  ·rw[dRows_bind];rfl
  ·rw[dRecs_bind];rfl
  ·rfl
 ·rfl
theorem backLeafs_bind: ∀ {A:Type} (xs:List LV) (ds:List DL) (K:Ups->Option A),backLeafs hp xs ds K=(backLeafs hp xs ds some).bind K
 |_,[],ds,K=>by cases ds<;>rfl
 |_,x::xs,[],K=>rfl
 |_,x::xs,d::ds,K=>by
  show backLeaf hp x d (fun up=>backLeafs hp xs ds fun up'=>K (up++up'))=(backLeaf hp x d fun up=>backLeafs hp xs ds fun up'=>some (up++up')).bind K
  rw[backLeaf_bind hp x d (fun up=>backLeafs hp xs ds fun up'=>K (up++up')),backLeaf_bind hp x d (fun up=>backLeafs hp xs ds fun up'=>some (up++up'))]
  cases backLeaf hp x d some with
  |none=>rfl
  |some u=>
   show (backLeafs hp xs ds fun up'=>K (u++up'))=(backLeafs hp xs ds fun up'=>some (u++up')).bind K
   rw[backLeafs_bind xs ds (fun up'=>K (u++up')),backLeafs_bind xs ds (fun up'=>some (u++up'))]
   cases backLeafs hp xs ds some<;>rfl
theorem backCell_bind {A B:Type} (x:LV) (d:DL) (K:LV->Option A) (F:A->Option B):(backCell x d K).bind F=backCell x d fun y=>(K y).bind F:=by
 unfold backCell
 split
 ·cases d with
  |i k n=>simp only[dI];exact cond_bind ..
  |_=>rfl
 ·cases d<;>rfl
 ·cases d<;>rfl
 ·rw[dInts_bind]
 ·rfl
theorem backCells_bind {A B:Type}: ∀(xs:List LV) (ds:List DL) (K:List LV->Option A) (F:A->Option B),(backCells xs ds K).bind F=backCells xs ds fun y=>(K y).bind F
 | [],ds,K,F=>by cases ds<;>rfl
 |x::xs,[],K,F=>rfl
 |x::xs,d::ds,K,F=>by
  show (backCell x d fun y=>backCells xs ds fun ys=>K (y::ys)).bind F=backCell x d fun y=>backCells xs ds fun ys=>(K (y::ys)).bind F
  rw[backCell_bind]
  congr 1
  funext y
  exact backCells_bind xs ds _ F
theorem backPtr_bind {A:Type} (id:Nat) (d:DV) (K:Ups->Option A):backPtr hp id d K=(backPtr hp id d some).bind K:=by
 cases d with
 |ptr ds=>
  simp only[backPtr,dPtr]
  split
  ·rw[backCells_bind];rfl
  ·rfl
 |_=>rfl
theorem backAV_bind {A:Type} (x:AV) (d:DV) (K:Ups->Option A):backAV hp x d K=(backAV hp x d some).bind K:=by
 unfold backAV
 split
 ·split
  ·exact backPtr_bind ..
  ·cases d with
   |l d=>exact backLeaf_bind ..
   |_=>rfl
 ·cases d with
  |agg d=>exact backLeafs_bind ..
  |_=>rfl
 ·rfl
theorem backs_bind: ∀ {A:Type} (ms:List Mode) (xs:List AV) (ds:List DV) (K:Ups->Option A),backs hp ms xs ds K=(backs hp ms xs ds some).bind K
 |_,[],xs,ds,K=>by cases ds<;>rfl
 |_,.io::ms,[],ds,K=>by cases ds<;>rfl
 |_,.bor::ms,[],ds,K=>by cases ds<;>rfl
 |_,.mov::ms,[],ds,K=>by cases ds<;>rfl
 |_,.frz::ms,[],ds,K=>by cases ds<;>rfl
 |_,.bor::ms,x::xs,ds,K=>backs_bind ms xs ds K
 |_,.mov::ms,x::xs,ds,K=>backs_bind ms xs ds K
 |_,.frz::ms,x::xs,ds,K=>backs_bind ms xs ds K
 |_,.io::ms,x::xs,[],K=>rfl
 |_,.io::ms,x::xs,d::ds,K=>by
  show backAV hp x d (fun up=>backs hp ms xs ds fun up'=>K (up++up'))=(backAV hp x d fun up=>backs hp ms xs ds fun up'=>some (up++up')).bind K
  rw[backAV_bind hp x d (fun up=>backs hp ms xs ds fun up'=>K (up++up')),backAV_bind hp x d (fun up=>backs hp ms xs ds fun up'=>some (up++up'))]
  cases backAV hp x d some with
  |none=>rfl
  |some u=>
   show (backs hp ms xs ds fun up'=>K (u++up'))=(backs hp ms xs ds fun up'=>some (u++up')).bind K
   rw[backs_bind ms xs ds (fun up'=>K (u++up')),backs_bind ms xs ds (fun up'=>some (u++up'))]
   cases backs hp ms xs ds some<;>rfl
theorem backs_elim {ms:List Mode} {xs:List AV} {ds:List DV} {K:Ups->Option R} {r:R} (h:backs hp ms xs ds K=some r): ∃up,backs hp ms xs ds some=some up/\K up=some r:=by
 rw[backs_bind] at h
 exact Option.bind_eq_some_iff.1 h
end
theorem evCall0_elim {G:Glob R} (hG:GOK P G) {f:FuncId} {g:Sig} (hg:G.sig f=some g) {xs:List AV} {hp:Nat->Option Root} {n:Nat} {K:Eff->Option R} {r:R} (h:evCall0 G hp n f g xs K=some r):
 ∃c E ks io rc ds rs rs' vs up up' n',Call0 P G f (g.to c) xs hp n E ks io rc ds rs rs' vs up up' n' /\Enters P f/\K E=some r:=by
 unfold evCall0 at h
 split at h
 ·cases h
 ·rename_i ds ks io rc hto
  obtain ⟨hck,h3⟩:=bif_some h
  obtain ⟨hck,hio⟩:=and_bool hck
  obtain ⟨hnd,hdj⟩:=and_bool hck
  obtain ⟨hen,rs,hcon,h4⟩:=hG.call _ _ _ _ _ hg h3
  obtain ⟨ds1,ds2,xs,up,n',e,hin,hcl,h5⟩:=fromDVs_elim h4
  subst e
  obtain ⟨up',h6,h7⟩:=backs_elim _ h5
  exact ⟨ocOf g.oc g.results.length (ds1++ds2),_,ks,io,rc,ds,ds1,ds2,xs,up,up',n',⟨hto,hnd,hdj,eq_of_beq hio,hcon,hin,hcl,h6,rfl⟩,hen,h7⟩
theorem evOp_does {G:Glob R} (hG:GOK P G) {o:Op} {sl:Nat->AV} {hp:Nat->Option Root} {n:Nat} {K:Eff->Option R} {r:R} (h:evOp G o sl hp n K=some r): ∃E,Does P G o sl hp n E/\K E=some r:=by
 cases hf:isFn o with
 |false=>
  rw[evOp_bind K G o sl hf] at h
  obtain ⟨E,h1,h2⟩:=Option.bind_eq_some_iff.1 h
  exact ⟨E,.plain hf h1,h2⟩
 |true=>
  cases o with
  |call c=>
   simp only[isFn] at hf
   simp only[evOp] at h
   split at h
   ·rename_i b hc;rw[hc] at hf;cases hf
   ·rename_i x hx
    split at h
    ·rename_i f hfn
     unfold evCall at h
     split at h
     ·cases h
     ·rename_i g hg
      split at h
      ·rename_i hni
       obtain ⟨cl,E,ks,io,rc,ds,rs,rs',vs,up,up',n',h0,hen,hk⟩:=evCall0_elim hG hg h
       exact ⟨E,.call c x rfl hx f (g.to cl) hfn ⟨g,hg⟩ hen hni h0,hk⟩
      ·rename_i id ver i fl hni
       split at h
       ·rename_i e v r0 hr
        obtain ⟨hck,h3⟩:=bif_some h
        obtain ⟨hck,hi⟩:=and_bool hck
        obtain ⟨hck,hsl⟩:=and_bool hck
        obtain ⟨hver,hro⟩:=and_bool hck
        obtain rfl:=eq_of_beq hver
        obtain ⟨cl,E,ks,io,rc,ds,rs,rs',vs,up,up',n',h0,hen,hk⟩:=evCall0_elim hG hg h3
        split at hk
        ·rename_i l _ _ _ _ _ hl hh
         split at hk
         ·rename_i r' hset
          exact ⟨_,.inner c x rfl hx f (g.to cl) hfn ⟨g,hg⟩ hen id _ i fl e r0 r' hni hr hro hsl (by simpa[Nat.blt_eq] using hi) h0 hl hh hset rfl,hk⟩
         ·cases hk
        ·cases hk
       ·cases h
    ·cases h
   ·cases h
  |_=>cases hf
variable {tt:TT} {hp hp':Nat->Option Root}
theorem toDL_sub (hs:Sub hp hp') {m:Mode} {t:Nat} {x:LV} {r:DL×List Nat×List Nat×List Nat} (h:toDL tt hp m t x=some r):toDL tt hp' m t x=some r:=by
 have view: ∀x,(match viewRow hp x with|some (r,rc)=>some (DL.sl .lent r,([]:List Nat),([]:List Nat),rc)|none=>none)=some r->(match viewRow hp' x with|some (r,rc)=>some (DL.sl .lent r,([]:List Nat),([]:List Nat),rc)|none=>none)=some r:=fun x h=>by
  split at h
  ·rename_i h1;rw[viewRow_sub hs h1];exact h
  ·cases h
 cases x with
 |val p r=>exact h
 |own id=>
  cases m with
  |bor=>exact view _ h
  |frz=>cases h
  |mov=>
   simp only[toDL] at h ⊢
   split at h
   ·rename_i h1;simp only[hs _ _ h1];exact h
   ·cases h
  |io=>
   simp only[toDL] at h ⊢
   split at h
   ·rename_i h1;simp only[hs _ _ h1];exact h
   ·cases h
 |sub id lo hi=>
  cases m with
  |bor=>exact view _ h
  |frz=>cases h
  |mov=>
   cases lo with
   |zero=>
    simp only[toDL] at h ⊢
    split at h
    ·rename_i h1;simp only[hs _ _ h1];exact h
    ·cases h
   |succ lo=>cases h
  |io=>cases h
 |inner id ver i f=>
  cases m with
  |bor=>exact view _ h
  |frz=>cases h
  |mov=>cases h
  |io=>
   simp only[toDL] at h ⊢
   split at h
   ·rename_i h1;simp only[hs _ _ h1];exact h
   ·cases h
 |bptr id k=>cases m<;>cases h
 |arr id k=>cases m<;>cases h
 |eptr id i f=>cases m<;>cases h
 |iptr id v i f j=>cases m<;>cases h
 |vptr p r i f=>cases m<;>cases h
 |any=>cases m<;>cases h
 |undef=>cases m<;>cases h
 |fn f=>cases m<;>cases h
 |_=>exact h
theorem toDLs_sub (hs:Sub hp hp') {m:Mode}: ∀ {ts:List Nat} {xs:List LV} {r:List DL×List Nat×List Nat×List Nat},toDLs tt hp m ts xs=some r->toDLs tt hp' m ts xs=some r
 | [],[],r,h=>h
 | [],_::_,_,h=>by simp[toDLs] at h
 |_::_,[],_,h=>by simp[toDLs] at h
 |t::ts,x::xs,r,h=>by
  simp only[toDLs] at h ⊢
  split at h
  ·rename_i h1
   split at h
   ·rename_i h2
    rw[toDL_sub hs h1]
    simp only[]
    rw[toDLs_sub hs h2]
    exact h
   ·cases h
  ·cases h
theorem boxAt_sub (hs:Sub hp hp') {t id:Nat} {ds:List DL} (h:boxAt tt hp t id=some ds):boxAt tt hp' t id=some ds:=by
 unfold boxAt at h ⊢
 cases hq:isPtr tt t with
 |false=>rw[hq] at h;cases h
 |true=>
  rw[hq,cond_true] at h
  rw[cond_true]
  split at h
  ·rename_i h1;rw[hs _ _ h1];exact h
  ·cases h
theorem toDV_sub (hs:Sub hp hp') {m:Mode} {t:Nat} {x:AV} {r:DV×List Nat×List Nat×List Nat} (h:toDV tt hp m t x=some r):toDV tt hp' m t x=some r:=by
 match x,h with
 | .one (.l x),h=>
   simp only[toDV] at h ⊢
   split at h
   ·cases m with
    |io=>
     simp only[toPtr] at h ⊢
     split at h
     ·rename_i h1;rw[boxAt_sub hs h1];exact h
     ·cases h
    |_=>cases h
   ·split at h
    ·rename_i h1;rw[toDL_sub hs h1];exact h
    ·cases h
 | .one (.agg xs),h=>
   simp only[toDV] at h ⊢
   split at h
   ·rename_i h1;rw[toDLs_sub hs h1];exact h
   ·cases h
theorem toDVs_sub (hs:Sub hp hp'): ∀ {ms:List Mode} {ts:List Nat} {xs:List AV} {r:List DV×List Nat×List Nat×List Nat},toDVs tt hp ms ts xs=some r->toDVs tt hp' ms ts xs=some r
 |ms,[],[],r,h=>h
 |_,[],_::_,_,h=>by simp[toDVs] at h
 |_,_::_,[],_,h=>by simp[toDVs] at h
 |ms,t::ts,x::xs,r,h=>by
  simp only[toDVs] at h ⊢
  split at h
  ·rename_i h1
   split at h
   ·rename_i h2
    rw[toDV_sub hs h1]
    simp only[]
    rw[toDVs_sub hs h2]
    exact h
   ·cases h
  ·cases h
theorem upd_sub (hs:Sub hp hp'): ∀(up:List (Nat×Option Root)),Sub (upd hp up) (upd hp' up):=by
 intro up
 induction up generalizing hp hp' with
 |nil=>exact hs
 |cons p up ih=>
  obtain ⟨i,r⟩:=p
  refine ih fun j r' h=> ?_
  cases e:j==i with
  |true=>simp only[e,cond_true] at h ⊢;exact h
  |false=>simp only[e,cond_false] at h ⊢;exact hs _ _ h
theorem backLeaf_sub (hs:Sub hp hp') {x:LV} {d:DL} {K:Ups->Option R} {r:R} (h:backLeaf hp x d K=some r):backLeaf hp' x d K=some r:=by
 cases x with
 |own id=>
  simp only[backLeaf] at h ⊢
  cases hq:hp id with
  |none=>rw[hq] at h;cases h
  |some root=>rw[hs _ _ hq];rw[hq] at h;exact h
 |_=>exact h
theorem backLeafs_sub (hs:Sub hp hp') {r:R}: ∀ {xs:List LV} {ds:List DL} {K:Ups->Option R},backLeafs hp xs ds K=some r->backLeafs hp' xs ds K=some r
 | [],ds,K,h=>h
 |x::xs,[],K,h=>by cases h
 |x::xs,d::ds,K,h=>by
  have h:backLeaf hp x d (fun up=>backLeafs hp xs ds fun up'=>K (up++up'))=some r:=h
  show backLeaf hp' x d (fun up=>backLeafs hp' xs ds fun up'=>K (up++up'))=some r
  rw[backLeaf_bind] at h
  obtain ⟨u,h1,h2⟩:=Option.bind_eq_some_iff.1 h
  rw[backLeaf_bind,backLeaf_sub hs h1]
  exact backLeafs_sub hs h2
theorem backAV_sub (hs:Sub hp hp') {x:AV} {d:DV} {K:Ups->Option R} {r:R} (h:backAV hp x d K=some r):backAV hp' x d K=some r:=by
 match x,h with
 | .one (.l x),h=>
   simp only[backAV] at h ⊢
   split at h
   ·rename_i id hid
    obtain ⟨ds,rfl,h1⟩:=dPtr_some h
    simp only[backPtr,dPtr]
    split at h1
    ·rename_i h2;rw[hs _ _ h2];exact h1
    ·cases h1
   ·obtain ⟨d',rfl,h1⟩:=dL_some h
    exact backLeaf_sub hs h1
 | .one (.agg x),h=>
   obtain ⟨d',rfl,h1⟩:=dAgg_some h
   exact backLeafs_sub hs h1
theorem backs_sub (hs:Sub hp hp') {r:R}: ∀ {ms:List Mode} {xs:List AV} {ds:List DV} {K:Ups->Option R},backs hp ms xs ds K=some r->backs hp' ms xs ds K=some r
 | [],_,_,_,h=>h
 | .io::ms,[],_,_,h=>h
 | .bor::ms,[],_,_,h=>h
 | .mov::ms,[],_,_,h=>h
 | .frz::ms,[],_,_,h=>h
 | .bor::ms,x::xs,ds,K,h=>backs_sub (ms:=ms) (xs:=xs) hs h
 | .mov::ms,x::xs,ds,K,h=>backs_sub (ms:=ms) (xs:=xs) hs h
 | .frz::ms,x::xs,ds,K,h=>backs_sub (ms:=ms) (xs:=xs) hs h
 | .io::ms,x::xs,[],_,h=>by cases h
 | .io::ms,x::xs,d::ds,K,h=>by
   have h:backAV hp x d (fun up=>backs hp ms xs ds fun up'=>K (up++up'))=some r:=h
   show backAV hp' x d (fun up=>backs hp' ms xs ds fun up'=>K (up++up'))=some r
   rw[backAV_bind] at h
   obtain ⟨u,h1,h2⟩:=Option.bind_eq_some_iff.1 h
   rw[backAV_bind,backAV_sub hs h1]
   exact backs_sub (ms:=ms) (xs:=xs) hs h2
theorem Call0.sub {G:Glob R} (hs:Sub hp hp') {f:FuncId} {g:Sig} {xs:List AV} {n:Nat} {E:Eff} {ks io rc:List Nat} {ds rs rs':List DV} {vs:List A1} {up up':List (Nat×Option Root)} {n':Nat} (h:Call0 P G f g xs hp n E ks io rc ds rs rs' vs up up' n'):Call0 P G f g xs hp' n E ks io rc ds rs rs' vs up up' n':=
 {h with to:=toDVs_sub hs h.to,bk:=backs_sub hs h.bk}
theorem Does.sub {G:Glob R} (hs:Sub hp hp') {op:Op} {sl:Nat->AV} {n:Nat} {E:Eff} (h:Does P G op sl hp n E):Does P G op sl hp' n E:=by
 cases h with
 |plain hf he=>exact .plain hf (evOp_sub hs hf he)
 |call c x hc hx f g hfn hg hen hni h0=>exact .call c x hc hx f g hfn hg hen hni (h0.sub hs)
 |inner c x hc hx f g hfn hg hen id ver i fl e r r' hni hr hro hsl hi h0 hl hh hset hE=>
  exact .inner c x hc hx f g hfn hg hen id ver i fl e r r' hni (hs _ _ hr) hro hsl hi (h0.sub (upd_sub hs _)) (upd_sub (upd_sub hs _) _ _ _ hl) (upd_sub (upd_sub hs _) _ _ _ hh) hset hE
theorem evOp_congr (G:Glob R) {o:Op} {sl sl':Nat->AV} (hf:isFn o=false) {n:Nat} {K:Eff->Option R} (h: ∀x∈o.operands.toList,St.rd G.nt sl x=St.rd G.nt sl' x):evOp G o sl hp n K=evOp G o sl' hp n K:=by
 cases o with
 |call c=>
  simp only[Op.operands,Call.operands] at h
  simp only[isFn] at hf
  have ha:c.args.toList.map (St.rd G.nt sl)=c.args.toList.map (St.rd G.nt sl'):=List.map_congr_left fun x hx=>h x (by simp only[Array.toList_append,List.mem_append];exact .inr hx)
  simp only[evOp]
  split
  ·rename_i b hb;simp only[ha]
  ·rename_i f hc;rw[hc] at hf;cases hf
  ·rfl
 |build t ps=>
  have ha:ps.toList.map (fun p=>(p.1,St.rd G.nt sl p.2))=ps.toList.map (fun p=>(p.1,St.rd G.nt sl' p.2)):=List.map_congr_left fun p hp=>by rw[h p.2 (by simp[Op.operands];exact ⟨p.1,by simpa using hp⟩)]
  simp only[evOp,ha]
 |buildSlice t m ps=>
  have ha:ps.toList.map (fun p=>(p.1,St.rd G.nt sl p.2))=ps.toList.map (fun p=>(p.1,St.rd G.nt sl' p.2)):=List.map_congr_left fun p hp=>by rw[h p.2 (by simp[Op.operands];exact ⟨p.1,by simpa using hp⟩)]
  simp only[evOp,ha]
 |slice t x lo hi mx=>
  simp only[Op.operands] at h
  have hx:St.rd G.nt sl x=St.rd G.nt sl' x:=h x (by simp)
  have hlo:lo.map (St.rd G.nt sl)=lo.map (St.rd G.nt sl'):=by cases lo with
   |none=>rfl
   |some y=>simp only[Option.map_some];rw[h y (by simp)]
  have hhi:hi.map (St.rd G.nt sl)=hi.map (St.rd G.nt sl'):=by cases hi with
   |none=>rfl
   |some y=>simp only[Option.map_some];rw[h y (by simp)]
  simp only[evOp,hx,hlo,hhi]
 |_=>simp only[Op.operands] at h;simp[evOp] at h ⊢ <;>simp[h]
theorem Does.congr {G:Glob R} {op:Op} {sl sl':Nat->AV} {n:Nat} {E:Eff} (hh: ∀x∈op.operands.toList,St.rd G.nt sl x=St.rd G.nt sl' x) (h:Does P G op sl hp n E):Does P G op sl' hp n E:=by
 cases h with
 |plain hf he=>exact .plain hf (by rw[<- evOp_congr G.eff hf hh];exact he)
 |call c x hc hx f g hfn hg hen hni h0=>
  subst hc
  simp only[Op.operands,Call.operands,hx] at hh
  have ha:c.args.toList.map (St.rd G.nt sl)=c.args.toList.map (St.rd G.nt sl'):=List.map_congr_left fun y hy=>hh y (by simp only[Array.toList_append,List.mem_append];exact .inr hy)
  exact .call c x rfl hx f g (by rw[<- hh x (by simp)];exact hfn) hg hen (by rw[<- ha];exact hni) (by rw[<- ha];exact h0)
 |inner c x hc hx f g hfn hg hen id ver i fl e r r' hni hr hro hsl hi h0 hl hq hset hE=>
  subst hc
  simp only[Op.operands,Call.operands,hx] at hh
  have ha:c.args.toList.map (St.rd G.nt sl)=c.args.toList.map (St.rd G.nt sl'):=List.map_congr_left fun y hy=>hh y (by simp only[Array.toList_append,List.mem_append];exact .inr hy)
  exact .inner c x rfl hx f g (by rw[<- hh x (by simp)];exact hfn) hg hen id ver i fl e r r' (by rw[<- ha];exact hni) hr hro hsl hi (by rw[<- ha];exact h0) hl hq hset hE
end
section
variable {R:Type} {P:Program} {C:Cx} {S:St} {a:Act} {w:World} {ρ:Place} {Fs:Nat->FP}
theorem run_enter {ρ:Operand->Value} {o:Oper} {c:Call} {x:Operand} {f:FuncId} (h:o.op= .call c) (hx:c.callee= .value x) (hf:ρ x= .func (.func f) #[] #[]) (he:Enters P f) (w:World):(execOp ρ o).run P w= .ok (.enter f (c.args.map ρ)) w:=by
 obtain ⟨fn,h1,h2,h3⟩:=he
 have h2: ¬fn.name= "runtime.NumGoroutine" :=by simpa using h2
 have h3: ¬fn.body=none:=by intro e;rw[e] at h3;cases h3
 simp[execOp,h,resolve,hx,hf,Deferred.ofValue,invoke,callFunc,go_sem,h1,h2,h3]
theorem args_rel {G:Glob R} (hN:G.nt=C.N) (h:SRel C S a w ρ Fs): ∀xs:List Operand,AVsRel (C.env w ρ S.hp S.nx Fs) (xs.map (St.rd G.nt S.sl)) (xs.map a.eval)
 | []=>trivial
 |x::xs=>⟨by rw[hN];exact h.rd x,args_rel hN h xs⟩
theorem Call0.main {G:Glob R} {f:FuncId} {g:Sig} {ax:List AV} {n:Nat} {E:Eff} {ks io rc:List Nat} {ds rs rs':List DV} {vs:List A1} {up up':List (Nat×Option Root)} {n':Nat} (h:SRel C S a w ρ Fs) (h0:Call0 P G f g ax S.hp n E ks io rc ds rs rs' vs up up' n') {args:List Value} (hax:AVsRel (C.env w ρ S.hp S.nx Fs) ax args) (hnx:n' <=S.nx) (hgh: ∀k,n<=k->k<n'->S.hp k=some .ghost):
 C.P0=P->Calls P f args.toArray w fun e w'=> ∃v ρ' Fs',e= .returned v/\
  (∀id,id∉ks++io-> ∀b,1<=Fs id b->w'.heap[b]? =w.heap[b]?)/\(∀id,id<S.nx->(∀root,S.hp id=some root->root.real)->ρ' id=ρ id)/\RowsAt S.hp (ks++io)/\Named n n' up/\(∀p∈up',p.1∈io)/\
  (∀id∈io,∃root root',S.hp id=some root/\(∀hp,upd hp up' id=some root')/\ ∀e ver r0,root= .row e ver r0-> ∃r1,root' = .row e (ver+1) r1/\r1.len=r0.len)/\
  SRel C ⟨S.sl,upd S.hp E.up,S.nx⟩ a w' ρ' Fs' /\AVRel (C.env w' ρ' (upd S.hp E.up) S.nx Fs') E.v v:=by
 intro hP
 have hnd:=nodupB_sound h0.nd
 have hdj:=disjoint_sound h0.dj
 obtain ⟨F,a1,a2,a3⟩:=toDVs_sound h.mem _ _ _ _ _ _ _ _ h0.to hax
 have hlt:=a3.lt h.mem
 have hgood:=call_good h.mem hnd hlt a2 hdj
 have hF1: ∀b,F b<=1:=fun b=>by have:=a2 b;have:=sumL_le Fs b S.nx hnd hlt;have:=h.mem.one b;omega
 have hF2: ∀b,1<=F b->b<w.heap.size:=fun b hb=>(h.mem.mine b (by have:=a2 b;have:=sumL_le Fs b S.nx hnd hlt;omega)).1
 have hcall:=h0.con (callCx C S w Fs F rc (h.mem.ground _) hgood) _ hP a1 hF1 hF2
 refine Calls.mono hcall fun e w' he=> ?_
 obtain ⟨v,ρ',Fs',up2,rfl,k1,k2,k3,k4,k5,k6,k7,k8⟩:=call_back (tt:=G.tt) h hax h0.hio hnd a3 a2 hdj h0.inn h0.cl hnx hgh h0.bk he
 cases k1
 obtain rfl:=h0.eff
 refine ⟨v,ρ',Fs',rfl,fun id hid b hb=> ?_,k4,a3,inArgs_named _ _ _ _ _ _ h0.cl h0.inn,k2,k6,k7,k8⟩
 have hi:=Fs_lt h.mem hb
 have h1:=sumL_out Fs b S.nx hnd hlt hi hid
 have h2:=h.mem.one b
 have h3:=h.mem.mine b (by have:=sumTo_le Fs b hi;omega)
 refine k3 b h3.1 ?_
 have:=a2 b
 omega
theorem innerArg_rel {E:Env} {id ver i fl n:Nat}: ∀ {ms:List Mode} {xs:List AV} {vs:List Value},innerArg ms xs=some (id,ver,i,fl)->AVsRel E xs vs->(∃v,LVRel E (.inner id ver i fl) v/\ ∀E',LVRel E' (.own n) v->AVsRel E' xs vs->AVsRel E' (putArg n ms xs) vs)
 | [],xs,vs,h,_=>by cases xs<;>simp[innerArg] at h
 |m::ms,[],vs,h,_=>by cases m<;>simp[innerArg] at h
 |m::ms,x::xs,[],h,hv=>hv.elim
 | .bor::ms,x::xs,v::vs,h,hv=>by
   obtain ⟨u,h1,h2⟩:=innerArg_rel (ms:=ms) (xs:=xs) (by simpa[innerArg] using h) hv.2
   exact ⟨u,h1,fun E' hu hh=>⟨hh.1,h2 E' hu hh.2⟩⟩
 | .mov::ms,x::xs,v::vs,h,hv=>by
   obtain ⟨u,h1,h2⟩:=innerArg_rel (ms:=ms) (xs:=xs) (by simpa[innerArg] using h) hv.2
   exact ⟨u,h1,fun E' hu hh=>⟨hh.1,h2 E' hu hh.2⟩⟩
 | .frz::ms,x::xs,v::vs,h,hv=>by
   obtain ⟨u,h1,h2⟩:=innerArg_rel (ms:=ms) (xs:=xs) (by simpa[innerArg] using h) hv.2
   exact ⟨u,h1,fun E' hu hh=>⟨hh.1,h2 E' hu hh.2⟩⟩
 | .io::ms,x::xs,v::vs,h,hv=>by
   by_cases hx: ∃a b c d,x= .one (.l (.inner a b c d))
   ·obtain ⟨a,b,c,d,rfl⟩:=hx
    simp only[innerArg,Option.some.injEq,Prod.mk.injEq] at h
    obtain ⟨rfl,rfl,rfl,rfl⟩:=h
    exact ⟨v,hv.1,fun E' hu hh=>⟨hu,hh.2⟩⟩
   ·have e1:innerArg (.io::ms) (x::xs)=innerArg ms xs:=by
     rcases x with (y|ys)|ys
     ·cases y<;>first|rfl|exact absurd ⟨_,_,_,_,rfl⟩ hx
     ·rfl
     ·rfl
    have e2:putArg n (.io::ms) (x::xs)=x::putArg n ms xs:=by
     rcases x with (y|ys)|ys
     ·cases y<;>first|rfl|exact absurd ⟨_,_,_,_,rfl⟩ hx
     ·rfl
     ·rfl
    rw[e1] at h
    obtain ⟨u,h1,h2⟩:=innerArg_rel h hv.2
    exact ⟨u,h1,fun E' hu hh=>by rw[e2];exact ⟨hh.1,h2 E' hu hh.2⟩⟩
theorem Does.wp {G:Glob R} (hG:GOK P G) (hN:NOK P G.nt C) (h:SRel C S a w ρ Fs) {o:Oper} {n:Nat} {E:Eff} (hd:Does P G o.op S.sl S.hp n E) (hgh: ∀k,n<=k->k<E.nx->S.hp k=some .ghost) (hnx:E.nx<=S.nx) {next:Act->World->Prop} {Q:Exit->Act->World->Prop}
 (hnext: ∀u w' ρ' Fs',SRel C ⟨S.sl,upd S.hp E.up,S.nx⟩ a w' ρ' Fs'->AVRel (C.env w' ρ' (upd S.hp E.up) S.nx Fs') E.v u->next (a.put o.dst u) w'):o.wp P a w next Q:=by
 cases hd with
 |plain hf he=>
  obtain ⟨w',ρ',Fs',u,hr,hrel,hv⟩:=evOp_sound (P:=P) (G:=G.eff) hG.tt hN.nt h hf he hgh
  unfold Oper.wp
  rcases hr with hr| ⟨hr,rfl⟩
  ·rw[hr];exact hnext _ _ _ _ hrel hv
  ·rw[hr];exact hnext _ _ _ _ hrel hv
 |call c x hc hx f g hfn hg hen hni h0=>
  have hxv:=h.rd x
  rw[<- hN.nt,hfn] at hxv
  have hxv:a.eval x= .func (.func f) #[] #[]:=hxv
  unfold Oper.wp
  rw[run_enter hc hx hxv hen w]
  have hargs:(c.args.toList.map a.eval).toArray=c.args.map a.eval:=by rw[<- Array.toList_map,Array.toArray_toList]
  have hE:E.nx=_:=congrArg Eff.nx h0.eff
  have hcall:=h0.main h (args_rel hN.nt h c.args.toList) (by rw[hE] at hnx;exact hnx) (by rw[hE] at hgh;exact hgh) hN.p
  rw[hargs] at hcall
  refine Calls.mono hcall fun e w' he=> ?_
  obtain ⟨v,ρ',Fs',rfl,_,_,_,_,_,_,h1,h2⟩:=he
  exact hnext _ _ _ _ h1 h2
 |inner c x hc hx f g hfn hg hen id ver i fl e r r' hni hr hro hsl hi h0 hl hh hset hE=>
  rename_i E0 ks io rc ds rs rs' vs up up' n' e2 v2 e3 v3 i3 f3 l r3
  have hxv:=h.rd x
  rw[<- hN.nt,hfn] at hxv
  have hxv:a.eval x= .func (.func f) #[] #[]:=hxv
  unfold Oper.wp
  rw[run_enter hc hx hxv hen w]
  have hargs:(c.args.toList.map a.eval).toArray=c.args.map a.eval:=by rw[<- Array.toList_map,Array.toArray_toList]
  have hE0:E0.nx=n':=congrArg Eff.nx h0.eff
  have hEu:E0.up=killUp ks++lentKill g.oc rc++up++up':=congrArg Eff.up h0.eff
  obtain rfl:=hE
  simp only[] at hgh hnx hnext
  have hN1:=inArgs_named _ _ _ _ _ _ h0.cl h0.inn
  have hlt:=hN1.1
  have hax:=args_rel hN.nt h c.args.toList
  obtain ⟨v,hv,hput⟩:=innerArg_rel (n:=n) hni hax
  obtain ⟨_,hv⟩:=hv
  obtain ⟨_,_,hv⟩:=hv _ hr
  obtain ⟨_,_,hcell⟩:=hv _ _ rfl
  have hcell:cellAt w (ρ id) (i*r.size+fl)=some v:=hcell
  have hng:S.hp n=some .ghost:=hgh n (Nat.le_refl _) (by rw[hE0];omega)
  have hne:id≠n:=by rintro rfl;rw[hr] at hng;cases hng
  obtain ⟨q,Fs1,b,cap,hρ,hFb,h1,hvq⟩:=h.takeAny hng hr hro hsl hi hcell
  have hat:=takeUp_at S.hp id n e ver i fl r
  generalize hS1:upd S.hp (takeUp id n e ver i fl r)=hp1 at*
  have hp1n:hp1 n=some (.row 0 0 (.ints .i64 (innerOf r i fl))):=by rw[hat,if_pos rfl]
  have hp1id:hp1 id=some (.hole e ver r i fl):=by rw[hat,if_neg hne,if_pos rfl]
  have hnlt:=live_lt h.mem hng
  have hax1:=hput (C.env w (newρ ρ n q) hp1 S.nx Fs1) ⟨hnlt,fun root hroot=>by
   have hroot:hp1 n=some root:=hroot
   rw[hp1n] at hroot;cases hroot
   exact ⟨_,rfl,by rw[hvq];show hdr q _=hdr (newρ ρ n q n) _;rw[newρ_self];rfl⟩⟩ (args_rel hN.nt h1 c.args.toList)
  have hcall:=h0.main h1 hax1 (by rw[hE0] at hnx;exact hnx) (fun k k1 k2=>by
   show hp1 k=some .ghost
   rw[hat,if_neg (by omega),if_neg (by rintro rfl;have:=hgh k (by omega) (by rw[hE0];exact k2);rw[hr] at this;cases this)]
   exact hgh k (by omega) (by rw[hE0];exact k2)) hN.p
  rw[hargs] at hcall
  refine Calls.mono hcall fun e4 w' he=> ?_
  obtain ⟨v4,ρ',Fs',rfl,k1,k2,k3,k4,k5,k6,h2,h3⟩:=he
  have hidout:id∉ks++io:=fun hh=>by
   obtain ⟨_,hk,hso⟩:=k3 id hh
   have hk:hp1 id=_:=hk
   rw[hp1id] at hk;cases hk;exact hso
  have hup: ∀hp,upd hp up id=hp id:=fun hp=>upd_out _ _ fun p hp e5=>by
   obtain ⟨m1,m2⟩:=k4.2.1 p hp
   rw[e5] at m1 m2
   have:=hgh id (by omega) (by rw[hE0];exact m2)
   rw[hr] at this;cases this
  have hup': ∀hp,upd hp up' id=hp id:=fun hp=>upd_out _ _ fun p hp e5=>hidout (by rw[<- e5];simp[k5 p hp])
  have hid2:upd hp1 E0.up id=some (.hole e ver r i fl):=by
   have hh2:=hh
   rw[hEu,upd_append,upd_append,upd_append,hup',hup,upd_kill,lentKill_upd,kill_kill] at hh2 ⊢
   generalize (ks++match g.oc with| .lent=>rc|_=>[])=kk at hh2 ⊢
   rw[kill_at] at hh2 ⊢
   split at hh2
   ·cases hh2
   ·rename_i hnk;rw[if_neg hnk];exact hp1id
  have hρid:ρ' id=ρ id:=by
   rw[k2 id (live_lt h.mem hr) (fun root hroot=>by have hroot:hp1 id=some root:=hroot;rw[hp1id] at hroot;cases hroot;trivial),newρ_ne _ _ hne]
  have hρn:ρ' n=q:=by
   rw[k2 n hnlt (fun root hroot=>by have hroot:hp1 n=some root:=hroot;rw[hp1n] at hroot;cases hroot;trivial),newρ_self]
  have hcell':cellAt w' (ρ' id) (i*r.size+fl)=some v:=by
   rw[hρid,hρ]
   rw[hρ] at hcell
   have:=k1 id hidout b hFb
   simp only[cellAt,World.cell?] at hcell ⊢
   rw[this];exact hcell
  have hlen:l.length=(innerOf r i fl).length:=by
   rw[hEu,upd_append] at hl
   by_cases hnio:n∈io
   ·obtain ⟨root,root',m1,m2,m4⟩:=k6 n hnio
    have m1:hp1 n=_:=m1
    rw[hp1n] at m1;cases m1
    obtain ⟨r6,rfl,m3⟩:=m4 _ _ _ rfl
    rw[m2] at hl
    cases hl
    simpa[Row.len] using m3
   ·rw[upd_out _ _ (fun p hp e5=>hnio (by rw[<- e5];exact k5 p hp)),upd_append,upd_out _ _ (fun p hp e5=>by have:=(k4.2.1 p hp).1;omega),upd_append,upd_kill,lentKill_upd,kill_kill] at hl
    generalize (ks++match g.oc with| .lent=>rc|_=>[])=kk at hl
    rw[kill_at] at hl
    split at hl
    ·cases hl
    ·rw[hp1n] at hl;cases hl;rfl
  obtain ⟨Fs'',h4,hM⟩:=h2.putBack hid2 hsl hl hset hcell' (by rw[hvq,hρn,hlen])
  have hupE:upd S.hp (takeUp id n e ver i fl r++E0.up++[(id,some (Root.row e (ver+1) r')),(n,none)])=upd (upd hp1 E0.up) [(id,some (Root.row e (ver+1) r')),(n,none)]:=by
   rw[upd_append,upd_append,hS1]
  rw[hupE] at hnext
  exact hnext v4 w' ρ' Fs'' h4 (h3.mono hM)
end
end Go.Proofs.YtbmmhdmljajcfaaGreatDoor.V
namespace Go.Proofs.YtbmmhdmljajcfaaGreatDoor.V
open Go
section
variable {R:Type} {P:Program}
structure Stp where
 i:Nat
 o:Oper
 n:Nat
 E:Eff
 h:Nat->Option Root
 w:List Nat
 ids:List Nat
def Stp.log (s:Stp):Log:=⟨s.o,s.w,s.ids⟩
def guardIs (ops:Array Oper) (sl:Nat->AV) (o:Oper):Option Bool:=match o.guard with
 |none=>some true
 |some (j,want)=>match dstOf ops j with
  |none=>none
  |some t=>match sl t with
   | .one (.l (.b x))=>some (x==want)
   | .one (.l .undef)=>some false
   |_=>none
def St.go (S:St) (s:Stp):St:=St.put ⟨S.sl,upd S.hp s.E.up,S.nx⟩ s.o.dst s.E.v
structure StpOK (P:Program) (G:Glob R) (ops:Array Oper) (s:Stp) (S:St):Prop where
 dst: ∀d,s.o.dst=some d->d<G.nt
 gt: ∀j want t,s.o.guard=some (j,want)->dstOf ops j=some t->t<G.nt
 upw: ∀p∈s.E.up,p.1∈s.w
 run:(guardIs ops S.sl s.o=some true/\Sub s.h S.hp/\Does P G s.o.op S.sl s.h s.n s.E/\(∀k,s.n<=k->k<s.E.nx->S.hp k=some .ghost/\k∈s.w)/\s.E.nx<=S.nx)\/(guardIs ops S.sl s.o=some false/\s.E=skipEff s.n)
inductive Runs (P:Program) (G:Glob R) (ops:Array Oper):List Stp->St->St->Prop
 |nil (S:St):Runs P G ops [] S S
 |cons {s:Stp} {l:List Stp} {S S':St} (h:StpOK P G ops s S) (hr:Runs P G ops l (S.go s) S'):Runs P G ops (s::l) S S'
theorem St.go_hp (S:St) (s:Stp):(S.go s).hp=upd S.hp s.E.up:=by unfold St.go St.put;split<;>rfl
theorem St.go_nx (S:St) (s:Stp):(S.go s).nx=S.nx:=by unfold St.go St.put;split<;>rfl
theorem St.go_sl (S:St) (s:Stp):(S.go s).sl=fun t=>if s.o.dst=some t then s.E.v else S.sl t:=by
 unfold St.go St.put
 cases s.o.dst with
 |none=>funext t;simp
 |some d=>
  funext t
  by_cases e:t=d
  ·subst e;simp
  ·have e1:(t==d)=false:=by simp[e]
   have e2: ¬d=t:=fun h=>e h.symm
   simp[e1,e2]
theorem St.ext' {S T:St} (h1:S.sl=T.sl) (h2:S.hp=T.hp) (h3:S.nx=T.nx):S=T:=by cases S;cases T;cases h1;cases h2;cases h3;rfl
section
variable {C:Cx} {S:St} {a:Act} {w:World} {ρ:Place} {Fs:Nat->FP} {ops:Array Oper}
theorem wanted_of {G:Glob R} (hN:G.nt=C.N) (h:SRel C S a w ρ Fs) {o:Oper} {x:Bool} (hgt: ∀j want t,o.guard=some (j,want)->dstOf ops j=some t->t<G.nt) (hg:guardIs ops S.sl o=some x):Region.wanted o (yielded ops a.tmps)=x:=by
 unfold guardIs at hg
 unfold Region.wanted
 split at hg
 ·rename_i hq;cases hg;simp[hq]
 ·rename_i j want hq
  simp only[hq]
  split at hg
  ·cases hg
  ·rename_i t ht
   have htN:=hgt j want t hq ht
   have hs:=h.slots t
   rw[hN] at htN
   simp only[Cx.val,if_pos htN] at hs
   have hd:(ops[j]?).bind (·.dst)=some t:=by
    unfold dstOf at ht
    split at ht
    ·rename_i o' ho';simp only[ho',Option.bind_some];exact ht
    ·cases ht
   have hsz:t<a.tmps.size:=by rw[h.size];exact htN
   split at hg
   ·rename_i y hy
    cases hg
    rw[hy] at hs
    have hs:a.tmps.getD t undef= .bool y:=hs
    have e:a.tmps[t]? =some (.bool y):=by simp[Array.getD_eq_getD_getElem?,Array.getElem?_eq_getElem hsz] at hs ⊢;exact hs
    simp[yielded,hd,e]
   ·rename_i hy
    cases hg
    rw[hy] at hs
    have hs:a.tmps.getD t undef=undef:=hs
    have e:a.tmps[t]? =some undef:=by simp[Array.getD_eq_getD_getElem?,Array.getElem?_eq_getElem hsz] at hs ⊢;exact hs
    simp[yielded,hd,e,undef]
   ·cases hg
theorem StpOK.wp {G:Glob R} (hG:GOK P G) (hN:NOK P G.nt C) (h:SRel C S a w ρ Fs) {s:Stp} (hs:StpOK P G ops s S) (ho:ops[s.i]? =some s.o) {K:Act->World->Prop} {Q:Exit->Act->World->Prop} (hK: ∀a' w' ρ' Fs',SRel C (S.go s) a' w' ρ' Fs'->K a' w'):wpOp P ops Q s.i K a w:=by
 unfold wpOp
 simp only[ho]
 rcases hs.run with ⟨hg,hsub,hdo,hgh,hnx⟩| ⟨hg,hE⟩
 ·rw[wanted_of hN.nt h hs.gt hg]
  simp only[if_true]
  refine .inl ((hdo.sub hsub).wp hG hN h (fun k h1 h2=>(hgh k h1 h2).1) hnx fun u w' ρ' Fs' h1 h2=>hK _ _ ρ' Fs' ?_)
  exact h1.put s.o.dst s.E.v u (fun _ _=>h2) (fun d hd=>by rw[<- hN.nt];exact hs.dst d hd)
 ·rw[wanted_of hN.nt h hs.gt hg]
  simp only[Bool.false_eq_true,if_false]
  refine hK _ _ ρ Fs ?_
  have e:S.go s=S.put s.o.dst (.l .undef):=by unfold St.go;rw[hE];rfl
  rw[e]
  exact h.put s.o.dst (.l .undef) undef (fun _ _=>rfl) (fun d hd=>by rw[<- hN.nt];exact hs.dst d hd)
theorem wpOps_runs {G:Glob R} (hG:GOK P G) (hN:NOK P G.nt C) {Q:Exit->Act->World->Prop}: ∀ {l:List Stp} {S S':St} {a:Act} {w:World} {ρ:Place} {Fs:Nat->FP},Runs P G ops l S S'->SRel C S a w ρ Fs->(∀s∈l,ops[s.i]? =some s.o)->(∀a' w' ρ' Fs',SRel C S' a' w' ρ' Fs'->Q .normal a' w')->wpOps P ops Q (l.map (·.i)) a w
 | [],_,_,a,w,ρ,Fs,.nil _,h,_,hQ=>hQ _ _ _ _ h
 |s::l,S,S',a,w,ρ,Fs,.cons h1 h2,h,ho,hQ=>by
  rw[List.map_cons,wpOps_cons]
  exact h1.wp hG hN h (ho s (by simp)) fun a' w' ρ' Fs' h'=>wpOps_runs hG hN h2 h' (fun s hs=>ho s (by simp[hs])) hQ
end
section
variable {G:Glob R} {ops:Array Oper}
def Stp.fit (s:Stp):Prop:= ∀j r,s.h j=some r->j∈s.ids
def Ind (ops:Array Oper) (s t:Stp):Prop:=indep ops s.log t.log=true
theorem Ind.spec {s t:Stp} (h:Ind ops s t):(∀d,s.o.dst=some d->d∉t.o.looksAt ops/\t.o.dst≠some d)/\(∀d,t.o.dst=some d->d∉s.o.looksAt ops)/\(∀x∈s.w,x∉t.w)/\(∀x∈s.w,x∉t.ids)/\(∀x∈t.w,x∉s.ids):=by
 unfold Ind indep at h
 obtain ⟨h,h5⟩:=and_bool h
 obtain ⟨h,h4⟩:=and_bool h
 obtain ⟨h,h3⟩:=and_bool h
 obtain ⟨h1,h2⟩:=and_bool h
 obtain ⟨a1,a2,a3⟩:=Oper.apart_spec h1
 exact ⟨fun d hd=>⟨a1 d hd,a2 d hd⟩,a3,disjoint_sound h3,disjoint_sound h4,disjoint_sound h5⟩
theorem guardIs_congr {sl sl':Nat->AV} {o:Oper} (h: ∀t∈o.looksAt ops,sl' t=sl t):guardIs ops sl' o=guardIs ops sl o:=by
 unfold guardIs
 split
 ·rfl
 ·rename_i j want hq
  split
  ·rfl
  ·rename_i t ht
   have:t∈o.looksAt ops:=by
    unfold Oper.looksAt
    have hd:(ops[j]?).bind (·.dst)=some t:=by
     unfold dstOf at ht
     split at ht
     ·rename_i o' ho';simp only[ho',Option.bind_some];exact ht
     ·cases ht
    simp[hq,hd]
   rw[h t this]
theorem rd_congr {nt:Nat} {sl sl':Nat->AV} {o:Oper} (h: ∀t∈o.looksAt ops,sl' t=sl t): ∀x∈o.op.operands.toList,St.rd nt sl x=St.rd nt sl' x:=by
 intro x hx
 cases x with
 |tmp t=>
  have:t∈o.looksAt ops:=by
   unfold Oper.looksAt
   exact List.mem_append_left _ (List.mem_filterMap.2 ⟨.tmp t,hx,rfl⟩)
  simp only[St.rd,h t this]
 |_=>rfl
theorem StpOK.at {s:Stp} {S S':St} (h:StpOK P G ops s S) (h1: ∀t∈s.o.looksAt ops,S'.sl t=S.sl t) (h2:Sub s.h S.hp->Sub s.h S'.hp) (h3: ∀k,k∈s.w->S.hp k=some .ghost->S'.hp k=some .ghost) (h4:S'.nx=S.nx):StpOK P G ops s S':=by
 refine ⟨h.dst,h.gt,h.upw,?_⟩
 rw[guardIs_congr h1]
 rcases h.run with ⟨a1,a2,a3,a4,a5⟩|h'
 ·exact .inl ⟨a1,h2 a2,a3.congr (rd_congr h1),fun k k1 k2=>⟨h3 k (a4 k k1 k2).2 (a4 k k1 k2).1,(a4 k k1 k2).2⟩,by rw[h4];exact a5⟩
 ·exact .inr h'
theorem hp_out {s:Stp} (hw: ∀p∈s.E.up,p.1∈s.w) (S:St) {j:Nat} (hj:j∉s.w):(S.go s).hp j=S.hp j:=by
 rw[St.go_hp]
 exact upd_out _ _ (fun p hp e=>hj (by rw[<- e];exact hw p hp))
theorem swap {s t:Stp} {S:St} (hf:s.fit) (hf':t.fit) (hi:Ind ops s t) (h1:StpOK P G ops s S) (h2:StpOK P G ops t (S.go s)):StpOK P G ops t S/\StpOK P G ops s (S.go t)/\(S.go s).go t=(S.go t).go s:=by
 obtain ⟨i1,i2,i3,i4,i5⟩:=hi.spec
 have hts: ∀x∈t.w,x∉s.w:=fun x h1 h2=>i3 x h2 h1
 refine ⟨?_,?_,St.ext' ?_ ?_ ?_⟩
 ·refine h2.at (fun u hu=> ?_) (fun hs j r hr=> ?_) (fun k hk hg=> ?_) (St.go_nx S s).symm
  ·rw[St.go_sl]
   simp only
   rw[if_neg]
   exact fun e=>(i1 u e).1 hu
  ·have:=hs j r hr
   rwa [hp_out h1.upw S (fun hw=>i4 j hw (hf' j r hr))] at this
  ·rwa [hp_out h1.upw S (hts k hk)] at hg
 ·refine h1.at (fun u hu=> ?_) (fun hs j r hr=> ?_) (fun k hk hg=> ?_) (St.go_nx S t)
  ·rw[St.go_sl]
   simp only
   rw[if_neg]
   exact fun e=>i2 u e hu
  ·rw[hp_out h2.upw S (fun hw=>i5 j hw (hf j r hr))]
   exact hs j r hr
  ·rw[hp_out h2.upw S (i3 k hk)]
   exact hg
 ·funext u
  simp only[St.go_sl]
  by_cases e1:s.o.dst=some u
  ·have:=(i1 u e1).2
   simp[e1,this]
  ·simp[e1]
 ·simp only[St.go_hp]
  funext j
  by_cases ht: ∃p∈t.E.up,p.1=j
  ·obtain ⟨p,hp,e⟩:=ht
   have hjt:j∈t.w:=by rw[<- e];exact h2.upw p hp
   rw[upd_in t.E.up (hp':=S.hp) ⟨p,hp,e⟩]
   exact (upd_out _ _ (fun q hq e2=>hts j hjt (by rw[<- e2];exact h1.upw q hq))).symm
  ·have ht': ∀p∈t.E.up,p.1≠j:=fun p hp e=>ht ⟨p,hp,e⟩
   rw[upd_out _ _ ht']
   exact upd_base _ (upd_out _ _ ht').symm
 ·simp only[St.go_nx]
theorem Runs.front: ∀ {A:List Stp} {x:Stp} {B:List Stp} {S S':St},Runs P G ops (A++x::B) S S'->(∀s∈A++x::B,s.fit)->(∀s∈A,Ind ops s x)->Runs P G ops (x::(A++B)) S S'
 | [],x,B,S,S',h,_,_=>h
 |s::A,x,B,S,S',.cons h1 h2,hf,hi=>by
  have ih:=Runs.front h2 (fun t ht=>hf t (List.mem_cons_of_mem _ ht)) (fun t ht=>hi t (by simp[ht]))
  cases ih with
  |cons g1 g2=>
   obtain ⟨k1,k2,k3⟩:=swap (hf s (by simp)) (hf x (by simp)) (hi s (by simp)) h1 g1
   exact .cons k1 (.cons k2 (by rw[<- k3];exact g2))
end
end
end Go.Proofs.YtbmmhdmljajcfaaGreatDoor.V
namespace Go.Proofs.YtbmmhdmljajcfaaGreatDoor.V
open Go
section
variable {R:Type} {P:Program} {G:Glob R} {ops:Array Oper}
theorem foldr_bits (acc:List Nat) (j:Nat): ∀es:List Edge,Nat.testBit (es.foldr (fun e s=>bif Region.binds .any e then (2^e.on ||| (acc[e.on]?.getD 0) ||| s) else s) 0) j=true-> ∃e∈es,Region.binds .any e=true/\(e.on=j\/Nat.testBit (acc[e.on]?.getD 0) j=true)
 | [],h=>by simp at h
 |e::es,h=>by
  simp only[List.foldr_cons] at h
  cases hb:Region.binds .any e with
  |false=>
   rw[hb] at h
   obtain ⟨e',h1,h2⟩:=foldr_bits acc j es h
   exact ⟨e',by simp[h1],h2⟩
  |true=>
   rw[hb] at h
   simp only[cond_true,Nat.testBit_or,Bool.or_eq_true] at h
   rcases h with (h|h)|h
   ·exact ⟨e,by simp,hb,.inl (by simpa[Nat.testBit_two_pow] using h)⟩
   ·exact ⟨e,by simp,hb,.inr h⟩
   ·obtain ⟨e',h1,h2⟩:=foldr_bits acc j es h
    exact ⟨e',by simp[h1],h2⟩
theorem befores_old: ∀(l:List Oper) (acc:List Nat) (k:Nat),k<acc.length->(befores acc l)[k]? =acc[k]?
 | [],acc,k,h=>rfl
 |o::l,acc,k,h=>by rw[befores,befores_old l _ k (by simp;omega),List.getElem?_append_left h]
theorem befores_cons (acc:List Nat) (o:Oper) (l:List Oper):befores acc (o::l)=befores (acc++[bindsOf acc o]) l:=rfl
theorem befores_at (l:List Oper): ∀(acc:List Nat) (k:Nat) (o:Oper),l[k]? =some o->(befores acc l)[acc.length+k]? =some (bindsOf ((befores acc l).take (acc.length+k)) o):=by
 induction l with
 |nil=>intro acc k o h;simp at h
 |cons o' l ih=>
  intro acc k o h
  cases k with
  |zero=>
   have h:o' =o:=by simpa using h
   subst h
   have e:(befores acc (o' ::l)).take acc.length=acc:=by
    apply List.ext_getElem?
    intro i
    rw[List.getElem?_take]
    split
    ·exact befores_old _ _ _ ‹_›
    ·rw[List.getElem?_eq_none (by omega)]
   rw[Nat.add_zero,e,befores_cons,befores_old l _ _ (by simp)]
   simp
  |succ k=>
   have h2:=ih (acc++[bindsOf acc o']) k o (by simpa using h)
   rw[List.length_append,List.length_singleton,Nat.add_right_comm] at h2
   rw[befores_cons]
   exact h2
def Bef (l:List Oper) (k j:Nat):Prop:=Nat.testBit ((befores [] l)[k]?.getD 0) j=true
theorem Bef.step {l:List Oper} {k j:Nat} {o:Oper} (ho:l[k]? =some o) (h:Bef l k j): ∃e∈o.after.toList,Region.binds .any e=true/\(e.on=j\/Bef l e.on j):=by
 unfold Bef at h
 have:=befores_at l [] k o ho
 simp only[List.length_nil,Nat.zero_add] at this
 rw[this] at h
 simp only[Option.getD_some,bindsOf] at h
 obtain ⟨e,h1,h2,h3⟩:=foldr_bits _ _ _ h
 refine ⟨e,h1,h2,h3.imp id fun h3=> ?_⟩
 unfold Bef
 rw[List.getElem?_take] at h3
 split at h3
 ·exact h3
 ·simp at h3
section
variable {C:Cx}
theorem any_runs (hG:GOK P G) (hN:NOK P G.nt C) {Q:Exit->Act->World->Prop} (hb: ∀(i:Nat) (o:Oper) (e:Edge),ops[i]? =some o->e∈o.after.toList->Region.binds .any e=true->e.on<i): ∀(fuel:Nat) (listed:Array Bool) (l:List Stp) {S S':St} {a:Act} {w:World} {ρ:Place} {Fs:Nat->FP},Runs P G ops l S S'->SRel C S a w ρ Fs->
 listed.size=ops.size->(∀i,i<ops.size->(listed.getD i true=false↔ ∃s∈l,s.i=i))->l.length<=fuel->(∀s∈l,ops[s.i]? =some s.o)->(∀s∈l,s.fit)->List.Pairwise (fun s t=>s.i<t.i/\(Bef ops.toList t.i s.i\/Ind ops s t)) l->
 (∀k j,k<ops.size->listed.getD k true=true->Bef ops.toList k j->listed.getD j false=true)->
 (∀a' w' ρ' Fs',SRel C S' a' w' ρ' Fs'->Q .normal a' w')->wpAny P .any ops Q fuel listed a w:=by
 have un: ∀(listed:Array Bool) i,listed.size=ops.size->i<ops.size->listed.getD i true=listed.getD i false:=fun listed i h1 h2=>by
  rw[<- h1] at h2
  simp[Array.getD_eq_getD_getElem?,Array.getElem?_eq_getElem h2]
 intro fuel
 induction fuel with
 |zero=>
  intro listed l S S' a w ρ Fs hr h hsz hidx hlen ho hf hp hcl hQ
  obtain rfl:l=[]:=List.length_eq_zero_iff.1 (by omega)
  cases hr
  refine ⟨?_,hQ _ _ _ _ h⟩
  refine List.eq_nil_iff_forall_not_mem.2 fun i hi=> ?_
  obtain ⟨h1,o,h2,_⟩:=mem_ready.1 hi
  obtain ⟨s,hs,_⟩:=(hidx i (Array.getElem?_eq_some_iff.1 h2).1).1 h1
  simp at hs
 |succ fuel ih=>
  intro listed l S S' a w ρ Fs hr h hsz hidx hlen ho hf hp hcl hQ
  refine ⟨fun hnil=> ?_,fun i hi=> ?_⟩
  ·cases l with
   |nil=>cases hr;exact hQ _ _ _ _ h
   |cons s l=>
    exfalso
    have hso:=ho s (by simp)
    have hslt:=(Array.getElem?_eq_some_iff.1 hso).1
    have:s.i∈Region.ready .any ops listed:=by
     refine mem_ready.2 ⟨(hidx s.i hslt).2 ⟨s,by simp,rfl⟩,s.o,hso,fun e he hbd=> ?_⟩
     have hlt:=hb s.i s.o e hso (by simpa using he) hbd
     rw[<- un listed e.on hsz (by omega)]
     cases hq:listed.getD e.on true with
     |true=>rfl
     |false=>
      obtain ⟨t,ht,e2⟩:=(hidx e.on (by omega)).1 hq
      rcases List.mem_cons.1 ht with rfl|ht
      ·omega
      ·have:=((List.pairwise_cons.1 hp).1 t ht).1;omega
    rw[hnil] at this
    simp at this
  ·obtain ⟨h1,o,h2,h3⟩:=mem_ready.1 hi
   have hilt:=(Array.getElem?_eq_some_iff.1 h2).1
   obtain ⟨s,hs,rfl⟩:=(hidx i hilt).1 h1
   obtain ⟨A,B,rfl⟩:=List.append_of_mem hs
   have hso:=ho s hs
   rw[hso] at h2;cases h2
   have hol:ops.toList[s.i]? =some s.o:=by simpa using hso
   have hbef: ∀j,Bef ops.toList s.i j->listed.getD j false=true:=fun j hj=>by
    obtain ⟨e,e1,e2,e3⟩:=hj.step hol
    have hl:=h3 e (by simpa using e1) e2
    rcases e3 with rfl|e3
    ·exact hl
    ·have hlt:=hb s.i s.o e hso e1 e2
     exact hcl e.on j (by omega) (by rw[un listed e.on hsz (by omega)];exact hl) e3
   obtain ⟨pA,pB,pAB⟩:=List.pairwise_append.1 hp
   have hind: ∀t∈A,Ind ops t s:=fun t ht=>by
    rcases (pAB t ht s (by simp)).2 with hk|hk
    ·exfalso
     have h4:=hbef t.i hk
     have hto:=ho t (by simp[ht])
     have htlt:=(Array.getElem?_eq_some_iff.1 hto).1
     have h5:=(hidx t.i htlt).2 ⟨t,by simp[ht],rfl⟩
     rw[un listed t.i hsz htlt,h4] at h5
     cases h5
    ·exact hk
   cases hr.front hf hind with
   |cons g1 g2=>
    refine g1.wp hG hN h hso fun a' w' ρ' Fs' h'=> ?_
    have hne: ∀t∈A++B,t.i≠s.i:=fun t ht=>by
     rcases List.mem_append.1 ht with ht|ht
     ·have:=(pAB t ht s (by simp)).1;omega
     ·have:=((List.pairwise_cons.1 pB).1 t ht).1;omega
    refine ih (listed.setIfInBounds s.i true) (A++B) g2 h' (by simp[hsz]) (fun j hj=> ?_) (by simp at hlen ⊢;omega) (fun t ht=>ho t (by simp at ht ⊢;rcases ht with ht|ht<;>simp[ht])) (fun t ht=>hf t (by simp at ht ⊢;rcases ht with ht|ht<;>simp[ht])) ?_ (fun k j hk hl hbk=> ?_) hQ
    ·by_cases e:j=s.i
     ·subst e
      refine ⟨fun hh=> ?_,fun ⟨t,ht,e⟩=>absurd e (hne t ht)⟩
      rw[un _ _ (by simp[hsz]) hj] at hh
      have:(listed.setIfInBounds s.i true).getD s.i false=true:=by
       have:s.i<listed.size:=by omega
       simp[this]
      rw[this] at hh;cases hh
     ·rw[getD_set_ne true (Ne.symm e),hidx j hj]
      constructor
      ·rintro ⟨t,ht,rfl⟩
       refine ⟨t,?_,rfl⟩
       simp at ht ⊢
       rcases ht with ht|rfl|ht
       ·exact .inl ht
       ·exact absurd rfl e
       ·exact .inr ht
      ·rintro ⟨t,ht,rfl⟩
       exact ⟨t,by simp at ht ⊢;rcases ht with ht|ht<;>simp[ht],rfl⟩
    ·exact List.pairwise_append.2 ⟨pA,(List.pairwise_cons.1 pB).2,fun x hx y hy=>pAB x hx y (by simp[hy])⟩
    ·refine getD_set_true ?_
     by_cases e:k=s.i
     ·subst e;exact hbef j hbk
     ·rw[getD_set_ne true (Ne.symm e)] at hl
      exact hcl k j hk hl hbk
end
structure GRel (Sg S:St) (N:Nat):Prop where
 sl:Sg.sl=S.sl
 nx:Sg.nx=N
 hp: ∀j,S.hp j=Sg.hp j\/(Sg.hp j=some .ghost/\S.hp j=none)
 gh: ∀k,S.nx<=k->k<N->Sg.hp k=some .ghost
theorem put_same {S:St} {t:Tmp} {v:AV} (h:S.sl t=v):S.put (some t) v=S:=by
 unfold St.put
 refine St.ext' ?_ rfl rfl
 funext j
 by_cases e:j=t
 ·subst e;simp[h]
 ·have:(j==t)=false:=by simp[e]
  simp[this]
theorem app_rel {Sg S:St} {N:Nat} (h:GRel Sg S N) {s:Stp} (hn:s.n=S.nx) (hok:okUp S.nx s.E=true):GRel (Sg.go s) (S.app s.o.dst s.E) N:=by
 obtain ⟨h1,h2⟩:=and_bool hok
 have h1:S.nx<=s.E.nx:=Nat.le_of_ble_eq_true h1
 have hk: ∀p∈s.E.up,p.1<s.E.nx:=fun p hp=>by
  have:=List.all_eq_true.1 h2 p hp
  simpa[Nat.blt_eq] using this
 refine ⟨?_,by rw[St.go_nx];exact h.nx,fun j=> ?_,fun k k1 k2=> ?_⟩
 ·rw[St.go_sl]
  unfold St.app St.put
  cases s.o.dst with
  |none=>simp[h.sl]
  |some d=>
   funext t
   by_cases e:t=d
   ·subst e;simp
   ·have e1:(t==d)=false:=by simp[e]
    have e2: ¬d=t:=fun h=>e h.symm
    simp[e1,e2,h.sl]
 ·rw[St.go_hp]
  show upd S.hp s.E.up j=upd Sg.hp s.E.up j\/_
  by_cases hj: ∃p∈s.E.up,p.1=j
  ·exact .inl (upd_in _ hj)
  ·have hj': ∀p∈s.E.up,p.1≠j:=fun p hp e=>hj ⟨p,hp,e⟩
   show _\/(upd Sg.hp s.E.up j=some .ghost/\upd S.hp s.E.up j=none)
   rw[upd_out _ _ hj',upd_out _ _ hj']
   exact h.hp j
 ·have k1:s.E.nx<=k:=k1
  rw[St.go_hp,upd_out _ _ (fun p hp e=>by have:=hk p hp;omega)]
  exact h.gh k (by omega) k2
theorem sub_of_grel {Sg S:St} {N:Nat} (h:GRel Sg S N):Sub S.hp Sg.hp:=fun j r hj=>by
 rcases h.hp j with e| ⟨_,e⟩
 ·rw[<- e];exact hj
 ·rw[e] at hj;cases hj
theorem evOper_runs (hG:GOK P G) {draw:Bool} {o:Oper} {S:St} {K:St->Log->Option R} {r:R} (i:Nat) (h:evOper G ops draw o S K=some r): ∃s:Stp,s.i=i/\s.o=o/\s.n=S.nx/\K (S.app o.dst s.E) s.log=some r/\okUp S.nx s.E=true/\(draw=true->s.fit)/\
 ∀Sg N,GRel Sg S N->s.E.nx<=N->StpOK P G ops s Sg:=by
 unfold evOper at h
 simp only[] at h
 obtain ⟨hd,h⟩:=bif_some h
 have hd: ∀d,o.dst=some d->d<G.nt:=fun d e=>by rw[e] at hd;simpa[Nat.blt_eq] using hd
 have exec:guardIs ops S.sl o=some true->(∀j want t,o.guard=some (j,want)->dstOf ops j=some t->t<G.nt)->(evOp G o.op S.sl (bif draw then cut S.hp (opIds (St.rd G.nt S.sl) o.op) else S.hp) S.nx fun E=>bif okUp S.nx E then K (S.app o.dst E) ⟨o,writes S.nx E,opIds (St.rd G.nt S.sl) o.op⟩ else none)=some r->
  ∃s:Stp,s.i=i/\s.o=o/\s.n=S.nx/\K (S.app o.dst s.E) s.log=some r/\okUp S.nx s.E=true/\(draw=true->s.fit)/\ ∀Sg N,GRel Sg S N->s.E.nx<=N->StpOK P G ops s Sg:=fun hg hgt h=>by
  obtain ⟨E,hdo,h⟩:=evOp_does hG h
  obtain ⟨hok,h⟩:=bif_some h
  refine ⟨⟨i,o,S.nx,E,bif draw then cut S.hp (opIds (St.rd G.nt S.sl) o.op) else S.hp,writes S.nx E,opIds (St.rd G.nt S.sl) o.op⟩,rfl,rfl,rfl,h,hok,fun hdr j r' hj=> ?_,fun Sg N hgr hN=>⟨hd,hgt,fun p hp=> ?_,.inl ⟨?_,fun j r' hj=> ?_,?_,fun k k1 k2=>⟨hgr.gh k k1 (by have:E.nx<=N:=hN;have:k<E.nx:=k2;omega),?_⟩,by rw[hgr.nx];exact hN⟩⟩⟩
  ·subst hdr
   simp only[cut,cond_true] at hj
   obtain ⟨h1,_⟩:=bif_some hj
   exact List.elem_iff.1 h1
  ·show p.1∈writes S.nx E
   exact List.mem_append_left _ (List.mem_map_of_mem hp)
  ·rw[hgr.sl];exact hg
  ·refine sub_of_grel hgr j r' ?_
   cases draw with
   |false=>exact hj
   |true=>
    simp only[cut,cond_true] at hj
    exact (bif_some hj).2
  ·show Does P G o.op Sg.sl _ S.nx E
   rw[hgr.sl];exact hdo
  ·show k∈writes S.nx E
   refine List.mem_append_right _ (List.mem_range'_1.2 ⟨k1,?_⟩)
   have:k<E.nx:=k2
   have k1:S.nx<=k:=k1
   omega
 have skip:guardIs ops S.sl o=some false->(∀j want t,o.guard=some (j,want)->dstOf ops j=some t->t<G.nt)->K (S.app o.dst (skipEff S.nx)) ⟨o,[],[]⟩=some r->
  ∃s:Stp,s.i=i/\s.o=o/\s.n=S.nx/\K (S.app o.dst s.E) s.log=some r/\okUp S.nx s.E=true/\(draw=true->s.fit)/\ ∀Sg N,GRel Sg S N->s.E.nx<=N->StpOK P G ops s Sg:=fun hg hgt h=>by
  refine ⟨⟨i,o,S.nx,skipEff S.nx,fun _=>none,[],[]⟩,rfl,rfl,rfl,h,?_,fun _ j r' hj=>(by cases hj),fun Sg N hgr hN=>⟨hd,hgt,fun p hp=> ?_,.inr ⟨by rw[hgr.sl];exact hg,rfl⟩⟩⟩
  ·simp[okUp,skipEff]
  ·simp[skipEff] at hp
 split at h
 ·rename_i hgu
  exact exec (by simp[guardIs,hgu]) (fun j want t e _=>by rw[hgu] at e;cases e) h
 ·rename_i j want hgu
  split at h
  ·cases h
  ·rename_i t ht
   obtain ⟨htN,h⟩:=bif_some h
   have htN:t<G.nt:=by simpa[Nat.blt_eq] using htN
   have hgt: ∀j' want' t',o.guard=some (j',want')->dstOf ops j' =some t'->t' <G.nt:=fun j' want' t' e1 e2=>by
    rw[hgu] at e1;cases e1
    rw[ht] at e2;cases e2
    exact htN
   split at h
   ·rename_i x hx
    cases x with
    |true=>
     simp only[put_same hx] at h
     cases want with
     |true=>exact exec (by simp[guardIs,hgu,ht,hx]) hgt h
     |false=>exact skip (by simp[guardIs,hgu,ht,hx]) hgt h
    |false=>
     simp only[put_same hx] at h
     cases want with
     |true=>exact skip (by simp[guardIs,hgu,ht,hx]) hgt h
     |false=>exact exec (by simp[guardIs,hgu,ht,hx]) hgt h
   ·rename_i hx
    exact skip (by simp[guardIs,hgu,ht,hx]) hgt h
   ·cases h
theorem evOps_runs (hG:GOK P G) {draw:Bool} {r:R}: ∀(l:List Oper) (i:Nat) {S:St} {L:List Log} {K:St->List Log->Option R},evOps G ops draw l S L K=some r-> ∃(steps:List Stp) (S':St),steps.map (·.o)=l/\steps.map (·.i)=List.range' i l.length/\K S' ((steps.map Stp.log).reverse++L)=some r/\S.nx<=S'.nx/\(draw=true-> ∀s∈steps,s.fit)/\
 ∀Sg N,GRel Sg S N->S'.nx<=N-> ∃Sg',Runs P G ops steps Sg Sg' /\GRel Sg' S' N
 | [],i,S,L,K,h=>⟨[],S,rfl,rfl,h,Nat.le_refl _,fun _ s hs=>by simp at hs,fun Sg N hg _=>⟨Sg,.nil _,hg⟩⟩
 |o::l,i,S,L,K,h=>by
  simp only[evOps] at h
  obtain ⟨s,e1,e2,e3,h,hok,hfit,hst⟩:=evOper_runs hG i h
  obtain ⟨steps,S',g1,g2,g3,g4,g5,g6⟩:=evOps_runs hG l (i+1) h
  have hle:S.nx<=s.E.nx:=Nat.le_of_ble_eq_true (and_bool hok).1
  have hle2:s.E.nx<=S'.nx:=g4
  refine ⟨s::steps,S',by simp[e2,g1],by simp[e1,g2,List.range'_succ],?_,by omega,fun hd t ht=> ?_,fun Sg N hg hN=> ?_⟩
  ·simpa using g3
  ·rcases List.mem_cons.1 ht with rfl|ht
   ·exact hfit hd
   ·exact g5 hd t ht
  ·obtain ⟨Sg',k1,k2⟩:=g6 (Sg.go s) N (by have:=app_rel hg e3 hok;rw[e2] at this;exact this) hN
   exact ⟨Sg',.cons (hst Sg N hg (by omega)) k1,k2⟩
theorem drawOk_spec: ∀(done:List Log) (bs:List Nat) (ls:List Log),drawOk ops done bs ls=true->(∀k l,ls[k]? =some l-> ∃b,bs[k]? =some b/\ ∀i m,(done++ls.take k)[i]? =some m->Nat.testBit b i=true\/indep ops m l=true)/\ ∀k l e,ls[k]? =some l->e∈l.o.after.toList->Region.binds .any e=true->e.on<done.length+k
 |done,bs,[],_=>⟨fun k l h=>by simp at h,fun k l e h=>by simp at h⟩
 |done,[],l::ls,h=>by cases h
 |done,b::bs,l::ls,h=>by
  simp only[drawOk] at h
  obtain ⟨h,h3⟩:=and_bool h
  obtain ⟨h1,h2⟩:=and_bool h
  obtain ⟨ih1,ih2⟩:=drawOk_spec _ _ _ h3
  have hin: ∀(ms:List Log) (i:Nat),indeps ops b l i ms=true-> ∀j m,ms[j]? =some m->Nat.testBit b (i+j)=true\/indep ops m l=true:=by
   intro ms
   induction ms with
   |nil=>intro i _ j m hj;simp at hj
   |cons m0 ms ih=>
    intro i hh j m hj
    simp only[indeps] at hh
    obtain ⟨k1,k2⟩:=and_bool hh
    cases j with
    |zero=>simp at hj;subst hj;exact Bool.or_eq_true _ _ |>.mp k1
    |succ j=>rw[show i+(j+1)=i+1+j by omega];exact ih (i+1) k2 j m (by simpa using hj)
  refine ⟨fun k l' hk=> ?_,fun k l' e hk he hb=> ?_⟩
  ·cases k with
   |zero=>
    simp at hk;subst hk
    refine ⟨b,rfl,fun i m hm=> ?_⟩
    have:=hin done 0 h1 i m (by simpa using hm)
    rwa [Nat.zero_add] at this
   |succ k=>
    obtain ⟨b',hb',hh⟩:=ih1 k l' (by simpa using hk)
    exact ⟨b',by simpa using hb',fun i m hm=>hh i m (by simpa using hm)⟩
  ·cases k with
   |zero=>
    simp at hk;subst hk
    have:=List.all_eq_true.1 h2 e he
    rw[hb] at this
    simpa[Nat.blt_eq] using this
   |succ k=>
    have:=ih2 k l' e (by simpa using hk) he hb
    simp at this ⊢;omega
section
variable {C:Cx} {S:St} {a:Act} {w:World} {ρ:Place} {Fs:Nat->FP}
theorem evRegion_sound (hG:GOK P G) (hm:P.follows .mixedOrders=true) (hN:NOK P G.nt C) {id:Nat} {draw:Bool} {K:St->Option R} {r:R} (he:evRegion G ops draw S K=some r) (h:SRel C S a w ρ Fs) {Q:Exit->Act->World->Prop}
 (hQ: ∀S',K S' =some r-> ∀a' w' ρ' Fs',SRel C S' a' w' ρ' Fs'->Q .normal a' w'):(Code.region id ops draw).wp P Q a w:=by
 unfold evRegion at he
 obtain ⟨steps,S',e1,e2,e3,e4,e5,e6⟩:=evOps_runs hG _ 0 he
 obtain ⟨Sg',hr,hgr⟩:=e6 ⟨S.sl,ghosts S.hp S.nx S'.nx,S'.nx⟩ S'.nx ⟨rfl,rfl,fun j=>by
  simp only[ghosts]
  cases hq:S.hp j with
  |some r=>exact .inl rfl
  |none=>
   simp only[]
   cases (Nat.ble S.nx j&&Nat.blt j S'.nx) with
   |true=>exact .inr ⟨rfl,by trivial⟩
   |false=>exact .inl rfl,fun k k1 k2=>by
  have hq:S.hp k=none:=h.mem.fresh k k1
  have h1:Nat.ble S.nx k=true:=Nat.ble_eq_true_of_le k1
  have h2:Nat.blt k S'.nx=true:=by simp[Nat.blt_eq];exact k2
  simp only[ghosts,hq,h1,h2];rfl⟩ (Nat.le_refl _)
 have h0:=h.reserve e4
 have hlen:steps.length=ops.size:=by have:=congrArg List.length e1;simpa using this
 have hidx: ∀(k:Nat) (s:Stp),steps[k]? =some s->s.i=k:=fun k s hk=>by
  have h1:(steps.map (·.i))[k]? =some s.i:=by simp[hk]
  rw[e2,List.getElem?_range'] at h1
  ·simp at h1;omega
  ·have:=(List.getElem?_eq_some_iff.1 hk).1;simp;omega
 have ho: ∀s∈steps,ops[s.i]? =some s.o:=fun s hs=>by
  obtain ⟨k,hk⟩:=List.getElem?_of_mem hs
  have h1:(steps.map (·.o))[k]? =some s.o:=by simp[hk]
  rw[e1] at h1
  rw[hidx k s hk]
  simpa using h1
 have fin: ∀(K':K S' =some r) a' w' ρ' Fs',SRel C Sg' a' w' ρ' Fs'->Q .normal a' w':=fun K' a' w' ρ' Fs' h'=>by
  refine hQ S' K' a' w' ρ' Fs' ?_
  have h2:=h'.unghost S'.hp hgr.hp
  have e:S' =⟨Sg'.sl,S'.hp,Sg'.nx⟩:=St.ext' hgr.sl.symm rfl hgr.nx.symm
  rw[e];exact h2
 cases draw with
 |false=>
  have hl:List.range ops.size=steps.map (·.i):=by rw[e2,List.range_eq_range'];simp
  refine wp_region ?_
  rw[hl]
  exact wpOps_runs hG hN hr h0 ho (fun a' w' ρ' Fs' h'=>fin e3 a' w' ρ' Fs' h')
 |true=>
  simp only[cond_true,List.append_nil,List.reverse_reverse] at e3
  obtain ⟨hck,hK⟩:=bif_some e3
  obtain ⟨d1,d2⟩:=drawOk_spec _ _ _ hck
  have hlog: ∀(k:Nat) (s:Stp),steps[k]? =some s->(steps.map Stp.log)[k]? =some s.log:=fun k s hk=>by simp[hk]
  refine wp_region_any hm ?_
  have hdraw:SRel C ⟨S.sl,ghosts S.hp S.nx S'.nx,S'.nx⟩ a {w with drawn:=w.drawn+1} ρ Fs:=by
   refine h0.gen _ _ {w with drawn:=w.drawn+1} ρ Fs (fun _=>False) (Nat.le_refl _) rfl rfl rfl (fun _ _ _=>rfl) (fun _ h=>h.elim) (Nat.le_refl _) (fun _ _ _=>rfl) (fun j hj=> .same rfl rfl (fun _ _ h=>h)) (fun j hj=> .inl ⟨h0.mem.fresh j hj,h0.mem.dead j (h0.mem.fresh j hj)⟩) h0.mem.one (fun b hb=> .inl hb)
  refine any_runs hG hN (fun i o e hi he hb=> ?_) ops.size _ steps hr hdraw (by simp) (fun i hi=> ?_) (by omega) ho (e5 rfl) ?_ (fun k j hk hl _=> ?_) (fun a' w' ρ' Fs' h'=>fin hK a' w' ρ' Fs' h')
  ·have hi':=(Array.getElem?_eq_some_iff.1 hi).1
   obtain ⟨s,hs⟩: ∃s,steps[i]? =some s:=⟨steps[i]'(by omega),List.getElem?_eq_getElem _⟩
   have h1:=ho s (List.mem_of_getElem? hs)
   rw[hidx i s hs,hi] at h1
   cases h1
   have:=d2 i s.log e (hlog i s hs) he hb
   simpa using this
  ·have:(Array.replicate ops.size false).getD i true=false:=by simp[hi]
   simp only[this,true_iff]
   exact ⟨steps[i]'(by omega),List.getElem_mem _,hidx i _ (List.getElem?_eq_getElem _)⟩
  ·rw[List.pairwise_iff_getElem]
   intro i j hi hj hij
   have hi2:=List.getElem?_eq_getElem hi
   have hj2:=List.getElem?_eq_getElem hj
   have ei:=hidx i _ hi2
   have ej:=hidx j _ hj2
   refine ⟨by rw[ei,ej];exact hij,?_⟩
   obtain ⟨b,hb,hh⟩:=d1 j _ (hlog j _ hj2)
   have:=hh i steps[i].log (by simp[hij,hi2])
   rw[ei,ej]
   rcases this with h1|h1
   ·left
    unfold Bef
    rw[hb];exact h1
   ·right;exact h1
  ·have:(Array.replicate ops.size false).getD k true=false:=by simp[hk]
   rw[this] at hl;cases hl
end
end
end Go.Proofs.YtbmmhdmljajcfaaGreatDoor.V
namespace Go.Proofs.YtbmmhdmljajcfaaGreatDoor.V
open Go
section
theorem idx_get: ∀ {x:Nat} {l:List Nat} {j:Nat},idx x l=some j->l[j]? =some x
 |x,y::l,j,h=>by
  simp only[idx] at h
  cases e:x==y with
  |true=>rw[e] at h;simp at h;subst h;simp[eq_of_beq e]
  |false=>
   rw[e] at h
   simp only[cond_false] at h
   split at h
   ·rename_i i hi
    cases h
    simpa using idx_get hi
   ·cases h
def Named1 (hp:Nat->Option Root) (acc:List Nat):Prop:=acc.Nodup/\ ∀id∈acc,∃r,hp id=some r
theorem Named1.add {hp:Nat->Option Root} {acc:List Nat} (h:Named1 hp acc) {id:Nat} {r:Root} (hn:acc.elem id=false) (hr:hp id=some r):Named1 hp (acc++[id]):=by
 have hn:id∉acc:=fun h=>by rw[List.elem_iff.2 h] at hn;cases hn
 refine ⟨List.nodup_append.2 ⟨h.1,by simp,fun a ha b hb=> ?_⟩,fun j hj=> ?_⟩
 ·simp at hb;subst hb;exact fun e=>hn (e ▸ ha)
 ·rcases List.mem_append.1 hj with hj|hj
  ·exact h.2 j hj
  ·simp at hj;subst hj;exact ⟨r,hr⟩
theorem foldl_keeps' {α β:Type} (f:β->α->β) (Pr:β->Prop) (hf: ∀b a,Pr b->Pr (f b a)): ∀(l:List α) (b:β),Pr b->Pr (l.foldl f b)
 | [],b,h=>h
 |x::l,b,h=>foldl_keeps' f Pr hf l _ (hf b x h)
theorem reachLV_named {hp:Nat->Option Root}: ∀(d:Nat) (x:LV) (acc:List Nat),Named1 hp acc->Named1 hp (reachLV hp d x acc):=by
 intro d
 induction d with
 |zero=>
  intro x acc h
  unfold reachLV
  split
  ·exact h
  ·rename_i id hid
   cases hb:acc.elem id with
   |true=>exact h
   |false=>
    simp only[cond_false]
    split
    ·exact h
    ·rename_i hr;exact h.add hb hr
    ·rename_i hr;exact h.add hb hr
 |succ d ih=>
  intro x acc h
  unfold reachLV
  split
  ·exact h
  ·rename_i id hid
   cases hb:acc.elem id with
   |true=>exact h
   |false=>
    simp only[cond_false]
    split
    ·exact h
    ·rename_i cells hr;exact foldl_keeps' _ (Named1 hp) (fun b a hb=>ih a b hb) cells _ (h.add hb hr)
    ·rename_i hr;exact h.add hb hr
theorem reachAV_named {hp:Nat->Option Root} (x:AV) (acc:List Nat) (h:Named1 hp acc):Named1 hp (reachAV hp x acc):=by
 unfold reachAV
 split
 ·exact reachLV_named _ _ _ h
 ·exact foldl_keeps' _ (Named1 hp) (fun b a hb=>reachLV_named _ a b hb) _ _ h
 ·exact h
theorem oldsOf_named (live:List Nat) (S:St):Named1 S.hp (oldsOf live S):=
 foldl_keeps' _ (Named1 S.hp) (fun b a hb=>reachAV_named _ b hb) live [] ⟨by simp,by simp⟩
def ofOld {α:Type} (f:Nat->α) (z:α) (olds:List Nat) (j:Nat):α:=match olds[j]? with|some id=>f id|none=>z
theorem sumTo_olds (Fs:Nat->FP) (b:Nat) (l:List Nat): ∀(n:Nat),n<=l.length->sumTo n (ofOld Fs fz l) b=sumL Fs (l.take n) b:=by
 intro n
 induction n with
 |zero=>intro _;rfl
 |succ n ih=>
  intro h
  have e:l.take (n+1)=l.take n++[l[n]'(by omega)]:=by rw[List.take_succ_eq_append_getElem (by omega)]
  rw[e,sumL_append]
  simp only[sumTo,fadd_at]
  rw[ih (by omega)]
  congr 1
  simp[ofOld,List.getElem?_eq_getElem (show n<l.length by omega),sumL]
theorem look_pair (live:List Nat) (f:Nat->AV) (t:Nat):look (pairUp live (live.map f)) t=if t∈live then some (f t) else none:=by
 induction live with
 |nil=>rfl
 |cons u l ih=>
  simp only[List.map_cons,pairUp,look]
  by_cases e:u=t
  ·subst e;simp
  ·have e1:(u==t)=false:=by simp[e]
   have e2: ¬t=u:=fun h=>e h.symm
   simp[e1,e2,ih]
variable {C:Cx} {S:St} {a:Act} {w:World} {ρ:Place} {Fs:Nat->FP}
section
variable {olds:List Nat}
def renHp (olds:List Nat) (hp:Nat->Option Root):Nat->Option Root:=hpOf (olds.map fun id=>(hp id).map (renRoot olds hp))
theorem renHp_at {hp:Nat->Option Root} {j:Nat} {root':Root} (h:renHp olds hp j=some root'): ∃id root,olds[j]? =some id/\hp id=some root/\root' =renRoot olds hp root:=by
 unfold renHp hpOf at h
 split at h
 ·rename_i r hr
  rw[List.getElem?_map] at hr
  cases ho:olds[j]? with
  |none=>rw[ho] at hr;cases hr
  |some id=>
   rw[ho] at hr
   simp only[Option.map_some,Option.some.injEq] at hr
   subst hr
   cases hq:hp id with
   |none=>rw[hq] at h;cases h
   |some root=>rw[hq] at h;cases h;exact ⟨id,root,rfl,hq,rfl⟩
 ·cases h
theorem renRoot_row {hp:Nat->Option Root} {root:Root} {r:Row} (h:root.row? =some r):(renRoot olds hp root).row? =some r:=by cases root<;>exact h
theorem renRoot_real {hp:Nat->Option Root} {root:Root} (h:root.real):(renRoot olds hp root).real:=by cases root<;>exact h
structure RenEnv (olds:List Nat) (E E':Env):Prop where
 w:E'.w=E.w
 zf: ∀b,E.Zf b->E'.Zf b
 zl: ∀b,E.ZL b->E'.ZL b
 ρ: ∀j id,olds[j]? =some id->E'.ρ j=E.ρ id
 hp:E'.hp=renHp olds E.hp
 nx:E'.nx=olds.length
theorem renLV_rel {E E':Env} (h:RenEnv olds E E') {x:LV} {v:Value} (hx:LVRel E x v):LVRel E' (renLV olds E.hp x) v:=by
 have get: ∀ {id j:Nat},idx id olds=some j->j<E'.nx/\E'.ρ j=E.ρ id/\ ∀root',E'.hp j=some root'-> ∃root,E.hp id=some root/\root' =renRoot olds E.hp root:=fun {id j} hj=>by
  have h1:=idx_get hj
  refine ⟨by rw[h.nx];exact (List.getElem?_eq_some_iff.1 h1).1,h.ρ j id h1,fun root' hr=> ?_⟩
  rw[h.hp] at hr
  obtain ⟨id',root,e1,e2,e3⟩:=renHp_at hr
  rw[h1] at e1;cases e1
  exact ⟨root,e2,e3⟩
 cases x with
 |own id=>
  simp only[renLV]
  split
  ·rename_i j hj
   obtain ⟨g1,g2,g3⟩:=get hj
   obtain ⟨_,hx⟩:=hx
   refine ⟨g1,fun root' hr=> ?_⟩
   obtain ⟨root,e1,rfl⟩:=g3 root' hr
   obtain ⟨r,k1,k2⟩:=hx root e1
   exact ⟨r,renRoot_row k1,by rw[g2];exact k2⟩
  ·trivial
 |sub id lo hi=>
  simp only[renLV]
  split
  ·rename_i j hj
   obtain ⟨g1,g2,g3⟩:=get hj
   obtain ⟨_,hx⟩:=hx
   refine ⟨g1,fun root' hr=> ?_⟩
   obtain ⟨root,e1,rfl⟩:=g3 root' hr
   obtain ⟨r,k1,k2,k3,k4⟩:=hx root e1
   exact ⟨r,renRoot_row k1,k2,k3,by rw[g2];exact k4⟩
  ·trivial
 |bptr id k=>
  simp only[renLV]
  split
  ·rename_i j hj
   obtain ⟨g1,g2,g3⟩:=get hj
   obtain ⟨_,hre,b,cap,k1,k2⟩:=hx
   refine ⟨g1,fun root' hr=> ?_,b,cap,by rw[g2];exact k1,k2⟩
   obtain ⟨root,e1,rfl⟩:=g3 root' hr
   exact renRoot_real (hre root e1)
  ·trivial
 |eptr id i f=>
  simp only[renLV]
  split
  ·rename_i j hj
   obtain ⟨g1,g2,g3⟩:=get hj
   obtain ⟨_,hx⟩:=hx
   refine ⟨g1,fun root' hr=> ?_⟩
   obtain ⟨root,e1,rfl⟩:=g3 root' hr
   obtain ⟨r,k1,k2,b,cap,k3,k4⟩:=hx root e1
   exact ⟨r,renRoot_row k1,k2,b,cap,by rw[g2];exact k3,k4⟩
  ·trivial
 |arr id n=>
  simp only[renLV]
  split
  ·rename_i j hj
   obtain ⟨g1,g2,g3⟩:=get hj
   obtain ⟨_,hx⟩:=hx
   refine ⟨g1,fun root' hr=> ?_⟩
   obtain ⟨root,e1,rfl⟩:=g3 root' hr
   obtain ⟨r,k1,k2,b,cap,k3,k4⟩:=hx root e1
   exact ⟨r,renRoot_row k1,k2,b,cap,by rw[g2];exact k3,k4⟩
  ·trivial
 |inner id ver i f=>trivial
 |iptr id ver i f j=>trivial
 |val p r=>
  show FrzRow E'.w (if p then E'.Zf else E'.ZL) r v
  rw[h.w]
  cases p with
  |true=>exact FrzRow.grow hx h.zf
  |false=>exact FrzRow.grow hx h.zl
 |vptr p r i f=>
  obtain ⟨h1,ad,h2,h3⟩:=hx
  refine ⟨h1,ad,h2,?_⟩
  rw[h.w]
  cases p with
  |true=>exact FrzAt.mono h3 (fun b hb=>⟨h.zf b hb,rfl⟩)
  |false=>exact FrzAt.mono h3 (fun b hb=>⟨h.zl b hb,rfl⟩)
 |er z=>cases z<;>exact hx
 |_=>exact hx
theorem renLVs_rel {E E':Env} (h:RenEnv olds E E'): ∀ {xs:List LV} {vs:List Value},LVsRel E xs vs->LVsRel E' (xs.map (renLV olds E.hp)) vs
 | [],[],_=>trivial
 |x::xs,v::vs,hx=>⟨renLV_rel h hx.1,renLVs_rel h hx.2⟩
theorem renA1_rel {E E':Env} (h:RenEnv olds E E') {x:A1} {v:Value} (hx:A1Rel E x v):A1Rel E' (renA1 olds E.hp x) v:=by
 cases x with
 |l x=>exact renLV_rel h hx
 |agg xs=>obtain ⟨vs,e,hx⟩:=hx;exact ⟨vs,e,renLVs_rel h hx⟩
theorem renA1s_rel {E E':Env} (h:RenEnv olds E E'): ∀ {xs:List A1} {vs:List Value},A1sRel E xs vs->A1sRel E' (xs.map (renA1 olds E.hp)) vs
 | [],[],_=>trivial
 |x::xs,v::vs,hx=>⟨renA1_rel h hx.1,renA1s_rel h hx.2⟩
theorem renAV_rel {E E':Env} (h:RenEnv olds E E') {x:AV} {v:Value} (hx:AVRel E x v):AVRel E' (renAV olds E.hp x) v:=by
 cases x with
 |one x=>exact renA1_rel h hx
 |tup xs=>obtain ⟨vs,e,hx⟩:=hx;exact ⟨vs,e,renA1s_rel h hx⟩
end
theorem SRel.norm (h:SRel C S a w ρ Fs) (live:List Nat):SRel C (stOf live (normV live S) (normH live S)) a w (ofOld ρ none (oldsOf live S)) (ofOld Fs fz (oldsOf live S)):=by
 obtain ⟨hnd,hlive⟩:=oldsOf_named live S
 generalize holds:oldsOf live S=olds at hnd hlive ⊢
 have hlt: ∀id∈olds,id<S.nx:=fun id hid=>by obtain ⟨r,hr⟩:=hlive id hid;exact live_lt h.mem hr
 have hsum: ∀b,sumTo olds.length (ofOld Fs fz olds) b<=sumTo S.nx Fs b:=fun b=>by
  rw[sumTo_olds Fs b olds _ (Nat.le_refl _),List.take_length]
  exact sumL_le Fs b S.nx hnd hlt
 have hHl:(normH live S).length=olds.length:=by simp[normH,holds]
 have hHp:hpOf (normH live S)=renHp olds S.hp:=by simp only[normH,holds];rfl
 have hst:stOf live (normV live S) (normH live S)=⟨slOf (pairUp live (normV live S)),renHp olds S.hp,olds.length⟩:=by
  unfold stOf;rw[hHl,hHp]
 have hzf: ∀b,C.Zf w (sumTo S.nx Fs) b->C.Zf w (sumTo olds.length (ofOld Fs fz olds)) b:=fun b hb=>by
  rcases hb with hb| ⟨h1,h2,h3⟩
  ·exact .inl hb
  ·exact .inr ⟨h1,h2,by have:=hsum b;omega⟩
 have hE:RenEnv olds (C.env w ρ S.hp S.nx Fs) (C.env w (ofOld ρ none olds) (renHp olds S.hp) olds.length (ofOld Fs fz olds)):=
  ⟨rfl,hzf,fun b hb=>hb.imp id (hzf b),fun j id hj=>by simp[Cx.env,ofOld,hj],rfl,rfl⟩
 rw[hst]
 refine ⟨⟨fun id hid=> ?_,fun j root' hr=> ?_,fun j hj=> ?_,fun b=> ?_,fun b hb=> ?_,h.mem.frame⟩,h.defers,h.size,fun t=> ?_⟩
 ·cases hq:renHp olds S.hp id with
  |none=>exact hq
  |some root=>
   obtain ⟨i,_,e,_⟩:=renHp_at hq
   have:=(List.getElem?_eq_some_iff.1 e).1
   have hid:olds.length<=id:=hid
   omega
 ·have hr:renHp olds S.hp j=some root':=hr
  obtain ⟨id,root,e1,e2,rfl⟩:=renHp_at hr
  have h1:=h.mem.roots id root e2
  have eF:ofOld Fs fz olds j=Fs id:=by simp[ofOld,e1]
  have eρ:ofOld ρ none olds j=ρ id:=by simp[ofOld,e1]
  rw[eF]
  cases root with
  |row e v r=>
   show RowRel w _ (ofOld ρ none olds j) r.cells r.len r.size (Fs id)
   rw[eρ]
   exact RowRel.mono h1 (fun b hb=>⟨hb.imp (fun x=>x) (hzf b),rfl⟩) (fun _ _=>rfl)
  |hole e v r i f=>
   obtain ⟨k1,k2,k3⟩:=h1
   refine ⟨k1,k2,?_⟩
   show RowRel w _ (ofOld ρ none olds j) _ r.len r.size (Fs id)
   rw[eρ]
   exact RowRel.mono k3 (fun b hb=>⟨hb.imp (fun x=>x) (hzf b),rfl⟩) (fun _ _=>rfl)
  |box t cells=>
   obtain ⟨b,cap,vs,ty,k1,k2,k3,k4⟩:=h1
   exact ⟨b,cap,vs,ty,by show ofOld ρ none olds j=_;rw[eρ];exact k1,k2,renLVs_rel hE k3,k4⟩
  |ghost=>exact h1
 ·have hj:renHp olds S.hp j=none:=hj
  cases ho:olds[j]? with
  |none=>simp[ofOld,ho]
  |some id=>
   simp only[ofOld,ho]
   refine h.mem.dead id ?_
   cases hq:S.hp id with
   |none=>rfl
   |some root=>
    exfalso
    unfold renHp hpOf at hj
    rw[List.getElem?_map,ho] at hj
    simp[hq] at hj
 ·show sumTo olds.length (ofOld Fs fz olds) b<=1
  have:=hsum b;have:=h.mem.one b;omega
 ·have hb:1<=sumTo olds.length (ofOld Fs fz olds) b:=hb
  exact h.mem.mine b (by have:=hsum b;omega)
 ·show AVRel _ (slOf (pairUp live (normV live S)) t) _
  unfold slOf normV
  rw[look_pair]
  by_cases ht:t∈live
  ·simp only[ht,if_true,holds]
   exact renAV_rel hE (h.slots t)
  ·simp only[ht,if_false]
   trivial
end
section
variable {R:Type} {P:Program} {G:Glob R} {live:List (Nat×List Nat)} {Λ:LTab R}
def exitOf:X->Exit
 | .normal=> .normal
 | .exit id=> .exit id
 | .ret=> .ret
def LoopFit (G:Glob R) (live:List (Nat×List Nat)) (Λ:LTab R) (body:Code) (K:X->St->Option R) (vs:List AV) (hs:List (Option Root)) (r:R):Prop:=
 ∃(A:Type) (enc:A->List AV×List (Option Root)) (un:List AV->List (Option Root)->Option A) (step:(A->Option R)->A->Option R) (n:Nat) (a:A),
  enc a=(vs,hs)/\(∀a,un (enc a).1 (enc a).2=some a)/\
  (∀(Lp:List AV->List (Option Root)->Option R) a,ev G live Λ body (fun x S'=>match x with| .normal=>Lp (normV (liveAt live body) (frzS (frzAt live body) S')) (normH (liveAt live body) (frzS (frzAt live body) S'))|x=>K x (canon (liveOut live body) (frzS (frzOut live body) S'))) (stOf (liveAt live body) (enc a).1 (enc a).2)=step (fun a'=>Lp (enc a').1 (enc a').2) a)/\
  iter step n a=some r
def LoopsOK (G:Glob R) (live:List (Nat×List Nat)) (Λ:LTab R):Code->Prop
 | .loop body=>(∀K vs hs r,Λ (keyOf body) K vs hs=some r->LoopFit G live Λ body K vs hs r)/\LoopsOK G live Λ body
 | .seq a b=>LoopsOK G live Λ a/\LoopsOK G live Λ b
 | .cond _ a b=>LoopsOK G live Λ a/\LoopsOK G live Λ b
 | .block _ b=>LoopsOK G live Λ b
 |_=>True
variable {C:Cx}
open Classical in
theorem ev_sound (hG:GOK P G) (hm:P.follows .mixedOrders=true) (hN:NOK P G.nt C): ∀(c:Code),LoopsOK G live Λ c-> ∀ {K:X->St->Option R} {S:St} {r:R},ev G live Λ c K S=some r-> ∀ {a:Act} {w:World} {ρ:Place} {Fs:Nat->FP},SRel C S a w ρ Fs-> ∀ {Q:Exit->Act->World->Prop},
 (∀x S',K x S' =some r-> ∀a' w' ρ' Fs',SRel C S' a' w' ρ' Fs'->Q (exitOf x) a' w')->c.wp P Q a w:=by
 intro c
 induction c with
 |skip=>intro _ K S r he a w ρ Fs h Q hQ;exact wp_skip (hQ .normal S he _ _ _ _ h)
 |region id ops draw=>
  intro _ K S r he a w ρ Fs h Q hQ
  simp only[ev] at he
  exact evRegion_sound hG hm hN he h (fun S' hK a' w' ρ' Fs' h'=>hQ .normal S' hK _ _ _ _ h')
 |seq c d ihc ihd=>
  intro hl K S r he a w ρ Fs h Q hQ
  simp only[ev] at he
  refine wp_seq (ihc hl.1 he h fun x S' hK a' w' ρ' Fs' h'=> ?_)
  cases x with
  |normal=>exact ihd hl.2 hK h' hQ
  |exit i=>exact hQ (.exit i) S' hK _ _ _ _ h'
  |ret=>exact hQ .ret S' hK _ _ _ _ h'
 |cond x c d ihc ihd=>
  intro hl K S r he a w ρ Fs h Q hQ
  simp only[ev] at he
  split at he
  ·rename_i b hb
   have hv:=h.rd x
   rw[<- hN.nt,hb] at hv
   have hv:a.eval x= .bool b:=hv
   have same: ∀(t:Tmp),x= .tmp t->S.put (some t) (.l (.b b))=S:=fun t hy=>by
    subst hy
    cases hlt:Nat.blt t G.nt with
    |true=>rw[St.rd,hlt] at hb;exact put_same hb
    |false=>rw[St.rd,hlt] at hb;cases hb
   cases b with
   |true=>
    have he2:ev G live Λ c K S=some r:=by
     cases x with
     |tmp t=>simp only[same t rfl] at he;exact he
     |_=>exact he
    exact wp_cond_true hv (ihc hl.1 he2 h hQ)
   |false=>
    have he2:ev G live Λ d K S=some r:=by
     cases x with
     |tmp t=>simp only[same t rfl] at he;exact he
     |_=>exact he
    exact wp_cond_false hv (ihd hl.2 he2 h hQ)
  ·cases he
 |block id c ih=>
  intro hl K S r he a w ρ Fs h Q hQ
  simp only[ev] at he
  refine wp_block (ih hl he h fun x S' hK a' w' ρ' Fs' h'=> ?_)
  cases x with
  |normal=>exact hQ .normal S' hK _ _ _ _ h'
  |exit i=>
   simp only[blockK] at hK
   by_cases e:i=id
   ·subst e
    simp only[beq_self_eq_true,cond_true] at hK
    simp only[exitOf,Exit.inBlock,if_true]
    exact hQ .normal S' hK _ _ _ _ h'
   ·have e2:(i==id)=false:=by simp[e]
    simp only[e2,cond_false] at hK
    simp only[exitOf,Exit.inBlock,if_neg e]
    exact hQ (.exit i) S' hK _ _ _ _ h'
  |ret=>exact hQ .ret S' hK _ _ _ _ h'
 |loop body ih=>
  intro hl K S r he a w ρ Fs h Q hQ
  simp only[ev] at he
  obtain ⟨A,enc,un,step,n,a0,e1,hun,hstep,hit⟩:=hl.1 _ _ _ _ he
  have hinj: ∀a b:A,enc a=enc b->a=b:=fun a b e=>by
   have h1:=hun a
   rw[e,hun b] at h1
   exact (Option.some.inj h1).symm
  have key: ∀(n:Nat) (a0:A),iter step n a0=some r-> ∀(a:Act) (w:World) (ρ:Place) (Fs:Nat->FP),SRel C (stOf (liveAt live body) (enc a0).1 (enc a0).2) a w ρ Fs->Code.rounds P body Q n a w:=by
   intro n
   induction n with
   |zero=>intro a0 h0;cases h0
   |succ n ihn=>
    intro a0 h0 a w ρ Fs h
    rw[rounds_succ]
    have h0:step (iter step n) a0=some r:=h0
    let Lp:List AV->List (Option Root)->Option R:=fun vs hs=>if hh: ∃a,enc a=(vs,hs) then iter step n hh.choose else none
    have hLp:(fun a'=>Lp (enc a').1 (enc a').2)=iter step n:=by
     funext a'
     have hh: ∃a,enc a=((enc a').1,(enc a').2):=⟨a',rfl⟩
     show (if hh: ∃a,enc a=((enc a').1,(enc a').2) then iter step n hh.choose else none)=_
     rw[dif_pos hh,hinj _ a' hh.choose_spec]
    rw[<- hLp,<- hstep] at h0
    refine ih hl.2 h0 h fun x S' hK a' w' ρ' Fs' h'=> ?_
    cases x with
    |normal=>
     have hK:(if hh: ∃a,enc a=(normV (liveAt live body) (frzS (frzAt live body) S'),normH (liveAt live body) (frzS (frzAt live body) S')) then iter step n hh.choose else none)=some r:=hK
     split at hK
     ·rename_i hh
      obtain ⟨ρ1,F1,h1⟩:=SRel.frzS (frzAt live body) h'
      have h2:=h1.norm (liveAt live body)
      exact ihn hh.choose hK a' w' _ _ (by rw[hh.choose_spec];exact h2)
     ·cases hK
    |exit i=>
     obtain ⟨ρ1,F1,h1⟩:=SRel.frzS (frzOut live body) h'
     exact hQ (.exit i) _ hK _ _ _ _ (h1.norm _)
    |ret=>
     obtain ⟨ρ1,F1,h1⟩:=SRel.frzS (frzOut live body) h'
     exact hQ .ret _ hK _ _ _ _ (h1.norm _)
  obtain ⟨ρ1,F1,h1⟩:=SRel.frzS (frzAt live body) h
  have h2:=h1.norm (liveAt live body)
  exact wp_loop_rounds n (key n a0 hit a w _ _ (by rw[e1];exact h2))
 |exit id=>intro _ K S r he a w ρ Fs h Q hQ;exact wp_exit (hQ (.exit id) S he _ _ _ _ h)
 |ret=>intro _ K S r he a w ρ Fs h Q hQ;exact wp_ret (hQ .ret S he _ _ _ _ h)
 |_=>intro _ K S r he;cases he
theorem finish_bind {tt:TT} {g:Sig} {fn:Func} {S:St} {K:List DV->Option R} {r:R} (h:finish tt g fn S K=some r): ∃rs,finish (R:=List DV) tt g fn S some=some rs/\K rs=some r:=by
 unfold finish at h
 split at h
 ·cases h
 ·rename_i vs hvs
  split at h
  ·cases h
  ·rename_i ds ks fk hds
   simp only[] at h
   split at h
   ·cases h
   ·rename_i ds' ks' fk' hds'
    obtain ⟨h1,h2⟩:=bif_some h
    refine ⟨_,?_,h2⟩
    unfold finish
    rw[hvs]
    simp only[]
    rw[hds]
    simp only[]
    rw[hds']
    simp only[]
    rw[h1]
    rfl
theorem finishM_bind {mix:Bool} {tt:TT} {g:Sig} {fn:Func} {S:St} {K:List DV->Option R} {r:R} (h:finishM mix tt g fn S K=some r): ∃c rs,finish (R:=List DV) tt (g.to c) fn S some=some rs/\K rs=some r:=by
 have one:finish tt g fn S K=some r-> ∃c rs,finish (R:=List DV) tt (g.to c) fn S some=some rs/\K rs=some r:=fun h=>by
  obtain ⟨rs,h1,h2⟩:=finish_bind h
  exact ⟨g.oc,rs,h1,h2⟩
 unfold finishM at h
 cases mix with
 |false=>exact one h
 |true=>
  simp only[cond_true] at h
  split at h
  ·rename_i rs h1;exact ⟨.own,rs,h1,h⟩
  ·exact one h
theorem inArgs_length {tt:TT}: ∀(ts:List Nat) (ds:List DV) (n:Nat) {xs:List AV} {up:List (Nat×Option Root)} {n':Nat},inArgs tt ts ds n=some (xs,up,n')->xs.length=ts.length/\ds.length=ts.length
 | [],[],n,xs,up,n',h=>by simp only[inArgs,Option.some.injEq,Prod.mk.injEq] at h;obtain ⟨rfl,_⟩:=h;exact ⟨rfl,rfl⟩
 | [],_::_,_,_,_,_,h=>by simp[inArgs] at h
 |_::_,[],_,_,_,_,h=>by simp[inArgs] at h
 |t::ts,d::ds,n,xs,up,n',h=>by
  simp only[inArgs] at h
  split at h
  ·split at h
   ·rename_i h2
    cases h
    obtain ⟨k1,k2⟩:=inArgs_length ts ds _ h2
    exact ⟨by simp[k1],by simp[k2]⟩
   ·cases h
  ·cases h
theorem look_numbered: ∀(xs:List AV) (i t:Nat),look (numbered i xs) t=if i<=t then xs[t-i]? else none
 | [],i,t=>by simp[numbered,look]
 |x::xs,i,t=>by
  simp only[numbered,look,look_numbered xs (i+1) t]
  by_cases e:i=t
  ·subst e;simp
  ·have e1:(i==t)=false:=by simp[e]
   simp only[e1,cond_false]
   by_cases h:i<=t
   ·have h2:i+1<=t:=by omega
    simp only[h,h2,if_true]
    rw[show t-i=(t-(i+1))+1 by omega,List.getElem?_cons_succ]
   ·simp[h,show ¬i+1<=t by omega]
theorem AVsRel.at {E:Env}: ∀ {xs:List AV} {vs:List Value},AVsRel E xs vs-> ∀ {j:Nat} {x:AV},xs[j]? =some x-> ∃v,vs[j]? =some v/\AVRel E x v
 |x::xs,v::vs,h,0,y,hy=>by simp at hy;subst hy;exact ⟨v,rfl,h.1⟩
 |x::xs,v::vs,h,j+1,y,hy=>by
  obtain ⟨u,h1,h2⟩:=AVsRel.at h.2 (j:=j) (by simpa using hy)
  exact ⟨u,by simpa using h1,h2⟩
theorem look_append: ∀(l m:List (Nat×AV)) (t:Nat),look (l++m) t=match look l t with|some v=>some v|none=>look m t
 | [],m,t=>rfl
 | (i,x)::l,m,t=>by
   simp only[List.cons_append,look,look_append l m t]
   cases i==t<;>rfl
theorem fn_contract (hG:GOK P G) (hm:P.follows .mixedOrders=true) {f:FuncId} {fn:Func} {g:Sig} {body:Code} (hf:P.funcs[f]? =some fn) (hb:fn.body=some body) (hl:LoopsOK G live Λ body) (hN:G.nt=fn.ntmps) (hp:g.params.length<=fn.ntmps) (hres:fn.results.size=g.results.length)
 {ds rs:List DV} {K:List DV->Option R} {r:R} (hK: ∀rs',K rs' =some r->rs' =rs) (he:evFn G live Λ g fn ds K=some r):Contract P f g ds rs:=by
 intro C0 args hP hargs h1 h2
 let C:Cx:={C0 with N:=fn.ntmps,kv:=args}
 unfold evFn at he
 split at he
 case h_2=>cases he
 rename_i xs up nx body' hin hb'
 rw[hb] at hb';cases hb'
 have hlen:=inArgs_length _ _ _ hin
 obtain ⟨ρ1,Fs1,hfr,hrel⟩:=inArgs_sound (w:=C.w0) (Zf:=C.Zf0) (ZL:=C.Zl) _ _ _ _ _ _ _ _ hin hargs
 obtain ⟨hm0,hext⟩:=Frag.start (C:=C) hfr h1 h2
 have hxs:=hrel _ hext
 have hal:args.length=g.params.length:=by rw[<- hxs.length];exact hlen.1
 have hxl:xs.length<=fn.ntmps:=by rw[hlen.1];exact hp
 have h0:SRel C ⟨slOf (bif noIO g.modes then numbered 0 xs else numbered 0 xs++numbered fn.ntmps xs),upd nohp up,nx⟩ {tmps:=args.toArray++Array.replicate (fn.ntmps-args.toArray.size) undef,defers:=[]} C.w0 ρ1 Fs1:=by
  have low: ∀t,AVRel (C.env C.w0 ρ1 (upd nohp up) nx Fs1) (slOf (numbered 0 xs) t) (C.val {tmps:=args.toArray++Array.replicate (fn.ntmps-args.toArray.size) undef,defers:=[]} t):=fun t=>by
   unfold slOf
   rw[look_numbered]
   simp only[Nat.zero_le,if_true,Nat.sub_zero]
   cases hx:xs[t]? with
   |none=>trivial
   |some x=>
    obtain ⟨v,hv,hr⟩:=hxs.at hx
    have ht:t<args.length:=(List.getElem?_eq_some_iff.1 hv).1
    have htN:t<C.N:=by show t<fn.ntmps;omega
    simp only[Cx.val,if_pos htN]
    have e:(args.toArray++Array.replicate (fn.ntmps-args.toArray.size) undef).getD t undef=v:=by
     rw[Array.getD_eq_getD_getElem?,Array.getElem?_append_left (by simpa using ht)]
     simp[hv]
    rw[e];exact hr
  refine ⟨hm0,rfl,?_,fun t=> ?_⟩
  ·show (args.toArray++Array.replicate (fn.ntmps-args.toArray.size) undef).size=fn.ntmps
   simp;omega
  ·show AVRel _ (slOf (bif noIO g.modes then numbered 0 xs else numbered 0 xs++numbered fn.ntmps xs) t) _
   cases noIO g.modes with
   |true=>exact low t
   |false=>
    have hla: ∀(l m:List (Nat×AV)),slOf (l++m) t=match look l t with|some v=>v|none=>slOf m t:=fun l m=>by
     unfold slOf
     rw[look_append]
     cases look l t<;>rfl
    simp only[cond_false]
    rw[hla]
    cases hq:look (numbered 0 xs) t with
    |some v=>
     have:=low t
     unfold slOf at this
     rw[hq] at this
     exact this
    |none=>
     show AVRel _ (slOf (numbered fn.ntmps xs) t) _
     unfold slOf
     rw[look_numbered]
     by_cases ht:fn.ntmps<=t
     ·rw[if_pos ht]
      cases hx:xs[t-fn.ntmps]? with
      |none=>trivial
      |some x=>
       obtain ⟨v,hv,hr⟩:=hxs.at hx
       have e1: ¬t<C.N:=by show ¬t<fn.ntmps;omega
       simp only[Cx.val,if_neg e1]
       have e:C.kv.getD (t-C.N) undef=v:=by
        show args.getD (t-fn.ntmps) undef=v
        rw[List.getD_eq_getElem?_getD,hv];rfl
       rw[e];exact hr
     ·rw[if_neg ht];trivial
 refine calls_of_wp hf hb ?_
 refine ev_sound hG hm (C:=C) ⟨hN,hP⟩ body hl he h0 fun x S' hK' a' w' ρ' Fs' h'=> ?_
 have fin:finishM (mixAt live) G.tt g fn S' K=some r->bodyPost P fn (Ends C0 g args rs) .normal a' w':=fun hf=>by
  obtain ⟨c,rs',f1,f2⟩:=finishM_bind hf
  obtain rfl:=hK rs' f2
  obtain ⟨v,k1,vs,F',k2,k3,k4,k5,k6,k7⟩:=finish_sound hG.tt h' (C:=C) (g:=g.to c) rfl rfl hal.symm hres f1
  exact ⟨h'.defers,v,k1,vs,F',k2,k3,⟨k4.size,k4.os,k4.tape,k4.output,k4.block⟩,k5,k6,k7⟩
 cases x with
 |normal=>exact fin hK'
 |exit i=>cases hK'
 |ret=>exact fin hK'
end
end Go.Proofs.YtbmmhdmljajcfaaGreatDoor.V
