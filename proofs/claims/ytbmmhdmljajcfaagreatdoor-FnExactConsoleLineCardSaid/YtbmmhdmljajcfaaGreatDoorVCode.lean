/- The abstract evaluator and its soundness: part VCode. Conditions: as each section says. -/
import Derived.Test.YtbmmhdmljajcfaaGreatDoorVOpP
set_option linter.unusedVariables false
set_option linter.unusedSimpArgs false
namespace Go.Proofs.YtbmmhdmljajcfaaGreatDoor.V
open Go
def oJ (w:World) (Zf ZL:Zs):DL->Value->FP->Prop
 | .i k n,v,F=>v= .int k n/\F=fz
 | .b x,v,F=>v= .bool x/\F=fz
 | .s x,v,F=>v= .string x/\F=fz
 | .er true,v,F=>v= .nilIface/\F=fz
 | .er false,v,F=>(∃t x,v= .iface t x)/\F=fz
 | .sl .jw r,v,F=>iq w Zf r v/\F=fz
 | .sl .bi r,v,F=>iq w ZL r v/\F=fz
 | .sl .own r,v,F=> ∃q,v=hdr q r.len/\kh w ZL q r.cells r.len r.size F
def nn (w:World) (Zf ZL:Zs):List DL->List Value->FP->Prop
 | [],[],F=>F=fz
 |d::ds,v::vs,F=> ∃F1 F2,oJ w Zf ZL d v F1/\nn w Zf ZL ds vs F2/\F=ez F1 F2
 |_,_,_=>False
def sM (w:World) (Zf ZL:Zs):DV->Value->FP->Prop
 | .l d,v,F=>oJ w Zf ZL d v F
 | .agg ds,v,F=> ∃vs:List Value,v= .agg vs.toArray/\nn w Zf ZL ds vs F
 | .ptr ds,v,F=> ∃b vs ty F',v= .pointer (some ⟨b,0,none⟩)/\w.heap[b]? =some (.cells vs ty (0,0))/\nn w Zf ZL ds vs.toList F' /\F=ez (f1 b) F'
def fR (w:World) (Zf ZL:Zs):List DV->List Value->FP->Prop
 | [],[],F=>F=fz
 |d::ds,v::vs,F=> ∃F1 F2,sM w Zf ZL d v F1/\fR w Zf ZL ds vs F2/\F=ez F1 F2
 |_,_,_=>False
theorem jF (hp:Nat->Option aQ): ∀(up:List (Nat×Option aQ)) {j:Nat},(∀p∈up,p.1≠j)->jh hp up j=hp j:=by
 intro up
 induction up generalizing hp with
 |nil=>intro j _;rfl
 |cons p up ih=>
  intro j h
  obtain ⟨i,r⟩:=p
  rw[jh,ih _ (fun q hq=>h q (by simp[hq]))]
  have:(j==i)=false:=by have:=h (i,r) (by simp);simpa using Ne.symm this
  simp[this]
theorem FG: ∀(up:List (Nat×Option aQ)) {hp hp':Nat->Option aQ} {j:Nat},hp j=hp' j->jh hp up j=jh hp' up j:=by
 intro up
 induction up with
 |nil=>intro hp hp' j h;exact h
 |cons p up ih=>
  intro hp hp' j h
  obtain ⟨i,r⟩:=p
  simp only[jh]
  refine ih ?_
  cases j==i
  ·exact h
  ·rfl
def xC:Nat->Option aQ:=fun _=>none
structure Ext (w:World) (Zf ZL:Zs) (n n':Nat) (up:List (Nat×Option aQ)) (ρ1:Place) (E:Env):Prop where
 w:E.w=w
 zf: ∀b,Zf b->E.Zf b
 zl: ∀b,ZL b->E.ZL b
 ρ: ∀j,n<=j->j<n'->E.ρ j=ρ1 j
 hp: ∀j,n<=j->j<n'->E.hp j=jh xC up j
 nx:n' <=E.nx
structure sN (w:World) (Zf ZL:Zs) (n n':Nat) (up:List (Nat×Option aQ)) (F:FP) (ρ1:Place) (rB:Nat->FP):Prop where
 le:n<=n'
 out: ∀j,j<n\/n' <=j->rB j=fz
 sum: ∀b,aR n' rB b=F b
 keys: ∀p∈up,n<=p.1/\p.1<n'
 dead: ∀j,jh xC up j=none->rB j=fz
 roots: ∀E,Ext w Zf ZL n n' up ρ1 E-> ∀j root,jh xC up j=some root->lJ E j root (rB j)
section
variable {w:World} {Zf ZL:Zs}
theorem xD (n:Nat) (b:Nat) (Fs:Nat->FP) (h: ∀j,j<n->Fs j=fz):aR n Fs b=0:=by
 have:aR n Fs b=aR n (fun _=>fz) b:=aar b (fun j hj=>by rw[h j hj])
 rw[this]
 induction n with
 |zero=>rfl
 |succ n ih=>simp[aR,ih (fun j hj=>h j (by omega)) (aar b fun j hj=>by rw[h j (by omega)])]
theorem yt (n:Nat) (b:Nat) (Fs Gs:Nat->FP):aR n (fun j=>ez (Fs j) (Gs j)) b=aR n Fs b+aR n Gs b:=by
 induction n with
 |zero=>rfl
 |succ n ih=>simp[aR,ih];omega
theorem sN.nil (n:Nat) (ρ1:Place):sN w Zf ZL n n [] fz ρ1 (fun _=>fz):=
 ⟨ai _,fun _ _=>rfl,fun b=>xD n b _ (fun _ _=>rfl),by simp,fun _ _=>rfl,fun E h j root hj=>by simp[jh,xC] at hj⟩
theorem sN.join {n m n':Nat} {up jW:List (Nat×Option aQ)} {F F':FP} {ρ1 ρ2:Place} {rB Fs2:Nat->FP} (h:sN w Zf ZL n m up F ρ1 rB) (h':sN w Zf ZL m n' jW F' ρ2 Fs2):
 sN w Zf ZL n n' (up++jW) (ez F F') (fun j=>if j<m then ρ1 j else ρ2 j) (fun j=>ez (rB j) (Fs2 j))/\
 (∀E,Ext w Zf ZL n n' (up++jW) (fun j=>if j<m then ρ1 j else ρ2 j) E->Ext w Zf ZL n m up ρ1 E/\Ext w Zf ZL m n' jW ρ2 E):=by
 have Ex: ∀j,j<m->jh xC (up++jW) j=jh xC up j:=fun j hj=>by
  rw[dn]
  exact jF _ _ (fun p hp e=>by have:=(h'.keys p hp).1;omega)
 have IN: ∀j,m<=j->jh xC (up++jW) j=jh xC jW j:=fun j hj=>by
  rw[dn]
  refine FG _ ?_
  exact jF _ _ (fun p hp e=>by have:=(h.keys p hp).2;omega)
 have HF: ∀E,Ext w Zf ZL n n' (up++jW) (fun j=>if j<m then ρ1 j else ρ2 j) E->Ext w Zf ZL n m up ρ1 E/\Ext w Zf ZL m n' jW ρ2 E:=fun E e=>by
  have l1:=h.le
  have l2:=h'.le
  refine ⟨⟨e.w,e.zf,e.zl,fun j a b=> ?_,fun j a b=> ?_,by have:=e.nx;omega⟩,⟨e.w,e.zf,e.zl,fun j a b=> ?_,fun j a b=> ?_,e.nx⟩⟩
  ·rw[e.ρ j a (by omega),aS b]
  ·rw[e.hp j a (by omega),Ex j b]
  ·rw[e.ρ j (by omega) b,aD (by omega)]
  ·rw[e.hp j (by omega) b,IN j a]
 have hle:=h.le
 have acp:=h'.le
 refine ⟨⟨by omega,fun j hj=> ?_,fun b=> ?_,fun p hp=> ?_,fun j hj=> ?_,fun E e j root hj=> ?_⟩,HF⟩
 ·rw[h.out j (by omega),h'.out j (by omega),dw]
 ·rw[yt,h'.sum b]
  have:=vS (Fs:=rB) b acp (fun j h1 _=>by rw[h.out j (.inr h1)];rfl)
  rw[this,h.sum b]
  rfl
 ·rcases List.mem_append.1 hp with hp|hp
  ·have:=h.keys p hp;omega
  ·have:=h'.keys p hp;omega
 ·by_cases e:j<m
  ·rw[Ex j e] at hj
   rw[h.dead j hj,h'.out j (.inl e),dw]
  ·rw[IN j (by omega)] at hj
   rw[h'.dead j hj,h.out j (.inr (by omega)),dw]
 ·obtain ⟨e1,e2⟩:=HF E e
  by_cases e:j<m
  ·rw[Ex j e] at hj
   rw[h'.out j (.inl e),dw]
   exact h.roots E e1 j root hj
  ·rw[IN j (by omega)] at hj
   rw[h.out j (.inr (by omega)),lU]
   exact h'.roots E e2 j root hj
theorem iq.grow {Z Z':Zs} {r:Row} {v:Value} (h:iq w Z r v) (hz: ∀b,Z b->Z' b):iq w Z' r v:=h.mono (fun b hb=>⟨hz b hb,rfl⟩)
theorem sN.row {n e:Nat} {r:Row} {q:Option (Nat×Nat)} {F:FP} (h:kh w ZL q r.cells r.len r.size F):sN w Zf ZL n (n+1) [(n,some (.row e 0 r))] F (fun _=>q) (jH (fun _=>fz) n F):=by
 refine ⟨Nat.le_succ _,fun j hj=>fq _ _ (by omega),fun b=> ?_,by simp,fun j hj=> ?_,fun E ex j root hj=> ?_⟩
 ·rw[HG,xD n b _ (fun _ _=>rfl)];omega
 ·rw[jG] at hj
  split at hj
  ·cases hj
  ·exact fq _ _ ‹_›
 ·rw[jG] at hj
  split at hj
  ·rename_i e'
   subst e'
   cases hj
   rw[kK]
   show kh E.w E.ZL (E.ρ j) r.cells r.len r.size F
   rw[ex.ρ j (ai _) (Nat.lt_succ_self _),ex.w]
   exact h.mono (fun b hb=>⟨ex.zl b hb,rfl⟩) (fun b _=>rfl)
  ·cases hj
theorem Bp {tt:TT} {t n n':Nat} {d:DL} {x:LV} {up:List (Nat×Option aQ)} (hi:vT tt t d n=some (x,up,n')) {v:Value} {F:FP} (hd:oJ w Zf ZL d v F):
 ∃ρ1 rB,sN w Zf ZL n n' up F ρ1 rB/\ ∀E,Ext w Zf ZL n n' up ρ1 E->gJ E x v:=by
 have plain:F=fz->up=[]->n' =n->(∀E,Ext w Zf ZL n n' up (fun _=>none) E->gJ E x v)-> ∃ρ1 rB,sN w Zf ZL n n' up F ρ1 rB/\ ∀E,Ext w Zf ZL n n' up ρ1 E->gJ E x v:=fun h1 h2 h3 h4=>by
  subst h1 h2 h3
  exact ⟨_,_,sN.nil n' _,h4⟩
 cases d with
 |i k z=>cases hi;exact plain hd.2 rfl rfl (fun E _=>hd.1)
 |b z=>cases hi;exact plain hd.2 rfl rfl (fun E _=>hd.1)
 |s z=>cases hi;exact plain hd.2 rfl rfl (fun E _=>hd.1)
 |er z=>cases z<;>(cases hi;exact plain hd.2 rfl rfl (fun E _=>hd.1))
 |sl c r=>
  cases c with
  |jw=>cases hi;exact plain hd.2 rfl rfl (fun E ex=>by show iq E.w E.Zf r v;rw[ex.w];exact hd.1.grow ex.zf)
  |bi=>cases hi;exact plain hd.2 rfl rfl (fun E ex=>by show iq E.w E.ZL r v;rw[ex.w];exact hd.1.grow ex.zl)
  |own=>
   simp only[vT] at hi
   split at hi
   ·rename_i e he
    cases hi
    obtain ⟨q,hv,hr⟩:=hd
    refine ⟨_,_,sN.row hr,fun E ex=>⟨by have:=ex.nx;omega,fun root aJ=> ?_⟩⟩
    rw[ex.hp n (ai _) (Nat.lt_succ_self _),jG,aS rfl] at aJ
    cases aJ
    exact ⟨r,rfl,by rw[ex.ρ n (ai _) (Nat.lt_succ_self _)];exact hv⟩
   ·cases hi
theorem uh {tt:TT}: ∀(ts:List Nat) (ds:List DL) (n n':Nat) (xs:List LV) (up:List (Nat×Option aQ)) (vs:List Value) (F:FP),nK tt ts ds n=some (xs,up,n')->nn w Zf ZL ds vs F->
 ∃ρ1 rB,sN w Zf ZL n n' up F ρ1 rB/\ ∀E,Ext w Zf ZL n n' up ρ1 E->cw E xs vs
 | [],[],n,n',xs,up,vs,F,hi,hd=>by
   simp only[nK,af,aA] at hi
   obtain ⟨rfl,rfl,rfl⟩:=hi
   cases vs with
   |nil=>have:F=fz:=hd
         subst this
         exact ⟨_,_,sN.nil n (fun _=>none),fun _ _=>trivial⟩
   |cons v vs=>exact absurd hd id
 | [],_::_,_,_,_,_,_,_,hi,_=>by simp[nK] at hi
 |_::_,[],_,_,_,_,_,_,hi,_=>by simp[nK] at hi
 |t::ts,d::ds,n,n',xs,up,vs,F,hi,hd=>by
  simp only[nK] at hi
  split at hi
  ·rename_i x Vt m h1
   split at hi
   ·rename_i ys up2 n2 h2
    cases hi
    cases vs with
    |nil=>exact absurd hd id
    |cons v vs=>
     obtain ⟨F1,F2,d1,d2,rfl⟩:=hd
     obtain ⟨ρ1,rB,f1,r1⟩:=Bp h1 d1
     obtain ⟨ρ2,Fs2,f2,r2⟩:=uh ts ds _ _ _ _ _ _ h2 d2
     obtain ⟨f3,e3⟩:=f1.join f2
     exact ⟨_,_,f3,fun E ex=>⟨r1 E (e3 E ex).1,r2 E (e3 E ex).2⟩⟩
   ·cases hi
  ·cases hi
theorem sN.box {n n' t:Nat} {up:List (Nat×Option aQ)} {F':FP} {ρ1:Place} {rB:Nat->FP} (h:sN w Zf ZL (n+1) n' up F' ρ1 rB) {b:Nat} {vs:Array Value} {ty:TypeId} (hb:w.heap[b]? =some (.cells vs ty (0,0))) {xs:List LV} (hx: ∀E,Ext w Zf ZL (n+1) n' up ρ1 E->cw E xs vs.toList):
 sN w Zf ZL n n' (up++[(n,some (.box t xs))]) (ez (f1 b) F') (fun j=>if j=n then some (b,1) else ρ1 j) (jH rB n (f1 b))/\
 (∀E,Ext w Zf ZL n n' (up++[(n,some (.box t xs))]) (fun j=>if j=n then some (b,1) else ρ1 j) E->gJ E (.je n 0) (.pointer (some ⟨b,0,none⟩))):=by
 have hle:=h.le
 have rF: ∀j,jh xC (up++[(n,some (.box t xs))]) j=if j=n then some (.box t xs) else jh xC up j:=fun j=>by rw[dn,jG]
 have hnn:jh xC up n=none:=jF _ _ (fun p hp e=>by have:=(h.keys p hp).1;omega)
 have hFn:rB n=fz:=h.out n (.inl (by omega))
 have HF: ∀E,Ext w Zf ZL n n' (up++[(n,some (.box t xs))]) (fun j=>if j=n then some (b,1) else ρ1 j) E->Ext w Zf ZL (n+1) n' up ρ1 E:=fun E e=>
  ⟨e.w,e.zf,e.zl,fun j a c=>by rw[e.ρ j (by omega) c,aD (by omega)],fun j a c=>by rw[e.hp j (by omega) c,rF,aD (by omega)],e.nx⟩
 refine ⟨⟨by omega,fun j hj=> ?_,fun b'=> ?_,fun p hp=> ?_,fun j hj=> ?_,fun E e j root hj=> ?_⟩,fun E e=> ?_⟩
 ·rw[fq _ _ (by omega)]
  exact h.out j (by omega)
 ·have h1:=iT rB (f1 b) b' (n:=n') (id:=n) (by omega)
  have h2:=h.sum b'
  rw[hFn] at h1
  simp at h1 ⊢
  omega
 ·rcases List.mem_append.1 hp with hp|hp
  ·have:=h.keys p hp;omega
  ·simp at hp;subst hp;simp;omega
 ·rw[rF] at hj
  split at hj
  ·cases hj
  ·rw[fq _ _ ‹_›];exact h.dead j hj
 ·rw[rF] at hj
  split at hj
  ·rename_i e'
   subst e'
   cases hj
   rw[kK]
   exact ⟨b,1,vs,ty,by rw[e.ρ j (ai _) (by omega),aS rfl],by rw[e.w];exact hb,hx E (HF E e),rfl⟩
  ·rename_i e'
   rw[fq _ _ e']
   exact h.roots E (HF E e) j root hj
 ·refine ⟨by have:=e.nx;omega,fun root hr=> ?_,b,1,by rw[e.ρ n (ai _) (by omega),aS rfl],rfl⟩
  rw[e.hp n (ai _) (by omega),rF,aS rfl] at hr
  cases hr
  trivial
theorem L7 {tt:TT} {t n n':Nat} {d:DV} {x:AV} {up:List (Nat×Option aQ)} (hi:aaL tt t d n=some (x,up,n')) {v:Value} {F:FP} (hd:sM w Zf ZL d v F):
 ∃ρ1 rB,sN w Zf ZL n n' up F ρ1 rB/\ ∀E,Ext w Zf ZL n n' up ρ1 E->jC E x v:=by
 cases d with
 |l d=>
  simp only[aaL] at hi
  split at hi
  ·rename_i y Vt m h1
   cases hi
   exact Bp h1 hd
  ·cases hi
 |agg ds=>
  simp only[aaL] at hi
  split at hi
  ·rename_i ys Vt m h1
   cases hi
   obtain ⟨vs,rfl,hd⟩:=hd
   obtain ⟨ρ1,rB,f1,r1⟩:=uh _ _ _ _ _ _ _ _ h1 hd
   exact ⟨ρ1,rB,f1,fun E ex=>⟨vs,rfl,r1 E ex⟩⟩
  ·cases hi
 |ptr ds=>
  simp only[aaL] at hi
  split at hi
  ·rename_i e sz bs hq
   split at hi
   ·rename_i ys Vt m h1
    cases hi
    obtain ⟨b,vs,ty,F',rfl,hb,hd,rfl⟩:=hd
    obtain ⟨ρ1,rB,f1',r1⟩:=uh _ _ _ _ _ _ _ _ h1 hd
    obtain ⟨f2,r2⟩:=f1'.box (t:=e) hb r1
    exact ⟨_,_,f2,r2⟩
   ·cases hi
  ·cases hi
theorem vU {tt:TT}: ∀(ts:List Nat) (ds:List DV) (n n':Nat) (xs:List AV) (up:List (Nat×Option aQ)) (vs:List Value) (F:FP),kC tt ts ds n=some (xs,up,n')->fR w Zf ZL ds vs F->
 ∃ρ1 rB,sN w Zf ZL n n' up F ρ1 rB/\ ∀E,Ext w Zf ZL n n' up ρ1 E->jI E xs vs
 | [],[],n,n',xs,up,vs,F,hi,hd=>by
   simp only[kC,af,aA] at hi
   obtain ⟨rfl,rfl,rfl⟩:=hi
   cases vs with
   |nil=>have:F=fz:=hd
         subst this
         exact ⟨_,_,sN.nil n (fun _=>none),fun _ _=>trivial⟩
   |cons v vs=>exact absurd hd id
 | [],_::_,_,_,_,_,_,_,hi,_=>by simp[kC] at hi
 |_::_,[],_,_,_,_,_,_,hi,_=>by simp[kC] at hi
 |t::ts,d::ds,n,n',xs,up,vs,F,hi,hd=>by
  simp only[kC] at hi
  split at hi
  ·rename_i x Vt m h1
   split at hi
   ·rename_i ys up2 n2 h2
    cases hi
    cases vs with
    |nil=>exact absurd hd id
    |cons v vs=>
     obtain ⟨F1,F2,d1,d2,rfl⟩:=hd
     obtain ⟨ρ1,rB,f1,r1⟩:=L7 h1 d1
     obtain ⟨ρ2,Fs2,f2,r2⟩:=vU ts ds _ _ _ _ _ _ h2 d2
     obtain ⟨f3,e3⟩:=f1.join f2
     exact ⟨_,_,f3,fun E ex=>⟨r1 E (e3 E ex).1,r2 E (e3 E ex).2⟩⟩
   ·cases hi
  ·cases hi
theorem sN.start {C:Cx} {n:Nat} {up:List (Nat×Option aQ)} {ρ1:Place} {rB:Nat->FP} (h:sN C.w0 C.Zf0 C.Zl 0 n up C.F0 ρ1 rB) (h1: ∀b,C.F0 b<=1) (h2: ∀b,1<=C.F0 b->b<C.w0.heap.size):
 kU C (jh xC up) n C.w0 ρ1 rB/\Ext C.w0 C.Zf0 C.Zl 0 n up ρ1 (C.env C.w0 ρ1 (jh xC up) n rB):=by
 have hex:Ext C.w0 C.Zf0 C.Zl 0 n up ρ1 (C.env C.w0 ρ1 (jh xC up) n rB):=⟨rfl,fun b hb=> .inl hb,fun b hb=> .inl hb,fun _ _ _=>rfl,fun _ _ _=>rfl,ai _⟩
 refine ⟨⟨fun id hid=> ?_,fun id root hid=>h.roots _ hex id root hid,h.dead,fun b=> ?_,fun b hb=> ?_,⟨ai _,rfl,rfl,rfl,fun _ _ _=>rfl⟩⟩,hex⟩
 ·exact jF _ _ (fun p hp e=>by have:=(h.keys p hp).2;omega)
 ·rw[h.sum b];exact h1 b
 ·rw[h.sum b] at hb
  exact ⟨h2 b hb,.inr hb⟩
end
section
variable {tt:TT} {C:Cx} {S:St} {w:World} {ρ:Place} {Fs:Nat->FP}
theorem oJ.grow {Zf ZL S2 S3:Zs} (hf: ∀b,Zf b->S2 b) (hl: ∀b,ZL b->S3 b) {d:DL} {v:Value} {F:FP} (h:oJ w Zf ZL d v F):oJ w S2 S3 d v F:=by
 cases d with
 |sl c r=>
  cases c with
  |jw=>exact ⟨h.1.grow hf,h.2⟩
  |bi=>exact ⟨h.1.grow hl,h.2⟩
  |own=>obtain ⟨q,h1,h2⟩:=h;exact ⟨q,h1,h2.mono (fun b hb=>⟨hl b hb,rfl⟩) (fun b _=>rfl)⟩
 |er b=>cases b<;>exact h
 |_=>exact h
theorem nn.grow {Zf ZL S2 S3:Zs} (hf: ∀b,Zf b->S2 b) (hl: ∀b,ZL b->S3 b): ∀ {ds:List DL} {vs:List Value} {F:FP},nn w Zf ZL ds vs F->nn w S2 S3 ds vs F
 | [],[],_,h=>h
 |d::ds,v::vs,F,⟨F1,F2,h1,h2,h3⟩=>⟨F1,F2,h1.grow hf hl,h2.grow hf hl,h3⟩
theorem sM.grow {Zf ZL S2 S3:Zs} (hf: ∀b,Zf b->S2 b) (hl: ∀b,ZL b->S3 b) {d:DV} {v:Value} {F:FP} (h:sM w Zf ZL d v F):sM w S2 S3 d v F:=by
 cases d with
 |l d=>exact oJ.grow hf hl h
 |agg ds=>obtain ⟨vs,h1,h2⟩:=h;exact ⟨vs,h1,h2.grow hf hl⟩
 |ptr ds=>obtain ⟨b,vs,ty,F',h1,h2,h3,h4⟩:=h;exact ⟨b,vs,ty,F',h1,h2,h3.grow hf hl,h4⟩
theorem fR.grow {Zf ZL S2 S3:Zs} (hf: ∀b,Zf b->S2 b) (hl: ∀b,ZL b->S3 b): ∀ {ds:List DV} {vs:List Value} {F:FP},fR w Zf ZL ds vs F->fR w S2 S3 ds vs F
 | [],[],_,h=>h
 |d::ds,v::vs,F,⟨F1,F2,h1,h2,h3⟩=>⟨F1,F2,h1.grow hf hl,h2.grow hf hl,h3⟩
theorem Bq (m:kU C S.hp S.nx w ρ Fs) {id e ver:Nat} {r:Row} (aJ:S.hp id=some (.row e ver r)) {hi:Nat} (IN:hi<=r.len): ∃F,kh w (C.ZL w (aR S.nx Fs)) (ρ id) (r.take hi).cells (r.take hi).len (r.take hi).size F/\ ∀b,F b<=Fs id b:=by
 have hl:(r.take hi).len=hi:=by rw[take_len];omega
 rcases m.roots id _ aJ with ⟨g1,g2,g3⟩| ⟨b,cap,arr,ty,F',g1,g2,g3,g4,g5,g6⟩
 ·simp only[Cx.env] at g1
  exact ⟨fz,.inl ⟨g1,by omega,rfl⟩,fun b=>by simp⟩
 ·simp only[Cx.env] at g1 g2
  obtain ⟨F1,t1,t2⟩:=g5.take (hi*r.size)
  rw[<- vV] at t1
  refine ⟨ez (f1 b) F1,.inr ⟨b,cap,arr,ty,F1,g1,g2,by omega,by rw[take_size];exact g4,?_,rfl⟩,fun b'=>by have:=t2 b';rw[g6];simp;omega⟩
  have:arr.toList=arr.toList.take (hi*r.size)++arr.toList.drop (hi*r.size):=(b_ ..).symm
  rw[this]
  exact t1.more _
theorem J0 {Z:Zs} {r:Row} (h:r.len=0):kh w Z none r.cells r.len r.size fz:= .inl ⟨rfl,h,rfl⟩
theorem vW {Z:Zs} {r:Row} (h:r.len=0):iq w Z r (.slice none 0 0):=⟨none,0,by rw[h],by omega,fun hn=>absurd h hn⟩
def o7 (C:Cx) (w:World) (nx:Nat) (Fs:Nat->FP) (rc:List Nat):Zs:=fun b=>C.ZL w (aR nx Fs) b\/ ∃id∈rc,1<=Fs id b
theorem o7.left {rc RG:List Nat} {b:Nat} (h:o7 C w S.nx Fs rc b):o7 C w S.nx Fs (rc++RG) b:=h.imp (fun h=>h) (fun ⟨i,h1,h2⟩=>⟨i,by simp[h1],h2⟩)
theorem o7.right {rc RG:List Nat} {b:Nat} (h:o7 C w S.nx Fs RG b):o7 C w S.nx Fs (rc++RG) b:=h.imp (fun h=>h) (fun ⟨i,h1,h2⟩=>⟨i,by simp[h1],h2⟩)
def aQ.IP:aQ->Prop
 | .row _ _ _=>True
 | .box _ _=>True
 |_=>False
theorem N0 {root:aQ} (h:root.IP):root.real:=by cases root<;>first|trivial|exact h.elim
def mO (hp:Nat->Option aQ) (ks:List Nat):Prop:= ∀k∈ks,∃root,hp k=some root/\root.IP
theorem QC {E:Env} {x:LV} {d:DL} {v:Value} (h:S4 x=some d) (hv:gJ E x v) (ZL:Zs):oJ E.w E.Zf ZL d v fz:=by
 unfold S4 at h
 split at h
 ·cases h;exact ⟨hv,rfl⟩
 ·cases h;exact ⟨hv,rfl⟩
 ·cases h;exact ⟨hv,rfl⟩
 ·cases h;exact ⟨hv,rfl⟩
 ·cases h
theorem FH {E:Env} (ZL:Zs): ∀ {xs:List LV} {ds:List DL} {vs:List Value},J1 xs=some ds->cw E xs vs->nn E.w E.Zf ZL ds vs fz
 | [],ds,[],h,_=>by cases h;rfl
 |x::xs,ds,v::vs,h,hv=>by
  simp only[J1] at h
  split at h
  ·rename_i d h1
   split at h
   ·rename_i Aw h2
    cases h
    exact ⟨fz,fz,QC h1 hv.1 ZL,FH ZL h2 hv.2,(dw _).symm⟩
   ·cases h
  ·cases h
theorem Aa {x:LV} {id:Nat} (h:IQ x=some id):x= .je id 0:=by
 unfold IQ at h
 split at h
 ·cases h;rfl
 ·cases h
theorem Dw (m:kU C S.hp S.nx w ρ Fs) {t id:Nat} {ds:List DL} (he:FK tt S.hp t id=some ds) {v:Value} (hv:gJ (C.env w ρ S.hp S.nx Fs) (.je id 0) v) (ZL:Zs):
 sM w (C.Zf w (aR S.nx Fs)) ZL (.ptr ds) v (Fs id)/\ ∃root,S.hp id=some root/\root.IP:=by
 unfold FK at he
 cases hp:S5 tt t with
 |false=>rw[hp] at he;cases he
 |true=>
  rw[hp,ak] at he
  split at he
  ·rename_i bt cells aJ
   obtain ⟨_,_,b,cap,hρ,rfl⟩:=hv
   obtain ⟨b',th,vs,ty,g1,g2,g3,g4⟩:=m.roots id _ aJ
   simp only[Cx.env] at hρ g1 g2
   rw[hρ] at g1;cases g1
   exact ⟨⟨b,vs,ty,fz,rfl,g2,FH ZL he g3,by rw[dw];exact g4⟩,_,aJ,trivial⟩
  ·cases he
theorem xE {r:Row} {i f:Nat} (ho:r.owned=true) (hs:r.oh f=true) (hi:i<r.len):r.cells[i*r.size+f]? =some (.sl true (gj r i f)):=by
 cases r with
 |rows o l=>
  simp only[Row.owned] at ho
  subst ho
  simp only[Row.oh] at hs
  have:=aE hs
  subst this
  simp only[Row.len] at hi
  simp[Row.cells,Row.size,gj,hi]
 |ek sg o l=>
  simp only[Row.owned] at ho
  subst ho
  have hf:=J2 hs
  simp only[Row.oh] at hs
  simp only[Row.size] at hf
  simp only[Row.len] at hi
  have hsf:sg[f]? =some true:=by
   cases hq:sg[f]? with
   |none=>rw[hq] at hs;cases hs
   |some b=>rw[hq] at hs;simp at hs;rw[hs]
  have:=u2 sg true l i f hf
  rw[aw hi,hsf] at this
  simp only[Row.size]
  rw[this]
  simp[gj,hi]
 |_=>cases hs
theorem FN (m:kU C S.hp S.nx w ρ Fs) {md:Mode} {t:Nat} {x:LV} {d:DL} {ks io rc:List Nat} (he:Ab tt S.hp md t x=some (d,ks,io,rc)) {v:Value} (hv:gJ (C.env w ρ S.hp S.nx Fs) x v):
 ∃F,oJ w (C.Zf w (aR S.nx Fs)) (o7 C w S.nx Fs rc) d v F/\(∀b,F b<=fh Fs (ks++io) b)/\mO S.hp (ks++io):=by
 have hz: ∀b,C.ZL w (aR S.nx Fs) b->o7 C w S.nx Fs rc b:=fun b hb=> .inl hb
 have view:(match ku S.hp x with|some (r,rc)=>some (DL.sl .bi r,([]:List Nat),([]:List Nat),rc)|none=>none)=some (d,ks,io,rc)-> ∃F,oJ w (C.Zf w (aR S.nx Fs)) (o7 C w S.nx Fs rc) d v F/\(∀b,F b<=fh Fs (ks++io) b)/\mO S.hp (ks++io):=fun he=>by
  split at he
  ·rename_i r RG Jn
   cases he
   exact ⟨fz,⟨qO m Jn hv,rfl⟩,fun b=>by simp,fun k hk=>by simp at hk⟩
  ·cases he
 cases x with
 |i k z=>cases he;exact ⟨fz,⟨hv,rfl⟩,fun b=>by simp,fun k hk=>by simp at hk⟩
 |b z=>cases he;exact ⟨fz,⟨hv,rfl⟩,fun b=>by simp,fun k hk=>by simp at hk⟩
 |s z=>cases he;exact ⟨fz,⟨hv,rfl⟩,fun b=>by simp,fun k hk=>by simp at hk⟩
 |er z=>cases he;cases z<;>exact ⟨fz,⟨hv,rfl⟩,fun b=>by simp,fun k hk=>by simp at hk⟩
 |nil=>
  have hv:v= .slice none 0 0:=hv
  simp only[Ab] at he
  split at he
  ·split at he
   ·rename_i r hr
    have h0:=np hr
    cases md with
    |qp=>
     cases he
     exact ⟨fz,⟨by rw[hv];exact vW (by rw[nr];exact h0),rfl⟩,fun b=>by simp,fun k hk=>by simp at hk⟩
    |Hp=>
     cases he
     exact ⟨fz,⟨none,by rw[hv];rfl,J0 h0⟩,fun b=>by simp,fun k hk=>by simp at hk⟩
    |io=>
     cases he
     exact ⟨fz,⟨none,by rw[hv];rfl,J0 h0⟩,fun b=>by simp,fun k hk=>by simp at hk⟩
    |jw=>
     cases he
     exact ⟨fz,⟨by rw[hv];exact vW (by rw[nr];exact h0),rfl⟩,fun b=>by simp,fun k hk=>by simp at hk⟩
   ·cases he
  ·cases he
 |val p r=>
  cases md with
  |qp=>exact view he
  |Hp=>cases he
  |io=>cases he
  |jw=>
   cases p with
   |true=>cases he;exact ⟨fz,⟨hv,rfl⟩,fun b=>by simp,fun k hk=>by simp at hk⟩
   |false=>cases he
 |own id=>
  cases md with
  |qp=>exact view he
  |jw=>cases he
  |Hp=>
   simp only[Ab] at he
   split at he
   ·rename_i e ver r aJ
    replace he:=aH he
    obtain ⟨ho,he⟩:=he
    cases he
    obtain ⟨_,hx⟩:=hv
    obtain ⟨r',e1,e2⟩:=hx _ aJ
    cases e1
    obtain ⟨F,k1,k2⟩:=Bq m aJ (ai r.len)
    rw[u3] at k1
    exact ⟨F,⟨ρ id,e2,k1.mono (fun b hb=>⟨hz b hb,rfl⟩) (fun b _=>rfl)⟩,fun b=>by have:=k2 b;simp[fh];exact this,fun k hk=>by simp at hk;subst hk;exact ⟨_,aJ,trivial⟩⟩
   ·cases he
  |io=>
   simp only[Ab] at he
   split at he
   ·rename_i e ver r aJ
    replace he:=aH he
    obtain ⟨ho,he⟩:=he
    cases he
    obtain ⟨_,hx⟩:=hv
    obtain ⟨r',e1,e2⟩:=hx _ aJ
    cases e1
    obtain ⟨F,k1,k2⟩:=Bq m aJ (ai r.len)
    rw[u3] at k1
    exact ⟨F,⟨ρ id,e2,k1.mono (fun b hb=>⟨hz b hb,rfl⟩) (fun b _=>rfl)⟩,fun b=>by have:=k2 b;simp[fh];exact this,fun k hk=>by simp at hk;subst hk;exact ⟨_,aJ,trivial⟩⟩
   ·cases he
 |sub id lo hi=>
  cases md with
  |qp=>exact view he
  |jw=>cases he
  |Hp=>
   cases lo with
   |succ lo=>cases he
   |zero=>
    simp only[Ab] at he
    split at he
    ·rename_i e ver r aJ
     replace he:=aH he
     obtain ⟨ho,he⟩:=he
     cases he
     obtain ⟨_,hx⟩:=hv
     obtain ⟨r',e1,_,l2,e2⟩:=hx _ aJ
     cases e1
     obtain ⟨F,k1,k2⟩:=Bq m aJ l2
     exact ⟨F,⟨ρ id,by rw[e2,Ey,take_len,Nat.min_eq_left l2];rfl,k1.mono (fun b hb=>⟨hz b hb,rfl⟩) (fun b _=>rfl)⟩,fun b=>by have:=k2 b;simp[fh];exact this,fun k hk=>by simp at hk;subst hk;exact ⟨_,aJ,trivial⟩⟩
    ·cases he
  |io=>cases he
 |inner id ver i f=>
  cases md with
  |qp=>exact view he
  |jw=>cases he
  |Hp=>cases he
  |io=>
   simp only[Ab] at he
   split at he
   ·rename_i e yR r aJ
    have ho:=(aH he).1
    have IR:=(aH he).2
    clear he
    obtain ⟨ho1,ho2⟩:=ba ho
    have J3:=aE ho1
    cases IR
    obtain ⟨_,hx⟩:=hv
    obtain ⟨_,_,L8⟩:=hx _ aJ
    obtain ⟨k1,k2,k4⟩:=L8 e r (by rw[J3])
    obtain ⟨v',F1,b1,agP,c1,c2,lV,hle⟩:=FO m aJ (xE ho2 k1 k2)
    simp only[Cx.env] at k4
    rw[c1] at k4
    simp only[cellAt] at k4
    rw[c2] at k4
    cases k4
    refine ⟨F1,?_,fun b=>by have:=hle b;simp[fh];exact this,fun k hk=>by simp at hk;subst hk;exact ⟨_,aJ,trivial⟩⟩
    rcases lV with ⟨p1,p2,p3⟩| ⟨b2,Cc,yS,RH,q1,q2,q3,q4,q5,q6⟩
    ·exact ⟨none,by rw[p1];rfl,.inl ⟨rfl,by simp[Row.len,p2],p3⟩⟩
    ·refine ⟨some (b2,Cc),by rw[q1];rfl,.inr ⟨b2,Cc,yS,RH,fz,rfl,q2,by simpa[Row.len] using q3,by simpa[Row.size] using q4,?_,by rw[dw];exact q6⟩⟩
     refine aG.N1 fun j c hj=> ?_
     simp only[Row.cells,List.getElem?_map] at hj
     cases Eb:(gj r i f)[j]? with
     |none=>rw[Eb] at hj;cases hj
     |some z=>
      rw[Eb] at hj
      cases hj
      exact ⟨_,by simpa using q5 j z Eb,rfl,rfl⟩
   ·cases he
 |_=>cases md<;>simp[Ab,ku] at he
theorem L9 (Fs:Nat->FP) (b:Nat) (ks ks' io io':List Nat):fh Fs (ks++ks' ++(io++io')) b=fh Fs (ks++io) b+fh Fs (ks' ++io') b:=by
 simp only[gK];omega
theorem mO.UA {hp:Nat->Option aQ} {ks ks' io io':List Nat} (h:mO hp (ks++io)) (h':mO hp (ks' ++io')):mO hp (ks++ks' ++(io++io')):=fun k hk=>by
 simp only[List.mem_append] at hk
 rcases hk with (hk|hk)| (hk|hk)
 ·exact h k (by simp[hk])
 ·exact h' k (by simp[hk])
 ·exact h k (by simp[hk])
 ·exact h' k (by simp[hk])
theorem Dx (m:kU C S.hp S.nx w ρ Fs) {md:Mode}: ∀(ts:List Nat) (xs:List LV) (ds:List DL) (ks io rc:List Nat) (vs:List Value),wI tt S.hp md ts xs=some (ds,ks,io,rc)->cw (C.env w ρ S.hp S.nx Fs) xs vs->
 ∃F,nn w (C.Zf w (aR S.nx Fs)) (o7 C w S.nx Fs rc) ds vs F/\(∀b,F b<=fh Fs (ks++io) b)/\mO S.hp (ks++io)
 | [],[],ds,ks,io,rc,vs,he,hv=>by
   simp only[wI,af,aA] at he
   obtain ⟨rfl,rfl,rfl,rfl⟩:=he
   cases vs with
   |nil=>exact ⟨fz,rfl,fun b=>by simp,fun k hk=>by simp at hk⟩
   |cons v vs=>exact absurd hv id
 | [],_::_,_,_,_,_,_,he,_=>by simp[wI] at he
 |_::_,[],_,_,_,_,_,he,_=>by simp[wI] at he
 |t::ts,x::xs,ds,ks,io,rc,vs,he,hv=>by
  simp only[wI] at he
  split at he
  ·rename_i d QD io1 rc1 h1
   split at he
   ·rename_i S6 Y7 io2 rc2 h2
    cases he
    cases vs with
    |nil=>exact absurd hv id
    |cons v vs=>
     obtain ⟨F1,a1,a2,a3⟩:=FN m h1 hv.1
     obtain ⟨F2,b1,b2,b3⟩:=Dx m ts xs _ _ _ _ _ h2 hv.2
     refine ⟨ez F1 F2,⟨F1,F2,a1.grow (fun b h=>h) (fun b h=>o7.left (S:=S) h),b1.grow (fun b h=>h) (fun b h=>o7.right (S:=S) h),rfl⟩,fun b=> ?_,a3.UA b3⟩
     have:=a2 b;have:=b2 b
     rw[L9];simp;omega
   ·cases he
  ·cases he
theorem N2 (m:kU C S.hp S.nx w ρ Fs) {md:Mode} {t:Nat} {x:AV} {d:DV} {ks io rc:List Nat} (he:L_ tt S.hp md t x=some (d,ks,io,rc)) {v:Value} (hv:jC (C.env w ρ S.hp S.nx Fs) x v):
 ∃F,sM w (C.Zf w (aR S.nx Fs)) (o7 C w S.nx Fs rc) d v F/\(∀b,F b<=fh Fs (ks++io) b)/\mO S.hp (ks++io):=by
 cases x with
 |KY xs=>cases he
 |one x=>
  cases x with
  |l x=>
   simp only[L_] at he
   split at he
   ·rename_i id hid
    obtain rfl:=Aa hid
    cases md with
    |io=>
     simp only[S7] at he
     split at he
     ·rename_i Aw h1
      cases he
      obtain ⟨a1,root,a2,a3⟩:=Dw m h1 hv (o7 C w S.nx Fs [])
      exact ⟨_,a1,fun b=>by simp[fh],fun k hk=>by simp at hk;subst hk;exact ⟨root,a2,a3⟩⟩
     ·cases he
    |_=>cases he
   ·split at he
    ·rename_i d' QD io1 rc1 h1
     cases he
     exact FN m h1 hv
    ·cases he
  |agg xs=>
   simp only[L_] at he
   split at he
   ·rename_i d' QD io1 rc1 h1
    cases he
    obtain ⟨vs,rfl,hv⟩:=hv
    obtain ⟨F,a1,a2,a3⟩:=Dx m _ _ _ _ _ _ _ h1 hv
    exact ⟨F,⟨vs,rfl,a1⟩,a2,a3⟩
   ·cases he
theorem Dy (m:kU C S.hp S.nx w ρ Fs): ∀(ms:List Mode) (ts:List Nat) (xs:List AV) (ds:List DV) (ks io rc:List Nat) (vs:List Value),u4 tt S.hp ms ts xs=some (ds,ks,io,rc)->jI (C.env w ρ S.hp S.nx Fs) xs vs->
 ∃F,fR w (C.Zf w (aR S.nx Fs)) (o7 C w S.nx Fs rc) ds vs F/\(∀b,F b<=fh Fs (ks++io) b)/\mO S.hp (ks++io)
 |ms,[],[],ds,ks,io,rc,vs,he,hv=>by
  simp only[u4,af,aA] at he
  obtain ⟨rfl,rfl,rfl,rfl⟩:=he
  cases vs with
  |nil=>exact ⟨fz,rfl,fun b=>by simp,fun k hk=>by simp at hk⟩
  |cons v vs=>exact absurd hv id
 |_,[],_::_,_,_,_,_,_,he,_=>by simp[u4] at he
 |_,_::_,[],_,_,_,_,_,he,_=>by simp[u4] at he
 |ms,t::ts,x::xs,ds,ks,io,rc,vs,he,hv=>by
  simp only[u4] at he
  split at he
  ·rename_i d QD io1 rc1 h1
   split at he
   ·rename_i S6 Y7 io2 rc2 h2
    cases he
    cases vs with
    |nil=>exact absurd hv id
    |cons v vs=>
     obtain ⟨F1,a1,a2,a3⟩:=N2 m h1 hv.1
     obtain ⟨F2,b1,b2,b3⟩:=Dy m _ ts xs _ _ _ _ _ h2 hv.2
     refine ⟨ez F1 F2,⟨F1,F2,a1.grow (fun b h=>h) (fun b h=>o7.left (S:=S) h),b1.grow (fun b h=>h) (fun b h=>o7.right (S:=S) h),rfl⟩,fun b=> ?_,a3.UA b3⟩
     have:=a2 b;have:=b2 b
     rw[L9];simp;omega
   ·cases he
  ·cases he
end
section
variable {tt:TT} {C:Cx} {S:St} {w:World} {ρ:Place} {Fs:Nat->FP}
def oi (Z:Zs) (Fs:Nat->FP) (fk:List Nat):Zs:=fun b=>Z b\/1<=fh Fs fk b
theorem oi.left {Z:Zs} {fk M_:List Nat} {b:Nat} (h:oi Z Fs fk b):oi Z Fs (fk++M_) b:=h.imp (fun h=>h) (fun h=>by rw[gK];omega)
theorem oi.right {Z:Zs} {fk M_:List Nat} {b:Nat} (h:oi Z Fs M_ b):oi Z Fs (fk++M_) b:=h.imp (fun h=>h) (fun h=>by rw[gK];omega)
theorem xF {r:Row} (h:r.owned=true): ∀c∈r.cells,(∃v,c= .sc v)\/ ∃l,c= .sl true l:=by
 intro c hc
 cases r with
 |ints k l=>simp only[Row.cells,du] at hc;obtain ⟨x,_,rfl⟩:=hc;exact .inl ⟨_,rfl⟩
 |eQ l=>simp only[Row.cells,du] at hc;obtain ⟨x,_,rfl⟩:=hc;exact .inl ⟨_,rfl⟩
 |strs l=>simp only[Row.cells,du] at hc;obtain ⟨x,_,rfl⟩:=hc;exact .inl ⟨_,rfl⟩
 |rows o l=>cases o with
  |false=>cases h
  |true=>simp only[Row.cells,du] at hc;obtain ⟨x,_,rfl⟩:=hc;exact .inr ⟨_,rfl⟩
 |ek sg o l=>cases o with
  |false=>cases h
  |true=>
   simp only[Row.cells,List.mem_flatMap] at hc
   obtain ⟨x,_,hc⟩:=hc
   obtain ⟨j,hj⟩:=List.getElem?_of_mem hc
   rw[kw] at hj
   cases hs:sg[j]? with
   |none=>rw[hs] at hj;cases hj
   |some b=>rw[hs] at hj;cases b<;>(simp at hj;subst hj)<;>first|exact .inl ⟨_,rfl⟩|exact .inr ⟨_,rfl⟩
theorem yu {w:World} {Z Z':Zs}: ∀ {cs:List Cell} {vs:List Value} {F:FP},(∀c∈cs,(∃v,c= .sc v)\/ ∃l,c= .sl true l)->aG w Z cs vs F->aG w Z' cs vs F
 | [],_,_,_,h=>h
 |c::cs,v::vs,F,hc,⟨F1,F2,h1,h2,hF⟩=>by
  refine ⟨F1,F2,?_,yu (fun c' K8=>hc c' (by simp[K8])) h2,hF⟩
  rcases hc c (by simp) with ⟨u,rfl⟩| ⟨l,rfl⟩<;>exact h1
theorem Ez (m:kU C S.hp S.nx w ρ Fs) {id e ver:Nat} {r:Row} (aJ:S.hp id=some (.row e ver r)) (Z:Zs) (hz:r.owned=true\/ ∀b,C.ZL w (aR S.nx Fs) b->Z b):iq w (oi Z Fs [id]) r.jw (hdr (ρ id) r.len):=by
 have h1b: ∀b,1<=Fs id b->oi Z Fs [id] b:=fun b hb=> .inr (by simp[fh];exact hb)
 rcases m.roots id _ aJ with ⟨g1,g2,g3⟩| ⟨b,cap,arr,ty,F',g1,g2,g3,g4,g5,g6⟩
 ·simp only[Cx.env] at g1
  rw[g1,show hdr none r.len= .slice none 0 0 from rfl]
  exact vW (by rw[nr];exact g2)
 ·simp only[Cx.env] at g1 g2
  rw[g1]
  refine ⟨some ⟨b,0,none⟩,cap,by rw[nr];rfl,by rw[nr];exact g3,fun _=>⟨_,rfl,h1b b (by rw[g6];simp),arr.toList,fun j hj=>by rw[fS,cY g2];simp,?_⟩⟩
  rw[CI]
  rcases hz with ho|hz
  ·exact (yu (Z':=Z) (xF ho) g5).jw (fun b hb=> .inl hb) (fun b' hb=>h1b b' (by rw[g6];simp;omega))
  ·exact g5.jw (fun b hb=> .inl (hz b hb)) (fun b' hb=>h1b b' (by rw[g6];simp;omega))
theorem zu (m:kU C S.hp S.nx w ρ Fs) {oc:o8} {t:Nat} {x:LV} {d:DL} {ks fk:List Nat} (he:yv tt S.hp oc t x=some (d,ks,fk)) {v:Value} (hv:gJ (C.env w ρ S.hp S.nx Fs) x v):
 ∃F,oJ w (oi (C.Zf w (aR S.nx Fs)) Fs fk) (oi (C.ZL w (aR S.nx Fs)) Fs fk) d v F/\(∀b,F b<=fh Fs ks b)/\mO S.hp (ks++fk):=by
 have hz: ∀b,C.ZL w (aR S.nx Fs) b->oi (C.ZL w (aR S.nx Fs)) Fs fk b:=fun b hb=> .inl hb
 have N3: ∀b,C.Zf w (aR S.nx Fs) b->oi (C.Zf w (aR S.nx Fs)) Fs fk b:=fun b hb=> .inl hb
 have hsc: ∀ {d':DL},some (d',([]:List Nat),([]:List Nat))=some (d,ks,fk)->oJ w (oi (C.Zf w (aR S.nx Fs)) Fs fk) (oi (C.ZL w (aR S.nx Fs)) Fs fk) d' v fz-> ∃F,oJ w (oi (C.Zf w (aR S.nx Fs)) Fs fk) (oi (C.ZL w (aR S.nx Fs)) Fs fk) d v F/\(∀b,F b<=fh Fs ks b)/\mO S.hp (ks++fk):=fun he hd=>by
  cases he
  exact ⟨fz,hd,fun b=>by simp,fun k hk=>by simp at hk⟩
 cases x with
 |i k z=>exact hsc he ⟨hv,rfl⟩
 |b z=>exact hsc he ⟨hv,rfl⟩
 |s z=>exact hsc he ⟨hv,rfl⟩
 |er z=>cases z<;>exact hsc he ⟨hv,rfl⟩
 |nil=>
  have hv:v= .slice none 0 0:=hv
  simp only[yv] at he
  split at he
  ·split at he
   ·rename_i r hr
    have h0:=np hr
    cases oc with
    |own=>exact hsc he ⟨none,by rw[hv];rfl,J0 h0⟩
    |jw=>exact hsc he ⟨by rw[hv];exact vW (by rw[nr];exact h0),rfl⟩
    |bi=>exact hsc he ⟨by rw[hv];exact vW (by rw[nr];exact h0),rfl⟩
   ·cases he
  ·cases he
 |val p r=>
  cases oc with
  |own=>cases he
  |jw=>
   cases p with
   |true=>exact hsc he ⟨iq.grow hv N3,rfl⟩
   |false=>cases he
  |bi=>
   refine hsc (d':= .sl .bi r) he ⟨?_,rfl⟩
   cases p with
   |true=>exact iq.grow hv (fun b hb=>hz b (.inr hb))
   |false=>exact iq.grow hv hz
 |own id=>
  simp only[yv] at he
  split at he
  ·rename_i e ver r aJ
   obtain ⟨_,hx⟩:=hv
   obtain ⟨r',e1,e2⟩:=hx _ aJ
   cases e1
   simp only[Cx.env] at e2
   have qd:mO S.hp [id]:=fun k hk=>by simp at hk;subst hk;exact ⟨_,aJ,trivial⟩
   cases oc with
   |own=>
    have IR:=(aH he).2
    clear he
    cases IR
    obtain ⟨F,k1,k2⟩:=Bq m aJ (ai r.len)
    rw[u3] at k1
    exact ⟨F,⟨ρ id,e2,k1.mono (fun b hb=>⟨hz b hb,rfl⟩) (fun b _=>rfl)⟩,fun b=>by have:=k2 b;simp[fh];exact this,qd⟩
   |jw=>
    have he1:=(aH he).1
    have IR:=(aH he).2
    clear he
    cases IR
    exact ⟨fz,⟨by rw[e2];exact Ez m aJ _ (.inl he1),rfl⟩,fun b=>by simp,qd⟩
   |bi=>
    cases he
    exact ⟨fz,⟨by rw[e2];exact Ez m aJ _ (.inr fun b hb=>hb),rfl⟩,fun b=>by simp,qd⟩
  ·cases he
 |sub id lo hi=>
  simp only[yv] at he
  split at he
  ·rename_i e ver r aJ
   cases oc with
    |own=>
     have IR:=(aH he).2
     have Ex:lo=0:=Nat.eq_of_beq_eq_true (ba (aH he).1).1
     clear he
     subst Ex
     cases IR
     obtain ⟨_,hx⟩:=hv
     obtain ⟨r',e1,_,l2,e2⟩:=hx _ aJ
     cases e1
     obtain ⟨F,k1,k2⟩:=Bq m aJ l2
     exact ⟨F,⟨ρ id,by rw[e2,Ey,take_len,Nat.min_eq_left l2];rfl,k1.mono (fun b hb=>⟨hz b hb,rfl⟩) (fun b _=>rfl)⟩,fun b=>by have:=k2 b;simp[fh];exact this,fun k hk=>by simp at hk;subst hk;exact ⟨_,aJ,trivial⟩⟩
    |jw=>
     have he1:=(aH he).1
     have IR:=(aH he).2
     clear he
     cases IR
     obtain ⟨_,hx⟩:=hv
     obtain ⟨r',e1,l1,l2,e2⟩:=hx _ aJ
     cases e1
     refine ⟨fz,⟨?_,rfl⟩,fun b=>by simp,fun k hk=>by simp at hk;subst hk;exact ⟨_,aJ,trivial⟩⟩
     have OY:=Ez m aJ (C.Zf w (aR S.nx Fs)) (.inl he1)
     rw[e2]
     simp only[Cx.env]
     cases hρ:ρ id with
     |none=>
      have h0:r.len=0:=by
       rcases m.roots id _ aJ with ⟨_,g2,_⟩| ⟨b,cap,arr,ty,F',g1,_⟩
       ·exact g2
       ·simp only[Cx.env] at g1;rw[hρ] at g1;cases g1
      have:iq w (oi (C.Zf w (aR S.nx Fs)) Fs [id]) ((r.jw.take hi).drop lo) (.slice none 0 0):=vW (by rw[sO,take_len,nr];omega)
      exact this
     |some q=>
      obtain ⟨b,cap⟩:=q
      rw[hρ] at OY
      obtain ⟨A,th,k1,k2,k3⟩:=OY
      simp only[hdr,Value.slice.injEq] at k1
      obtain ⟨rfl,_,rfl⟩:=k1
      have:=Ac (w:=w) (Z:=oi (C.Zf w (aR S.nx Fs)) Fs [id]) (r:=r.jw) (A:=some ⟨b,0,none⟩) (cap:=cap) k2 k3 lo hi l1 (by rw[nr];exact l2)
      simp only[oN]
      rw[Ma] at this
      have e3:(if cap=lo then some (⟨b,0,none⟩:Addr) else (some (⟨b,0,none⟩:Addr)).map (·.add (lo*r.size)))=some (if cap=lo then ⟨b,0,none⟩ else ⟨b,lo*r.size,none⟩):=by
       split
       ·rfl
       ·simp[fS]
      rw[e3] at this
      exact this
    |bi=>cases he
  ·cases he
 |_=>cases he
theorem xG (m:kU C S.hp S.nx w ρ Fs) {oc:o8}: ∀(ts:List Nat) (xs:List LV) (ds:List DL) (ks fk:List Nat) (vs:List Value),sP tt S.hp oc ts xs=some (ds,ks,fk)->cw (C.env w ρ S.hp S.nx Fs) xs vs->
 ∃F,nn w (oi (C.Zf w (aR S.nx Fs)) Fs fk) (oi (C.ZL w (aR S.nx Fs)) Fs fk) ds vs F/\(∀b,F b<=fh Fs ks b)/\mO S.hp (ks++fk)
 | [],[],ds,ks,fk,vs,he,hv=>by
   simp only[sP,af,aA] at he
   obtain ⟨rfl,rfl,rfl⟩:=he
   cases vs with
   |nil=>exact ⟨fz,rfl,fun b=>by simp,fun k hk=>by simp at hk⟩
   |cons v vs=>exact absurd hv id
 | [],_::_,_,_,_,_,he,_=>by simp[sP] at he
 |_::_,[],_,_,_,_,he,_=>by simp[sP] at he
 |t::ts,x::xs,ds,ks,fk,vs,he,hv=>by
  simp only[sP] at he
  split at he
  ·rename_i d QD fk1 h1
   split at he
   ·rename_i S6 Y7 fk2 h2
    cases he
    cases vs with
    |nil=>exact absurd hv id
    |cons v vs=>
     obtain ⟨F1,a1,a2,a3⟩:=zu m h1 hv.1
     obtain ⟨F2,b1,b2,b3⟩:=xG m ts xs _ _ _ _ h2 hv.2
     refine ⟨ez F1 F2,⟨F1,F2,a1.grow (fun b h=>oi.left h) (fun b h=>oi.left h),b1.grow (fun b h=>oi.right h) (fun b h=>oi.right h),rfl⟩,fun b=> ?_,a3.UA b3⟩
     have:=a2 b;have:=b2 b
     rw[gK];simp;omega
   ·cases he
  ·cases he
theorem J4 (m:kU C S.hp S.nx w ρ Fs) {oc:o8} {t:Nat} {x:AV} {d:DV} {ks fk:List Nat} (he:J5 tt S.hp oc t x=some (d,ks,fk)) {v:Value} (hv:jC (C.env w ρ S.hp S.nx Fs) x v):
 ∃F,sM w (oi (C.Zf w (aR S.nx Fs)) Fs fk) (oi (C.ZL w (aR S.nx Fs)) Fs fk) d v F/\(∀b,F b<=fh Fs ks b)/\mO S.hp (ks++fk):=by
 cases x with
 |KY xs=>cases he
 |one x=>
  cases x with
  |l x=>
   simp only[J5] at he
   split at he
   ·rename_i id hid
    obtain rfl:=Aa hid
    split at he
    ·rename_i Aw h1
     cases he
     obtain ⟨a1,root,a2,a3⟩:=Dw m h1 hv (oi (C.ZL w (aR S.nx Fs)) Fs [])
     exact ⟨_,a1.grow (fun b hb=> .inl hb) (fun b hb=>hb),fun b=>by simp[fh],fun k hk=>by simp at hk;subst hk;exact ⟨root,a2,a3⟩⟩
    ·cases he
   ·split at he
    ·rename_i d' QD fk1 h1
     cases he
     exact zu m h1 hv
    ·cases he
  |agg xs=>
   simp only[J5] at he
   split at he
   ·rename_i d' QD fk1 h1
    cases he
    obtain ⟨vs,rfl,hv⟩:=hv
    obtain ⟨F,a1,a2,a3⟩:=xG m _ _ _ _ _ _ h1 hv
    exact ⟨F,⟨vs,rfl,a1⟩,a2,a3⟩
   ·cases he
theorem ui (m:kU C S.hp S.nx w ρ Fs) {oc:o8}: ∀(ts:List Nat) (xs:List AV) (ds:List DV) (ks fk:List Nat) (vs:List Value),tI tt S.hp oc ts xs=some (ds,ks,fk)->jI (C.env w ρ S.hp S.nx Fs) xs vs->
 ∃F,fR w (oi (C.Zf w (aR S.nx Fs)) Fs fk) (oi (C.ZL w (aR S.nx Fs)) Fs fk) ds vs F/\(∀b,F b<=fh Fs ks b)/\mO S.hp (ks++fk)
 | [],[],ds,ks,fk,vs,he,hv=>by
   simp only[tI,af,aA] at he
   obtain ⟨rfl,rfl,rfl⟩:=he
   cases vs with
   |nil=>exact ⟨fz,rfl,fun b=>by simp,fun k hk=>by simp at hk⟩
   |cons v vs=>exact absurd hv id
 | [],_::_,_,_,_,_,he,_=>by simp[tI] at he
 |_::_,[],_,_,_,_,he,_=>by simp[tI] at he
 |t::ts,x::xs,ds,ks,fk,vs,he,hv=>by
  simp only[tI] at he
  split at he
  ·rename_i d QD fk1 h1
   split at he
   ·rename_i S6 Y7 fk2 h2
    cases he
    cases vs with
    |nil=>exact absurd hv id
    |cons v vs=>
     obtain ⟨F1,a1,a2,a3⟩:=J4 m h1 hv.1
     obtain ⟨F2,b1,b2,b3⟩:=ui m ts xs _ _ _ _ h2 hv.2
     refine ⟨ez F1 F2,⟨F1,F2,a1.grow (fun b h=>oi.left h) (fun b h=>oi.left h),b1.grow (fun b h=>oi.right h) (fun b h=>oi.right h),rfl⟩,fun b=> ?_,a3.UA b3⟩
     have:=a2 b;have:=b2 b
     rw[gK];simp;omega
   ·cases he
  ·cases he
end
section
variable {C:Cx} {S:St} {a:Act} {w:World} {ρ:Place} {Fs:Nat->FP}
theorem cn.CJ (h:cn C S a w ρ Fs) (t:Nat) (x:AV) (hx:jC (C.env w ρ S.hp S.nx Fs) x (C.val a t)):cn C ⟨fun j=>bif j==t then x else S.sl j,S.hp,S.nx⟩ a w ρ Fs:=by
 refine ⟨h.mem,h.defers,h.size,fun j=> ?_⟩
 show jC _ (bif j==t then x else S.sl j) _
 cases e:j==t with
 |true=>have:=aE e;subst this;exact hx
 |false=>exact h.u6 j
theorem cn.S8 (h:cn C S a w ρ Fs) {id e ver:Nat} {r:Row} (hr:S.hp id=some (.row e ver r)):cn C ⟨S.sl,fun j=>bif j==id then none else S.hp j,S.nx⟩ a w ρ (jH Fs id fz)/\iq w (C.ZL w (aR S.nx (jH Fs id fz))) r.jw (hdr (ρ id) r.len):=by
 have iS:=eR h.mem hr
 have mH: ∀b,aR S.nx (jH Fs id fz) b+Fs id b=aR S.nx Fs b:=fun b=>by
  have e1:=iT Fs fz b iS
  simp at e1
  omega
 have hz: ∀b,C.Zf w (aR S.nx Fs) b->C.Zf w (aR S.nx (jH Fs id fz)) b:=fun b hb=>by
  rcases hb with hb| ⟨h1,h2,h3⟩
  ·exact .inl hb
  ·exact .inr ⟨h1,h2,by have:=mH b;omega⟩
 refine ⟨?_,?_⟩
 ·refine h.gen _ _ w _ _ (fun _=>False) (ai _) rfl rfl rfl (fun _ _ _=>rfl) (fun _ h=>h.elim) (ai _) (fun j hj yT=>rfl) (fun j hj=> ?_) (fun j hj=> .inl ⟨?_,?_⟩) (fun b'=>by have:=mH b';have:=h.mem.one b';omega) (fun b' tq=> .inl (by have:=mH b';omega))
  ·by_cases e1:j=id
   ·subst e1;exact .gone (by simp) (kK ..)
   ·have e2:(j==id)=false:=by simp[e1]
    exact .same (by simp[e2]) (by rw[fq _ _ e1]) (fun _ _ h=>h)
  ·have e1:j≠id:=by omega
   have e2:(j==id)=false:=by simp[e1]
   simp only[e2,an];exact h.mem.fresh j hj
  ·rw[fq _ _ (by omega)];exact h.mem.dead j (h.mem.fresh j hj)
 ·refine (Ez h.mem hr (C.ZL w (aR S.nx Fs)) (.inr fun b hb=>hb)).grow fun b hb=> ?_
  rcases hb with hb|hb
  ·rcases hb with hb|hb
   ·exact .inl hb
   ·exact .inr (hz b hb)
  ·have hb:1<=Fs id b:=by simpa[fh] using hb
   have h1:=mH b
   have h2:=h.mem.one b
   obtain ⟨h3,h4⟩:=h.mem.uj b (by omega)
   exact .inr (.inr ⟨h4,h3,by omega⟩)
theorem cn.aae (h:cn C S a w ρ Fs) {id e ver:Nat} {r:Row} (hr:S.hp id=some (.row e ver r)) (b:Nat) (hb:C.ZL w (aR S.nx Fs) b\/ ∃i∈[id],1<=Fs i b):C.ZL w (aR S.nx (jH Fs id fz)) b:=by
 have iS:=eR h.mem hr
 have mH: ∀b,aR S.nx (jH Fs id fz) b+Fs id b=aR S.nx Fs b:=fun b=>by
  have e1:=iT Fs fz b iS
  simp at e1
  omega
 have hz: ∀b,C.Zf w (aR S.nx Fs) b->C.Zf w (aR S.nx (jH Fs id fz)) b:=fun b hb=>by
  rcases hb with hb| ⟨h1,h2,h3⟩
  ·exact .inl hb
  ·exact .inr ⟨h1,h2,by have:=mH b;omega⟩
 rcases hb with hb| ⟨i,hi,hb⟩
 ·rcases hb with hb|hb
  ·exact .inl hb
  ·exact .inr (hz b hb)
 ·obtain rfl:=List.mem_singleton.1 hi
  have h1:=mH b
  have h2:=h.mem.one b
  obtain ⟨h3,h4⟩:=h.mem.uj b (by omega)
  exact .inr (.inr ⟨h4,h3,by omega⟩)
theorem cn.leaf (h:cn C S a w ρ Fs) {x y:LV} {o:Option Nat} (hl:EA S.hp x=some (y,o)): ∃Fs',cn C ⟨S.sl,sQ S.hp o,S.nx⟩ a w ρ Fs' /\(∀j,sQ S.hp o j=S.hp j\/sQ S.hp o j=none)/\(∀id,o=some id-> ∃e v r,S.hp id=some (.row e v r))/\(∀id t c,S.hp id=some (.box t c)->sQ S.hp o id=some (.box t c))/\ ∀v,gJ (C.env w ρ S.hp S.nx Fs) x v->gJ (C.env w ρ (sQ S.hp o) S.nx Fs') y v:=by
 unfold EA at hl
 split at hl
 ·rename_i id
  split at hl
  ·rename_i e ver r hr
   cases hl
   obtain ⟨h1,h2⟩:=h.S8 hr
   refine ⟨_,h1,fun j=> ?_,(fun i hi=>by cases hi;exact ⟨_,_,_,hr⟩),fun i t c hi=> ?_,fun v hv=> ?_⟩
   ·by_cases e1:j=id
    ·right;simp[sQ,e1]
    ·have e2:(j==id)=false:=by simp[e1]
     left;simp only[sQ,e2,an]
   ·have e1:i≠id:=by rintro rfl;rw[hr] at hi;cases hi
    have e2:(i==id)=false:=by simp[e1]
    simp only[sQ,e2,an];exact hi
   ·obtain ⟨_,hv⟩:=hv
    obtain ⟨r',ru,hv⟩:=hv _ hr
    cases ru
    rw[hv]
    exact h2
  ·cases hl
 ·rename_i p r
  cases hl
  refine ⟨Fs,h,fun j=> .inl rfl,(fun i hi=>by cases hi),fun i t c hi=>hi,fun v hv=> ?_⟩
  cases p with
  |false=>exact hv
  |true=>exact iq.grow hv fun b hb=> .inr hb
 ·cases hl
theorem cn.N4 (h:cn C S a w ρ Fs) (t j:Nat): ∃Fs',cn C (N4 t j S) a w ρ Fs':=by
 have ht:=h.u6 t
 unfold V.N4
 split
 ·rename_i xs hs
  split
  ·rename_i x hx
   split
   ·rename_i y o hl
    obtain ⟨F1,h1,_,_,_,hy⟩:=h.leaf hl
    have Wk:=h1.u6 t
    simp only[] at Wk
    rw[hs] at ht Wk
    refine ⟨F1,h1.CJ t (.one (.agg (xs.set j y))) ?_⟩
    obtain ⟨vs,e,hv⟩:=ht
    obtain ⟨vs1,e1,Jm⟩:=Wk
    have:vs=vs1:=by rw[e] at e1;simpa using e1
    subst this
    refine ⟨vs,e,?_⟩
    have key: ∀ {xs:List LV} {vs:List Value} {j:Nat},cw (C.env w ρ S.hp S.nx Fs) xs vs->cw (C.env w ρ (sQ S.hp o) S.nx F1) xs vs->xs[j]? =some x->cw (C.env w ρ (sQ S.hp o) S.nx F1) (xs.set j y) vs:=by
     intro xs
     induction xs with
     |nil=>intro vs j _ _ hx;simp at hx
     |cons z xs ih=>
      intro vs j g1 g2 hx
      cases vs with
      |nil=>exact g1.elim
      |cons v vs=>
       cases j with
       |zero=>simp at hx;subst hx;exact ⟨hy v g1.1,g2.2⟩
       |succ j=>exact ⟨g2.1,ih g1.2 g2.2 (by simpa using hx)⟩
    exact key hv Jm hx
   ·exact ⟨Fs,h⟩
  ·exact ⟨Fs,h⟩
 ·rename_i id k hs
  split
  ·rename_i bt cells hb
   split
   ·rename_i x hx
    split
    ·rename_i y o hl
     obtain ⟨F1,h1,_,_,acv,hy⟩:=h.leaf hl
     have wD:sQ S.hp o id=some (.box bt cells):=acv _ _ _ hb
     have pF:id<S.nx:=eR h.mem hb
     obtain ⟨b,cap,vs,ty,g1,g2,g3,g4⟩:=h.mem.roots id _ hb
     obtain ⟨b',th,Ec,ty',XX,XY,g3',Y8⟩:=h1.mem.roots id _ wD
     simp only[Cx.env] at g1 g2 XX XY
     rw[g1] at XX;cases XX
     rw[g2] at XY;cases XY
     have key: ∀ {xs:List LV} {vs:List Value} {j:Nat},cw (C.env w ρ S.hp S.nx Fs) xs vs->cw (C.env w ρ (sQ S.hp o) S.nx F1) xs vs->xs[j]? =some x->cw (C.env w ρ (sQ S.hp o) S.nx F1) (xs.set j y) vs:=by
      intro xs
      induction xs with
      |nil=>intro vs j _ _ hx;simp at hx
      |cons z xs ih=>
       intro vs j g1 g2 hx
       cases vs with
       |nil=>exact g1.elim
       |cons v vs=>
        cases j with
        |zero=>simp at hx;subst hx;exact ⟨hy v g1.1,g2.2⟩
        |succ j=>exact ⟨g2.1,ih g1.2 g2.2 (by simpa using hx)⟩
     have sf:=key g3 g3' hx
     refine ⟨F1,h1.gen _ _ w _ _ (fun _=>False) (ai _) rfl rfl rfl (fun _ _ _=>rfl) (fun _ h=>h.elim) (ai _) (fun j hj yT=>rfl) (fun i hi=> ?_) (fun i hi=> .inl ⟨?_,h1.mem.dead i (h1.mem.fresh i hi)⟩) h1.mem.one (fun b' tq=> .inl tq)⟩
     ·by_cases e1:i=id
      ·subst e1
       refine .pr (.box bt cells) (.box bt (cells.set j y)) wD (by simp) trivial (fun M=> ?_)
       exact ⟨b,cap,vs,ty,g1,g2,sf.mono M,Y8⟩
      ·have e2:(i==id)=false:=by simp[e1]
       exact .same (by simp[e2]) rfl (fun _ _ h=>h)
     ·have e1:i≠id:=by rintro rfl;have:S.nx<=i:=hi;omega
      have e2:(i==id)=false:=by simp[e1]
      simp only[e2,an];exact h1.mem.fresh i hi
    ·exact ⟨Fs,h⟩
   ·exact ⟨Fs,h⟩
  ·exact ⟨Fs,h⟩
 ·exact ⟨Fs,h⟩
theorem cn.S9 (t:Nat): ∀(l:List Nat) {S:St} {Fs:Nat->FP},cn C S a w ρ Fs-> ∃Fs',cn C (l.foldl (fun S j=>V.N4 t j S) S) a w ρ Fs'
 | [],_,Fs,h=>⟨Fs,h⟩
 |j::l,_,_,h=>by
  obtain ⟨F1,h1⟩:=h.N4 t j
  exact cn.S9 t l h1
theorem cn.QE (h:cn C S a w ρ Fs) (t:Nat): ∃Fs',cn C (QE t S) a w ρ Fs':=by
 have ht:=h.u6 t
 unfold V.QE
 split
 ·rename_i id hs
  split
  ·rename_i e ver r hr
   rw[hs] at ht
   obtain ⟨_,ht⟩:=ht
   obtain ⟨r',ru,hv⟩:=ht _ hr
   cases ru
   obtain ⟨h1,h2⟩:=h.S8 hr
   refine ⟨_,h1.CJ t (.one (.l (.val false r.jw))) ?_⟩
   rw[hv]
   exact h2
  ·exact ⟨Fs,h⟩
 ·rename_i id lo hi hs
  split
  ·rename_i e ver r hr
   rw[hs] at ht
   have hv:=qO (x:= .sub id lo hi) (v:=C.val a t) (r:=(r.jw.take hi).drop lo) (rc:=[id]) h.mem (by show (match S.hp id with|some (.row _ _ r)=>some (((r.jw).take hi).drop lo,[id])|_=>none)=_;rw[hr]) ht
   obtain ⟨h1,h2⟩:=h.S8 hr
   exact ⟨_,h1.CJ t (.one (.l (.val false ((r.jw.take hi).drop lo)))) (hv.grow (h.aae hr))⟩
  ·exact ⟨Fs,h⟩
 ·rename_i p r hs
  rw[hs] at ht
  refine ⟨Fs,h.CJ t (.one (.l (.val false r))) ?_⟩
  cases p with
  |false=>exact ht
  |true=>exact iq.grow ht fun b hb=> .inr hb
 ·exact cn.S9 t _ h
 ·split
  ·exact cn.S9 t _ h
  ·exact ⟨Fs,h⟩
 ·exact ⟨Fs,h⟩
theorem QF (n:Nat):(S_ n).len=0:=by unfold S_;split<;>rfl
theorem cn.XZ (h:cn C S a w ρ Fs) {r:Row} (hr:r.len=0):cn C ⟨S.sl,fun i=>bif i==S.nx then some (.row 0 0 r) else S.hp i,S.nx+1⟩ a w (k_ ρ S.nx none) Fs/\
 u7 (C.env w ρ S.hp S.nx Fs) (C.env w (k_ ρ S.nx none) (fun i=>bif i==S.nx then some (.row 0 0 r) else S.hp i) (S.nx+1) Fs):=by
 have hF:Fs S.nx=fz:=h.mem.dead S.nx (h.mem.fresh S.nx (ai _))
 have mH: ∀b,aR (S.nx+1) Fs b=aR S.nx Fs b:=fun b=>by simp[aR,hF]
 refine h.X0 _ _ w _ _ (fun _=>False) (ai _) rfl rfl rfl (fun _ _ _=>rfl) (fun _ h=>h.elim) (Nat.le_succ _) (fun j hj _=>aat _ _ (by omega)) (fun j hj=> .same ?_ rfl (fun _ _ h=>h)) (fun j hj=> ?_) (fun b=>by rw[mH];exact h.mem.one b) (fun b hb=> .inl (by rw[mH] at hb;exact hb))
 ·have e:(j==S.nx)=false:=by simp;omega
  simp only[e,an]
 ·by_cases e:j=S.nx
  ·subst e
   refine .inr ⟨Nat.lt_succ_self _,.row 0 0 r,by simp,fun _=> ?_⟩
   show kh w _ (k_ ρ S.nx none S.nx) r.cells r.len r.size (Fs S.nx)
   rw[h_,hF]
   exact .inl ⟨rfl,hr,rfl⟩
  ·have e2:(j==S.nx)=false:=by simp[e]
   refine .inl ⟨?_,h.mem.dead j (h.mem.fresh j hj)⟩
   simp only[e2,an];exact h.mem.fresh j hj
theorem Vu (h:cn C S a w ρ Fs) {r:Row} (hr:r.len=0) {v:Value} (hv:gJ (C.env w ρ S.hp S.nx Fs) .nil v):gJ (C.env w (k_ ρ S.nx none) (fun i=>bif i==S.nx then some (.row 0 0 r) else S.hp i) (S.nx+1) Fs) (.own S.nx) v:=by
 have hv:v= .slice none 0 0:=hv
 refine ⟨Nat.lt_succ_self _,fun root aJ=> ?_⟩
 simp only[Cx.env,beq_self_eq_true,ak] at aJ
 cases aJ
 refine ⟨r,rfl,?_⟩
 rw[hv]
 show _=hdr (k_ ρ S.nx none S.nx) r.len
 rw[h_];rfl
theorem Pu {E E':Env} {x y:LV} (hy: ∀v,gJ E x v->gJ E' y v): ∀ {xs:List LV} {vs:List Value} {j:Nat},cw E xs vs->cw E' xs vs->xs[j]? =some x->cw E' (xs.set j y) vs:=by
 intro xs
 induction xs with
 |nil=>intro vs j _ _ hx;simp at hx
 |cons z xs ih=>
  intro vs j g1 g2 hx
  cases vs with
  |nil=>exact g1.elim
  |cons v vs=>
   cases j with
   |zero=>simp at hx;subst hx;exact ⟨hy v g1.1,g2.2⟩
   |succ j=>exact ⟨g2.1,ih g1.2 g2.2 (by simpa using hx)⟩
theorem cn.Mb (h:cn C S a w ρ Fs) (t j:Nat) {r:Row} (hr:r.len=0): ∃ρ' Fs',cn C (Mb t j r S) a w ρ' Fs':=by
 have ht:=h.u6 t
 obtain ⟨h1,hM⟩:=h.XZ hr
 have hy:=fun v=>Vu h hr (v:=v)
 unfold V.Mb
 split
 ·rename_i hs
  rw[hs] at ht
  exact ⟨_,_,h1.CJ t (.one (.l (.own S.nx))) (hy _ ht)⟩
 ·rename_i xs hs
  split
  ·rename_i hx
   rw[hs] at ht
   obtain ⟨vs,e,hv⟩:=ht
   exact ⟨_,_,h1.CJ t (.one (.agg (xs.set j (.own S.nx)))) ⟨vs,e,Pu hy hv (hv.mono hM) hx⟩⟩
  ·exact ⟨_,_,h⟩
 ·rename_i id k hs
  split
  ·rename_i bt cells hb
   split
   ·rename_i hx
    have pF:id<S.nx:=eR h.mem hb
    have nL:(id==S.nx)=false:=by simp;omega
    have wD:(fun i=>bif i==S.nx then some (aQ.row 0 0 r) else S.hp i) id=some (.box bt cells):=by simp only[nL,an];exact hb
    obtain ⟨b,cap,vs,ty,g1,g2,g3,g4⟩:=h.mem.roots id _ hb
    obtain ⟨b',th,Ec,ty',XX,XY,g3',Y8⟩:=h1.mem.roots id _ wD
    simp only[Cx.env] at g1 g2 XX XY
    have g1b:k_ ρ S.nx none id=some (b,cap):=by rw[aat _ _ (by omega)];exact g1
    rw[g1b] at XX;cases XX
    rw[g2] at XY;cases XY
    have sf:=Pu hy g3 g3' hx
    refine ⟨k_ ρ S.nx none,Fs,h1.gen _ _ w _ _ (fun _=>False) (ai _) rfl rfl rfl (fun _ _ _=>rfl) (fun _ h=>h.elim) (ai _) (fun j hj yT=>rfl) (fun i hi=> ?_) (fun i hi=> .inl ⟨?_,h1.mem.dead i (h1.mem.fresh i hi)⟩) h1.mem.one (fun b' tq=> .inl tq)⟩
    ·by_cases e1:i=id
     ·subst e1
      refine .pr (.box bt cells) (.box bt (cells.set j (.own S.nx))) wD (by simp) trivial (fun M=> ?_)
      exact ⟨b,cap,vs,ty,g1b,g2,sf.mono M,Y8⟩
     ·have e2:(i==id)=false:=by simp[e1]
      exact .same (by simp only[e2,an]) rfl (fun _ _ h=>h)
    ·have hi:S.nx+1<=i:=hi
     have e1:(i==id)=false:=by simp;omega
     simp only[e1,an];exact h1.mem.fresh i hi
   ·exact ⟨_,_,h⟩
  ·exact ⟨_,_,h⟩
 ·exact ⟨_,_,h⟩
theorem cn.uk: ∀(ts:List Nat) {S:St} {ρ:Place} {Fs:Nat->FP},cn C S a w ρ Fs-> ∃ρ' Fs',cn C (uk ts S) a w ρ' Fs'
 | [],_,ρ,Fs,h=>⟨ρ,Fs,h⟩
 |t::ts,S,ρ,Fs,h=>by
  show ∃ρ' Fs',cn C (ts.foldl _ (bif Nat.blt 999999999 t then aaf (t-1000000000) S else V.QE t S)) a w ρ' Fs'
  cases Nat.blt 999999999 t with
  |true=>
   obtain ⟨ρ1,F1,h1⟩:=h.Mb ((t-1000000000)%4096) ((t-1000000000)/4096%64) (QF ((t-1000000000)/262144))
   exact cn.uk ts h1
  |false=>
   obtain ⟨F1,h1⟩:=h.QE t
   exact cn.uk ts h1
end
def pack:List Value->Value
 | [v]=>v
 |vs=> .tuple vs.toArray
def jz:List Mode->List Value->List Value
 |m::ms,v::vs=>(match m with| .io=>[v]|_=>[])++jz ms vs
 |_,_=>[]
def Ends (C:Cx) (g:yb) (args:List Value) (rs:List DV) (e:Ending) (w':World):Prop:=
 ∃vs F',e= .returned (pack vs)/\vs.length=g.results.length/\Frame C w' /\(∀b,F' b<=1)/\(∀b,1<=F' b->b<w'.heap.size/\(C.w0.heap.size<=b\/1<=C.F0 b))/\fR w' (C.Zf w' F') (C.ZL w' F') rs (vs++jz g.kS args) F'
def eP (P:Program) (f:FuncId) (g:yb) (ds rs:List DV):Prop:=
 ∀(C:Cx) (args:List Value),C.P0=P->fR C.w0 C.Zf0 C.Zl ds args C.F0->(∀b,C.F0 b<=1)->(∀b,1<=C.F0 b->b<C.w0.heap.size)->Calls P f args.toArray C.w0 (Ends C g args rs)
section
variable {P:Program} {tt:TT} {C:Cx} {S:St} {a:Act} {w:World} {ρ:Place} {Fs:Nat->FP}
theorem jI.append {E:Env}: ∀ {xs ys:List AV} {us vs:List Value},jI E xs us->jI E ys vs->jI E (xs++ys) (us++vs)
 | [],_,[],_,_,h=>h
 |x::xs,_,u::us,_,h,h'=>⟨h.1,jI.append h.2 h'⟩
theorem jI.length {E:Env}: ∀ {xs:List AV} {us:List Value},jI E xs us->xs.length=us.length
 | [],[],_=>rfl
 |x::xs,u::us,h=>by simp[jI.length h.2]
theorem fR.append {w:World} {Zf ZL:Zs}: ∀ {ds es:List DV} {us vs:List Value} {F G:FP},fR w Zf ZL ds us F->fR w Zf ZL es vs G->fR w Zf ZL (ds++es) (us++vs) (ez F G)
 | [],_,[],_,F,G,h,h'=>by have:F=fz:=h
                          subst this
                          rw[lU];exact h'
 |d::ds,_,u::us,_,F,G,⟨F1,F2,h1,h2,h3⟩,h'=>⟨F1,ez F2 G,h1,fR.append h2 h',by rw[h3,vX]⟩
def CK (a:Act):ResultVar->Sem Value
 | .tmp t=>pure (a.tmps.getD t undef)
 | .cell p t=>do loadVar t (<- asAddr (a.tmps.getD p undef))
theorem ul (T:qc P tt) (h:cn C S a w ρ Fs): ∀(rs:List ResultVar) (xs:List AV),qe tt C.N S rs=some xs-> ∃vs:List Value,(rs.mapM (CK a)).run P w= .ok vs w/\jI (C.env w ρ S.hp S.nx Fs) xs vs
 | [],xs,he=>by
   simp only[qe,af] at he
   subst he
   exact ⟨[],by simp,trivial⟩
 | .tmp t::rs,xs,he=>by
   simp only[qe] at he
   obtain ⟨h1,he⟩:=aH he
   have h1:t<C.N:=by simpa[Nat.blt_eq] using h1
   split at he
   ·rename_i ys Vv
    simp only[af] at he
    subst he
    obtain ⟨vs,k1,k2⟩:=ul T h rs ys Vv
    have:=h.u6 t
    simp only[Cx.val,aS h1] at this
    exact ⟨a.tmps.getD t undef::vs,by simp[List.mapM_cons,CK,k1],this,k2⟩
   ·cases he
 | .cell p t::rs,xs,he=>by
   simp only[qe] at he
   obtain ⟨h1,he⟩:=aH he
   obtain ⟨h1,lN⟩:=ba h1
   have h1:p<C.N:=by simpa[Nat.blt_eq] using h1
   split at he
   ·rename_i id Bb
    split at he
    ·rename_i bt cells aJ
     obtain ⟨oX,he⟩:=aH he
     have oX:=aE oX
     split at he
     ·rename_i ys Vv
      simp only[af] at he
      subst he
      obtain ⟨vs,k1,k2⟩:=ul T h rs ys Vv
      have hp:=h.u6 p
      simp only[Cx.val,aS h1,Bb] at hp
      obtain ⟨_,_,b,cap,hρ,hv⟩:=hp
      obtain ⟨b',th,us,ty,g1,g2,g3,g4⟩:=h.mem.roots id _ aJ
      simp only[Cx.env] at hρ g1 g2
      rw[hρ] at g1;cases g1
      obtain ⟨fields,i,d1,d2,d3⟩:=qf T lN
      have hl:=g3.length
      have Ta:=ph (P:=P) (w:=w) d1 d2 (a:=⟨b,0,none⟩) (vs:=us.toList) (by rw[d3,<- oX,hl]) (fun j v hj=>by
       rw[fS,cY g2];simpa using hj)
      unfold Instr.loadAt at Ta
      rw[fy (x:=(⟨b,0,none⟩:Addr)) (w':=w) rfl] at Ta
      refine ⟨.agg us.toList.toArray::vs,?_,⟨us.toList,rfl,g3⟩,k2⟩
      simp[List.mapM_cons,CK,hv,asAddr,Ta,k1]
     ·cases he
    ·cases he
   ·cases he
theorem vY: ∀ {l:List Nat},FQ l=true->l.Nodup
 | [],_=>by simp
 |x::l,h=>by
  obtain ⟨h1,h2⟩:=ba h
  refine List.nodup_cons.2 ⟨fun hx=> ?_,vY h2⟩
  rw[List.elem_iff.2 hx] at h1
  cases h1
theorem mO.lt (m:kU C S.hp S.nx w ρ Fs) {ks:List Nat} (h:mO S.hp ks): ∀k∈ks,k<S.nx:=fun k hk=>by
 obtain ⟨root,h2,_⟩:=h k hk
 exact eR m h2
theorem FR (h:cn C S a w ρ Fs): ∀(ms:List Mode) (ts:List Nat) (vs:List Value) (i:Nat),ts.length=vs.length->(∀j v,vs[j]? =some v->C.val a (i+j)=v)->jI (C.env w ρ S.hp S.nx Fs) ((xH i ms ts).map fun p=>S.sl p.2) (jz ms vs)
 | [],ts,vs,i,hl,hv=>by
   have e1:xH i [] ts=[]:=by simp[xH]
   have e2:jz [] vs=[]:=by simp[jz]
   rw[e1,e2];trivial
 |m::ms,[],[],i,hl,hv=>by
  have e1:xH i (m::ms) [] =[]:=by simp[xH]
  have e2:jz (m::ms) [] =[]:=by simp[jz]
  rw[e1,e2];trivial
 |m::ms,[],v::vs,i,hl,hv=>by simp at hl
 |m::ms,t::ts,[],i,hl,hv=>by simp at hl
 |m::ms,t::ts,v::vs,i,hl,hv=>by
  simp only[xH,jz,List.map_append]
  refine jI.append ?_ (FR h ms ts vs (i+1) (by simpa using hl) (fun j u hj=>by have:=hv (j+1) u (by simpa using hj);rwa [show i+(j+1)=i+1+j by omega] at this))
  cases m with
  |io=>
   have:=h.u6 i
   have e:=hv 0 v rfl
   rw[Nat.add_zero] at e
   rw[e] at this
   exact ⟨this,trivial⟩
  |_=>trivial
theorem Mc {fn:Func} {a:Act} {w:World} {vs:List Value} (h:(fn.results.toList.mapM (CK a)).run P w= .ok vs w):(results fn a.tmps).run P w= .ok (pack vs) w:=by
 have e:(fn.results.mapM (CK a)).run P w= .ok vs.toArray w:=by
  rw[Array.mapM_eq_mapM_toList]
  simp[h]
 have e2:results fn a.tmps=(do let vs <- fn.results.mapM (CK a);pure (if h:vs.size=1 then vs[0] else .tuple vs)):=by
  unfold results
  congr 1
 rw[e2,fy e]
 match vs with
 | []=>rfl
 | [v]=>rfl
 |u::v::vs=>
  have: ¬((u::v::vs).toArray.size=1):=by simp
  simp only[this,dif_neg,not_false_iff]
  try rfl
theorem J6 (T:qc P tt) (h:cn C S a w ρ Fs) {g:yb} {fn:Func} (hN:C.N=fn.ntmps) {args:List Value} (hkv:C.kv=args) (hlen:g.params.length=args.length) (Tc:fn.results.size=g.results.length) {rs:List DV} (he:finish (R:=List DV) tt g fn S some=some rs):
 ∃v,(results fn a.tmps).run P w= .ok v w/\Ends C g args rs (.returned v) w:=by
 unfold finish at he
 split at he
 ·cases he
 ·rename_i xs EB
  split at he
  ·cases he
  ·rename_i ds ks fk hds
   simp only[] at he
   split at he
   ·cases he
   ·rename_i Aw ks' M_ X1
    obtain ⟨sq,he⟩:=aH he
    cases he
    have sq:=vY sq
    rw[<- hN] at EB
    obtain ⟨vs,k1,k2⟩:=ul (P:=P) T h _ xs EB
    obtain ⟨F1,a1,a2,a3⟩:=ui h.mem _ _ _ _ _ _ hds k2
    have yc:=FR h g.kS g.params args C.N hlen (fun j v hj=>by
     simp only[Cx.val,aD (show ¬C.N+j<C.N by omega),Nat.add_sub_cancel_left,hkv]
     simp[aL,hj])
    rw[hN] at yc
    obtain ⟨F2,b1,b2,b3⟩:=ui h.mem _ _ _ _ _ _ X1 yc
    have aag:=mO.UA (ks:=ks) (ks':=ks') (io:=fk) (io':=M_) a3 b3
    have iS:=aag.lt h.mem
    have Co: ∀b,fh Fs (ks++ks') b+fh Fs (fk++M_) b<=aR S.nx Fs b:=fun b=>by
     have:=oC Fs b S.nx sq iS
     rw[gK] at this
     exact this
    have hF: ∀b,ez F1 F2 b<=fh Fs (ks++ks') b:=fun b=>by
     have:=a2 b;have:=b2 b;rw[gK];simp;omega
    have hle: ∀b,ez F1 F2 b<=aR S.nx Fs b:=fun b=>by have:=hF b;have:=Co b;omega
    have N3: ∀b,oi (C.Zf w (aR S.nx Fs)) Fs (fk++M_) b->C.Zf w (ez F1 F2) b:=fun b hb=>by
     rcases hb with (hb| ⟨c1,c2,c3⟩)|hb
     ·exact .inl hb
     ·exact .inr ⟨c1,c2,by have:=hle b;omega⟩
     ·have:=Co b
      have:=h.mem.one b
      obtain ⟨o1,o2⟩:=h.mem.uj b (by omega)
      exact .inr ⟨o2,o1,by have:=hF b;omega⟩
    have UB: ∀b,oi (C.ZL w (aR S.nx Fs)) Fs (fk++M_) b->C.ZL w (ez F1 F2) b:=fun b hb=>by
     rcases hb with (hb|hb)|hb
     ·exact .inl hb
     ·exact .inr (N3 b (.inl hb))
     ·exact .inr (N3 b (.inr hb))
    refine ⟨pack vs,Mc k1,vs,ez F1 F2,rfl,?_,h.mem.frame,fun b=>by have:=hle b;have:=h.mem.one b;omega,fun b hb=>h.mem.uj b (by have:=hle b;omega),?_⟩
    ·rw[<- k2.length,<- Tc]
     have: ∀(l:List ResultVar) (xs:List AV),qe tt C.N S l=some xs->xs.length=l.length:=by
      intro l
      induction l with
      |nil=>intro xs hx;simp only[qe,af] at hx;subst hx;rfl
      |cons r l ih=>
       intro xs hx
       cases r with
       |tmp t=>
        simp only[qe] at hx
        obtain ⟨_,hx⟩:=aH hx
        split at hx
        ·rename_i ys Vv;cases hx;simp[ih ys Vv]
        ·cases hx
       |cell p t=>
        simp only[qe] at hx
        obtain ⟨_,hx⟩:=aH hx
        split at hx
        ·split at hx
         ·obtain ⟨_,hx⟩:=aH hx
          split at hx
          ·rename_i ys Vv;cases hx;simp[ih ys Vv]
          ·cases hx
         ·cases hx
        ·cases hx
     rw[this _ _ EB,bC]
    ·exact fR.append (a1.grow (fun b hb=>N3 b hb.left) (fun b hb=>UB b hb.left)) (b1.grow (fun b hb=>N3 b hb.right) (fun b hb=>UB b hb.right))
end
section
variable {R:Type} {tt:TT}
theorem J7 {k:IntKind} {d:DL} {K:Int->Option R} {r:R} (h:dI k d K=some r): ∃n,d= .i k n/\K n=some r:=by
 cases d with
 |i k' n=>
  simp only[dI] at h
  obtain ⟨h1,h2⟩:=aH h
  have e:k=k':=ao h1
  subst e;exact ⟨n,rfl,h2⟩
 |_=>cases h
theorem J8 {d:DL} {K:Bool->Option R} {r:R} (h:dB d K=some r): ∃x,d= .b x/\K x=some r:=by
 cases d with
 |b x=>exact ⟨x,rfl,h⟩
 |_=>cases h
theorem J9 {d:DL} {K:BA->Option R} {r:R} (h:dS d K=some r): ∃x,d= .s x/\K x=some r:=by
 cases d with
 |s x=>exact ⟨x,rfl,h⟩
 |_=>cases h
theorem Pv {d:DL} {K:Bool->Option R} {r:R} (h:dE d K=some r): ∃x,d= .er x/\K x=some r:=by
 cases d with
 |er x=>exact ⟨x,rfl,h⟩
 |_=>cases h
theorem vZ {oc:o8} {k:IntKind} {d:DL} {K:LI->Option R} {r:R} (h:Br oc k d K=some r): ∃l,d= .sl oc (.ints k l)/\K l=some r:=by
 unfold Br at h
 split at h
 ·obtain ⟨h1,h2⟩:=aH h
  obtain ⟨h1,h3⟩:=ba h1
  have e:=ao h1
  have e3:=ao h3
  subst e;subst e3;exact ⟨_,rfl,h2⟩
 ·cases h
theorem xI {oc:o8} {d:DL} {K:List Bool->Option R} {r:R} (h:xJ oc d K=some r): ∃l,d= .sl oc (.eQ l)/\K l=some r:=by
 unfold xJ at h
 split at h
 ·obtain ⟨h1,h2⟩:=aH h
  have e:=ao h1
  subst e;exact ⟨_,rfl,h2⟩
 ·cases h
theorem Ad {oc:o8} {d:DL} {K:List BA->Option R} {r:R} (h:Dz oc d K=some r): ∃l,d= .sl oc (.strs l)/\K l=some r:=by
 unfold Dz at h
 split at h
 ·obtain ⟨h1,h2⟩:=aH h
  have e:=ao h1
  subst e;exact ⟨_,rfl,h2⟩
 ·cases h
theorem Ae {oc:o8} {d:DL} {K:LL->Option R} {r:R} (h:DA oc d K=some r): ∃l,d= .sl oc (.rows (decide (oc= .own)) l)/\K l=some r:=by
 unfold DA at h
 split at h
 ·obtain ⟨h1,h2⟩:=aH h
  obtain ⟨h1,h3⟩:=ba h1
  have e:=ao h1
  have e3:=aE h3
  subst e;subst e3;exact ⟨_,rfl,h2⟩
 ·cases h
theorem Af {oc:o8} {sg:List Bool} {d:DL} {K:List (List iQ)->Option R} {r:R} (h:DB oc sg d K=some r): ∃l,d= .sl oc (.ek sg (decide (oc= .own)) l)/\K l=some r:=by
 unfold DB at h
 split at h
 ·obtain ⟨h1,h2⟩:=aH h
  obtain ⟨h1,h4⟩:=ba h1
  obtain ⟨h1,h3⟩:=ba h1
  have e:=ao h1
  have e3:=aE h3
  have e4:=aE h4
  subst e;subst e3;subst e4;exact ⟨_,rfl,h2⟩
 ·cases h
theorem oj {ds:List DV} {K:DV->List DV->Option R} {r:R} (h:Bs ds K=some r): ∃d Aw,ds=d::Aw/\K d Aw=some r:=by
 cases ds with
 |nil=>cases h
 |cons d Aw=>exact ⟨d,Aw,rfl,h⟩
theorem yw {ds:List DV} {K:Option R} {r:R} (h:QG ds K=some r):ds=[]/\K=some r:=by
 cases ds with
 |nil=>exact ⟨rfl,h⟩
 |cons d Aw=>cases h
theorem v_ {ds:List DL} {K:DL->List DL->Option R} {r:R} (h:Md ds K=some r): ∃d Aw,ds=d::Aw/\K d Aw=some r:=by
 cases ds with
 |nil=>cases h
 |cons d Aw=>exact ⟨d,Aw,rfl,h⟩
theorem yx {ds:List DL} {K:Option R} {r:R} (h:Td ds K=some r):ds=[]/\K=some r:=by
 cases ds with
 |nil=>exact ⟨rfl,h⟩
 |cons d Aw=>cases h
theorem Bt {d:DV} {K:DL->Option R} {r:R} (h:dL d K=some r): ∃x,d= .l x/\K x=some r:=by
 cases d with
 |l x=>exact ⟨x,rfl,h⟩
 |_=>cases h
theorem u_ {d:DV} {K:List DL->Option R} {r:R} (h:N5 d K=some r): ∃x,d= .ptr x/\K x=some r:=by
 cases d with
 |ptr x=>exact ⟨x,rfl,h⟩
 |_=>cases h
theorem va {d:DV} {K:List DL->Option R} {r:R} (h:Te d K=some r): ∃x,d= .agg x/\K x=some r:=by
 cases d with
 |agg x=>exact ⟨x,rfl,h⟩
 |_=>cases h
def Me (oc:o8):DL->Prop
 | .sl c r=>c=oc/\(oc= .own->r.owned=true)
 |_=>True
def Mf (oc:o8):DV->Prop
 | .l d=>Me oc d
 | .agg ds=> ∀d∈ds,Me oc d
 | .ptr ds=> ∀d∈ds,Me .jw d
theorem xK {oc:o8} {t e n:Nat} {K:LV->List (Nat×Option aQ)->Nat->Option R} {r:R} (rK:nu tt t=some e) (row:Row) (hk:(match oc with
 | .own=>K (.own n) [(n,some (.row e 0 row))] (n+1)
 | .jw=>K (.val true row) [] n
 | .bi=>K (.val false row) [] n)=some r) (ho:oc= .own->row.owned=true): ∃x up n',vT tt t (.sl oc row) n=some (x,up,n')/\Me oc (.sl oc row)/\K x up n' =some r:=by
 cases oc with
 |own=>exact ⟨_,_,_,by simp only[vT,rK],⟨rfl,ho⟩,hk⟩
 |jw=>exact ⟨_,_,_,rfl,⟨rfl,ho⟩,hk⟩
 |bi=>exact ⟨_,_,_,rfl,⟨rfl,ho⟩,hk⟩
theorem DC {oc:o8} {t:Nat} {d:DL} {n:Nat} {K:LV->List (Nat×Option aQ)->Nat->Option R} {r:R} (h:J_ tt oc t d n K=some r): ∃x up n',vT tt t d n=some (x,up,n')/\Me oc d/\K x up n' =some r:=by
 unfold J_ at h
 split at h
 ·obtain ⟨z,rfl,h2⟩:=J7 h;exact ⟨_,_,_,rfl,trivial,h2⟩
 ·obtain ⟨z,rfl,h2⟩:=J8 h;exact ⟨_,_,_,rfl,trivial,h2⟩
 ·obtain ⟨z,rfl,h2⟩:=J9 h;exact ⟨_,_,_,rfl,trivial,h2⟩
 ·obtain ⟨z,rfl,h2⟩:=Pv h;exact ⟨_,_,_,rfl,trivial,h2⟩
 ·rename_i e sz bs ht
  have rK:nu tt t=some e:=by unfold nu;rw[ht]
  simp only[] at h
  split at h
  ·obtain ⟨l,rfl,h2⟩:=vZ h;exact xK rK _ h2 (fun _=>rfl)
  ·obtain ⟨l,rfl,h2⟩:=xI h;exact xK rK _ h2 (fun _=>rfl)
  ·obtain ⟨l,rfl,h2⟩:=Ad h;exact xK rK _ h2 (fun _=>rfl)
  ·obtain ⟨l,rfl,h2⟩:=Ae h;exact xK rK _ h2 (fun e=>by simp[Row.owned,e])
  ·obtain ⟨l,rfl,h2⟩:=Af h;exact xK rK _ h2 (fun e=>by simp[Row.owned,e])
  ·cases h
 ·cases h
theorem wa {oc:o8} {r:R}: ∀ {ts:List Nat} {ds:List DL} {n:Nat} {K:List LV->List (Nat×Option aQ)->Nat->Option R},EC tt oc ts ds n K=some r-> ∃xs up n',nK tt ts ds n=some (xs,up,n')/\(∀d∈ds,Me oc d)/\K xs up n' =some r
 | [],ds,n,K,h=>by
   obtain ⟨rfl,h0⟩:=yx h
   exact ⟨_,_,_,rfl,by simp,h0⟩
 |t::ts,ds,n,K,h=>by
  obtain ⟨d,Aw,rfl,h0⟩:=v_ h
  obtain ⟨x,up,n1,h1,c1,h3⟩:=DC h0
  obtain ⟨xs,jW,n2,h2,c2,h4⟩:=wa h3
  exact ⟨_,_,_,by simp only[nK,h1,h2],by simp only[cL,forall_eq_or_imp];exact ⟨c1,c2⟩,h4⟩
theorem Mg {oc:o8} {t:Nat} {d:DV} {n:Nat} {K:A1->List (Nat×Option aQ)->Nat->Option R} {r:R} (h:N6 tt oc t d n K=some r): ∃x up n',aaL tt t d n=some (.one x,up,n')/\Mf oc d/\K x up n' =some r:=by
 unfold N6 at h
 split at h
 ·obtain ⟨ds,rfl,h0⟩:=va h
  obtain ⟨xs,up,n',h1,c,h2⟩:=wa h0
  exact ⟨_,_,_,by simp only[aaL,h1],c,h2⟩
 ·rename_i e sz bs ht
  obtain ⟨ds,rfl,h0⟩:=u_ h
  obtain ⟨xs,up,n',h1,c,h2⟩:=wa h0
  exact ⟨_,_,_,by simp only[aaL,ht,h1],c,h2⟩
 ·obtain ⟨d',rfl,h0⟩:=Bt h
  obtain ⟨x,up,n',h1,c,h2⟩:=DC h0
  exact ⟨_,_,_,by simp only[aaL,h1],c,h2⟩
theorem Bu {oc:o8} {r:R}: ∀ {ts:List Nat} {ds:List DV} {n:Nat} {K:List A1->List (Nat×Option aQ)->Nat->List DV->Option R},Ka tt oc ts ds n K=some r-> ∃Ws S6 xs up n',ds=Ws++S6/\kC tt ts Ws n=some (xs.map AV.one,up,n')/\(∀d∈Ws,Mf oc d)/\K xs up n' S6=some r
 | [],ds,n,K,h=>⟨[],ds,[],[],n,rfl,rfl,by simp,h⟩
 |t::ts,ds,n,K,h=>by
  obtain ⟨d,Aw,rfl,h0⟩:=oj h
  obtain ⟨x,up,n1,h1,c1,h3⟩:=Mg h0
  obtain ⟨Ws,S6,xs,jW,n2,rfl,h2,c2,h4⟩:=Bu h3
  exact ⟨d::Ws,S6,x::xs,_,_,rfl,by simp only[kC,h1,h2,bM],by simp only[cL,forall_eq_or_imp];exact ⟨c1,c2⟩,h4⟩
section
variable {w:World} {Zf ZL Z:Zs}
theorem oJ.sR {oc:o8} (ho:oc≠ .bi) {d:DL} (hc:Me oc d) {v:Value} {F:FP} (h:oJ w Zf ZL d v F):oJ w Zf Z d v F:=by
 cases d with
 |sl c r=>
  obtain ⟨rfl,h2⟩:=hc
  cases c with
  |bi=>exact absurd rfl ho
  |jw=>exact h
  |own=>
   obtain ⟨q,e1,e2⟩:=h
   refine ⟨q,e1,?_⟩
   rcases e2 with e2| ⟨b,cap,arr,ty,F',g1,g2,g3,g4,g5,g6⟩
   ·exact .inl e2
   ·exact .inr ⟨b,cap,arr,ty,F',g1,g2,g3,g4,yu (xF (h2 rfl)) g5,g6⟩
 |er x=>cases x<;>exact h
 |_=>exact h
theorem nn.sR {oc:o8} (ho:oc≠ .bi): ∀ {ds:List DL} {vs:List Value} {F:FP},(∀d∈ds,Me oc d)->nn w Zf ZL ds vs F->nn w Zf Z ds vs F
 | [],[],_,_,h=>h
 |d::ds,v::vs,F,hc,⟨F1,F2,h1,h2,h3⟩=>⟨F1,F2,h1.sR ho (hc d (by simp)),nn.sR ho (fun d hd=>hc d (by simp[hd])) h2,h3⟩
theorem sM.sR {oc:o8} (ho:oc≠ .bi) {d:DV} (hc:Mf oc d) {v:Value} {F:FP} (h:sM w Zf ZL d v F):sM w Zf Z d v F:=by
 cases d with
 |l d=>exact oJ.sR ho hc h
 |agg ds=>obtain ⟨vs,e,h⟩:=h;exact ⟨vs,e,nn.sR ho hc h⟩
 |ptr ds=>obtain ⟨b,vs,ty,F',e1,e2,h,e3⟩:=h;exact ⟨b,vs,ty,F',e1,e2,nn.sR (oc:= .jw) (by decide) hc h,e3⟩
theorem fR.sR {oc:o8} (ho:oc≠ .bi): ∀ {ds:List DV} {vs:List Value} {F:FP},(∀d∈ds,Mf oc d)->fR w Zf ZL ds vs F->fR w Zf Z ds vs F
 | [],[],_,_,h=>h
 |d::ds,v::vs,F,hc,⟨F1,F2,h1,h2,h3⟩=>⟨F1,F2,h1.sR ho (hc d (by simp)),fR.sR ho (fun d hd=>hc d (by simp[hd])) h2,h3⟩
end
theorem ky: ∀(ms:List Mode) (vs:List Value),wN ms=true->jz ms vs=[]
 | [],_,_=>by simp[jz]
 |m::ms,[],_=>by simp[jz]
 | .io::ms,v::vs,h=>by cases h
 | .qp::ms,v::vs,h=>by simp[jz,ky ms vs h]
 | .Hp::ms,v::vs,h=>by simp[jz,ky ms vs h]
 | .jw::ms,v::vs,h=>by simp[jz,ky ms vs h]
theorem pt.of {E:Env}: ∀ {xs:List A1} {vs:List Value},jI E (xs.map AV.one) vs->pt E xs vs
 | [],[],_=>trivial
 |x::xs,v::vs,h=>⟨h.1,pt.of h.2⟩
theorem QH {E:Env} {xs:List A1} {vs:List Value} (h:jI E (xs.map AV.one) vs):jC E (Pw xs) (pack vs):=by
 match xs,vs,h with
 | [],[],h=>exact ⟨[],rfl,trivial⟩
 | [x],[v],h=>exact h.1
 |x::y::xs,u::v::vs,h=>exact ⟨u::v::vs,rfl,pt.of h⟩
end
section
variable {P:Program} {tt:TT} {C:Cx} {S:St} {a:Act} {w:World} {ρ:Place} {Fs:Nat->FP}
def Kb (C:Cx) (S:St) (w:World) (Fs:Nat->FP) (F:FP) (rc:List Nat) (hg:Ground C.P0 w (C.Zf w (aR S.nx Fs))) (h: ∀b,o7 C w S.nx Fs rc b\/C.Zf w (aR S.nx Fs) b->b<w.heap.size/\F b=0):Cx:=
 {P0:=C.P0,gnd:=hg,w0:=w,F0:=F,Zl:=o7 C w S.nx Fs rc,Zf0:=C.Zf w (aR S.nx Fs),N:=0,kv:=[],good:=h}
theorem kU.old (m:kU C S.hp S.nx w ρ Fs) {b:Nat} (h:C.Zl b\/C.Zf0 b):b<w.heap.size/\aR S.nx Fs b=0:=by
 obtain ⟨g1,g2⟩:=C.good b h
 have:=m.frame.size
 refine ⟨by omega,?_⟩
 rcases bf (aR S.nx Fs b) with e|e
 ·exact e
 ·obtain ⟨_,k⟩:=m.uj b e;omega
theorem ol: ∀ {l m:List Nat},sS l m=true-> ∀x∈l,x∉m
 | [],m,_,x,hx=>by simp at hx
 |y::l,m,h,x,hx=>by
  obtain ⟨h1,h2⟩:=ba h
  rcases List.mem_cons.1 hx with rfl|hx
  ·intro hm;rw[List.elem_iff.2 hm] at h1;cases h1
  ·exact ol h2 x hx
theorem Tf (m:kU C S.hp S.nx w ρ Fs) {id b:Nat} (h:1<=Fs id b):id<S.nx:=by
 rcases Nat.lt_or_ge id S.nx with k|k
 ·exact k
 ·rw[m.dead id (m.fresh id k)] at h;simp at h
theorem CL (m:kU C S.hp S.nx w ρ Fs) {F:FP} {ks rc:List Nat} (hk:ks.Nodup) (iS: ∀k∈ks,k<S.nx) (hF: ∀b,F b<=fh Fs ks b) (hd: ∀k∈ks,k∉rc): ∀b,o7 C w S.nx Fs rc b\/C.Zf w (aR S.nx Fs) b->b<w.heap.size/\F b=0:=by
 intro b hb
 have hle:=oC Fs b S.nx hk iS
 have Vw:=hF b
 have zf:C.Zf w (aR S.nx Fs) b->b<w.heap.size/\F b=0:=fun h=>by
  rcases h with h| ⟨_,h1,h2⟩
  ·obtain ⟨k1,k2⟩:=m.old (.inr h);exact ⟨k1,by omega⟩
  ·exact ⟨h1,by omega⟩
 rcases hb with (hb| ⟨id,hid,hb⟩)|hb
 ·rcases hb with hb|hb
  ·obtain ⟨k1,k2⟩:=m.old (.inl hb);exact ⟨k1,by omega⟩
  ·exact zf hb
 ·have hi:=Tf m hb
  have h1:=vb Fs b S.nx hk iS hi (fun h=>hd id h hid)
  have h2:=m.one b
  have h3:=m.uj b (by have:=mP Fs b hi;omega)
  exact ⟨h3.1,by omega⟩
 ·exact zf hb
theorem wb (hp:Nat->Option aQ) (oc:o8) (rc:List Nat):jh hp (qg oc rc)=kill hp (match oc with| .bi=>rc|_=>[]):=by
 cases oc with
 |bi=>exact q_ hp rc
 |_=>funext j;simp[qg,jh,kill]
def Bv (oc:o8) (ks rc:List Nat):List Nat:=ks++(match oc with| .bi=>rc|_=>[])
theorem CM (hp:Nat->Option aQ) (ks ls:List Nat):kill (kill hp ks) ls=kill hp (ks++ls):=by
 funext j
 simp only[nv,List.mem_append]
 by_cases h1:j∈ls<;>by_cases h2:j∈ks<;>simp[h1,h2]
def sT (n n':Nat) (up:List (Nat×Option aQ)):Prop:=n<=n' /\(∀p∈up,n<=p.1/\p.1<n')/\ ∀j,n<=j->j<n'-> ∃p∈up,p.1=j
theorem sT.nil (n:Nat):sT n n []:=⟨ai _,by simp,fun j h1 h2=>by omega⟩
theorem sT.join {n m n':Nat} {up jW:List (Nat×Option aQ)} (h:sT n m up) (h':sT m n' jW):sT n n' (up++jW):=by
 obtain ⟨a1,a2,a3⟩:=h
 obtain ⟨b1,b2,b3⟩:=h'
 refine ⟨by omega,fun p hp=> ?_,fun j h1 h2=> ?_⟩
 ·rcases List.mem_append.1 hp with hp|hp
  ·have:=a2 p hp;omega
  ·have:=b2 p hp;omega
 ·rcases Nat.lt_or_ge j m with k|k
  ·obtain ⟨p,hp,e⟩:=a3 j h1 k;exact ⟨p,by simp[hp],e⟩
  ·obtain ⟨p,hp,e⟩:=b3 j k h2;exact ⟨p,by simp[hp],e⟩
theorem Bw {tt:TT} {t n n':Nat} {d:DL} {x:LV} {up:List (Nat×Option aQ)} (hi:vT tt t d n=some (x,up,n')):sT n n' up:=by
 cases d with
 |sl c r=>
  cases c with
  |own=>
   simp only[vT] at hi
   split at hi
   ·cases hi
    exact ⟨by omega,by simp,fun j h1 h2=>⟨_,List.mem_singleton.2 rfl,by show n=j;omega⟩⟩
   ·cases hi
  |_=>cases hi;exact sT.nil _
 |_=>cases hi;exact sT.nil _
theorem um {tt:TT}: ∀(ts:List Nat) (ds:List DL) (n n':Nat) (xs:List LV) (up:List (Nat×Option aQ)),nK tt ts ds n=some (xs,up,n')->sT n n' up
 | [],[],n,n',xs,up,hi=>by cases hi;exact sT.nil _
 | [],_::_,_,_,_,_,hi=>by simp[nK] at hi
 |_::_,[],_,_,_,_,hi=>by simp[nK] at hi
 |t::ts,d::ds,n,n',xs,up,hi=>by
  simp only[nK] at hi
  split at hi
  ·rename_i x Vt m h1
   split at hi
   ·rename_i ys up2 n2 h2
    cases hi
    exact (Bw h1).join (um ts ds _ _ _ _ h2)
   ·cases hi
  ·cases hi
theorem Mh {tt:TT} {t n n':Nat} {d:DV} {x:A1} {up:List (Nat×Option aQ)} {oc:o8} (hc:Mf oc d) (hi:aaL tt t d n=some (.one x,up,n')):sT n n' up:=by
 cases d with
 |l d=>
  simp only[aaL] at hi
  split at hi
  ·rename_i y Vt m h1;cases hi;exact Bw h1
  ·cases hi
 |agg ds=>
  simp only[aaL] at hi
  split at hi
  ·rename_i ys Vt m h1;cases hi;exact um _ _ _ _ _ _ h1
  ·cases hi
 |ptr ds=>
  simp only[aaL] at hi
  split at hi
  ·split at hi
   ·rename_i ys Vt m h1
    cases hi
    obtain ⟨k1,k2,k3⟩:=um _ _ _ _ _ _ h1
    refine ⟨by omega,fun p hp=> ?_,fun j h1 h2=> ?_⟩
    ·rcases List.mem_append.1 hp with hp|hp
     ·have:=k2 p hp;omega
     ·simp at hp;subst hp;simp;omega
    ·rcases Nat.eq_or_lt_of_le h1 with e|e
     ·exact ⟨_,List.mem_append_right _ (List.mem_singleton.2 rfl),e⟩
     ·obtain ⟨p,hp,e⟩:=k3 j e h2
      exact ⟨p,by simp[hp],e⟩
   ·cases hi
  ·cases hi
theorem rL {tt:TT} {oc:o8}: ∀(ts:List Nat) (ds:List DV) (n n':Nat) (xs:List A1) (up:List (Nat×Option aQ)),(∀d∈ds,Mf oc d)->kC tt ts ds n=some (xs.map AV.one,up,n')->sT n n' up
 | [],[],n,n',xs,up,_,hi=>by
   simp only[kC,af,aA] at hi
   obtain ⟨_,rfl,rfl⟩:=hi
   exact sT.nil _
 | [],_::_,_,_,_,_,_,hi=>by simp[kC] at hi
 |_::_,[],_,_,_,_,_,hi=>by simp[kC] at hi
 |t::ts,d::ds,n,n',xs,up,hc,hi=>by
  simp only[kC] at hi
  split at hi
  ·rename_i x Vt m h1
   split at hi
   ·rename_i ys up2 n2 h2
    simp only[af,aA] at hi
    obtain ⟨e1,rfl,rfl⟩:=hi
    cases xs with
    |nil=>simp at e1
    |cons y zs=>
     simp only[bM,List.cons.injEq] at e1
     obtain ⟨rfl,rfl⟩:=e1
     exact (Mh (hc d (by simp)) h1).join (rL ts ds _ _ _ _ (fun d hd=>hc d (by simp[hd])) h2)
   ·cases hi
  ·cases hi
theorem FU: ∀(up:List (Nat×Option aQ)) {hp hp':Nat->Option aQ} {j:Nat},(∃p∈up,p.1=j)->jh hp up j=jh hp' up j:=by
 intro up
 induction up with
 |nil=>rintro hp hp' j ⟨p,h,_⟩;simp at h
 |cons p up ih=>
  rintro hp hp' j ⟨q,h,e⟩
  obtain ⟨i,r⟩:=p
  simp only[jh]
  rcases List.mem_cons.1 h with rfl|h
  ·simp only[] at e
   subst e
   exact FG _ (by simp)
  ·exact ih ⟨q,h,e⟩
theorem HH (Fs:Nat->FP) (kl:List Nat) (b:Nat) {n id:Nat} (hid:id<n) (hk:id∈kl):aR n (fD Fs kl) b+Fs id b<=aR n Fs b:=by
 have h1:=iT (fD Fs kl) (Fs id) b hid
 have h2:fD Fs kl id=fz:=by simp[fD,hk]
 rw[h2] at h1
 have h3: ∀m,aR m (jH (fD Fs kl) id (Fs id)) b<=aR m Fs b:=fun m=>by
  induction m with
  |zero=>exact ai _
  |succ m ih=>
   have:jH (fD Fs kl) id (Fs id) m b<=Fs m b:=by
    unfold jH
    split
    ·rename_i e;subst e;exact ai _
    ·exact Vx Fs kl m b
   simp only[aR,Kc];omega
 have:=h3 n
 simp at h1
 omega
def Kd (w':World) (Zf ZL:Zs) (q:Option (Nat×Nat)):aQ->aQ->FP->Prop
 | .row e ver r0,.row e' yR r1,F=>e' =e/\yR=ver+1/\r1.len=r0.len/\r1.size=r0.size/\(∀f,r1.oh f=r0.oh f)/\r1.owned=true/\kh w' ZL q r1.cells r1.len r1.size F
 | .box _ _,.box _ c1,F=> ∃b cap vs ty,q=some (b,cap)/\w'.heap[b]? =some (.cells vs ty (0,0))/\(∀E:Env,E.w=w'->(∀b,Zf b->E.Zf b)->cw E c1 vs.toList)/\F=f1 b
 |_,_,_=>False
theorem Kd.IP {w':World} {Zf ZL:Zs} {q:Option (Nat×Nat)} {root cD:aQ} {F:FP} (h:Kd w' Zf ZL q root cD F):root.IP:=by
 cases root<;>first|trivial| (cases cD<;>exact h.elim)
structure om (C:Cx) (S:St) (w:World) (ρ:Place) (w':World) (Zf ZL:Zs) (ids:List Nat) (up:List (Nat×Option aQ)) (F:FP) (Gk:Nat->FP):Prop where
 out: ∀j,j∉ids->Gk j=fz
 sum: ∀b,aR S.nx Gk b=F b
 keys: ∀p∈up,p.1∈ids
 roots: ∀id∈ids,∃root cD,S.hp id=some root/\(∀hp,jh hp up id=some cD)/\Kd w' Zf ZL (ρ id) root cD (Gk id)
theorem om.nil {w':World} {Zf ZL:Zs}:om C S w ρ w' Zf ZL [] [] fz (fun _=>fz):=
 ⟨fun _ _=>rfl,fun b=>xD _ b _ (fun _ _=>rfl),by simp,by simp⟩
theorem om.join {w':World} {Zf ZL:Zs} {ids Tg:List Nat} {up jW:List (Nat×Option aQ)} {F F':FP} {Gk Gk':Nat->FP} (h:om C S w ρ w' Zf ZL ids up F Gk) (h':om C S w ρ w' Zf ZL Tg jW F' Gk') (sq:(ids++Tg).Nodup):om C S w ρ w' Zf ZL (ids++Tg) (up++jW) (ez F F') (fun j=>ez (Gk j) (Gk' j)):=by
 obtain ⟨n1,n2,n3⟩:=List.nodup_append.1 sq
 refine ⟨fun j hj=> ?_,fun b=> ?_,fun p hp=> ?_,fun id hid=> ?_⟩
 ·have h1:j∉ids:=fun hh=>hj (by simp[hh])
  have h2:j∉Tg:=fun hh=>hj (by simp[hh])
  rw[h.out j h1,h'.out j h2,dw]
 ·rw[yt,h.sum,h'.sum];rfl
 ·rcases List.mem_append.1 hp with hp|hp
  ·simp[h.keys p hp]
  ·simp[h'.keys p hp]
 ·rcases List.mem_append.1 hid with hi|hi
  ·have HI:id∉Tg:=fun hh=>n3 id hi id hh rfl
   obtain ⟨root,cD,g1,g2,g3⟩:=h.roots id hi
   refine ⟨root,cD,g1,fun hp=> ?_,by rw[h'.out id HI,dw];exact g3⟩
   rw[dn,jF _ _ (fun p hp e2=>HI (by rw[<- e2];exact h'.keys p hp))]
   exact g2 hp
  ·have HI:id∉ids:=fun hh=>n3 id hh id hi rfl
   obtain ⟨root,cD,g1,g2,g3⟩:=h'.roots id hi
   refine ⟨root,cD,g1,fun hp=> ?_,by rw[h.out id HI,lU];exact g3⟩
   rw[dn]
   exact g2 _
theorem Vy {q q':Option (Nat×Nat)} {n n':Nat} (h:hdr q n=hdr q' n') (h0:q=none->n=0) (Y9:q' =none->n' =0):q=q' /\n=n':=by
 cases q with
 |none=>cases q' with
  |none=>exact ⟨rfl,by rw[h0 rfl,Y9 rfl]⟩
  |some p=>obtain ⟨b,c⟩:=p;simp[hdr] at h
 |some p=>
  obtain ⟨b,c⟩:=p
  cases q' with
  |none=>simp[hdr] at h
  |some p'=>
   obtain ⟨b',c'⟩:=p'
   simp only[hdr,Value.slice.injEq,af,Addr.mk.injEq] at h
   obtain ⟨⟨rfl,_⟩,rfl,rfl⟩:=h
   exact ⟨rfl,rfl⟩
theorem kh.Px {w:World} {Z:Zs} {q:Option (Nat×Nat)} {cs:List Cell} {len size:Nat} {F:FP} (h:kh w Z q cs len size F) (hq:q=none):len=0:=by
 rcases h with h| ⟨b,cap,arr,ty,F',g1,_⟩
 ·exact h.2.1
 ·rw[hq] at g1;cases g1
theorem kh.acy {w:World} {Z Z':Zs} {q:Option (Nat×Nat)} {r:Row} {F:FP} (h:kh w Z q r.cells r.len r.size F) (ho:r.owned=true):kh w Z' q r.cells r.len r.size F:=by
 rcases h with h| ⟨b,cap,arr,ty,F',g1,g2,g3,g4,g5,g6⟩
 ·exact .inl h
 ·exact .inr ⟨b,cap,arr,ty,F',g1,g2,g3,g4,yu (xF ho) g5,g6⟩
theorem zv {R:Type} {r:R} (m:kU C S.hp S.nx w ρ Fs) {w':World} {Zf ZL:Zs} {x:LV} {d:DL} {v:Value} {F:FP} {K:List (Nat×Option aQ)->Option R} (hx:gJ (C.env w ρ S.hp S.nx Fs) x v) (hd:oJ w' Zf ZL d v F) (h:lz S.hp x d K=some r):
 ∃up Gk,K up=some r/\om C S w ρ w' Zf ZL (wJ x) up F Gk:=by
 have plain:F=fz->wJ x=[]->K [] =some r-> ∃up Gk,K up=some r/\om C S w ρ w' Zf ZL (wJ x) up F Gk:=fun h1 h2 h3=>by
  subst h1;rw[h2];exact ⟨[],_,h3,om.nil⟩
 cases x with
 |i k n=>
  have hx:v= .int k n:=hx
  subst hx
  refine plain ?_ rfl h
  cases d with
  |i k' n'=>exact hd.2
  |b z=>exact hd.2
  |s z=>exact hd.2
  |er z=>cases z<;>exact hd.2
  |sl c r=>
   cases c with
   |jw=>exact hd.2
   |bi=>exact hd.2
   |own=>obtain ⟨q,e,_⟩:=hd;cases q<;>cases e
 |b z=>
  have hx:v= .bool z:=hx
  subst hx
  refine plain ?_ rfl h
  cases d with
  |i k' n'=>exact hd.2
  |b z=>exact hd.2
  |s z=>exact hd.2
  |er z=>cases z<;>exact hd.2
  |sl c r=>
   cases c with
   |jw=>exact hd.2
   |bi=>exact hd.2
   |own=>obtain ⟨q,e,_⟩:=hd;cases q<;>cases e
 |s z=>
  have hx:v= .string z:=hx
  subst hx
  refine plain ?_ rfl h
  cases d with
  |i k' n'=>exact hd.2
  |b z=>exact hd.2
  |s z=>exact hd.2
  |er z=>cases z<;>exact hd.2
  |sl c r=>
   cases c with
   |jw=>exact hd.2
   |bi=>exact hd.2
   |own=>obtain ⟨q,e,_⟩:=hd;cases q<;>cases e
 |er z=>
  refine plain ?_ rfl h
  cases d with
  |i k' n'=>exact hd.2
  |b z=>exact hd.2
  |s z=>exact hd.2
  |er z=>cases z<;>exact hd.2
  |sl c r=>
   cases c with
   |jw=>exact hd.2
   |bi=>exact hd.2
   |own=>
    obtain ⟨q,e,_⟩:=hd
    cases z with
    |true=>have hx:v= .nilIface:=hx;subst hx;cases q<;>cases e
    |false=>obtain ⟨t,y,hx⟩:=(show ∃t x,v= .iface t x from hx);subst hx;cases q<;>cases e
 |nil=>
  have hx:v= .slice none 0 0:=hx
  subst hx
  refine plain ?_ rfl h
  cases d with
  |i k' n'=>exact hd.2
  |b z=>exact hd.2
  |s z=>exact hd.2
  |er z=>cases z<;>exact hd.2
  |sl c r=>
   cases c with
   |jw=>exact hd.2
   |bi=>exact hd.2
   |own=>
    obtain ⟨q,e,hr⟩:=hd
    cases q with
    |some p=>obtain ⟨b,c⟩:=p;simp[hdr] at e
    |none=>
     rcases hr with hr| ⟨b,cap,arr,ty,F',g1,_⟩
     ·exact hr.2.2
     ·cases g1
 |own id=>
  obtain ⟨iS,hx⟩:=hx
  have iS:id<S.nx:=iS
  have fin: ∀(e ver:Nat) (r0 r1:Row),S.hp id=some (.row e ver r0)->d= .sl .own r1->r1.size=r0.size->(∀f,r1.oh f=r0.oh f)->r1.owned=true->K [(id,some (.row e (ver+1) r1))] =some r-> ∃up Gk,K up=some r/\om C S w ρ w' Zf ZL (wJ (.own id)) up F Gk:=fun e ver r0 r1 hr QI hs Bb how hK=>by
   subst QI
   obtain ⟨q,hv,QJ⟩:=hd
   obtain ⟨r',e1,e2⟩:=hx _ hr
   cases e1
   have h0:=m.roots id _ hr
   have Y9:kh w (C.ZL w (aR S.nx Fs)) (ρ id) r0.cells r0.len r0.size (Fs id):=h0
   obtain ⟨rfl,hlen⟩:=Vy (e2.symm.trans hv) (fun hq=>Y9.Px hq) (fun hq=>QJ.Px hq)
   refine ⟨_,jH (fun _=>fz) id F,hK,fun j hj=> ?_,fun b=> ?_,?_,?_⟩
   ·exact fq _ _ (fun e=>hj (by simp[wJ,e]))
   ·have:=iT (fun _=>fz) F b iS
    rw[xD _ b _ (fun _ _=>rfl)] at this
    simpa using this
   ·simp[wJ]
   ·intro i hi
    simp only[wJ,List.mem_singleton] at hi
    subst hi
    exact ⟨_,.row e (ver+1) r1,hr,fun hp=>by rw[jG,aS rfl],rfl,rfl,hlen.symm,hs,Bb,how,by rw[kK];exact QJ⟩
  simp only[lz] at h
  split at h
  ·rename_i e ver k l hr
   obtain ⟨l',QI,hK⟩:=vZ h
   exact fin _ _ _ _ hr QI rfl (fun _=>rfl) rfl hK
  ·rename_i e ver l hr
   obtain ⟨l',QI,hK⟩:=xI h
   exact fin _ _ _ _ hr QI rfl (fun _=>rfl) rfl hK
  ·rename_i e ver l hr
   obtain ⟨l',QI,hK⟩:=Ad h
   exact fin _ _ _ _ hr QI rfl (fun _=>rfl) rfl hK
  ·rename_i e ver l hr
   obtain ⟨l',QI,hK⟩:=Ae h
   exact fin _ _ _ _ hr QI rfl (fun _=>rfl) rfl hK
  ·rename_i e ver sg l hr
   obtain ⟨l',QI,hK⟩:=Af h
   exact fin _ _ _ _ hr QI rfl (fun _=>rfl) rfl hK
  ·cases h
 |_=>cases h
theorem xL {R:Type} {r:R} (m:kU C S.hp S.nx w ρ Fs) {w':World} {Zf ZL:Zs}: ∀ {xs:List LV} {ds:List DL} {vs:List Value} {F:FP} {K:List (Nat×Option aQ)->Option R},cw (C.env w ρ S.hp S.nx Fs) xs vs->nn w' Zf ZL ds vs F->jU S.hp xs ds K=some r->(xs.flatMap wJ).Nodup->
 ∃up Gk,K up=some r/\om C S w ρ w' Zf ZL (xs.flatMap wJ) up F Gk
 | [],ds,[],F,K,_,hd,h,_=>by
   obtain ⟨rfl,hK⟩:=yx h
   have:F=fz:=hd
   subst this
   exact ⟨[],_,hK,om.nil⟩
 |x::xs,ds,v::vs,F,K,hx,hd,h,sq=>by
  obtain ⟨d,Aw,rfl,h1⟩:=v_ h
  obtain ⟨F1,F2,d1,d2,rfl⟩:=hd
  obtain ⟨up,Gk,h2,b1⟩:=zv m hx.1 d1 h1
  rw[List.flatMap_cons] at sq ⊢
  obtain ⟨jW,Gk',h3,b2⟩:=xL m hx.2 d2 h2 (List.nodup_append.1 sq).2.1
  exact ⟨_,_,h3,b1.join b2 sq⟩
theorem HJ {R:Type} {r:R} {E:Env} {w':World} {Zf ZL:Zs} {x:LV} {d:DL} {v:Value} {F:FP} {K:LV->Option R} (hd:oJ w' Zf ZL d v F) (h:re x d K=some r):
 ∃y,K y=some r/\F=fz/\ ∀E:Env,E.w=w'->(∀b,Zf b->E.Zf b)->gJ E y v:=by
 unfold re at h
 split at h
 ·obtain ⟨n,rfl,h1⟩:=J7 h
  exact ⟨_,h1,hd.2,fun _ _ _=>hd.1⟩
 ·obtain ⟨n,rfl,h1⟩:=J8 h
  exact ⟨_,h1,hd.2,fun _ _ _=>hd.1⟩
 ·obtain ⟨n,rfl,h1⟩:=J9 h
  exact ⟨_,h1,hd.2,fun _ _ _=>hd.1⟩
 ·obtain ⟨n,rfl,h1⟩:=vZ h
  exact ⟨_,h1,hd.2,fun E hw hz=>by show iq E.w E.Zf _ v;rw[hw];exact hd.1.grow hz⟩
 ·cases h
theorem xM {R:Type} {r:R} {w':World} {Zf ZL:Zs}: ∀ {xs:List LV} {ds:List DL} {vs:List Value} {F:FP} {K:List LV->Option R},nn w' Zf ZL ds vs F->qG xs ds K=some r->
 ∃ys,K ys=some r/\F=fz/\ ∀E:Env,E.w=w'->(∀b,Zf b->E.Zf b)->cw E ys vs
 | [],ds,vs,F,K,hd,h=>by
   obtain ⟨rfl,h1⟩:=yx h
   cases vs with
   |nil=>exact ⟨_,h1,hd,fun _ _ _=>trivial⟩
   |cons v vs=>exact hd.elim
 |x::xs,ds,vs,F,K,hd,h=>by
  obtain ⟨d,Aw,rfl,h1⟩:=v_ h
  cases vs with
  |nil=>exact hd.elim
  |cons v vs=>
   obtain ⟨F1,F2,d1,d2,rfl⟩:=hd
   obtain ⟨y,h2,rfl,r1⟩:=HJ (E:=⟨w',Zf,ZL,fun _=>none,fun _=>none,0⟩) d1 h1
   obtain ⟨ys,h3,rfl,r2⟩:=xM d2 h2
   exact ⟨_,h3,dw _,fun E hw hz=>⟨r1 E hw hz,r2 E hw hz⟩⟩
theorem Ke {R:Type} {r:R} (m:kU C S.hp S.nx w ρ Fs) {w':World} {Zf ZL:Zs} {id:Nat} {d:DV} {v:Value} {F:FP} {K:List (Nat×Option aQ)->Option R} (hx:gJ (C.env w ρ S.hp S.nx Fs) (.je id 0) v) (hd:sM w' Zf ZL d v F) (h:yy S.hp id d K=some r):
 ∃up Gk,K up=some r/\om C S w ρ w' Zf ZL [id] up F Gk:=by
 obtain ⟨ds,rfl,h1⟩:=u_ h
 split at h1
 ·rename_i t cells aJ
  obtain ⟨iS,_,b,cap,hρ,rfl⟩:=hx
  have iS:id<S.nx:=iS
  have hρ:ρ id=some (b,cap):=hρ
  obtain ⟨b',vs,ty,F',e1,e2,hd,rfl⟩:=hd
  simp only[Value.pointer.injEq,af,Addr.mk.injEq] at e1
  obtain ⟨rfl,_⟩:=e1
  obtain ⟨cs,h2,rfl,sf⟩:=xM hd h1
  refine ⟨_,jH (fun _=>fz) id (f1 b),h2,fun j hj=>fq _ _ (fun e=>hj (by simp[e])),fun b'=> ?_,by simp,fun i hi=> ?_⟩
  ·have:=iT (fun _=>fz) (f1 b) b' iS
   rw[xD _ b' _ (fun _ _=>rfl)] at this
   rw[dw]
   simpa using this
  ·simp only[List.mem_singleton] at hi
   subst hi
   exact ⟨_,.box t cs,aJ,fun hp=>by rw[jG,aS rfl],b,cap,vs,ty,hρ,e2,sf,kK ..⟩
 ·cases h1
theorem Mi {R:Type} {r:R} (m:kU C S.hp S.nx w ρ Fs) {w':World} {Zf ZL:Zs} {x:AV} {d:DV} {v:Value} {F:FP} {K:List (Nat×Option aQ)->Option R} (hx:jC (C.env w ρ S.hp S.nx Fs) x v) (hd:sM w' Zf ZL d v F) (h:qh S.hp x d K=some r) (sq:(IS x).Nodup):
 ∃up Gk,K up=some r/\om C S w ρ w' Zf ZL (IS x) up F Gk:=by
 match x,h with
 | .one (.l x),h=>
   simp only[qh] at h
   split at h
   ·rename_i id hid
    obtain rfl:=Aa hid
    exact Ke m hx hd h
   ·rename_i hid
    obtain ⟨d',rfl,h1⟩:=Bt h
    have e:IS (.one (.l x))=wJ x:=by simp only[IS,hid]
    rw[e]
    exact zv m hx hd h1
 | .one (.agg xs),h=>
   obtain ⟨ds,rfl,h1⟩:=va h
   obtain ⟨vs,rfl,hx⟩:=hx
   obtain ⟨Ec,e,hd⟩:=hd
   have:vs=Ec:=by simpa using e
   subst this
   exact xL m hx hd h1 sq
theorem sU {R:Type} {r:R} (m:kU C S.hp S.nx w ρ Fs) {w':World} {Zf ZL:Zs}: ∀ {ms:List Mode} {xs:List AV} {ds:List DV} {vs:List Value} {F:FP} {K:List (Nat×Option aQ)->Option R},jI (C.env w ρ S.hp S.nx Fs) xs vs->fR w' Zf ZL ds (jz ms vs) F->mQ S.hp ms xs ds K=some r->(oK ms xs).Nodup->
 ∃up Gk,K up=some r/\om C S w ρ w' Zf ZL (oK ms xs) up F Gk
 | [],xs,ds,vs,F,K,hx,hd,h,sq=>by
   obtain ⟨rfl,hK⟩:=yw (show QG ds (K [])=some r by simpa[mQ] using h)
   have e:jz [] vs=[]:=by simp[jz]
   rw[e] at hd
   have:F=fz:=hd
   subst this
   exact ⟨[],_,hK,by simpa[oK] using om.nil⟩
 |md::ms,[],ds,[],F,K,hx,hd,h,sq=>by
  have h:QG ds (K [])=some r:=by cases md<;>simpa[mQ] using h
  obtain ⟨rfl,hK⟩:=yw h
  have e:jz (md::ms) [] =[]:=by simp[jz]
  rw[e] at hd
  have:F=fz:=hd
  subst this
  have e2:oK (md::ms) [] =[]:=by cases md<;>simp[oK]
  exact ⟨[],_,hK,by rw[e2];exact om.nil⟩
 | .io::ms,x::xs,ds,v::vs,F,K,hx,hd,h,sq=>by
   simp only[mQ] at h
   obtain ⟨d,Aw,rfl,h1⟩:=oj h
   have e:jz (.io::ms) (v::vs)=v::jz ms vs:=by simp[jz]
   rw[e] at hd
   obtain ⟨F1,F2,d1,d2,rfl⟩:=hd
   have e2:oK (.io::ms) (x::xs)=IS x++oK ms xs:=by simp[oK]
   rw[e2] at sq ⊢
   obtain ⟨up,Gk,h2,b1⟩:=Mi m hx.1 d1 h1 (List.nodup_append.1 sq).1
   obtain ⟨jW,Gk',h3,b2⟩:=sU m hx.2 d2 h2 (List.nodup_append.1 sq).2.1
   exact ⟨_,_,h3,b1.join b2 sq⟩
 | .qp::ms,x::xs,ds,v::vs,F,K,hx,hd,h,sq=>by
   simp only[mQ] at h
   have e:jz (.qp::ms) (v::vs)=jz ms vs:=by simp[jz]
   rw[e] at hd
   have e2:oK (.qp::ms) (x::xs)=oK ms xs:=by simp[oK]
   rw[e2] at sq ⊢
   exact sU m hx.2 hd h sq
 | .Hp::ms,x::xs,ds,v::vs,F,K,hx,hd,h,sq=>by
   simp only[mQ] at h
   have e:jz (.Hp::ms) (v::vs)=jz ms vs:=by simp[jz]
   rw[e] at hd
   have e2:oK (.Hp::ms) (x::xs)=oK ms xs:=by simp[oK]
   rw[e2] at sq ⊢
   exact sU m hx.2 hd h sq
 | .jw::ms,x::xs,ds,v::vs,F,K,hx,hd,h,sq=>by
   simp only[mQ] at h
   have e:jz (.jw::ms) (v::vs)=jz ms vs:=by simp[jz]
   rw[e] at hd
   have e2:oK (.jw::ms) (x::xs)=oK ms xs:=by simp[oK]
   rw[e2] at sq ⊢
   exact sU m hx.2 hd h sq
theorem fR.split {w:World} {Zf ZL:Zs}: ∀ {ds es:List DV} {us vs:List Value} {F:FP},ds.length=us.length->fR w Zf ZL (ds++es) (us++vs) F-> ∃F1 F2,fR w Zf ZL ds us F1/\fR w Zf ZL es vs F2/\F=ez F1 F2
 | [],es,[],vs,F,_,h=>⟨fz,F,rfl,h,(lU F).symm⟩
 |d::ds,es,u::us,vs,F,hl,h=>by
  obtain ⟨F1,F2,h1,h2,rfl⟩:=h
  obtain ⟨G1,G2,g1,g2,rfl⟩:=fR.split (by simpa using hl) h2
  exact ⟨ez F1 G1,G2,⟨F1,G1,h1,g1,rfl⟩,g2,(vX ..).symm⟩
theorem FV {tt:TT}: ∀(ts:List Nat) (ds:List DV) (n:Nat) {xs:List AV} {up:List (Nat×Option aQ)} {n':Nat},kC tt ts ds n=some (xs,up,n')->xs.length=ts.length/\ds.length=ts.length
 | [],[],n,xs,up,n',h=>by simp only[kC,af,aA] at h;obtain ⟨rfl,_⟩:=h;exact ⟨rfl,rfl⟩
 | [],_::_,_,_,_,_,h=>by simp[kC] at h
 |_::_,[],_,_,_,_,h=>by simp[kC] at h
 |t::ts,d::ds,n,xs,up,n',h=>by
  simp only[kC] at h
  split at h
  ·split at h
   ·rename_i h2
    cases h
    obtain ⟨k1,k2⟩:=FV ts ds _ h2
    exact ⟨by simp[k1],by simp[k2]⟩
   ·cases h
  ·cases h
theorem QK {R:Type} {r:R} (h:cn C S a w ρ Fs) {g:yb} {F:FP} {ks io rc:List Nat} {args:List Value} {ax:List AV} (Y_:jI (C.env w ρ S.hp S.nx Fs) ax args) (yc:io=oK g.kS ax) (hk:(ks++io).Nodup) (yU:mO S.hp (ks++io)) (hF: ∀b,F b<=fh Fs (ks++io) b) (hd: ∀k∈ks++io,k∉rc)
 {rs DD:List DV} {xs:List A1} {up:List (Nat×Option aQ)} {n n':Nat} (B8:kC tt g.results rs n=some (xs.map AV.one,up,n')) (yd: ∀d∈rs,Mf g.oc d) (hn:n' <=S.nx) (hg: ∀k,n<=k->k<n'->S.hp k=some .gW)
 {K:List (Nat×Option aQ)->Option R} (hK:mQ S.hp g.kS ax DD K=some r)
 {e:Ending} {w':World} (he:Ends (Kb C S w Fs F rc (h.mem.ground _) (CL h.mem hk (yU.lt h.mem) hF hd)) g args (rs++DD) e w'):
 ∃v ρ' Fs' jW,e= .returned v/\K jW=some r/\(∀p∈jW,p.1∈io)/\(∀b,b<w.heap.size->F b=0->w'.heap[b]? =w.heap[b]?)/\(∀id,id<S.nx->(∀root,S.hp id=some root->root.real)->ρ' id=ρ id)/\(∀id root cD,S.hp id=some root->root.real->id∉io->jh S.hp (fi ks++qg g.oc rc++up++jW) id=some cD->Fs' id=Fs id)/\
  (∀id∈io,∃root cD,S.hp id=some root/\(∀hp,jh hp jW id=some cD)/\ ∀e ver r0,root= .row e ver r0-> ∃r1,cD= .row e (ver+1) r1/\r1.len=r0.len)/\
  cn C ⟨S.sl,jh S.hp (fi ks++qg g.oc rc++up++jW),S.nx⟩ a w' ρ' Fs' /\jC (C.env w' ρ' (jh S.hp (fi ks++qg g.oc rc++up++jW)) S.nx Fs') (Pw xs) v:=by
 obtain ⟨vs,F',he,hlen,OY,o9,IT,hrel⟩:=he
 have iS:=yU.lt h.mem
 have Mj:=CL h.mem hk iS hF hd
 generalize Th:ks++io=kg at*
 generalize hKl:Bv g.oc kg rc=kl
 obtain ⟨agX,aah,w9⟩:=rL _ _ _ _ _ _ yd B8
 have Ti: ∀k∈kg,k∈kl:=fun k hk=>by rw[<- hKl];simp[Bv,hk]
 have Tj: ∀k∈io,k∈kg:=fun k hk=>by rw[<- Th];simp[hk]
 have oX:w.heap.size<=w'.heap.size:=OY.size
 have hfb: ∀b,b<w.heap.size->F b=0->w'.heap[b]? =w.heap[b]? :=fun b h1 h2=>OY.block b h1 h2
 have IT: ∀b,1<=F' b->b<w'.heap.size/\(w.heap.size<=b\/1<=F b):=IT
 have hkF: ∀b,aR S.nx (fD Fs kl) b+F b<=aR S.nx Fs b:=fun b=>by
  have h1:=oD Fs b S.nx kg hk iS
  have h2: ∀m,aR m (fD Fs kl) b<=aR m (fD Fs kg) b:=fun m=>by
   induction m with
   |zero=>exact ai _
   |succ m ih=>
    have:fD Fs kl m b<=fD Fs kg m b:=by
     unfold fD
     by_cases e1:m∈kg
     ·simp[e1,Ti m e1]
     ·rw[aD e1];split<;>simp
    simp only[aR,Kc];omega
  have h3:=hF b
  have:=h2 S.nx
  omega
 have acA: ∀k,n<=k->k<n'->Fs k=fz:=fun k h1 h2=>h.mem.roots k _ (hg k h1 h2)
 let T:FP:=fun b=>aR S.nx (fD Fs kl) b+F' b
 have Py:=h.mem.one
 have N7:=h.mem.uj
 have agY:=h.mem.frame.size
 have hZf: ∀b,(Kb C S w Fs F rc (h.mem.ground _) Mj).Zf w' F' b->C.Zf w' T b:=fun b hb=>by
  have k1:=hkF b
  have k2:=Py b
  have k3:=N7 b
  have k4:=IT b
  rcases hb with hb| ⟨wD,Cd,M5⟩
  ·have hb:C.Zf w (aR S.nx Fs) b:=hb
   rcases hb with hb| ⟨c1,c2,c3⟩
   ·exact .inl hb
   ·refine .inr ⟨c1,by omega,?_⟩
    show aR S.nx (fD Fs kl) b+F' b=0
    rcases bf (F' b) with z|z
    ·omega
    ·have:=k4 z;omega
  ·have wD:w.heap.size<=b\/1<=F b:=wD
   refine .inr ⟨?_,Cd,?_⟩
   ·rcases wD with wD|wD
    ·exact .inl (by omega)
    ·exact (k3 (by omega)).2
   ·show aR S.nx (fD Fs kl) b+F' b=0
    rcases wD with wD|wD
    ·rcases bf (aR S.nx Fs b) with z|z
     ·omega
     ·have:=k3 z;omega
    ·omega
 obtain ⟨Fr,Fk,Wt,aaj,hFF⟩:=hrel.split (by rw[(FV _ _ _ B8).2,hlen])
 have Tc:fR w' (C.Zf w' T) (C.ZL w' T) rs vs Fr:=by
  by_cases hoc:g.oc= .bi
  ·refine Wt.grow hZf (fun b hb=> ?_)
   rcases hb with hb|hb
   ·have hb:o7 C w S.nx Fs rc b:=hb
    rcases hb with hb| ⟨id,hid,hb⟩
    ·rcases hb with hb|hb
     ·exact .inl hb
     ·exact .inr (hZf b (.inl hb))
    ·obtain ⟨g1,g2⟩:=Mj b (.inl (.inr ⟨id,hid,hb⟩))
     have hi:=Tf h.mem hb
     have ZE:id∈kl:=by rw[<- hKl];simp[Bv,hoc,hid]
     have k1:=HH Fs kl b hi ZE
     have k2:=Py b
     have k3:=N7 b (by omega)
     refine .inr (.inr ⟨k3.2,by omega,?_⟩)
     show aR S.nx (fD Fs kl) b+F' b=0
     rcases bf (F' b) with z|z
     ·omega
     ·have:=IT b z;omega
   ·exact .inr (hZf b hb)
  ·exact (Wt.sR hoc yd).grow hZf (fun b hb=>hb)
 obtain ⟨ρ1,rB,f1,r1⟩:=vU _ _ _ _ _ _ _ _ B8 Tc
 obtain ⟨jW,Gk,hK',b1⟩:=sU h.mem Y_ aaj hK (by rw[<- yc];rw[<- Th] at hk;exact (List.nodup_append.1 hk).2.1)
 rw[<- yc] at b1
 have Vz: ∀id∈io,∃root,S.hp id=some root/\root.real:=fun id hid=>by
  obtain ⟨root,cD,g1,_,g3⟩:=b1.roots id hid
  exact ⟨_,g1,N0 g3.IP⟩
 have aal: ∀id∈io,id<S.nx:=fun id hid=>iS id (Tj id hid)
 have X2: ∀id∈io,¬(n<=id/\id<n'):=fun id hid hh=>by
  obtain ⟨root,e1,e2⟩:=Vz id hid
  rw[hg id hh.1 hh.2] at e1;cases e1;exact e2
 have hup:jh S.hp (fi ks++qg g.oc rc++up++jW)=jh (jh (kill S.hp kl) up) jW:=by
  rw[dn]
  funext j
  by_cases hj: ∃p∈jW,p.1=j
  ·exact FU _ hj
  ·have M3: ∀p∈jW,p.1≠j:=fun p hp e=>hj ⟨p,hp,e⟩
   rw[jF _ _ M3,jF _ _ M3]
   by_cases Mk: ∃p∈up,p.1=j
   ·rw[dn];exact FU _ Mk
   ·have aan: ∀p∈up,p.1≠j:=fun p hp e=>Mk ⟨p,hp,e⟩
    rw[dn,jF _ _ aan,jF _ _ aan,dn,q_,wb,CM]
    have acB:j∉io:=fun hh=>by
     obtain ⟨root,cD,g1,g2,_⟩:=b1.roots j hh
     have:=g2 (fun _=>none)
     rw[jF _ _ M3] at this
     cases this
    rw[nv,nv]
    have:j∈kl↔j∈ks++(match g.oc with| .bi=>rc|_=>[]):=by
     rw[<- hKl,<- Th]
     simp only[Bv,List.mem_append,acB,or_false]
    by_cases hh:j∈kl
    ·rw[aS (this.1 hh),aS hh]
    ·rw[aD (fun h=>hh (this.2 h)),aD hh]
 let Fs':Nat->FP:=fun j=>ez (fD Fs kl j) (ez (rB j) (Gk j))
 let ρ':Place:=fun j=>if n<=j/\j<n' then ρ1 j else ρ j
 have mH:aR S.nx Fs' =T:=by
  funext b
  show aR S.nx (fun j=>ez (fD Fs kl j) (ez (rB j) (Gk j))) b=_
  have e1:=yt S.nx b (fD Fs kl) (fun j=>ez (rB j) (Gk j))
  have e2:=yt S.nx b rB Gk
  have e3:=vS (Fs:=rB) b hn (fun j h1 _=>by rw[f1.out j (.inr h1)];rfl)
  have e4:=f1.sum b
  have e5:=b1.sum b
  have e6:F' b=Fr b+Fk b:=by rw[hFF];rfl
  show _=aR S.nx (fD Fs kl) b+F' b
  omega
 have X3: ∀j,n<=j->j<n'->jh (jh (kill S.hp kl) up) jW j=jh xC up j:=fun j h1 h2=>by
  rw[jF _ jW (fun p hp e=>X2 j (by rw[<- e];exact b1.keys p hp) ⟨h1,h2⟩)]
  exact FU _ (w9 j h1 h2)
 have PB: ∀j,¬(n<=j/\j<n')->j∉io->jh (jh (kill S.hp kl) up) jW j=kill S.hp kl j:=fun j hj Tk=>by
  rw[jF _ jW (fun p hp e=>Tk (by rw[<- e];exact b1.keys p hp))]
  exact jF _ _ (fun p hp e=>by have:=aah p hp;omega)
 have aao: ∀j,n<=j->j<n'->Fs' j=rB j:=fun j h1 h2=>by
  show ez (fD Fs kl j) (ez (rB j) (Gk j))=rB j
  have e1:fD Fs kl j=fz:=by unfold fD;split;rfl;exact acA j h1 h2
  have e2:Gk j=fz:=b1.out j (fun hh=>X2 j hh ⟨h1,h2⟩)
  rw[e1,e2,dw,lU]
 have aap: ∀j∈io,Fs' j=Gk j:=fun j hj=>by
  show ez (fD Fs kl j) (ez (rB j) (Gk j))=Gk j
  have e1:fD Fs kl j=fz:=by simp[fD,Ti j (Tj j hj)]
  have e2:rB j=fz:=f1.out j (by have:=X2 j hj;omega)
  rw[e1,e2,lU,lU]
 have X4: ∀j,¬(n<=j/\j<n')->j∉io->Fs' j=fD Fs kl j:=fun j h1 h2=>by
  show ez (fD Fs kl j) (ez (rB j) (Gk j))=_
  rw[f1.out j (by omega),b1.out j h2,dw,dw]
 have HF:Ext w' (C.Zf w' T) (C.ZL w' T) n n' up ρ1 (C.env w' ρ' (jh (jh (kill S.hp kl) up) jW) S.nx Fs'):=by
  refine ⟨rfl,fun b hb=> ?_,fun b hb=> ?_,fun j h1 h2=> ?_,X3,hn⟩
  ·show C.Zf w' (aR S.nx Fs') b;rw[mH];exact hb
  ·show C.ZL w' (aR S.nx Fs') b;rw[mH];exact hb
  ·show (if n<=j/\j<n' then ρ1 j else ρ j)=ρ1 j
   rw[aS ⟨h1,h2⟩]
 have hρ: ∀id,id<S.nx->(∀root,S.hp id=some root->root.real)->ρ' id=ρ id:=fun id hid yT=>by
  show (if n<=id/\id<n' then ρ1 id else ρ id)=ρ id
  rw[aD]
  rintro ⟨h1,h2⟩
  exact yT _ (hg id h1 h2)
 have aeg: ∀b,(Kb C S w Fs F rc (h.mem.ground _) Mj).ZL w' F' b->True:=fun _ _=>trivial
 refine ⟨pack vs,ρ',Fs',jW,he,hK',b1.keys,hfb,hρ,fun id root cD hr yT Tl hq=> ?_,fun id hid=> ?_,?_,by rw[hup];exact QH (r1 _ HF)⟩
 ·have Mk: ¬(n<=id/\id<n'):=fun hh=>by
   rw[hg id hh.1 hh.2] at hr;cases hr;exact yT
  rw[hup,PB id Mk Tl,nv] at hq
  have acC:id∉kl:=fun hh=>by rw[aS hh] at hq;cases hq
  rw[X4 id Mk Tl];simp[fD,acC]
 ·obtain ⟨root,cD,g1,g2,g3⟩:=b1.roots id hid
  refine ⟨root,cD,g1,g2,fun e ver r0 he=> ?_⟩
  subst he
  cases cD with
  |row e' yR r1=>obtain ⟨rfl,rfl,g4,_⟩:=g3;exact ⟨r1,rfl,g4⟩
  |_=>exact g3.elim
 rw[hup]
 refine h.gen (jh (jh (kill S.hp kl) up) jW) S.nx w' ρ' Fs' (fun b=>1<=F b) oX OY.os OY.tape OY.output (fun b h1 h2=>hfb b h1 (by omega)) (fun b hb=>by have:=hkF b;omega) (ai _) hρ (fun j hj=> ?_) (fun j hj=> ?_) (fun b=> ?_) (fun b hb=> ?_)
 ·by_cases Mk:n<=j/\j<n'
  ·have hFj:=aao j Mk.1 Mk.2
   cases hq:jh (jh (kill S.hp kl) up) jW j with
   |none=>exact .gone hq (by rw[hFj];exact f1.dead j (by rw[<- X3 j Mk.1 Mk.2];exact hq))
   |some cD=>exact .pr .gW cD (hg j Mk.1 Mk.2) hq trivial (fun M=>by rw[hFj];exact f1.roots _ HF j cD (by rw[<- X3 j Mk.1 Mk.2];exact hq))
  ·by_cases Tk:j∈io
   ·obtain ⟨root,cD,g1,g2,g0⟩:=b1.roots j Tk
    cases root with
    |row e ver r0=>
     cases cD with
     |row e' yR r1=>
      obtain ⟨rfl,rfl,g3,g4,g5,g5',g6⟩:=g0
      refine .pr _ (.row e' (ver+1) r1) g1 (g2 _) ⟨g3,g4,by omega,g5,fun hh=>by omega⟩ (fun M=> ?_)
      rw[aap j Tk]
      show kh w' (C.ZL w' (aR S.nx Fs')) (ρ' j) r1.cells r1.len r1.size (Gk j)
      rw[hρ j hj (fun root hr=>by rw[g1] at hr;cases hr;trivial),mH]
      exact g6.acy g5'
     |_=>exact g0.elim
    |box t c0=>
     cases cD with
     |box t' c1=>
      obtain ⟨b,cap,vs,ty,g3,g4,g5,g6⟩:=g0
      refine .pr _ (.box t' c1) g1 (g2 _) trivial (fun M=> ?_)
      rw[aap j Tk]
      refine ⟨b,cap,vs,ty,?_,g4,g5 _ rfl (fun b hb=> ?_),g6⟩
      ·show ρ' j=_
       rw[hρ j hj (fun root hr=>by rw[g1] at hr;cases hr;trivial)];exact g3
      ·show C.Zf w' (aR S.nx Fs') b
       rw[mH];exact hZf b hb
     |_=>exact g0.elim
    |hole=>exact g0.elim
    |gW=>exact g0.elim
   ·have hFj:=X4 j Mk Tk
    by_cases VA:j∈kl
    ·exact .gone (by rw[PB j Mk Tk,nv,aS VA]) (by rw[hFj];simp[fD,VA])
    ·refine .same (by rw[PB j Mk Tk,nv,aD VA]) (by rw[hFj];simp[fD,VA]) (fun b h1 h2=> ?_)
     have:=vb Fs b S.nx hk iS hj (fun h=>VA (Ti j h))
     have:=hF b
     have:=Py b
     omega
 ·have Tk:j∉io:=fun hh=>by have:=aal j hh;omega
  refine .inl ⟨?_,?_⟩
  ·rw[PB j (by omega) Tk,nv];split;rfl;exact h.mem.fresh j hj
  ·rw[X4 j (by omega) Tk]
   unfold fD;split;rfl;exact h.mem.dead j (h.mem.fresh j hj)
 ·rw[mH]
  show aR S.nx (fD Fs kl) b+F' b<=1
  have k1:=hkF b
  have k2:=Py b
  have k3:=o9 b
  rcases bf (F' b) with z|z
  ·omega
  ·have:=IT b z
   rcases bf (aR S.nx Fs b) with z2|z2
   ·omega
   ·have:=N7 b z2;omega
 ·rw[mH] at hb
  have hb:1<=aR S.nx (fD Fs kl) b+F' b:=hb
  have k1:=hkF b
  rcases bf (F' b) with z|z
  ·left;omega
  ·have:=IT b z;omega
end
section
variable {P:Program} {tt:TT} {C:Cx} {S:St} {a:Act} {w:World} {ρ:Place} {Fs:Nat->FP} {n:Nat}
def we (id n e ver i f:Nat) (r:Row):List (Nat×Option aQ):=[(id,some (.hole e ver r i f)),(n,some (.row 0 0 (.ints .i64 (gj r i f))))]
theorem IU (hp:Nat->Option aQ) (id n e ver i f:Nat) (r:Row) (j:Nat):jh hp (we id n e ver i f r) j=if j=n then some (.row 0 0 (.ints .i64 (gj r i f))) else if j=id then some (.hole e ver r i f) else hp j:=by
 rw[show we id n e ver i f r=[(id,some (aQ.hole e ver r i f))]++[(n,some (.row 0 0 (.ints .i64 (gj r i f))))] from rfl,dn,jG,jG]
theorem cn.VB (h:cn C S a w ρ Fs) (hg:S.hp n=some .gW) {id e ver i f:Nat} {r:Row} (aJ:S.hp id=some (.row e ver r)) (ho:r.owned=true) (hs:r.oh f=true) (hi:i<r.len) {v:Value} (hv:cellAt w (ρ id) (i*r.size+f)=some v):
 ∃q Fs' b cap,ρ id=some (b,cap)/\1<=Fs' id b/\cn C ⟨S.sl,jh S.hp (we id n e ver i f r),S.nx⟩ a w (k_ ρ n q) Fs' /\v=hdr q (gj r i f).length:=by
 have nL:id≠n:=by rintro rfl;rw[aJ] at hg;cases hg
 have pF:=eR h.mem aJ
 have Ml:=eR h.mem hg
 have YZ:Fs n=fz:=h.mem.roots n _ hg
 cases hρ:ρ id with
 |none=>rw[hρ] at hv;cases hv
 |some q=>
  obtain ⟨b,cap⟩:=q
  rw[hρ] at hv
  obtain ⟨arr,ty,F,g1,g2,g3,g4,g5,g6⟩:=tJ h.mem aJ hρ (by omega)
  simp only[cellAt] at hv
  rw[cY g1] at hv
  have hc:=xE ho hs hi
  obtain ⟨v',F1,F2,k1,k2,k3,k4⟩:=g4.get hc
  have Ed:arr.toList[i*r.size+f]? =some v:=by simpa using hv
  rw[Ed] at k1;cases k1
  have FW:=k4 .free v fz rfl
  have wT:arr.toList.set (i*r.size+f) v=arr.toList:=by
   apply List.ext_getElem?
   intro j
   rw[List.getElem?_set]
   by_cases e:i*r.size+f=j
   ·subst e;rw[aS rfl,aS (List.getElem?_eq_some_iff.1 Ed).1,Ed]
   ·rw[aD e]
  rw[wT,lU] at FW
  have Tm: ∃q,v=hdr q (gj r i f).length/\ ∀(E':Env),E'.w=w->E'.ρ n=q->lJ E' n (.row 0 0 (.ints .i64 (gj r i f))) F1:=by
   rcases k2 with ⟨p1,p2,p3⟩| ⟨b2,Cc,yS,RH,q1,q2,q3,q4,q5,q6⟩
   ·refine ⟨none,by rw[p1,p2];rfl,fun E' U3 hq=> .inl ⟨hq,by rw[p2];rfl,p3⟩⟩
   ·refine ⟨some (b2,Cc),by rw[q1];rfl,fun E' U3 hq=> .inr ⟨b2,Cc,yS,RH,fz,hq,by rw[U3];exact q2,by simpa[Row.len] using q3,by simpa[Row.size] using q4,?_,by rw[dw];exact q6⟩⟩
    refine aG.N1 fun j c hj=> ?_
    simp only[Row.cells,List.getElem?_map] at hj
    cases Eb:(gj r i f)[j]? with
    |none=>rw[Eb] at hj;cases hj
    |some z=>
     rw[Eb] at hj
     cases hj
     exact ⟨_,by simpa using q5 j z Eb,rfl,rfl⟩
  obtain ⟨q,Tn,QJ⟩:=Tm
  have rF:=IU S.hp id n e ver i f r
  have mH: ∀b',aR S.nx (jH (jH Fs id (ez (f1 b) F2)) n F1) b' =aR S.nx Fs b':=fun b'=>by
   have e1:=iT (jH Fs id (ez (f1 b) F2)) F1 b' Ml
   have e2:=iT Fs (ez (f1 b) F2) b' pF
   rw[fq _ _ (Ne.symm nL),YZ] at e1
   rw[g5,k3] at e2
   simp at e1 e2
   omega
  refine ⟨q,jH (jH Fs id (ez (f1 b) F2)) n F1,b,cap,rfl,by rw[fq _ _ nL,kK];simp,?_,Tn⟩
  refine h.gen _ _ w _ _ (fun _=>False) (ai _) rfl rfl rfl (fun _ _ _=>rfl) (fun _ h=>h.elim) (ai _) (fun j hj yT=>aat _ _ (by rintro rfl;exact yT _ hg)) (fun j hj=> ?_) (fun j hj=> .inl ⟨by rw[rF,aD (by omega),aD (by omega)];exact h.mem.fresh j hj,by rw[fq _ _ (by omega),fq _ _ (by omega)];exact h.mem.dead j (h.mem.fresh j hj)⟩) (fun b'=>by rw[mH];exact h.mem.one b') (fun b' tq=> .inl (by rw[mH] at tq;exact tq))
  by_cases e1:j=n
  ·subst e1
   exact .pr .gW _ hg (by rw[rF,aS rfl]) trivial (fun M=>by rw[kK];exact QJ _ rfl (h_ ..))
  ·by_cases e2:j=id
   ·subst e2
    refine .pr _ (.hole e ver r i f) aJ (by rw[rF,aD e1,aS rfl]) ⟨rfl,rfl,ai _⟩ (fun M=> ?_)
    rw[fq _ _ e1,kK]
    refine ⟨hi,J2 hs,.inr ⟨b,cap,arr,ty,F2,by show k_ ρ n q j=_;rw[aat _ _ e1];exact hρ,g1,g2,g3,?_,rfl⟩⟩
    exact FW.mono (fun b hb=>M.zl b hb) (fun b _=>rfl)
   ·exact .same (by rw[rF,aD e1,aD e2]) (by rw[fq _ _ e1,fq _ _ e2]) (fun _ _ h=>h)
theorem Bx {i f:Nat} {y:LI} {r r':Row} (h:rf i f y r=some r') (hs:r.oh f=true) (hi:i<r.len):r'.cells=r.cells.set (i*r.size+f) (.sl true y)/\r'.len=r.len/\r'.size=r.size:=by
 unfold rf at h
 split at h
 ·rename_i l
  cases h
  have hf:f=0:=by simpa[Row.oh] using hs
  subst hf
  exact ⟨by simp[Row.cells,Row.size],by simp[Row.len],rfl⟩
 ·rename_i sg l
  split at h
  ·rename_i hsg
   cases h
   have xN:i<l.length:=hi
   have hli:l[i]? =some l[i]:=aw xN
   have M7:l.getD i [] =l[i]:=by simp[xN]
   refine ⟨?_,by simp[Row.len],rfl⟩
   simp only[Row.cells,Row.size]
   refine xO (fun r=>cR true r 0 sg) sg.length (fun r=>dV ..) f (List.getElem?_eq_some_iff.1 hsg).1 _ _ l i l[i] hli ?_
   rw[M7]
   exact zw true sg l[i] f (.ints y) _ ⟨true,hsg,rfl⟩
  ·cases h
 ·cases h
theorem cn.VC (h:cn C S a w ρ Fs) {id n e ver i f:Nat} {r r':Row} (aJ:S.hp id=some (.hole e ver r i f)) (hs:r.oh f=true) {l:LI} {e2 v2:Nat} (hn:S.hp n=some (.row e2 v2 (.ints .i64 l))) (wT:rf i f l r=some r') {v:Value} (hv:cellAt w (ρ id) (i*r.size+f)=some v) (Tn:v=hdr (ρ n) l.length):
 ∃Fs',cn C ⟨S.sl,jh S.hp [(id,some (.row e (ver+1) r')),(n,none)],S.nx⟩ a w ρ Fs' /\u7 (C.env w ρ S.hp S.nx Fs) (C.env w ρ (jh S.hp [(id,some (.row e (ver+1) r')),(n,none)]) S.nx Fs'):=by
 have nL:id≠n:=by rintro rfl;rw[aJ] at hn;cases hn
 have pF:=eR h.mem aJ
 have Ml:=eR h.mem hn
 obtain ⟨hi,hfs,qd⟩:=h.mem.roots id _ aJ
 have qd:kh w (C.ZL w (aR S.nx Fs)) (ρ id) (r.cells.set (i*r.size+f) .free) r.len r.size (Fs id):=qd
 have hrn:kh w (C.ZL w (aR S.nx Fs)) (ρ n) (Row.ints .i64 l).cells l.length 1 (Fs n):=h.mem.roots n _ hn
 obtain ⟨c1,c2,c3⟩:=Bx wT hs hi
 rcases qd with ⟨z1,z2,z3⟩| ⟨b,cap,arr,ty,F,g1,g2,g3,g4,g5,g6⟩
 ·rw[z1] at hv;cases hv
 rw[g1] at hv
 simp only[cellAt] at hv
 rw[cY g2] at hv
 have Ed:arr.toList[i*r.size+f]? =some v:=by simpa using hv
 have acD:i*r.size+f<r.cells.length:=by
  rw[Row.gm]
  have:(i+1)*r.size<=r.len*r.size:=Nat.mul_le_mul_right _ hi
  rw[Nat.succ_mul] at this
  omega
 have hcf:(r.cells.set (i*r.size+f) .free)[i*r.size+f]? =some .free:=by rw[List.getElem?_set_self acD]
 obtain ⟨v',F1,F2,k1,k2,k3,k4⟩:=g5.get hcf
 rw[Ed] at k1;cases k1
 have RI:F1=fz:=k2
 subst RI
 have lV:ik w (C.ZL w (aR S.nx Fs)) (.sl true l) v (Fs n):=by
  rcases hrn with ⟨y1,y2,y3⟩| ⟨b2,Cc,yS,RH,F',q1,q2,q3,q4,q5,q6⟩
  ·left
   refine ⟨by rw[Tn,y1];rfl,?_,y3⟩
   exact List.length_eq_zero_iff.1 y2
  ·right
   have Wu:F' =fz:=By (fun c hc=>by
    simp only[Row.cells,du] at hc
    obtain ⟨x,_,rfl⟩:=hc
    exact .inl ⟨_,rfl⟩) q5
   subst Wu
   refine ⟨b2,Cc,yS,RH,by rw[Tn,q1];rfl,q2,q3,by simpa using q4,fun j z hj=> ?_,by rw[q6,dw]⟩
   have Xi:(Row.ints .i64 l).cells[j]? =some (.sc (.int .i64 z)):=by simp[Row.cells,hj]
   obtain ⟨u,G1,G2,m1,m2,_⟩:=q5.get Xi
   have:u= .int .i64 z:=m2.1
   subst this
   simpa using m1
 have wO:=k4 (.sl true l) v (Fs n) lV
 have aas:arr.toList.set (i*r.size+f) v=arr.toList:=by
  apply List.ext_getElem?
  intro j
  rw[List.getElem?_set]
  by_cases e:i*r.size+f=j
  ·subst e;rw[aS rfl,aS (List.getElem?_eq_some_iff.1 Ed).1,Ed]
  ·rw[aD e]
 rw[aas,List.set_set] at wO
 rw[lU] at k3
 have rF: ∀j,jh S.hp [(id,some (.row e (ver+1) r')),(n,none)] j=if j=n then none else if j=id then some (.row e (ver+1) r') else S.hp j:=fun j=>by
  rw[show [(id,some (aQ.row e (ver+1) r')),(n,none)] =[(id,some (aQ.row e (ver+1) r'))]++[(n,none)] from rfl,dn,jG,jG]
 have mH: ∀b',aR S.nx (jH (jH Fs id (ez (f1 b) (ez (Fs n) F2))) n fz) b' =aR S.nx Fs b':=fun b'=>by
  have e1:=iT (jH Fs id (ez (f1 b) (ez (Fs n) F2))) fz b' Ml
  have e2:=iT Fs (ez (f1 b) (ez (Fs n) F2)) b' pF
  rw[fq _ _ (Ne.symm nL)] at e1
  rw[g6,k3] at e2
  simp at e1 e2
  omega
 refine ⟨jH (jH Fs id (ez (f1 b) (ez (Fs n) F2))) n fz,?_⟩
 refine h.X0 _ _ w _ _ (fun _=>False) (ai _) rfl rfl rfl (fun _ _ _=>rfl) (fun _ h=>h.elim) (ai _) (fun j hj yT=>rfl) (fun j hj=> ?_) (fun j hj=> .inl ⟨by rw[rF,aD (by omega),aD (by omega)];exact h.mem.fresh j hj,by rw[fq _ _ (by omega),fq _ _ (by omega)];exact h.mem.dead j (h.mem.fresh j hj)⟩) (fun b'=>by rw[mH];exact h.mem.one b') (fun b' tq=> .inl (by rw[mH] at tq;exact tq))
 by_cases e1:j=n
 ·subst e1
  exact .gone (by rw[rF,aS rfl]) (kK ..)
 ·by_cases e2:j=id
  ·subst e2
   refine .pr _ (.row e (ver+1) r') aJ (by rw[rF,aD e1,aS rfl]) ⟨c2,c3,Nat.lt_succ_self _⟩ (fun M=> ?_)
   rw[fq _ _ e1,kK]
   refine .inr ⟨b,cap,arr,ty,ez (Fs n) F2,g1,g2,by rw[c2];exact g3,by rw[c3];exact g4,?_,rfl⟩
   rw[c1]
   exact wO.mono (fun b hb=>M.zl b hb) (fun b _=>rfl)
  ·exact .same (by rw[rF,aD e1,aD e2]) (by rw[fq _ _ e1,fq _ _ e2]) (fun _ _ h=>h)
end
section
variable {R:Type} {P:Program}
def Enters (P:Program) (f:FuncId):Prop:= ∃fn,P.funcs[f]? =some fn/\(fn.name== "runtime.NumGoroutine")=false/\fn.body.isNone=false
structure RJ (P:Program) (G:jZ R):Prop where
 tt:qc P G.tt
 call: ∀(f:FuncId) (g:yb) (ds:List DV) (K:List DV->Option R) (r:R),G.sig f=some g->G.Φ f ds K=some r->Enters P f/\ ∃rs,eP P f g ds rs/\K rs=some r
structure DE (P:Program) (G:jZ R) (f:FuncId) (g:yb) (xs:List AV) (hp:Nat->Option aQ) (n:Nat) (E:kG) (ks io rc:List Nat) (ds rs DD:List DV) (vs:List A1) (up jW:List (Nat×Option aQ)) (n':Nat):Prop where
 to:u4 G.tt hp g.kS g.params xs=some (ds,ks,io,rc)
 nd:FQ (ks++io)=true
 dj:sS (ks++io) rc=true
 yc:io=oK g.kS xs
 aB:eP P f g ds (rs++DD)
 inn:kC G.tt g.results rs n=some (vs.map AV.one,up,n')
 cl: ∀d∈rs,Mf g.oc d
 bk:mQ hp g.kS xs DD some=some jW
 KZ:E=⟨Pw vs,fi ks++qg g.oc rc++up++jW,n',[],ks++io++rc⟩
inductive FX (P:Program) (G:jZ R) (op:Op) (sl:Nat->AV) (hp:Nat->Option aQ) (n:Nat) (E:kG):Prop
 |plain (hf:FY op=false) (he:lW G.KZ op sl hp n some=some E)
 |call (c:Call) (x:Operand) (hc:op= .call c) (hx:c.callee= .value x) (f:FuncId) (g:yb) (Hl:St.rd G.nt sl x= .one (.l (.fn f))) (hg: ∃g0,G.sig f=some g0) (Kf:Enters P f)
  (HI:mR g.kS (c.args.toList.map (St.rd G.nt sl))=none) {ks io rc:List Nat} {ds rs DD:List DV} {vs:List A1} {up jW:List (Nat×Option aQ)} {n':Nat} (h0:DE P G f g (c.args.toList.map (St.rd G.nt sl)) hp n E ks io rc ds rs DD vs up jW n')
 |inner (c:Call) (x:Operand) (hc:op= .call c) (hx:c.callee= .value x) (f:FuncId) (g:yb) (Hl:St.rd G.nt sl x= .one (.l (.fn f))) (hg: ∃g0,G.sig f=some g0) (Kf:Enters P f)
  (id ver i fl e:Nat) (r r':Row) (HI:mR g.kS (c.args.toList.map (St.rd G.nt sl))=some (id,ver,i,fl)) (hr:hp id=some (.row e ver r)) (R6:r.owned=true) (Bb:r.oh fl=true) (hi:i<r.len)
  {E0:kG} {ks io rc:List Nat} {ds rs DD:List DV} {vs:List A1} {up jW:List (Nat×Option aQ)} {n':Nat} (h0:DE P G f g (CN n g.kS (c.args.toList.map (St.rd G.nt sl))) (jh hp (we id n e ver i fl r)) (n+1) E0 ks io rc ds rs DD vs up jW n')
  {e2 v2 e3 v3 i3 f3:Nat} {l:LI} {r3:Row} (hl:jh (jh hp (we id n e ver i fl r)) E0.up n=some (.row e2 v2 (.ints .i64 l))) (hh:jh (jh hp (we id n e ver i fl r)) E0.up id=some (.hole e3 v3 r3 i3 f3)) (wT:rf i fl l r=some r')
  (hE:E=⟨E0.v,we id n e ver i fl r++E0.up++[(id,some (.row e (ver+1) r')),(n,none)],E0.nx,[],E0.rc⟩)
theorem FZ {A B:Type} (oc:o8) (k:IntKind) (d:DL) (K:LI->Option A) (F:A->Option B):(Br oc k d K).bind F=Br oc k d fun l=>(K l).bind F:=by
 unfold Br;split
 ·exact cE ..
 ·rfl
theorem Mm {A B:Type} (oc:o8) (d:DL) (K:List Bool->Option A) (F:A->Option B):(xJ oc d K).bind F=xJ oc d fun l=>(K l).bind F:=by
 unfold xJ;split
 ·exact cE ..
 ·rfl
theorem N8 {A B:Type} (oc:o8) (d:DL) (K:List BA->Option A) (F:A->Option B):(Dz oc d K).bind F=Dz oc d fun l=>(K l).bind F:=by
 unfold Dz;split
 ·exact cE ..
 ·rfl
theorem N9 {A B:Type} (oc:o8) (d:DL) (K:LL->Option A) (F:A->Option B):(DA oc d K).bind F=DA oc d fun l=>(K l).bind F:=by
 unfold DA;split
 ·exact cE ..
 ·rfl
theorem N_ {A B:Type} (oc:o8) (sg:List Bool) (d:DL) (K:List (List iQ)->Option A) (F:A->Option B):(DB oc sg d K).bind F=DB oc sg d fun l=>(K l).bind F:=by
 unfold DB;split
 ·exact cE ..
 ·rfl
section
variable (hp:Nat->Option aQ)
abbrev UC:=List (Nat×Option aQ)
theorem o_ {A:Type} (x:LV) (d:DL) (K:UC->Option A):lz hp x d K=(lz hp x d some).bind K:=by
 unfold lz
 split
 ·rfl
 ·rfl
 ·rfl
 ·rfl
 ·rfl
 ·split
  ·rw[FZ];rfl
  ·rw[Mm];rfl
  ·rw[N8];rfl
  ·rw[N9];rfl
  ·rw[N_];rfl
  ·rfl
 ·rfl
theorem sV: ∀ {A:Type} (xs:List LV) (ds:List DL) (K:UC->Option A),jU hp xs ds K=(jU hp xs ds some).bind K
 |_,[],ds,K=>by cases ds<;>rfl
 |_,x::xs,[],K=>rfl
 |_,x::xs,d::ds,K=>by
  show lz hp x d (fun up=>jU hp xs ds fun jW=>K (up++jW))=(lz hp x d fun up=>jU hp xs ds fun jW=>some (up++jW)).bind K
  rw[o_ hp x d (fun up=>jU hp xs ds fun jW=>K (up++jW)),o_ hp x d (fun up=>jU hp xs ds fun jW=>some (up++jW))]
  cases lz hp x d some with
  |none=>rfl
  |some u=>
   show (jU hp xs ds fun jW=>K (u++jW))=(jU hp xs ds fun jW=>some (u++jW)).bind K
   rw[sV xs ds (fun jW=>K (u++jW)),sV xs ds (fun jW=>some (u++jW))]
   cases jU hp xs ds some<;>rfl
theorem HK {A B:Type} (x:LV) (d:DL) (K:LV->Option A) (F:A->Option B):(re x d K).bind F=re x d fun y=>(K y).bind F:=by
 unfold re
 split
 ·cases d with
  |i k n=>simp only[dI];exact cE ..
  |_=>rfl
 ·cases d<;>rfl
 ·cases d<;>rfl
 ·rw[FZ]
 ·rfl
theorem xP {A B:Type}: ∀(xs:List LV) (ds:List DL) (K:List LV->Option A) (F:A->Option B),(qG xs ds K).bind F=qG xs ds fun y=>(K y).bind F
 | [],ds,K,F=>by cases ds<;>rfl
 |x::xs,[],K,F=>rfl
 |x::xs,d::ds,K,F=>by
  show (re x d fun y=>qG xs ds fun ys=>K (y::ys)).bind F=re x d fun y=>qG xs ds fun ys=>(K (y::ys)).bind F
  rw[HK]
  congr 1
  funext y
  exact xP xs ds _ F
theorem Kg {A:Type} (id:Nat) (d:DV) (K:UC->Option A):yy hp id d K=(yy hp id d some).bind K:=by
 cases d with
 |ptr ds=>
  simp only[yy,N5]
  split
  ·rw[xP];rfl
  ·rfl
 |_=>rfl
theorem tK {A:Type} (x:AV) (d:DV) (K:UC->Option A):qh hp x d K=(qh hp x d some).bind K:=by
 unfold qh
 split
 ·split
  ·exact Kg ..
  ·cases d with
   |l d=>exact o_ ..
   |_=>rfl
 ·cases d with
  |agg d=>exact sV ..
  |_=>rfl
 ·rfl
theorem qH: ∀ {A:Type} (ms:List Mode) (xs:List AV) (ds:List DV) (K:UC->Option A),mQ hp ms xs ds K=(mQ hp ms xs ds some).bind K
 |_,[],xs,ds,K=>by cases ds<;>rfl
 |_,.io::ms,[],ds,K=>by cases ds<;>rfl
 |_,.qp::ms,[],ds,K=>by cases ds<;>rfl
 |_,.Hp::ms,[],ds,K=>by cases ds<;>rfl
 |_,.jw::ms,[],ds,K=>by cases ds<;>rfl
 |_,.qp::ms,x::xs,ds,K=>qH ms xs ds K
 |_,.Hp::ms,x::xs,ds,K=>qH ms xs ds K
 |_,.jw::ms,x::xs,ds,K=>qH ms xs ds K
 |_,.io::ms,x::xs,[],K=>rfl
 |_,.io::ms,x::xs,d::ds,K=>by
  show qh hp x d (fun up=>mQ hp ms xs ds fun jW=>K (up++jW))=(qh hp x d fun up=>mQ hp ms xs ds fun jW=>some (up++jW)).bind K
  rw[tK hp x d (fun up=>mQ hp ms xs ds fun jW=>K (up++jW)),tK hp x d (fun up=>mQ hp ms xs ds fun jW=>some (up++jW))]
  cases qh hp x d some with
  |none=>rfl
  |some u=>
   show (mQ hp ms xs ds fun jW=>K (u++jW))=(mQ hp ms xs ds fun jW=>some (u++jW)).bind K
   rw[qH ms xs ds (fun jW=>K (u++jW)),qH ms xs ds (fun jW=>some (u++jW))]
   cases mQ hp ms xs ds some<;>rfl
theorem Oa {ms:List Mode} {xs:List AV} {ds:List DV} {K:UC->Option R} {r:R} (h:mQ hp ms xs ds K=some r): ∃up,mQ hp ms xs ds some=some up/\K up=some r:=by
 rw[qH] at h
 exact Option.bind_eq_some_iff.1 h
end
theorem Bz {G:jZ R} (hG:RJ P G) {f:FuncId} {g:yb} (hg:G.sig f=some g) {xs:List AV} {hp:Nat->Option aQ} {n:Nat} {K:kG->Option R} {r:R} (h:ED G hp n f g xs K=some r):
 ∃c E ks io rc ds rs DD vs up jW n',DE P G f (g.to c) xs hp n E ks io rc ds rs DD vs up jW n' /\Enters P f/\K E=some r:=by
 unfold ED at h
 split at h
 ·cases h
 ·rename_i ds ks io rc hto
  obtain ⟨Ee,h3⟩:=aH h
  obtain ⟨Ee,yc⟩:=ba Ee
  obtain ⟨sq,hdj⟩:=ba Ee
  obtain ⟨Kf,rs,acH,h4⟩:=hG.call _ _ _ _ _ hg h3
  obtain ⟨Ws,S6,xs,up,n',e,B8,yd,h5⟩:=Bu h4
  subst e
  obtain ⟨jW,h6,h7⟩:=Oa _ h5
  exact ⟨X5 g.oc g.results.length (Ws++S6),_,ks,io,rc,ds,Ws,S6,xs,up,jW,n',⟨hto,sq,hdj,aE yc,acH,B8,yd,h6,rfl⟩,Kf,h7⟩
theorem QL {G:jZ R} (hG:RJ P G) {o:Op} {sl:Nat->AV} {hp:Nat->Option aQ} {n:Nat} {K:kG->Option R} {r:R} (h:lW G o sl hp n K=some r): ∃E,FX P G o sl hp n E/\K E=some r:=by
 cases hf:FY o with
 |false=>
  rw[QM K G o sl hf] at h
  obtain ⟨E,h1,h2⟩:=Option.bind_eq_some_iff.1 h
  exact ⟨E,.plain hf h1,h2⟩
 |true=>
  cases o with
  |call c=>
   simp only[FY] at hf
   simp only[lW] at h
   split at h
   ·rename_i b hc;rw[hc] at hf;cases hf
   ·rename_i x hx
    split at h
    ·rename_i f Hl
     unfold To at h
     split at h
     ·cases h
     ·rename_i g hg
      split at h
      ·rename_i HI
       obtain ⟨cl,E,ks,io,rc,ds,rs,DD,vs,up,jW,n',h0,Kf,hk⟩:=Bz hG hg h
       exact ⟨E,.call c x rfl hx f (g.to cl) Hl ⟨g,hg⟩ Kf HI h0,hk⟩
      ·rename_i id ver i fl HI
       split at h
       ·rename_i e v r0 hr
        obtain ⟨Ee,h3⟩:=aH h
        obtain ⟨Ee,hi⟩:=ba Ee
        obtain ⟨Ee,Bb⟩:=ba Ee
        obtain ⟨J3,R6⟩:=ba Ee
        obtain rfl:=aE J3
        obtain ⟨cl,E,ks,io,rc,ds,rs,DD,vs,up,jW,n',h0,Kf,hk⟩:=Bz hG hg h3
        split at hk
        ·rename_i l _ _ _ _ _ hl hh
         split at hk
         ·rename_i r' wT
          exact ⟨_,.inner c x rfl hx f (g.to cl) Hl ⟨g,hg⟩ Kf id _ i fl e r0 r' HI hr R6 Bb (by simpa[Nat.blt_eq] using hi) h0 hl hh wT rfl,hk⟩
         ·cases hk
        ·cases hk
       ·cases h
    ·cases h
   ·cases h
  |_=>cases hf
variable {tt:TT} {hp hp':Nat->Option aQ}
theorem Mn (hs:Sub hp hp') {m:Mode} {t:Nat} {x:LV} {r:DL×List Nat×List Nat×List Nat} (h:Ab tt hp m t x=some r):Ab tt hp' m t x=some r:=by
 have view: ∀x,(match ku hp x with|some (r,rc)=>some (DL.sl .bi r,([]:List Nat),([]:List Nat),rc)|none=>none)=some r->(match ku hp' x with|some (r,rc)=>some (DL.sl .bi r,([]:List Nat),([]:List Nat),rc)|none=>none)=some r:=fun x h=>by
  split at h
  ·rename_i h1;rw[DF hs h1];exact h
  ·cases h
 cases x with
 |val p r=>exact h
 |own id=>
  cases m with
  |qp=>exact view _ h
  |jw=>cases h
  |Hp=>
   simp only[Ab] at h ⊢
   split at h
   ·rename_i h1;simp only[hs _ _ h1];exact h
   ·cases h
  |io=>
   simp only[Ab] at h ⊢
   split at h
   ·rename_i h1;simp only[hs _ _ h1];exact h
   ·cases h
 |sub id lo hi=>
  cases m with
  |qp=>exact view _ h
  |jw=>cases h
  |Hp=>
   cases lo with
   |zero=>
    simp only[Ab] at h ⊢
    split at h
    ·rename_i h1;simp only[hs _ _ h1];exact h
    ·cases h
   |succ lo=>cases h
  |io=>cases h
 |inner id ver i f=>
  cases m with
  |qp=>exact view _ h
  |jw=>cases h
  |Hp=>cases h
  |io=>
   simp only[Ab] at h ⊢
   split at h
   ·rename_i h1;simp only[hs _ _ h1];exact h
   ·cases h
 |je id k=>cases m<;>cases h
 |arr id k=>cases m<;>cases h
 |vc id i f=>cases m<;>cases h
 |CO id v i f j=>cases m<;>cases h
 |Kh p r i f=>cases m<;>cases h
 |any=>cases m<;>cases h
 |undef=>cases m<;>cases h
 |fn f=>cases m<;>cases h
 |_=>exact h
theorem IV (hs:Sub hp hp') {m:Mode}: ∀ {ts:List Nat} {xs:List LV} {r:List DL×List Nat×List Nat×List Nat},wI tt hp m ts xs=some r->wI tt hp' m ts xs=some r
 | [],[],r,h=>h
 | [],_::_,_,h=>by simp[wI] at h
 |_::_,[],_,h=>by simp[wI] at h
 |t::ts,x::xs,r,h=>by
  simp only[wI] at h ⊢
  split at h
  ·rename_i h1
   split at h
   ·rename_i h2
    rw[Mn hs h1]
    simp only[]
    rw[IV hs h2]
    exact h
   ·cases h
  ·cases h
theorem QN (hs:Sub hp hp') {t id:Nat} {ds:List DL} (h:FK tt hp t id=some ds):FK tt hp' t id=some ds:=by
 unfold FK at h ⊢
 cases hq:S5 tt t with
 |false=>rw[hq] at h;cases h
 |true=>
  rw[hq,ak] at h
  rw[ak]
  split at h
  ·rename_i h1;rw[hs _ _ h1];exact h
  ·cases h
theorem Tp (hs:Sub hp hp') {m:Mode} {t:Nat} {x:AV} {r:DV×List Nat×List Nat×List Nat} (h:L_ tt hp m t x=some r):L_ tt hp' m t x=some r:=by
 match x,h with
 | .one (.l x),h=>
   simp only[L_] at h ⊢
   split at h
   ·cases m with
    |io=>
     simp only[S7] at h ⊢
     split at h
     ·rename_i h1;rw[QN hs h1];exact h
     ·cases h
    |_=>cases h
   ·split at h
    ·rename_i h1;rw[Mn hs h1];exact h
    ·cases h
 | .one (.agg xs),h=>
   simp only[L_] at h ⊢
   split at h
   ·rename_i h1;rw[IV hs h1];exact h
   ·cases h
theorem IW (hs:Sub hp hp'): ∀ {ms:List Mode} {ts:List Nat} {xs:List AV} {r:List DV×List Nat×List Nat×List Nat},u4 tt hp ms ts xs=some r->u4 tt hp' ms ts xs=some r
 |ms,[],[],r,h=>h
 |_,[],_::_,_,h=>by simp[u4] at h
 |_,_::_,[],_,h=>by simp[u4] at h
 |ms,t::ts,x::xs,r,h=>by
  simp only[u4] at h ⊢
  split at h
  ·rename_i h1
   split at h
   ·rename_i h2
    rw[Tp hs h1]
    simp only[]
    rw[IW hs h2]
    exact h
   ·cases h
  ·cases h
theorem abo (hs:Sub hp hp'): ∀(up:List (Nat×Option aQ)),Sub (jh hp up) (jh hp' up):=by
 intro up
 induction up generalizing hp hp' with
 |nil=>exact hs
 |cons p up ih=>
  obtain ⟨i,r⟩:=p
  refine ih fun j r' h=> ?_
  cases e:j==i with
  |true=>simp only[e,ak] at h ⊢;exact h
  |false=>simp only[e,an] at h ⊢;exact hs _ _ h
theorem BB (hs:Sub hp hp') {x:LV} {d:DL} {K:UC->Option R} {r:R} (h:lz hp x d K=some r):lz hp' x d K=some r:=by
 cases x with
 |own id=>
  simp only[lz] at h ⊢
  cases hq:hp id with
  |none=>rw[hq] at h;cases h
  |some root=>rw[hs _ _ hq];rw[hq] at h;exact h
 |_=>exact h
theorem zx (hs:Sub hp hp') {r:R}: ∀ {xs:List LV} {ds:List DL} {K:UC->Option R},jU hp xs ds K=some r->jU hp' xs ds K=some r
 | [],ds,K,h=>h
 |x::xs,[],K,h=>by cases h
 |x::xs,d::ds,K,h=>by
  have h:lz hp x d (fun up=>jU hp xs ds fun jW=>K (up++jW))=some r:=h
  show lz hp' x d (fun up=>jU hp' xs ds fun jW=>K (up++jW))=some r
  rw[o_] at h
  obtain ⟨u,h1,h2⟩:=Option.bind_eq_some_iff.1 h
  rw[o_,BB hs h1]
  exact zx hs h2
theorem Ob (hs:Sub hp hp') {x:AV} {d:DV} {K:UC->Option R} {r:R} (h:qh hp x d K=some r):qh hp' x d K=some r:=by
 match x,h with
 | .one (.l x),h=>
   simp only[qh] at h ⊢
   split at h
   ·rename_i id hid
    obtain ⟨ds,rfl,h1⟩:=u_ h
    simp only[yy,N5]
    split at h1
    ·rename_i h2;rw[hs _ _ h2];exact h1
    ·cases h1
   ·obtain ⟨d',rfl,h1⟩:=Bt h
    exact BB hs h1
 | .one (.agg x),h=>
   obtain ⟨d',rfl,h1⟩:=va h
   exact zx hs h1
theorem vd (hs:Sub hp hp') {r:R}: ∀ {ms:List Mode} {xs:List AV} {ds:List DV} {K:UC->Option R},mQ hp ms xs ds K=some r->mQ hp' ms xs ds K=some r
 | [],_,_,_,h=>h
 | .io::ms,[],_,_,h=>h
 | .qp::ms,[],_,_,h=>h
 | .Hp::ms,[],_,_,h=>h
 | .jw::ms,[],_,_,h=>h
 | .qp::ms,x::xs,ds,K,h=>vd (ms:=ms) (xs:=xs) hs h
 | .Hp::ms,x::xs,ds,K,h=>vd (ms:=ms) (xs:=xs) hs h
 | .jw::ms,x::xs,ds,K,h=>vd (ms:=ms) (xs:=xs) hs h
 | .io::ms,x::xs,[],_,h=>by cases h
 | .io::ms,x::xs,d::ds,K,h=>by
   have h:qh hp x d (fun up=>mQ hp ms xs ds fun jW=>K (up++jW))=some r:=h
   show qh hp' x d (fun up=>mQ hp' ms xs ds fun jW=>K (up++jW))=some r
   rw[tK] at h
   obtain ⟨u,h1,h2⟩:=Option.bind_eq_some_iff.1 h
   rw[tK,Ob hs h1]
   exact vd (ms:=ms) (xs:=xs) hs h2
theorem DE.sub {G:jZ R} (hs:Sub hp hp') {f:FuncId} {g:yb} {xs:List AV} {n:Nat} {E:kG} {ks io rc:List Nat} {ds rs DD:List DV} {vs:List A1} {up jW:List (Nat×Option aQ)} {n':Nat} (h:DE P G f g xs hp n E ks io rc ds rs DD vs up jW n'):DE P G f g xs hp' n E ks io rc ds rs DD vs up jW n':=
 {h with to:=IW hs h.to,bk:=vd hs h.bk}
theorem FX.sub {G:jZ R} (hs:Sub hp hp') {op:Op} {sl:Nat->AV} {n:Nat} {E:kG} (h:FX P G op sl hp n E):FX P G op sl hp' n E:=by
 cases h with
 |plain hf he=>exact .plain hf (Tq hs hf he)
 |call c x hc hx f g Hl hg Kf HI h0=>exact .call c x hc hx f g Hl hg Kf HI (h0.sub hs)
 |inner c x hc hx f g Hl hg Kf id ver i fl e r r' HI hr R6 Bb hi h0 hl hh wT hE=>
  exact .inner c x hc hx f g Hl hg Kf id ver i fl e r r' HI (hs _ _ hr) R6 Bb hi (h0.sub (abo hs _)) (abo (abo hs _) _ _ _ hl) (abo (abo hs _) _ _ _ hh) wT hE
theorem Oc (G:jZ R) {o:Op} {sl Ki:Nat->AV} (hf:FY o=false) {n:Nat} {K:kG->Option R} (h: ∀x∈o.operands.toList,St.rd G.nt sl x=St.rd G.nt Ki x):lW G o sl hp n K=lW G o Ki hp n K:=by
 cases o with
 |call c=>
  simp only[Op.operands,Call.operands] at h
  simp only[FY] at hf
  have ha:c.args.toList.map (St.rd G.nt sl)=c.args.toList.map (St.rd G.nt Ki):=List.map_congr_left fun x hx=>h x (by simp only[Array.toList_append,List.mem_append];exact .inr hx)
  simp only[lW]
  split
  ·rename_i b hb;simp only[ha]
  ·rename_i f hc;rw[hc] at hf;cases hf
  ·rfl
 |build t ps=>
  have ha:ps.toList.map (fun p=>(p.1,St.rd G.nt sl p.2))=ps.toList.map (fun p=>(p.1,St.rd G.nt Ki p.2)):=List.map_congr_left fun p hp=>by rw[h p.2 (by simp[Op.operands];exact ⟨p.1,by simpa using hp⟩)]
  simp only[lW,ha]
 |buildSlice t m ps=>
  have ha:ps.toList.map (fun p=>(p.1,St.rd G.nt sl p.2))=ps.toList.map (fun p=>(p.1,St.rd G.nt Ki p.2)):=List.map_congr_left fun p hp=>by rw[h p.2 (by simp[Op.operands];exact ⟨p.1,by simpa using hp⟩)]
  simp only[lW,ha]
 |slice t x lo hi mx=>
  simp only[Op.operands] at h
  have hx:St.rd G.nt sl x=St.rd G.nt Ki x:=h x (by simp)
  have Ex:lo.map (St.rd G.nt sl)=lo.map (St.rd G.nt Ki):=by cases lo with
   |none=>rfl
   |some y=>simp only[Option.map_some];rw[h y (by simp)]
  have IN:hi.map (St.rd G.nt sl)=hi.map (St.rd G.nt Ki):=by cases hi with
   |none=>rfl
   |some y=>simp only[Option.map_some];rw[h y (by simp)]
  simp only[lW,hx,Ex,IN]
 |_=>simp only[Op.operands] at h;simp[lW] at h ⊢ <;>simp[h]
theorem FX.congr {G:jZ R} {op:Op} {sl Ki:Nat->AV} {n:Nat} {E:kG} (hh: ∀x∈op.operands.toList,St.rd G.nt sl x=St.rd G.nt Ki x) (h:FX P G op sl hp n E):FX P G op Ki hp n E:=by
 cases h with
 |plain hf he=>exact .plain hf (by rw[<- Oc G.KZ hf hh];exact he)
 |call c x hc hx f g Hl hg Kf HI h0=>
  subst hc
  simp only[Op.operands,Call.operands,hx] at hh
  have ha:c.args.toList.map (St.rd G.nt sl)=c.args.toList.map (St.rd G.nt Ki):=List.map_congr_left fun y hy=>hh y (by simp only[Array.toList_append,List.mem_append];exact .inr hy)
  exact .call c x rfl hx f g (by rw[<- hh x (by simp)];exact Hl) hg Kf (by rw[<- ha];exact HI) (by rw[<- ha];exact h0)
 |inner c x hc hx f g Hl hg Kf id ver i fl e r r' HI hr R6 Bb hi h0 hl hq wT hE=>
  subst hc
  simp only[Op.operands,Call.operands,hx] at hh
  have ha:c.args.toList.map (St.rd G.nt sl)=c.args.toList.map (St.rd G.nt Ki):=List.map_congr_left fun y hy=>hh y (by simp only[Array.toList_append,List.mem_append];exact .inr hy)
  exact .inner c x rfl hx f g (by rw[<- hh x (by simp)];exact Hl) hg Kf id ver i fl e r r' (by rw[<- ha];exact HI) hr R6 Bb hi (by rw[<- ha];exact h0) hl hq wT hE
end
section
variable {R:Type} {P:Program} {C:Cx} {S:St} {a:Act} {w:World} {ρ:Place} {Fs:Nat->FP}
theorem IX {ρ:Operand->Value} {o:Oper} {c:Call} {x:Operand} {f:FuncId} (h:o.op= .call c) (hx:c.callee= .value x) (hf:ρ x= .func (.func f) #[] #[]) (he:Enters P f) (w:World):(execOp ρ o).run P w= .ok (.enter f (c.args.map ρ)) w:=by
 obtain ⟨fn,h1,h2,h3⟩:=he
 have h2: ¬fn.name= "runtime.NumGoroutine" :=by simpa using h2
 have h3: ¬fn.body=none:=by intro e;rw[e] at h3;cases h3
 simp[execOp,h,resolve,hx,hf,Deferred.ofValue,invoke,callFunc,go_sem,h1,h2,h3]
theorem BC {G:jZ R} (hN:G.nt=C.N) (h:cn C S a w ρ Fs): ∀xs:List Operand,jI (C.env w ρ S.hp S.nx Fs) (xs.map (St.rd G.nt S.sl)) (xs.map a.eval)
 | []=>trivial
 |x::xs=>⟨by rw[hN];exact h.rd x,BC hN h xs⟩
theorem DE.main {G:jZ R} {f:FuncId} {g:yb} {ax:List AV} {n:Nat} {E:kG} {ks io rc:List Nat} {ds rs DD:List DV} {vs:List A1} {up jW:List (Nat×Option aQ)} {n':Nat} (h:cn C S a w ρ Fs) (h0:DE P G f g ax S.hp n E ks io rc ds rs DD vs up jW n') {args:List Value} (Y_:jI (C.env w ρ S.hp S.nx Fs) ax args) (QO:n' <=S.nx) (RL: ∀k,n<=k->k<n'->S.hp k=some .gW):
 C.P0=P->Calls P f args.toArray w fun e w'=> ∃v ρ' Fs',e= .returned v/\
  (∀id,id∉ks++io-> ∀b,1<=Fs id b->w'.heap[b]? =w.heap[b]?)/\(∀id,id<S.nx->(∀root,S.hp id=some root->root.real)->ρ' id=ρ id)/\mO S.hp (ks++io)/\sT n n' up/\(∀p∈jW,p.1∈io)/\
  (∀id∈io,∃root cD,S.hp id=some root/\(∀hp,jh hp jW id=some cD)/\ ∀e ver r0,root= .row e ver r0-> ∃r1,cD= .row e (ver+1) r1/\r1.len=r0.len)/\
  cn C ⟨S.sl,jh S.hp E.up,S.nx⟩ a w' ρ' Fs' /\jC (C.env w' ρ' (jh S.hp E.up) S.nx Fs') E.v v:=by
 intro hP
 have sq:=vY h0.nd
 have hdj:=ol h0.dj
 obtain ⟨F,a1,a2,a3⟩:=Dy h.mem _ _ _ _ _ _ _ _ h0.to Y_
 have iS:=a3.lt h.mem
 have Mj:=CL h.mem sq iS a2 hdj
 have RI: ∀b,F b<=1:=fun b=>by have:=a2 b;have:=oC Fs b S.nx sq iS;have:=h.mem.one b;omega
 have Rz: ∀b,1<=F b->b<w.heap.size:=fun b hb=>(h.mem.uj b (by have:=a2 b;have:=oC Fs b S.nx sq iS;omega)).1
 have F5:=h0.aB (Kb C S w Fs F rc (h.mem.ground _) Mj) _ hP a1 RI Rz
 refine Calls.mono F5 fun e w' he=> ?_
 obtain ⟨v,ρ',Fs',up2,rfl,k1,k2,k3,k4,k5,k6,k7,k8⟩:=QK (tt:=G.tt) h Y_ h0.yc sq a3 a2 hdj h0.inn h0.cl QO RL h0.bk he
 cases k1
 obtain rfl:=h0.KZ
 refine ⟨v,ρ',Fs',rfl,fun id hid b hb=> ?_,k4,a3,rL _ _ _ _ _ _ h0.cl h0.inn,k2,k6,k7,k8⟩
 have hi:=Tf h.mem hb
 have h1:=vb Fs b S.nx sq iS hi hid
 have h2:=h.mem.one b
 have h3:=h.mem.uj b (by have:=mP Fs b hi;omega)
 refine k3 b h3.1 ?_
 have:=a2 b
 omega
theorem qi {E:Env} {id ver i fl n:Nat}: ∀ {ms:List Mode} {xs:List AV} {vs:List Value},mR ms xs=some (id,ver,i,fl)->jI E xs vs->(∃v,gJ E (.inner id ver i fl) v/\ ∀E',gJ E' (.own n) v->jI E' xs vs->jI E' (CN n ms xs) vs)
 | [],xs,vs,h,_=>by cases xs<;>simp[mR] at h
 |m::ms,[],vs,h,_=>by cases m<;>simp[mR] at h
 |m::ms,x::xs,[],h,hv=>hv.elim
 | .qp::ms,x::xs,v::vs,h,hv=>by
   obtain ⟨u,h1,h2⟩:=qi (ms:=ms) (xs:=xs) (by simpa[mR] using h) hv.2
   exact ⟨u,h1,fun E' hu hh=>⟨hh.1,h2 E' hu hh.2⟩⟩
 | .Hp::ms,x::xs,v::vs,h,hv=>by
   obtain ⟨u,h1,h2⟩:=qi (ms:=ms) (xs:=xs) (by simpa[mR] using h) hv.2
   exact ⟨u,h1,fun E' hu hh=>⟨hh.1,h2 E' hu hh.2⟩⟩
 | .jw::ms,x::xs,v::vs,h,hv=>by
   obtain ⟨u,h1,h2⟩:=qi (ms:=ms) (xs:=xs) (by simpa[mR] using h) hv.2
   exact ⟨u,h1,fun E' hu hh=>⟨hh.1,h2 E' hu hh.2⟩⟩
 | .io::ms,x::xs,v::vs,h,hv=>by
   by_cases hx: ∃a b c d,x= .one (.l (.inner a b c d))
   ·obtain ⟨a,b,c,d,rfl⟩:=hx
    simp only[mR,af,aA] at h
    obtain ⟨rfl,rfl,rfl,rfl⟩:=h
    exact ⟨v,hv.1,fun E' hu hh=>⟨hu,hh.2⟩⟩
   ·have e1:mR (.io::ms) (x::xs)=mR ms xs:=by
     rcases x with (y|ys)|ys
     ·cases y<;>first|rfl|exact absurd ⟨_,_,_,_,rfl⟩ hx
     ·rfl
     ·rfl
    have e2:CN n (.io::ms) (x::xs)=x::CN n ms xs:=by
     rcases x with (y|ys)|ys
     ·cases y<;>first|rfl|exact absurd ⟨_,_,_,_,rfl⟩ hx
     ·rfl
     ·rfl
    rw[e1] at h
    obtain ⟨u,h1,h2⟩:=qi h hv.2
    exact ⟨u,h1,fun E' hu hh=>by rw[e2];exact ⟨hh.1,h2 E' hu hh.2⟩⟩
theorem FX.wp {G:jZ R} (hG:RJ P G) (hN:Za P G.nt C) (h:cn C S a w ρ Fs) {o:Oper} {n:Nat} {E:kG} (hd:FX P G o.op S.sl S.hp n E) (RL: ∀k,n<=k->k<E.nx->S.hp k=some .gW) (QO:E.nx<=S.nx) {next:Act->World->Prop} {Q:Exit->Act->World->Prop}
 (IY: ∀u w' ρ' Fs',cn C ⟨S.sl,jh S.hp E.up,S.nx⟩ a w' ρ' Fs'->jC (C.env w' ρ' (jh S.hp E.up) S.nx Fs') E.v u->next (a.put o.dst u) w'):o.wp P a w next Q:=by
 cases hd with
 |plain hf he=>
  obtain ⟨w',ρ',Fs',u,hr,hrel,hv⟩:=Od (P:=P) (G:=G.KZ) hG.tt hN.nt h hf he RL
  unfold Oper.wp
  rcases hr with hr| ⟨hr,rfl⟩
  ·rw[hr];exact IY _ _ _ _ hrel hv
  ·rw[hr];exact IY _ _ _ _ hrel hv
 |call c x hc hx f g Hl hg Kf HI h0=>
  have Mo:=h.rd x
  rw[<- hN.nt,Hl] at Mo
  have Mo:a.eval x= .func (.func f) #[] #[]:=Mo
  unfold Oper.wp
  rw[IX hc hx Mo Kf w]
  have jX:(c.args.toList.map a.eval).toArray=c.args.map a.eval:=by rw[<- Array.toList_map,Array.toArray_toList]
  have hE:E.nx=_:=congrArg kG.nx h0.KZ
  have F5:=h0.main h (BC hN.nt h c.args.toList) (by rw[hE] at QO;exact QO) (by rw[hE] at RL;exact RL) hN.p
  rw[jX] at F5
  refine Calls.mono F5 fun e w' he=> ?_
  obtain ⟨v,ρ',Fs',rfl,_,_,_,_,_,_,h1,h2⟩:=he
  exact IY _ _ _ _ h1 h2
 |inner c x hc hx f g Hl hg Kf id ver i fl e r r' HI hr R6 Bb hi h0 hl hh wT hE=>
  rename_i E0 ks io rc ds rs DD vs up jW n' e2 v2 e3 v3 i3 f3 l r3
  have Mo:=h.rd x
  rw[<- hN.nt,Hl] at Mo
  have Mo:a.eval x= .func (.func f) #[] #[]:=Mo
  unfold Oper.wp
  rw[IX hc hx Mo Kf w]
  have jX:(c.args.toList.map a.eval).toArray=c.args.map a.eval:=by rw[<- Array.toList_map,Array.toArray_toList]
  have hE0:E0.nx=n':=congrArg kG.nx h0.KZ
  have hEu:E0.up=fi ks++qg g.oc rc++up++jW:=congrArg kG.up h0.KZ
  obtain rfl:=hE
  simp only[] at RL QO IY
  have hN1:=rL _ _ _ _ _ _ h0.cl h0.inn
  have iS:=hN1.1
  have Y_:=BC hN.nt h c.args.toList
  obtain ⟨v,hv,acI⟩:=qi (n:=n) HI Y_
  obtain ⟨_,hv⟩:=hv
  obtain ⟨_,_,hv⟩:=hv _ hr
  obtain ⟨_,_,lV⟩:=hv _ _ rfl
  have lV:cellAt w (ρ id) (i*r.size+fl)=some v:=lV
  have hng:S.hp n=some .gW:=RL n (ai _) (by rw[hE0];omega)
  have nL:id≠n:=by rintro rfl;rw[hr] at hng;cases hng
  obtain ⟨q,rB,b,cap,hρ,Vw,h1,Tn⟩:=h.VB hng hr R6 Bb hi lV
  have rF:=IU S.hp id n e ver i fl r
  generalize hS1:jh S.hp (we id n e ver i fl r)=xe at*
  have VD:xe n=some (.row 0 0 (.ints .i64 (gj r i fl))):=by rw[rF,aS rfl]
  have Tr:xe id=some (.hole e ver r i fl):=by rw[rF,aD nL,aS rfl]
  have Ml:=eR h.mem hng
  have acJ:=acI (C.env w (k_ ρ n q) xe S.nx rB) ⟨Ml,fun root aJ=>by
   have aJ:xe n=some root:=aJ
   rw[VD] at aJ;cases aJ
   exact ⟨_,rfl,by rw[Tn];show hdr q _=hdr (k_ ρ n q n) _;rw[h_];rfl⟩⟩ (BC hN.nt h1 c.args.toList)
  have F5:=h0.main h1 acJ (by rw[hE0] at QO;exact QO) (fun k k1 k2=>by
   show xe k=some .gW
   rw[rF,aD (by omega),aD (by rintro rfl;have:=RL k (by omega) (by rw[hE0];exact k2);rw[hr] at this;cases this)]
   exact RL k (by omega) (by rw[hE0];exact k2)) hN.p
  rw[jX] at F5
  refine Calls.mono F5 fun e4 w' he=> ?_
  obtain ⟨v4,ρ',Fs',rfl,k1,k2,k3,k4,k5,k6,h2,h3⟩:=he
  have Ts:id∉ks++io:=fun hh=>by
   obtain ⟨_,hk,UD⟩:=k3 id hh
   have hk:xe id=_:=hk
   rw[Tr] at hk;cases hk;exact UD
  have hup: ∀hp,jh hp up id=hp id:=fun hp=>jF _ _ fun p hp e5=>by
   obtain ⟨m1,m2⟩:=k4.2.1 p hp
   rw[e5] at m1 m2
   have:=RL id (by omega) (by rw[hE0];exact m2)
   rw[hr] at this;cases this
  have acK: ∀hp,jh hp jW id=hp id:=fun hp=>jF _ _ fun p hp e5=>Ts (by rw[<- e5];simp[k5 p hp])
  have acL:jh xe E0.up id=some (.hole e ver r i fl):=by
   have X6:=hh
   rw[hEu,dn,dn,dn,acK,hup,q_,wb,CM] at X6 ⊢
   generalize (ks++match g.oc with| .bi=>rc|_=>[])=kk at X6 ⊢
   rw[nv] at X6 ⊢
   split at X6
   ·cases X6
   ·rename_i hnk;rw[aD hnk];exact Tr
  have aau:ρ' id=ρ id:=by
   rw[k2 id (eR h.mem hr) (fun root aJ=>by have aJ:xe id=some root:=aJ;rw[Tr] at aJ;cases aJ;trivial),aat _ _ nL]
  have acM:ρ' n=q:=by
   rw[k2 n Ml (fun root aJ=>by have aJ:xe n=some root:=aJ;rw[VD] at aJ;cases aJ;trivial),h_]
  have X7:cellAt w' (ρ' id) (i*r.size+fl)=some v:=by
   rw[aau,hρ]
   rw[hρ] at lV
   have:=k1 id Ts b Vw
   simp only[cellAt,World.cell?] at lV ⊢
   rw[this];exact lV
  have hlen:l.length=(gj r i fl).length:=by
   rw[hEu,dn] at hl
   by_cases Tl:n∈io
   ·obtain ⟨root,cD,m1,m2,m4⟩:=k6 n Tl
    have m1:xe n=_:=m1
    rw[VD] at m1;cases m1
    obtain ⟨r6,rfl,m3⟩:=m4 _ _ _ rfl
    rw[m2] at hl
    cases hl
    simpa[Row.len] using m3
   ·rw[jF _ _ (fun p hp e5=>Tl (by rw[<- e5];exact k5 p hp)),dn,jF _ _ (fun p hp e5=>by have:=(k4.2.1 p hp).1;omega),dn,q_,wb,CM] at hl
    generalize (ks++match g.oc with| .bi=>rc|_=>[])=kk at hl
    rw[nv] at hl
    split at hl
    ·cases hl
    ·rw[VD] at hl;cases hl;rfl
  obtain ⟨acN,h4,hM⟩:=h2.VC acL Bb hl wT X7 (by rw[Tn,acM,hlen])
  have acO:jh S.hp (we id n e ver i fl r++E0.up++[(id,some (aQ.row e (ver+1) r')),(n,none)])=jh (jh xe E0.up) [(id,some (aQ.row e (ver+1) r')),(n,none)]:=by
   rw[dn,dn,hS1]
  rw[acO] at IY
  exact IY v4 w' ρ' acN h4 (h3.mono hM)
end
section
variable {R:Type} {P:Program}
structure zy where
 i:Nat
 o:Oper
 n:Nat
 E:kG
 h:Nat->Option aQ
 w:List Nat
 ids:List Nat
def zy.log (s:zy):Oe:=⟨s.o,s.w,s.ids⟩
def nw (ops:Array Oper) (sl:Nat->AV) (o:Oper):Option Bool:=match o.guard with
 |none=>some true
 |some (j,want)=>match BD ops j with
  |none=>none
  |some t=>match sl t with
   | .one (.l (.b x))=>some (x==want)
   | .one (.l .undef)=>some false
   |_=>none
def St.go (S:St) (s:zy):St:=St.put ⟨S.sl,jh S.hp s.E.up,S.nx⟩ s.o.dst s.E.v
structure ve (P:Program) (G:jZ R) (ops:Array Oper) (s:zy) (S:St):Prop where
 dst: ∀d,s.o.dst=some d->d<G.nt
 gt: ∀j want t,s.o.guard=some (j,want)->BD ops j=some t->t<G.nt
 X8: ∀p∈s.E.up,p.1∈s.w
 run:(nw ops S.sl s.o=some true/\Sub s.h S.hp/\FX P G s.o.op S.sl s.h s.n s.E/\(∀k,s.n<=k->k<s.E.nx->S.hp k=some .gW/\k∈s.w)/\s.E.nx<=S.nx)\/(nw ops S.sl s.o=some false/\s.E=yz s.n)
inductive HL (P:Program) (G:jZ R) (ops:Array Oper):List zy->St->St->Prop
 |nil (S:St):HL P G ops [] S S
 |cons {s:zy} {l:List zy} {S S':St} (h:ve P G ops s S) (hr:HL P G ops l (S.go s) S'):HL P G ops (s::l) S S'
theorem St.PC (S:St) (s:zy):(S.go s).hp=jh S.hp s.E.up:=by unfold St.go St.put;split<;>rfl
theorem St.PD (S:St) (s:zy):(S.go s).nx=S.nx:=by unfold St.go St.put;split<;>rfl
theorem St.PE (S:St) (s:zy):(S.go s).sl=fun t=>if s.o.dst=some t then s.E.v else S.sl t:=by
 unfold St.go St.put
 cases s.o.dst with
 |none=>funext t;simp
 |some d=>
  funext t
  by_cases e:t=d
  ·subst e;simp
  ·have e1:(t==d)=false:=by simp[e]
   have e2: ¬d=t:=fun h=>e h.symm
   simp[e1,e2]
theorem St.ext' {S T:St} (h1:S.sl=T.sl) (h2:S.hp=T.hp) (h3:S.nx=T.nx):S=T:=by cases S;cases T;cases h1;cases h2;cases h3;rfl
section
variable {C:Cx} {S:St} {a:Act} {w:World} {ρ:Place} {Fs:Nat->FP} {ops:Array Oper}
theorem IZ {G:jZ R} (hN:G.nt=C.N) (h:cn C S a w ρ Fs) {o:Oper} {x:Bool} (Tt: ∀j want t,o.guard=some (j,want)->BD ops j=some t->t<G.nt) (hg:nw ops S.sl o=some x):Region.wanted o (yielded ops a.tmps)=x:=by
 unfold nw at hg
 unfold Region.wanted
 split at hg
 ·rename_i hq;cases hg;simp[hq]
 ·rename_i j want hq
  simp only[hq]
  split at hg
  ·cases hg
  ·rename_i t ht
   have VE:=Tt j want t hq ht
   have hs:=h.u6 t
   rw[hN] at VE
   simp only[Cx.val,aS VE] at hs
   have hd:(ops[j]?).bind (·.dst)=some t:=by
    unfold BD at ht
    split at ht
    ·rename_i o' ho';simp only[ho',aO];exact ht
    ·cases ht
   have oX:t<a.tmps.size:=by rw[h.size];exact VE
   split at hg
   ·rename_i y hy
    cases hg
    rw[hy] at hs
    have hs:a.tmps.getD t undef= .bool y:=hs
    have e:a.tmps[t]? =some (.bool y):=by simp[Array.getD_eq_getD_getElem?,Array.getElem?_eq_getElem oX] at hs ⊢;exact hs
    simp[yielded,hd,e]
   ·rename_i hy
    cases hg
    rw[hy] at hs
    have hs:a.tmps.getD t undef=undef:=hs
    have e:a.tmps[t]? =some undef:=by simp[Array.getD_eq_getD_getElem?,Array.getElem?_eq_getElem oX] at hs ⊢;exact hs
    simp[yielded,hd,e,undef]
   ·cases hg
theorem ve.wp {G:jZ R} (hG:RJ P G) (hN:Za P G.nt C) (h:cn C S a w ρ Fs) {s:zy} (hs:ve P G ops s S) (ho:ops[s.i]? =some s.o) {K:Act->World->Prop} {Q:Exit->Act->World->Prop} (hK: ∀a' w' ρ' Fs',cn C (S.go s) a' w' ρ' Fs'->K a' w'):wpOp P ops Q s.i K a w:=by
 unfold wpOp
 simp only[ho]
 rcases hs.run with ⟨hg,QP,hdo,RL,QO⟩| ⟨hg,hE⟩
 ·rw[IZ hN.nt h hs.gt hg]
  simp only[if_true]
  refine .inl ((hdo.sub QP).wp hG hN h (fun k h1 h2=>(RL k h1 h2).1) QO fun u w' ρ' Fs' h1 h2=>hK _ _ ρ' Fs' ?_)
  exact h1.put s.o.dst s.E.v u (fun _ _=>h2) (fun d hd=>by rw[<- hN.nt];exact hs.dst d hd)
 ·rw[IZ hN.nt h hs.gt hg]
  simp only[Bool.false_eq_true,if_false]
  refine hK _ _ ρ Fs ?_
  have e:S.go s=S.put s.o.dst (.l .undef):=by unfold St.go;rw[hE];rfl
  rw[e]
  exact h.put s.o.dst (.l .undef) undef (fun _ _=>rfl) (fun d hd=>by rw[<- hN.nt];exact hs.dst d hd)
theorem F6 {G:jZ R} (hG:RJ P G) (hN:Za P G.nt C) {Q:Exit->Act->World->Prop}: ∀ {l:List zy} {S S':St} {a:Act} {w:World} {ρ:Place} {Fs:Nat->FP},HL P G ops l S S'->cn C S a w ρ Fs->(∀s∈l,ops[s.i]? =some s.o)->(∀a' w' ρ' Fs',cn C S' a' w' ρ' Fs'->Q .normal a' w')->wpOps P ops Q (l.map (·.i)) a w
 | [],_,_,a,w,ρ,Fs,.nil _,h,_,hQ=>hQ _ _ _ _ h
 |s::l,S,S',a,w,ρ,Fs,.cons h1 h2,h,ho,hQ=>by
  rw[bM,wpOps_cons]
  exact h1.wp hG hN h (ho s (by simp)) fun a' w' ρ' Fs' h'=>F6 hG hN h2 h' (fun s hs=>ho s (by simp[hs])) hQ
end
section
variable {G:jZ R} {ops:Array Oper}
def zy.fit (s:zy):Prop:= ∀j r,s.h j=some r->j∈s.ids
def X9 (ops:Array Oper) (s t:zy):Prop:=indep ops s.log t.log=true
theorem X9.spec {s t:zy} (h:X9 ops s t):(∀d,s.o.dst=some d->d∉t.o.looksAt ops/\t.o.dst≠some d)/\(∀d,t.o.dst=some d->d∉s.o.looksAt ops)/\(∀x∈s.w,x∉t.w)/\(∀x∈s.w,x∉t.ids)/\(∀x∈t.w,x∉s.ids):=by
 unfold X9 indep at h
 obtain ⟨h,h5⟩:=ba h
 obtain ⟨h,h4⟩:=ba h
 obtain ⟨h,h3⟩:=ba h
 obtain ⟨h1,h2⟩:=ba h
 obtain ⟨a1,a2,a3⟩:=Oper.apart_spec h1
 exact ⟨fun d hd=>⟨a1 d hd,a2 d hd⟩,a3,ol h3,ol h4,ol h5⟩
theorem HM {sl Ki:Nat->AV} {o:Oper} (h: ∀t∈o.looksAt ops,Ki t=sl t):nw ops Ki o=nw ops sl o:=by
 unfold nw
 split
 ·rfl
 ·rename_i j want hq
  split
  ·rfl
  ·rename_i t ht
   have:t∈o.looksAt ops:=by
    unfold Oper.looksAt
    have hd:(ops[j]?).bind (·.dst)=some t:=by
     unfold BD at ht
     split at ht
     ·rename_i o' ho';simp only[ho',aO];exact ht
     ·cases ht
    simp[hq,hd]
   rw[h t this]
theorem Tu {nt:Nat} {sl Ki:Nat->AV} {o:Oper} (h: ∀t∈o.looksAt ops,Ki t=sl t): ∀x∈o.op.operands.toList,St.rd nt sl x=St.rd nt Ki x:=by
 intro x hx
 cases x with
 |tmp t=>
  have:t∈o.looksAt ops:=by
   unfold Oper.looksAt
   exact List.mem_append_left _ (List.mem_filterMap.2 ⟨.tmp t,hx,rfl⟩)
  simp only[St.rd,h t this]
 |_=>rfl
theorem ve.at {s:zy} {S S':St} (h:ve P G ops s S) (h1: ∀t∈s.o.looksAt ops,S'.sl t=S.sl t) (h2:Sub s.h S.hp->Sub s.h S'.hp) (h3: ∀k,k∈s.w->S.hp k=some .gW->S'.hp k=some .gW) (h4:S'.nx=S.nx):ve P G ops s S':=by
 refine ⟨h.dst,h.gt,h.X8,?_⟩
 rw[HM h1]
 rcases h.run with ⟨a1,a2,a3,a4,a5⟩|h'
 ·exact .inl ⟨a1,h2 a2,a3.congr (Tu h1),fun k k1 k2=>⟨h3 k (a4 k k1 k2).2 (a4 k k1 k2).1,(a4 k k1 k2).2⟩,by rw[h4];exact a5⟩
 ·exact .inr h'
theorem Kj {s:zy} (hw: ∀p∈s.E.up,p.1∈s.w) (S:St) {j:Nat} (hj:j∉s.w):(S.go s).hp j=S.hp j:=by
 rw[St.PC]
 exact jF _ _ (fun p hp e=>hj (by rw[<- e];exact hw p hp))
theorem swap {s t:zy} {S:St} (hf:s.fit) (hf':t.fit) (hi:X9 ops s t) (h1:ve P G ops s S) (h2:ve P G ops t (S.go s)):ve P G ops t S/\ve P G ops s (S.go t)/\(S.go s).go t=(S.go t).go s:=by
 obtain ⟨i1,i2,i3,i4,i5⟩:=hi.spec
 have CG: ∀x∈t.w,x∉s.w:=fun x h1 h2=>i3 x h2 h1
 refine ⟨?_,?_,St.ext' ?_ ?_ ?_⟩
 ·refine h2.at (fun u hu=> ?_) (fun hs j r hr=> ?_) (fun k hk hg=> ?_) (St.PD S s).symm
  ·rw[St.PE]
   simp only
   rw[aD]
   exact fun e=>(i1 u e).1 hu
  ·have:=hs j r hr
   rwa [Kj h1.X8 S (fun hw=>i4 j hw (hf' j r hr))] at this
  ·rwa [Kj h1.X8 S (CG k hk)] at hg
 ·refine h1.at (fun u hu=> ?_) (fun hs j r hr=> ?_) (fun k hk hg=> ?_) (St.PD S t)
  ·rw[St.PE]
   simp only
   rw[aD]
   exact fun e=>i2 u e hu
  ·rw[Kj h2.X8 S (fun hw=>i5 j hw (hf j r hr))]
   exact hs j r hr
  ·rw[Kj h2.X8 S (i3 k hk)]
   exact hg
 ·funext u
  simp only[St.PE]
  by_cases e1:s.o.dst=some u
  ·have:=(i1 u e1).2
   simp[e1,this]
  ·simp[e1]
 ·simp only[St.PC]
  funext j
  by_cases ht: ∃p∈t.E.up,p.1=j
  ·obtain ⟨p,hp,e⟩:=ht
   have hjt:j∈t.w:=by rw[<- e];exact h2.X8 p hp
   rw[FU t.E.up (hp':=S.hp) ⟨p,hp,e⟩]
   exact (jF _ _ (fun q hq e2=>CG j hjt (by rw[<- e2];exact h1.X8 q hq))).symm
  ·have ht': ∀p∈t.E.up,p.1≠j:=fun p hp e=>ht ⟨p,hp,e⟩
   rw[jF _ _ ht']
   exact FG _ (jF _ _ ht').symm
 ·simp only[St.PD]
theorem HL.front: ∀ {A:List zy} {x:zy} {B:List zy} {S S':St},HL P G ops (A++x::B) S S'->(∀s∈A++x::B,s.fit)->(∀s∈A,X9 ops s x)->HL P G ops (x::(A++B)) S S'
 | [],x,B,S,S',h,_,_=>h
 |s::A,x,B,S,S',.cons h1 h2,hf,hi=>by
  have ih:=HL.front h2 (fun t ht=>hf t (List.mem_cons_of_mem _ ht)) (fun t ht=>hi t (by simp[ht]))
  cases ih with
  |cons g1 g2=>
   obtain ⟨k1,k2,k3⟩:=swap (hf s (by simp)) (hf x (by simp)) (hi s (by simp)) h1 g1
   exact .cons k1 (.cons k2 (by rw[<- k3];exact g2))
end
end
section
variable {R:Type} {P:Program} {G:jZ R} {ops:Array Oper}
theorem Ag (acc:List Nat) (j:Nat): ∀es:List Edge,Nat.testBit (es.foldr (fun e s=>bif Region.binds .any e then (2^e.on ||| (acc[e.on]?.getD 0) ||| s) else s) 0) j=true-> ∃e∈es,Region.binds .any e=true/\(e.on=j\/Nat.testBit (acc[e.on]?.getD 0) j=true)
 | [],h=>by simp at h
 |e::es,h=>by
  simp only[List.foldr_cons] at h
  cases hb:Region.binds .any e with
  |false=>
   rw[hb] at h
   obtain ⟨e',h1,h2⟩:=Ag acc j es h
   exact ⟨e',by simp[h1],h2⟩
  |true=>
   rw[hb] at h
   simp only[ak,Nat.testBit_or,Bool.or_eq_true] at h
   rcases h with (h|h)|h
   ·exact ⟨e,by simp,hb,.inl (by simpa[Nat.testBit_two_pow] using h)⟩
   ·exact ⟨e,by simp,hb,.inr h⟩
   ·obtain ⟨e',h1,h2⟩:=Ag acc j es h
    exact ⟨e',by simp[h1],h2⟩
theorem xQ: ∀(l:List Oper) (acc:List Nat) (k:Nat),k<acc.length->(qP acc l)[k]? =acc[k]?
 | [],acc,k,h=>rfl
 |o::l,acc,k,h=>by rw[qP,xQ l _ k (by simp;omega),List.getElem?_append_left h]
theorem BE (acc:List Nat) (o:Oper) (l:List Oper):qP acc (o::l)=qP (acc++[BF acc o]) l:=rfl
theorem Of (l:List Oper): ∀(acc:List Nat) (k:Nat) (o:Oper),l[k]? =some o->(qP acc l)[acc.length+k]? =some (BF ((qP acc l).take (acc.length+k)) o):=by
 induction l with
 |nil=>intro acc k o h;simp at h
 |cons o' l ih=>
  intro acc k o h
  cases k with
  |zero=>
   have h:o' =o:=by simpa using h
   subst h
   have e:(qP acc (o' ::l)).take acc.length=acc:=by
    apply List.ext_getElem?
    intro i
    rw[List.getElem?_take]
    split
    ·exact xQ _ _ _ ‹_›
    ·rw[List.getElem?_eq_none (by omega)]
   rw[Nat.add_zero,e,BE,xQ l _ _ (by simp)]
   simp
  |succ k=>
   have h2:=ih (acc++[BF acc o']) k o (by simpa using h)
   rw[au,cz,Nat.add_right_comm] at h2
   rw[BE]
   exact h2
def VF (l:List Oper) (k j:Nat):Prop:=Nat.testBit ((qP [] l)[k]?.getD 0) j=true
theorem VF.step {l:List Oper} {k j:Nat} {o:Oper} (ho:l[k]? =some o) (h:VF l k j): ∃e∈o.after.toList,Region.binds .any e=true/\(e.on=j\/VF l e.on j):=by
 unfold VF at h
 have:=Of l [] k o ho
 simp only[List.length_nil,Nat.zero_add] at this
 rw[this] at h
 simp only[Option.getD_some,BF] at h
 obtain ⟨e,h1,h2,h3⟩:=Ag _ _ _ h
 refine ⟨e,h1,h2,h3.imp id fun h3=> ?_⟩
 unfold VF
 rw[List.getElem?_take] at h3
 split at h3
 ·exact h3
 ·simp at h3
section
variable {C:Cx}
theorem Tv (hG:RJ P G) (hN:Za P G.nt C) {Q:Exit->Act->World->Prop} (hb: ∀(i:Nat) (o:Oper) (e:Edge),ops[i]? =some o->e∈o.after.toList->Region.binds .any e=true->e.on<i): ∀(fuel:Nat) (listed:Array Bool) (l:List zy) {S S':St} {a:Act} {w:World} {ρ:Place} {Fs:Nat->FP},HL P G ops l S S'->cn C S a w ρ Fs->
 listed.size=ops.size->(∀i,i<ops.size->(listed.getD i true=false↔ ∃s∈l,s.i=i))->l.length<=fuel->(∀s∈l,ops[s.i]? =some s.o)->(∀s∈l,s.fit)->List.Pairwise (fun s t=>s.i<t.i/\(VF ops.toList t.i s.i\/X9 ops s t)) l->
 (∀k j,k<ops.size->listed.getD k true=true->VF ops.toList k j->listed.getD j false=true)->
 (∀a' w' ρ' Fs',cn C S' a' w' ρ' Fs'->Q .normal a' w')->wpAny P .any ops Q fuel listed a w:=by
 have un: ∀(listed:Array Bool) i,listed.size=ops.size->i<ops.size->listed.getD i true=listed.getD i false:=fun listed i h1 h2=>by
  rw[<- h1] at h2
  simp[Array.getD_eq_getD_getElem?,Array.getElem?_eq_getElem h2]
 intro fuel
 induction fuel with
 |zero=>
  intro listed l S S' a w ρ Fs hr h oX CP hlen ho hf hp yd hQ
  obtain rfl:l=[]:=List.length_eq_zero_iff.1 (by omega)
  cases hr
  refine ⟨?_,hQ _ _ _ _ h⟩
  refine List.eq_nil_iff_forall_not_mem.2 fun i hi=> ?_
  obtain ⟨h1,o,h2,_⟩:=mem_ready.1 hi
  obtain ⟨s,hs,_⟩:=(CP i (Array.getElem?_eq_some_iff.1 h2).1).1 h1
  simp at hs
 |succ fuel ih=>
  intro listed l S S' a w ρ Fs hr h oX CP hlen ho hf hp yd hQ
  refine ⟨fun Tw=> ?_,fun i hi=> ?_⟩
  ·cases l with
   |nil=>cases hr;exact hQ _ _ _ _ h
   |cons s l=>
    exfalso
    have UD:=ho s (by simp)
    have acR:=(Array.getElem?_eq_some_iff.1 UD).1
    have:s.i∈Region.ready .any ops listed:=by
     refine mem_ready.2 ⟨(CP s.i acR).2 ⟨s,by simp,rfl⟩,s.o,UD,fun e he hbd=> ?_⟩
     have iS:=hb s.i s.o e UD (by simpa using he) hbd
     rw[<- un listed e.on oX (by omega)]
     cases hq:listed.getD e.on true with
     |true=>rfl
     |false=>
      obtain ⟨t,ht,e2⟩:=(CP e.on (by omega)).1 hq
      rcases List.mem_cons.1 ht with rfl|ht
      ·omega
      ·have:=((List.pairwise_cons.1 hp).1 t ht).1;omega
    rw[Tw] at this
    simp at this
  ·obtain ⟨h1,o,h2,h3⟩:=mem_ready.1 hi
   have acS:=(Array.getElem?_eq_some_iff.1 h2).1
   obtain ⟨s,hs,rfl⟩:=(CP i acS).1 h1
   obtain ⟨A,B,rfl⟩:=List.append_of_mem hs
   have UD:=ho s hs
   rw[UD] at h2;cases h2
   have Zb:ops.toList[s.i]? =some s.o:=by simpa using UD
   have aav: ∀j,VF ops.toList s.i j->listed.getD j false=true:=fun j hj=>by
    obtain ⟨e,e1,e2,e3⟩:=hj.step Zb
    have hl:=h3 e (by simpa using e1) e2
    rcases e3 with rfl|e3
    ·exact hl
    ·have iS:=hb s.i s.o e UD e1 e2
     exact yd e.on j (by omega) (by rw[un listed e.on oX (by omega)];exact hl) e3
   obtain ⟨pA,pB,pAB⟩:=List.pairwise_append.1 hp
   have acU: ∀t∈A,X9 ops t s:=fun t ht=>by
    rcases (pAB t ht s (by simp)).2 with hk|hk
    ·exfalso
     have h4:=aav t.i hk
     have hto:=ho t (by simp[ht])
     have aaw:=(Array.getElem?_eq_some_iff.1 hto).1
     have h5:=(CP t.i aaw).2 ⟨t,by simp[ht],rfl⟩
     rw[un listed t.i oX aaw,h4] at h5
     cases h5
    ·exact hk
   cases hr.front hf acU with
   |cons g1 g2=>
    refine g1.wp hG hN h UD fun a' w' ρ' Fs' h'=> ?_
    have nL: ∀t∈A++B,t.i≠s.i:=fun t ht=>by
     rcases List.mem_append.1 ht with ht|ht
     ·have:=(pAB t ht s (by simp)).1;omega
     ·have:=((List.pairwise_cons.1 pB).1 t ht).1;omega
    refine ih (listed.setIfInBounds s.i true) (A++B) g2 h' (by simp[oX]) (fun j hj=> ?_) (by simp at hlen ⊢;omega) (fun t ht=>ho t (by simp at ht ⊢;rcases ht with ht|ht<;>simp[ht])) (fun t ht=>hf t (by simp at ht ⊢;rcases ht with ht|ht<;>simp[ht])) ?_ (fun k j hk hl hbk=> ?_) hQ
    ·by_cases e:j=s.i
     ·subst e
      refine ⟨fun hh=> ?_,fun ⟨t,ht,e⟩=>absurd e (nL t ht)⟩
      rw[un _ _ (by simp[oX]) hj] at hh
      have:(listed.setIfInBounds s.i true).getD s.i false=true:=by
       have:s.i<listed.size:=by omega
       simp[this]
      rw[this] at hh;cases hh
     ·rw[getD_set_ne true (Ne.symm e),CP j hj]
      constructor
      ·rintro ⟨t,ht,rfl⟩
       refine ⟨t,?_,rfl⟩
       simp at ht ⊢
       rcases ht with ht|rfl|ht
       ·exact .inl ht
       ·exact absurd rfl e
       ·exact .inr ht
      ·rintro ⟨t,ht,rfl⟩
       exact ⟨t,by simp at ht ⊢;rcases ht with ht|ht<;>simp[ht],rfl⟩
    ·exact List.pairwise_append.2 ⟨pA,(List.pairwise_cons.1 pB).2,fun x hx y hy=>pAB x hx y (by simp[hy])⟩
    ·refine getD_set_true ?_
     by_cases e:k=s.i
     ·subst e;exact aav j hbk
     ·rw[getD_set_ne true (Ne.symm e)] at hl
      exact yd k j hk hl hbk
end
structure Mp (Sg S:St) (N:Nat):Prop where
 sl:Sg.sl=S.sl
 nx:Sg.nx=N
 hp: ∀j,S.hp j=Sg.hp j\/(Sg.hp j=some .gW/\S.hp j=none)
 gh: ∀k,S.nx<=k->k<N->Sg.hp k=some .gW
theorem F7 {S:St} {t:Tmp} {v:AV} (h:S.sl t=v):S.put (some t) v=S:=by
 unfold St.put
 refine St.ext' ?_ rfl rfl
 funext j
 by_cases e:j=t
 ·subst e;simp[h]
 ·have:(j==t)=false:=by simp[e]
  simp[this]
theorem VG {Sg S:St} {N:Nat} (h:Mp Sg S N) {s:zy} (hn:s.n=S.nx) (zk:Og S.nx s.E=true):Mp (Sg.go s) (S.HN s.o.dst s.E) N:=by
 obtain ⟨h1,h2⟩:=ba zk
 have h1:S.nx<=s.E.nx:=bD h1
 have hk: ∀p∈s.E.up,p.1<s.E.nx:=fun p hp=>by
  have:=List.all_eq_true.1 h2 p hp
  simpa[Nat.blt_eq] using this
 refine ⟨?_,by rw[St.PD];exact h.nx,fun j=> ?_,fun k k1 k2=> ?_⟩
 ·rw[St.PE]
  unfold St.HN St.put
  cases s.o.dst with
  |none=>simp[h.sl]
  |some d=>
   funext t
   by_cases e:t=d
   ·subst e;simp
   ·have e1:(t==d)=false:=by simp[e]
    have e2: ¬d=t:=fun h=>e h.symm
    simp[e1,e2,h.sl]
 ·rw[St.PC]
  show jh S.hp s.E.up j=jh Sg.hp s.E.up j\/_
  by_cases hj: ∃p∈s.E.up,p.1=j
  ·exact .inl (FU _ hj)
  ·have M3: ∀p∈s.E.up,p.1≠j:=fun p hp e=>hj ⟨p,hp,e⟩
   show _\/(jh Sg.hp s.E.up j=some .gW/\jh S.hp s.E.up j=none)
   rw[jF _ _ M3,jF _ _ M3]
   exact h.hp j
 ·have k1:s.E.nx<=k:=k1
  rw[St.PC,jF _ _ (fun p hp e=>by have:=hk p hp;omega)]
  exact h.gh k (by omega) k2
theorem Mq {Sg S:St} {N:Nat} (h:Mp Sg S N):Sub S.hp Sg.hp:=fun j r hj=>by
 rcases h.hp j with e| ⟨_,e⟩
 ·rw[<- e];exact hj
 ·rw[e] at hj;cases hj
theorem Mr (hG:RJ P G) {draw:Bool} {o:Oper} {S:St} {K:St->Oe->Option R} {r:R} (i:Nat) (h:Oh G ops draw o S K=some r): ∃s:zy,s.i=i/\s.o=o/\s.n=S.nx/\K (S.HN o.dst s.E) s.log=some r/\Og S.nx s.E=true/\(draw=true->s.fit)/\
 ∀Sg N,Mp Sg S N->s.E.nx<=N->ve P G ops s Sg:=by
 unfold Oh at h
 simp only[] at h
 obtain ⟨hd,h⟩:=aH h
 have hd: ∀d,o.dst=some d->d<G.nt:=fun d e=>by rw[e] at hd;simpa[Nat.blt_eq] using hd
 have exec:nw ops S.sl o=some true->(∀j want t,o.guard=some (j,want)->BD ops j=some t->t<G.nt)->(lW G o.op S.sl (bif draw then cut S.hp (I0 (St.rd G.nt S.sl) o.op) else S.hp) S.nx fun E=>bif Og S.nx E then K (S.HN o.dst E) ⟨o,writes S.nx E,I0 (St.rd G.nt S.sl) o.op⟩ else none)=some r->
  ∃s:zy,s.i=i/\s.o=o/\s.n=S.nx/\K (S.HN o.dst s.E) s.log=some r/\Og S.nx s.E=true/\(draw=true->s.fit)/\ ∀Sg N,Mp Sg S N->s.E.nx<=N->ve P G ops s Sg:=fun hg Tt h=>by
  obtain ⟨E,hdo,h⟩:=QL hG h
  obtain ⟨zk,h⟩:=aH h
  refine ⟨⟨i,o,S.nx,E,bif draw then cut S.hp (I0 (St.rd G.nt S.sl) o.op) else S.hp,writes S.nx E,I0 (St.rd G.nt S.sl) o.op⟩,rfl,rfl,rfl,h,zk,fun hdr j r' hj=> ?_,fun Sg N O2 hN=>⟨hd,Tt,fun p hp=> ?_,.inl ⟨?_,fun j r' hj=> ?_,?_,fun k k1 k2=>⟨O2.gh k k1 (by have:E.nx<=N:=hN;have:k<E.nx:=k2;omega),?_⟩,by rw[O2.nx];exact hN⟩⟩⟩
  ·subst hdr
   simp only[cut,ak] at hj
   obtain ⟨h1,_⟩:=aH hj
   exact List.elem_iff.1 h1
  ·show p.1∈writes S.nx E
   exact List.mem_append_left _ (List.mem_map_of_mem hp)
  ·rw[O2.sl];exact hg
  ·refine Mq O2 j r' ?_
   cases draw with
   |false=>exact hj
   |true=>
    simp only[cut,ak] at hj
    exact (aH hj).2
  ·show FX P G o.op Sg.sl _ S.nx E
   rw[O2.sl];exact hdo
  ·show k∈writes S.nx E
   refine List.mem_append_right _ (List.mem_range'_1.2 ⟨k1,?_⟩)
   have:k<E.nx:=k2
   have k1:S.nx<=k:=k1
   omega
 have skip:nw ops S.sl o=some false->(∀j want t,o.guard=some (j,want)->BD ops j=some t->t<G.nt)->K (S.HN o.dst (yz S.nx)) ⟨o,[],[]⟩=some r->
  ∃s:zy,s.i=i/\s.o=o/\s.n=S.nx/\K (S.HN o.dst s.E) s.log=some r/\Og S.nx s.E=true/\(draw=true->s.fit)/\ ∀Sg N,Mp Sg S N->s.E.nx<=N->ve P G ops s Sg:=fun hg Tt h=>by
  refine ⟨⟨i,o,S.nx,yz S.nx,fun _=>none,[],[]⟩,rfl,rfl,rfl,h,?_,fun _ j r' hj=>(by cases hj),fun Sg N O2 hN=>⟨hd,Tt,fun p hp=> ?_,.inr ⟨by rw[O2.sl];exact hg,rfl⟩⟩⟩
  ·simp[Og,yz]
  ·simp[yz] at hp
 split at h
 ·rename_i VH
  exact exec (by simp[nw,VH]) (fun j want t e _=>by rw[VH] at e;cases e) h
 ·rename_i j want VH
  split at h
  ·cases h
  ·rename_i t ht
   obtain ⟨VE,h⟩:=aH h
   have VE:t<G.nt:=by simpa[Nat.blt_eq] using VE
   have Tt: ∀j' Wv t',o.guard=some (j',Wv)->BD ops j' =some t'->t' <G.nt:=fun j' Wv t' e1 e2=>by
    rw[VH] at e1;cases e1
    rw[ht] at e2;cases e2
    exact VE
   split at h
   ·rename_i x hx
    cases x with
    |true=>
     simp only[F7 hx] at h
     cases want with
     |true=>exact exec (by simp[nw,VH,ht,hx]) Tt h
     |false=>exact skip (by simp[nw,VH,ht,hx]) Tt h
    |false=>
     simp only[F7 hx] at h
     cases want with
     |true=>exact skip (by simp[nw,VH,ht,hx]) Tt h
     |false=>exact exec (by simp[nw,VH,ht,hx]) Tt h
   ·rename_i hx
    exact skip (by simp[nw,VH,ht,hx]) Tt h
   ·cases h
theorem F8 (hG:RJ P G) {draw:Bool} {r:R}: ∀(l:List Oper) (i:Nat) {S:St} {L:List Oe} {K:St->List Oe->Option R},PF G ops draw l S L K=some r-> ∃(steps:List zy) (S':St),steps.map (·.o)=l/\steps.map (·.i)=List.range' i l.length/\K S' ((steps.map zy.log).reverse++L)=some r/\S.nx<=S'.nx/\(draw=true-> ∀s∈steps,s.fit)/\
 ∀Sg N,Mp Sg S N->S'.nx<=N-> ∃Ww,HL P G ops steps Sg Ww/\Mp Ww S' N
 | [],i,S,L,K,h=>⟨[],S,rfl,rfl,h,ai _,fun _ s hs=>by simp at hs,fun Sg N hg _=>⟨Sg,.nil _,hg⟩⟩
 |o::l,i,S,L,K,h=>by
  simp only[PF] at h
  obtain ⟨s,e1,e2,e3,h,zk,Kk,lN⟩:=Mr hG i h
  obtain ⟨steps,S',g1,g2,g3,g4,g5,g6⟩:=F8 hG l (i+1) h
  have hle:S.nx<=s.E.nx:=bD (ba zk).1
  have ag7:s.E.nx<=S'.nx:=g4
  refine ⟨s::steps,S',by simp[e2,g1],by simp[e1,g2,List.range'_succ],?_,by omega,fun hd t ht=> ?_,fun Sg N hg hN=> ?_⟩
  ·simpa using g3
  ·rcases List.mem_cons.1 ht with rfl|ht
   ·exact Kk hd
   ·exact g5 hd t ht
  ·obtain ⟨Ww,k1,k2⟩:=g6 (Sg.go s) N (by have:=VG hg e3 zk;rw[e2] at this;exact this) hN
   exact ⟨Ww,.cons (lN Sg N hg (by omega)) k1,k2⟩
theorem DG: ∀(done:List Oe) (bs:List Nat) (ls:List Oe),Kl ops done bs ls=true->(∀k l,ls[k]? =some l-> ∃b,bs[k]? =some b/\ ∀i m,(done++ls.take k)[i]? =some m->Nat.testBit b i=true\/indep ops m l=true)/\ ∀k l e,ls[k]? =some l->e∈l.o.after.toList->Region.binds .any e=true->e.on<done.length+k
 |done,bs,[],_=>⟨fun k l h=>by simp at h,fun k l e h=>by simp at h⟩
 |done,[],l::ls,h=>by cases h
 |done,b::bs,l::ls,h=>by
  simp only[Kl] at h
  obtain ⟨h,h3⟩:=ba h
  obtain ⟨h1,h2⟩:=ba h
  obtain ⟨ih1,X_⟩:=DG _ _ _ h3
  have B8: ∀(ms:List Oe) (i:Nat),Km ops b l i ms=true-> ∀j m,ms[j]? =some m->Nat.testBit b (i+j)=true\/indep ops m l=true:=by
   intro ms
   induction ms with
   |nil=>intro i _ j m hj;simp at hj
   |cons m0 ms ih=>
    intro i hh j m hj
    simp only[Km] at hh
    obtain ⟨k1,k2⟩:=ba hh
    cases j with
    |zero=>simp at hj;subst hj;exact Bool.or_eq_true _ _ |>.mp k1
    |succ j=>rw[show i+(j+1)=i+1+j by omega];exact ih (i+1) k2 j m (by simpa using hj)
  refine ⟨fun k l' hk=> ?_,fun k l' e hk he hb=> ?_⟩
  ·cases k with
   |zero=>
    simp at hk;subst hk
    refine ⟨b,rfl,fun i m hm=> ?_⟩
    have:=B8 done 0 h1 i m (by simpa using hm)
    rwa [Nat.zero_add] at this
   |succ k=>
    obtain ⟨b',tq,hh⟩:=ih1 k l' (by simpa using hk)
    exact ⟨b',by simpa using tq,fun i m hm=>hh i m (by simpa using hm)⟩
  ·cases k with
   |zero=>
    simp at hk;subst hk
    have:=List.all_eq_true.1 h2 e he
    rw[hb] at this
    simpa[Nat.blt_eq] using this
   |succ k=>
    have:=X_ k l' e (by simpa using hk) he hb
    simp at this ⊢;omega
section
variable {C:Cx} {S:St} {a:Act} {w:World} {ρ:Place} {Fs:Nat->FP}
theorem F9 (hG:RJ P G) (hm:P.follows .mixedOrders=true) (hN:Za P G.nt C) {id:Nat} {draw:Bool} {K:St->Option R} {r:R} (he:F_ G ops draw S K=some r) (h:cn C S a w ρ Fs) {Q:Exit->Act->World->Prop}
 (hQ: ∀S',K S' =some r-> ∀a' w' ρ' Fs',cn C S' a' w' ρ' Fs'->Q .normal a' w'):(Code.region id ops draw).wp P Q a w:=by
 unfold F_ at he
 obtain ⟨steps,S',e1,e2,e3,e4,e5,e6⟩:=F8 hG _ 0 he
 obtain ⟨Ww,hr,O2⟩:=e6 ⟨S.sl,xR S.hp S.nx S'.nx,S'.nx⟩ S'.nx ⟨rfl,rfl,fun j=>by
  simp only[xR]
  cases hq:S.hp j with
  |some r=>exact .inl rfl
  |none=>
   simp only[]
   cases (Nat.ble S.nx j&&Nat.blt j S'.nx) with
   |true=>exact .inr ⟨rfl,by trivial⟩
   |false=>exact .inl rfl,fun k k1 k2=>by
  have hq:S.hp k=none:=h.mem.fresh k k1
  have h1:Nat.ble S.nx k=true:=Nat.ble_eq_true_of_le k1
  have h2:Nat.blt k S'.nx=true:=by simp[Nat.blt_eq];exact k2
  simp only[xR,hq,h1,h2];rfl⟩ (ai _)
 have h0:=h.VI e4
 have hlen:steps.length=ops.size:=by have:=congrArg List.length e1;simpa using this
 have CP: ∀(k:Nat) (s:zy),steps[k]? =some s->s.i=k:=fun k s hk=>by
  have h1:(steps.map (·.i))[k]? =some s.i:=by simp[hk]
  rw[e2,List.getElem?_range'] at h1
  ·simp at h1;omega
  ·have:=(List.getElem?_eq_some_iff.1 hk).1;simp;omega
 have ho: ∀s∈steps,ops[s.i]? =some s.o:=fun s hs=>by
  obtain ⟨k,hk⟩:=List.getElem?_of_mem hs
  have h1:(steps.map (·.o))[k]? =some s.o:=by simp[hk]
  rw[e1] at h1
  rw[CP k s hk]
  simpa using h1
 have fin: ∀(K':K S' =some r) a' w' ρ' Fs',cn C Ww a' w' ρ' Fs'->Q .normal a' w':=fun K' a' w' ρ' Fs' h'=>by
  refine hQ S' K' a' w' ρ' Fs' ?_
  have h2:=h'.VJ S'.hp O2.hp
  have e:S' =⟨Ww.sl,S'.hp,Ww.nx⟩:=St.ext' O2.sl.symm rfl O2.nx.symm
  rw[e];exact h2
 cases draw with
 |false=>
  have hl:List.range ops.size=steps.map (·.i):=by rw[e2,List.range_eq_range'];simp
  refine wp_region ?_
  rw[hl]
  exact F6 hG hN hr h0 ho (fun a' w' ρ' Fs' h'=>fin e3 a' w' ρ' Fs' h')
 |true=>
  simp only[ak,cm,List.reverse_reverse] at e3
  obtain ⟨Ee,hK⟩:=aH e3
  obtain ⟨d1,d2⟩:=DG _ _ _ Ee
  have aax: ∀(k:Nat) (s:zy),steps[k]? =some s->(steps.map zy.log)[k]? =some s.log:=fun k s hk=>by simp[hk]
  refine wp_region_any hm ?_
  have aay:cn C ⟨S.sl,xR S.hp S.nx S'.nx,S'.nx⟩ a {w with drawn:=w.drawn+1} ρ Fs:=by
   refine h0.gen _ _ {w with drawn:=w.drawn+1} ρ Fs (fun _=>False) (ai _) rfl rfl rfl (fun _ _ _=>rfl) (fun _ h=>h.elim) (ai _) (fun _ _ _=>rfl) (fun j hj=> .same rfl rfl (fun _ _ h=>h)) (fun j hj=> .inl ⟨h0.mem.fresh j hj,h0.mem.dead j (h0.mem.fresh j hj)⟩) h0.mem.one (fun b hb=> .inl hb)
  refine Tv hG hN (fun i o e hi he hb=> ?_) ops.size _ steps hr aay (by simp) (fun i hi=> ?_) (by omega) ho (e5 rfl) ?_ (fun k j hk hl _=> ?_) (fun a' w' ρ' Fs' h'=>fin hK a' w' ρ' Fs' h')
  ·have xN:=(Array.getElem?_eq_some_iff.1 hi).1
   obtain ⟨s,hs⟩: ∃s,steps[i]? =some s:=⟨steps[i]'(by omega),aw _⟩
   have h1:=ho s (List.mem_of_getElem? hs)
   rw[CP i s hs,hi] at h1
   cases h1
   have:=d2 i s.log e (aax i s hs) he hb
   simpa using this
  ·have:(Array.replicate ops.size false).getD i true=false:=by simp[hi]
   simp only[this,true_iff]
   exact ⟨steps[i]'(by omega),aj _,CP i _ (aw _)⟩
  ·rw[List.pairwise_iff_getElem]
   intro i j hi hj ZY
   have hi2:=aw hi
   have Zc:=aw hj
   have ei:=CP i _ hi2
   have ej:=CP j _ Zc
   refine ⟨by rw[ei,ej];exact ZY,?_⟩
   obtain ⟨b,hb,hh⟩:=d1 j _ (aax j _ Zc)
   have:=hh i steps[i].log (by simp[ZY,hi2])
   rw[ei,ej]
   rcases this with h1|h1
   ·left
    unfold VF
    rw[hb];exact h1
   ·right;exact h1
  ·have:(Array.replicate ops.size false).getD k true=false:=by simp[hk]
   rw[this] at hl;cases hl
end
end
section
theorem PG: ∀ {x:Nat} {l:List Nat} {j:Nat},idx x l=some j->l[j]? =some x
 |x,y::l,j,h=>by
  simp only[idx] at h
  cases e:x==y with
  |true=>rw[e] at h;simp at h;subst h;simp[aE e]
  |false=>
   rw[e] at h
   simp only[an] at h
   split at h
   ·rename_i i hi
    cases h
    simpa using PG hi
   ·cases h
def sW (hp:Nat->Option aQ) (acc:List Nat):Prop:=acc.Nodup/\ ∀id∈acc,∃r,hp id=some r
theorem sW.add {hp:Nat->Option aQ} {acc:List Nat} (h:sW hp acc) {id:Nat} {r:aQ} (hn:acc.elem id=false) (hr:hp id=some r):sW hp (acc++[id]):=by
 have hn:id∉acc:=fun h=>by rw[List.elem_iff.2 h] at hn;cases hn
 refine ⟨List.nodup_append.2 ⟨h.1,by simp,fun a ha b hb=> ?_⟩,fun j hj=> ?_⟩
 ·simp at hb;subst hb;exact fun e=>hn (e ▸ ha)
 ·rcases List.mem_append.1 hj with hj|hj
  ·exact h.2 j hj
  ·simp at hj;subst hj;exact ⟨r,hr⟩
theorem rM {α β:Type} (f:β->α->β) (Pr:β->Prop) (hf: ∀b a,Pr b->Pr (f b a)): ∀(l:List α) (b:β),Pr b->Pr (l.foldl f b)
 | [],b,h=>h
 |x::l,b,h=>rM f Pr hf l _ (hf b x h)
theorem zz {hp:Nat->Option aQ}: ∀(d:Nat) (x:LV) (acc:List Nat),sW hp acc->sW hp (yA hp d x acc):=by
 intro d
 induction d with
 |zero=>
  intro x acc h
  unfold yA
  split
  ·exact h
  ·rename_i id hid
   cases hb:acc.elem id with
   |true=>exact h
   |false=>
    simp only[an]
    split
    ·exact h
    ·rename_i hr;exact h.add hb hr
    ·rename_i hr;exact h.add hb hr
 |succ d ih=>
  intro x acc h
  unfold yA
  split
  ·exact h
  ·rename_i id hid
   cases hb:acc.elem id with
   |true=>exact h
   |false=>
    simp only[an]
    split
    ·exact h
    ·rename_i cells hr;exact rM _ (sW hp) (fun b a hb=>ih a b hb) cells _ (h.add hb hr)
    ·rename_i hr;exact h.add hb hr
theorem HO {hp:Nat->Option aQ} (x:AV) (acc:List Nat) (h:sW hp acc):sW hp (Kn hp x acc):=by
 unfold Kn
 split
 ·exact zz _ _ _ h
 ·exact rM _ (sW hp) (fun b a hb=>zz _ a b hb) _ _ h
 ·exact h
theorem Ko (live:List Nat) (S:St):sW S.hp (Ah live S):=
 rM _ (sW S.hp) (fun b a hb=>HO _ b hb) live [] ⟨by simp,by simp⟩
def pG {α:Type} (f:Nat->α) (z:α) (olds:List Nat) (j:Nat):α:=match olds[j]? with|some id=>f id|none=>z
theorem Oi (Fs:Nat->FP) (b:Nat) (l:List Nat): ∀(n:Nat),n<=l.length->aR n (pG Fs fz l) b=fh Fs (l.take n) b:=by
 intro n
 induction n with
 |zero=>intro _;rfl
 |succ n ih=>
  intro h
  have e:l.take (n+1)=l.take n++[l[n]'(by omega)]:=by rw[be (by omega)]
  rw[e,gK]
  simp only[aR,Kc]
  rw[ih (by omega)]
  congr 1
  simp[pG,aw (show n<l.length by omega),fh]
theorem QQ (live:List Nat) (f:Nat->AV) (t:Nat):look (pairUp live (live.map f)) t=if t∈live then some (f t) else none:=by
 induction live with
 |nil=>rfl
 |cons u l ih=>
  simp only[bM,pairUp,look]
  by_cases e:u=t
  ·subst e;simp
  ·have e1:(u==t)=false:=by simp[e]
   have e2: ¬t=u:=fun h=>e h.symm
   simp[e1,e2,ih]
variable {C:Cx} {S:St} {a:Act} {w:World} {ρ:Place} {Fs:Nat->FP}
section
variable {olds:List Nat}
def zA (olds:List Nat) (hp:Nat->Option aQ):Nat->Option aQ:=Tx (olds.map fun id=>(hp id).map (yB olds hp))
theorem Ga {hp:Nat->Option aQ} {j:Nat} {cD:aQ} (h:zA olds hp j=some cD): ∃id root,olds[j]? =some id/\hp id=some root/\cD=yB olds hp root:=by
 unfold zA Tx at h
 split at h
 ·rename_i r hr
  rw[List.getElem?_map] at hr
  cases ho:olds[j]? with
  |none=>rw[ho] at hr;cases hr
  |some id=>
   rw[ho] at hr
   simp only[Option.map_some,af] at hr
   subst hr
   cases hq:hp id with
   |none=>rw[hq] at h;cases h
   |some root=>rw[hq] at h;cases h;exact ⟨id,root,rfl,hq,rfl⟩
 ·cases h
theorem tL {hp:Nat->Option aQ} {root:aQ} {r:Row} (h:root.row? =some r):(yB olds hp root).row? =some r:=by cases root<;>exact h
theorem Kp {hp:Nat->Option aQ} {root:aQ} (h:root.real):(yB olds hp root).real:=by cases root<;>exact h
structure CQ (olds:List Nat) (E E':Env):Prop where
 w:E'.w=E.w
 zf: ∀b,E.Zf b->E'.Zf b
 zl: ∀b,E.ZL b->E'.ZL b
 ρ: ∀j id,olds[j]? =some id->E'.ρ j=E.ρ id
 hp:E'.hp=zA olds E.hp
 nx:E'.nx=olds.length
theorem I1 {E E':Env} (h:CQ olds E E') {x:LV} {v:Value} (hx:gJ E x v):gJ E' (zB olds E.hp x) v:=by
 have get: ∀ {id j:Nat},idx id olds=some j->j<E'.nx/\E'.ρ j=E.ρ id/\ ∀cD,E'.hp j=some cD-> ∃root,E.hp id=some root/\cD=yB olds E.hp root:=fun {id j} hj=>by
  have h1:=PG hj
  refine ⟨by rw[h.nx];exact (List.getElem?_eq_some_iff.1 h1).1,h.ρ j id h1,fun cD hr=> ?_⟩
  rw[h.hp] at hr
  obtain ⟨id',root,e1,e2,e3⟩:=Ga hr
  rw[h1] at e1;cases e1
  exact ⟨root,e2,e3⟩
 cases x with
 |own id=>
  simp only[zB]
  split
  ·rename_i j hj
   obtain ⟨g1,g2,g3⟩:=get hj
   obtain ⟨_,hx⟩:=hx
   refine ⟨g1,fun cD hr=> ?_⟩
   obtain ⟨root,e1,rfl⟩:=g3 cD hr
   obtain ⟨r,k1,k2⟩:=hx root e1
   exact ⟨r,tL k1,by rw[g2];exact k2⟩
  ·trivial
 |sub id lo hi=>
  simp only[zB]
  split
  ·rename_i j hj
   obtain ⟨g1,g2,g3⟩:=get hj
   obtain ⟨_,hx⟩:=hx
   refine ⟨g1,fun cD hr=> ?_⟩
   obtain ⟨root,e1,rfl⟩:=g3 cD hr
   obtain ⟨r,k1,k2,k3,k4⟩:=hx root e1
   exact ⟨r,tL k1,k2,k3,by rw[g2];exact k4⟩
  ·trivial
 |je id k=>
  simp only[zB]
  split
  ·rename_i j hj
   obtain ⟨g1,g2,g3⟩:=get hj
   obtain ⟨_,yT,b,cap,k1,k2⟩:=hx
   refine ⟨g1,fun cD hr=> ?_,b,cap,by rw[g2];exact k1,k2⟩
   obtain ⟨root,e1,rfl⟩:=g3 cD hr
   exact Kp (yT root e1)
  ·trivial
 |vc id i f=>
  simp only[zB]
  split
  ·rename_i j hj
   obtain ⟨g1,g2,g3⟩:=get hj
   obtain ⟨_,hx⟩:=hx
   refine ⟨g1,fun cD hr=> ?_⟩
   obtain ⟨root,e1,rfl⟩:=g3 cD hr
   obtain ⟨r,k1,k2,b,cap,k3,k4⟩:=hx root e1
   exact ⟨r,tL k1,k2,b,cap,by rw[g2];exact k3,k4⟩
  ·trivial
 |arr id n=>
  simp only[zB]
  split
  ·rename_i j hj
   obtain ⟨g1,g2,g3⟩:=get hj
   obtain ⟨_,hx⟩:=hx
   refine ⟨g1,fun cD hr=> ?_⟩
   obtain ⟨root,e1,rfl⟩:=g3 cD hr
   obtain ⟨r,k1,k2,b,cap,k3,k4⟩:=hx root e1
   exact ⟨r,tL k1,k2,b,cap,by rw[g2];exact k3,k4⟩
  ·trivial
 |inner id ver i f=>trivial
 |CO id ver i f j=>trivial
 |val p r=>
  show iq E'.w (if p then E'.Zf else E'.ZL) r v
  rw[h.w]
  cases p with
  |true=>exact iq.grow hx h.zf
  |false=>exact iq.grow hx h.zl
 |Kh p r i f=>
  obtain ⟨h1,ad,h2,h3⟩:=hx
  refine ⟨h1,ad,h2,?_⟩
  rw[h.w]
  cases p with
  |true=>exact tr.mono h3 (fun b hb=>⟨h.zf b hb,rfl⟩)
  |false=>exact tr.mono h3 (fun b hb=>⟨h.zl b hb,rfl⟩)
 |er z=>cases z<;>exact hx
 |_=>exact hx
theorem Ai {E E':Env} (h:CQ olds E E'): ∀ {xs:List LV} {vs:List Value},cw E xs vs->cw E' (xs.map (zB olds E.hp)) vs
 | [],[],_=>trivial
 |x::xs,v::vs,hx=>⟨I1 h hx.1,Ai h hx.2⟩
theorem I2 {E E':Env} (h:CQ olds E E') {x:A1} {v:Value} (hx:BG E x v):BG E' (PH olds E.hp x) v:=by
 cases x with
 |l x=>exact I1 h hx
 |agg xs=>obtain ⟨vs,e,hx⟩:=hx;exact ⟨vs,e,Ai h hx⟩
theorem Gb {E E':Env} (h:CQ olds E E'): ∀ {xs:List A1} {vs:List Value},pt E xs vs->pt E' (xs.map (PH olds E.hp)) vs
 | [],[],_=>trivial
 |x::xs,v::vs,hx=>⟨I2 h hx.1,Gb h hx.2⟩
theorem QR {E E':Env} (h:CQ olds E E') {x:AV} {v:Value} (hx:jC E x v):jC E' (Wx olds E.hp x) v:=by
 cases x with
 |one x=>exact I2 h hx
 |KY xs=>obtain ⟨vs,e,hx⟩:=hx;exact ⟨vs,e,Gb h hx⟩
end
theorem cn.norm (h:cn C S a w ρ Fs) (live:List Nat):cn C (bZ live (xS live S) (wK live S)) a w (pG ρ none (Ah live S)) (pG Fs fz (Ah live S)):=by
 obtain ⟨sq,oL⟩:=Ko live S
 generalize holds:Ah live S=olds at sq oL ⊢
 have iS: ∀id∈olds,id<S.nx:=fun id hid=>by obtain ⟨r,hr⟩:=oL id hid;exact eR h.mem hr
 have mH: ∀b,aR olds.length (pG Fs fz olds) b<=aR S.nx Fs b:=fun b=>by
  rw[Oi Fs b olds _ (ai _),List.take_length]
  exact oC Fs b S.nx sq iS
 have hHl:(wK live S).length=olds.length:=by simp[wK,holds]
 have hHp:Tx (wK live S)=zA olds S.hp:=by simp only[wK,holds];rfl
 have lN:bZ live (xS live S) (wK live S)=⟨Aj (pairUp live (xS live S)),zA olds S.hp,olds.length⟩:=by
  unfold bZ;rw[hHl,hHp]
 have N3: ∀b,C.Zf w (aR S.nx Fs) b->C.Zf w (aR olds.length (pG Fs fz olds)) b:=fun b hb=>by
  rcases hb with hb| ⟨h1,h2,h3⟩
  ·exact .inl hb
  ·exact .inr ⟨h1,h2,by have:=mH b;omega⟩
 have hE:CQ olds (C.env w ρ S.hp S.nx Fs) (C.env w (pG ρ none olds) (zA olds S.hp) olds.length (pG Fs fz olds)):=
  ⟨rfl,N3,fun b hb=>hb.imp id (N3 b),fun j id hj=>by simp[Cx.env,pG,hj],rfl,rfl⟩
 rw[lN]
 refine ⟨⟨fun id hid=> ?_,fun j cD hr=> ?_,fun j hj=> ?_,fun b=> ?_,fun b hb=> ?_,h.mem.frame⟩,h.defers,h.size,fun t=> ?_⟩
 ·cases hq:zA olds S.hp id with
  |none=>exact hq
  |some root=>
   obtain ⟨i,_,e,_⟩:=Ga hq
   have:=(List.getElem?_eq_some_iff.1 e).1
   have hid:olds.length<=id:=hid
   omega
 ·have hr:zA olds S.hp j=some cD:=hr
  obtain ⟨id,root,e1,e2,rfl⟩:=Ga hr
  have h1:=h.mem.roots id root e2
  have eF:pG Fs fz olds j=Fs id:=by simp[pG,e1]
  have eρ:pG ρ none olds j=ρ id:=by simp[pG,e1]
  rw[eF]
  cases root with
  |row e v r=>
   show kh w _ (pG ρ none olds j) r.cells r.len r.size (Fs id)
   rw[eρ]
   exact kh.mono h1 (fun b hb=>⟨hb.imp (fun x=>x) (N3 b),rfl⟩) (fun _ _=>rfl)
  |hole e v r i f=>
   obtain ⟨k1,k2,k3⟩:=h1
   refine ⟨k1,k2,?_⟩
   show kh w _ (pG ρ none olds j) _ r.len r.size (Fs id)
   rw[eρ]
   exact kh.mono k3 (fun b hb=>⟨hb.imp (fun x=>x) (N3 b),rfl⟩) (fun _ _=>rfl)
  |box t cells=>
   obtain ⟨b,cap,vs,ty,k1,k2,k3,k4⟩:=h1
   exact ⟨b,cap,vs,ty,by show pG ρ none olds j=_;rw[eρ];exact k1,k2,Ai hE k3,k4⟩
  |gW=>exact h1
 ·have hj:zA olds S.hp j=none:=hj
  cases ho:olds[j]? with
  |none=>simp[pG,ho]
  |some id=>
   simp only[pG,ho]
   refine h.mem.dead id ?_
   cases hq:S.hp id with
   |none=>rfl
   |some root=>
    exfalso
    unfold zA Tx at hj
    rw[List.getElem?_map,ho] at hj
    simp[hq] at hj
 ·show aR olds.length (pG Fs fz olds) b<=1
  have:=mH b;have:=h.mem.one b;omega
 ·have hb:1<=aR olds.length (pG Fs fz olds) b:=hb
  exact h.mem.uj b (by have:=mH b;omega)
 ·show jC _ (Aj (pairUp live (xS live S)) t) _
  unfold Aj xS
  rw[QQ]
  by_cases ht:t∈live
  ·simp only[ht,if_true,holds]
   exact QR hE (h.u6 t)
  ·simp only[ht,if_false]
   trivial
end
section
variable {R:Type} {P:Program} {G:jZ R} {live:List (Nat×List Nat)} {Λ:yV R}
def Oj:X->Exit
 | .normal=> .normal
 | .exit id=> .exit id
 | .ret=> .ret
def tM (G:jZ R) (live:List (Nat×List Nat)) (Λ:yV R) (body:Code) (K:X->St->Option R) (vs:List AV) (hs:List (Option aQ)) (r:R):Prop:=
 ∃(A:Type) (enc:A->List AV×List (Option aQ)) (un:List AV->List (Option aQ)->Option A) (step:(A->Option R)->A->Option R) (n:Nat) (a:A),
  enc a=(vs,hs)/\(∀a,un (enc a).1 (enc a).2=some a)/\
  (∀(Lp:List AV->List (Option aQ)->Option R) a,ev G live Λ body (fun x S'=>match x with| .normal=>Lp (xS (oO live body) (uk (wL live body) S')) (wK (oO live body) (uk (wL live body) S'))|x=>K x (Tz (Kq live body) (uk (Gc live body) S'))) (bZ (oO live body) (enc a).1 (enc a).2)=step (fun a'=>Lp (enc a').1 (enc a').2) a)/\
  iter step n a=some r
def qQ (G:jZ R) (live:List (Nat×List Nat)) (Λ:yV R):Code->Prop
 | .loop body=>(∀K vs hs r,Λ (keyOf body) K vs hs=some r->tM G live Λ body K vs hs r)/\qQ G live Λ body
 | .seq a b=>qQ G live Λ a/\qQ G live Λ b
 | .cond _ a b=>qQ G live Λ a/\qQ G live Λ b
 | .block _ b=>qQ G live Λ b
 |_=>True
variable {C:Cx}
open Classical in
theorem TA (hG:RJ P G) (hm:P.follows .mixedOrders=true) (hN:Za P G.nt C): ∀(c:Code),qQ G live Λ c-> ∀ {K:X->St->Option R} {S:St} {r:R},ev G live Λ c K S=some r-> ∀ {a:Act} {w:World} {ρ:Place} {Fs:Nat->FP},cn C S a w ρ Fs-> ∀ {Q:Exit->Act->World->Prop},
 (∀x S',K x S' =some r-> ∀a' w' ρ' Fs',cn C S' a' w' ρ' Fs'->Q (Oj x) a' w')->c.wp P Q a w:=by
 intro c
 induction c with
 |skip=>intro _ K S r he a w ρ Fs h Q hQ;exact wp_skip (hQ .normal S he _ _ _ _ h)
 |region id ops draw=>
  intro _ K S r he a w ρ Fs h Q hQ
  simp only[ev] at he
  exact F9 hG hm hN he h (fun S' hK a' w' ρ' Fs' h'=>hQ .normal S' hK _ _ _ _ h')
 |seq c d ihc ihd=>
  intro hl K S r he a w ρ Fs h Q hQ
  simp only[ev] at he
  refine wp_seq (ihc hl.1 he h fun x S' hK a' w' ρ' Fs' h'=> ?_)
  cases x with
  |normal=>exact ihd hl.2 hK h' hQ
  |exit i=>exact hQ (.exit i) S' hK _ _ _ _ h'
  |ret=>exact hQ .ret S' hK _ _ _ _ h'
 |cond x c d ihc ihd=>
  intro hl K S r he a w ρ Fs h Q hQ
  simp only[ev] at he
  split at he
  ·rename_i b hb
   have hv:=h.rd x
   rw[<- hN.nt,hb] at hv
   have hv:a.eval x= .bool b:=hv
   have same: ∀(t:Tmp),x= .tmp t->S.put (some t) (.l (.b b))=S:=fun t hy=>by
    subst hy
    cases iS:Nat.blt t G.nt with
    |true=>rw[St.rd,iS] at hb;exact F7 hb
    |false=>rw[St.rd,iS] at hb;cases hb
   cases b with
   |true=>
    have IR:ev G live Λ c K S=some r:=by
     cases x with
     |tmp t=>simp only[same t rfl] at he;exact he
     |_=>exact he
    exact wp_cond_true hv (ihc hl.1 IR h hQ)
   |false=>
    have IR:ev G live Λ d K S=some r:=by
     cases x with
     |tmp t=>simp only[same t rfl] at he;exact he
     |_=>exact he
    exact wp_cond_false hv (ihd hl.2 IR h hQ)
  ·cases he
 |block id c ih=>
  intro hl K S r he a w ρ Fs h Q hQ
  simp only[ev] at he
  refine wp_block (ih hl he h fun x S' hK a' w' ρ' Fs' h'=> ?_)
  cases x with
  |normal=>exact hQ .normal S' hK _ _ _ _ h'
  |exit i=>
   simp only[TB] at hK
   by_cases e:i=id
   ·subst e
    simp only[beq_self_eq_true,ak] at hK
    simp only[Oj,Exit.inBlock,if_true]
    exact hQ .normal S' hK _ _ _ _ h'
   ·have e2:(i==id)=false:=by simp[e]
    simp only[e2,an] at hK
    simp only[Oj,Exit.inBlock,aD e]
    exact hQ (.exit i) S' hK _ _ _ _ h'
  |ret=>exact hQ .ret S' hK _ _ _ _ h'
 |loop body ih=>
  intro hl K S r he a w ρ Fs h Q hQ
  simp only[ev] at he
  obtain ⟨A,enc,un,step,n,a0,e1,hun,Ip,Zd⟩:=hl.1 _ _ _ _ he
  have acX: ∀a b:A,enc a=enc b->a=b:=fun a b e=>by
   have h1:=hun a
   rw[e,hun b] at h1
   exact (Option.some.inj h1).symm
  have key: ∀(n:Nat) (a0:A),iter step n a0=some r-> ∀(a:Act) (w:World) (ρ:Place) (Fs:Nat->FP),cn C (bZ (oO live body) (enc a0).1 (enc a0).2) a w ρ Fs->Code.rounds P body Q n a w:=by
   intro n
   induction n with
   |zero=>intro a0 h0;cases h0
   |succ n ihn=>
    intro a0 h0 a w ρ Fs h
    rw[rounds_succ]
    have h0:step (iter step n) a0=some r:=h0
    let Lp:List AV->List (Option aQ)->Option R:=fun vs hs=>if hh: ∃a,enc a=(vs,hs) then iter step n hh.choose else none
    have hLp:(fun a'=>Lp (enc a').1 (enc a').2)=iter step n:=by
     funext a'
     have hh: ∃a,enc a=((enc a').1,(enc a').2):=⟨a',rfl⟩
     show (if hh: ∃a,enc a=((enc a').1,(enc a').2) then iter step n hh.choose else none)=_
     rw[dif_pos hh,acX _ a' hh.choose_spec]
    rw[<- hLp,<- Ip] at h0
    refine ih hl.2 h0 h fun x S' hK a' w' ρ' Fs' h'=> ?_
    cases x with
    |normal=>
     have hK:(if hh: ∃a,enc a=(xS (oO live body) (uk (wL live body) S'),wK (oO live body) (uk (wL live body) S')) then iter step n hh.choose else none)=some r:=hK
     split at hK
     ·rename_i hh
      obtain ⟨ρ1,F1,h1⟩:=cn.uk (wL live body) h'
      have h2:=h1.norm (oO live body)
      exact ihn hh.choose hK a' w' _ _ (by rw[hh.choose_spec];exact h2)
     ·cases hK
    |exit i=>
     obtain ⟨ρ1,F1,h1⟩:=cn.uk (Gc live body) h'
     exact hQ (.exit i) _ hK _ _ _ _ (h1.norm _)
    |ret=>
     obtain ⟨ρ1,F1,h1⟩:=cn.uk (Gc live body) h'
     exact hQ .ret _ hK _ _ _ _ (h1.norm _)
  obtain ⟨ρ1,F1,h1⟩:=cn.uk (wL live body) h
  have h2:=h1.norm (oO live body)
  exact wp_loop_rounds n (key n a0 Zd a w _ _ (by rw[e1];exact h2))
 |exit id=>intro _ K S r he a w ρ Fs h Q hQ;exact wp_exit (hQ (.exit id) S he _ _ _ _ h)
 |ret=>intro _ K S r he a w ρ Fs h Q hQ;exact wp_ret (hQ .ret S he _ _ _ _ h)
 |_=>intro _ K S r he;cases he
theorem Ms {tt:TT} {g:yb} {fn:Func} {S:St} {K:List DV->Option R} {r:R} (h:finish tt g fn S K=some r): ∃rs,finish (R:=List DV) tt g fn S some=some rs/\K rs=some r:=by
 unfold finish at h
 split at h
 ·cases h
 ·rename_i vs VL
  split at h
  ·cases h
  ·rename_i ds ks fk hds
   simp only[] at h
   split at h
   ·cases h
   ·rename_i Aw ks' M_ X1
    obtain ⟨h1,h2⟩:=aH h
    refine ⟨_,?_,h2⟩
    unfold finish
    rw[VL]
    simp only[]
    rw[hds]
    simp only[]
    rw[X1]
    simp only[]
    rw[h1]
    rfl
theorem Kr {UA:Bool} {tt:TT} {g:yb} {fn:Func} {S:St} {K:List DV->Option R} {r:R} (h:EE UA tt g fn S K=some r): ∃c rs,finish (R:=List DV) tt (g.to c) fn S some=some rs/\K rs=some r:=by
 have one:finish tt g fn S K=some r-> ∃c rs,finish (R:=List DV) tt (g.to c) fn S some=some rs/\K rs=some r:=fun h=>by
  obtain ⟨rs,h1,h2⟩:=Ms h
  exact ⟨g.oc,rs,h1,h2⟩
 unfold EE at h
 cases UA with
 |false=>exact one h
 |true=>
  simp only[ak] at h
  split at h
  ·rename_i rs h1;exact ⟨.own,rs,h1,h⟩
  ·exact one h
theorem zC {tt:TT}: ∀(ts:List Nat) (ds:List DV) (n:Nat) {xs:List AV} {up:List (Nat×Option aQ)} {n':Nat},kC tt ts ds n=some (xs,up,n')->xs.length=ts.length/\ds.length=ts.length
 | [],[],n,xs,up,n',h=>by simp only[kC,af,aA] at h;obtain ⟨rfl,_⟩:=h;exact ⟨rfl,rfl⟩
 | [],_::_,_,_,_,_,h=>by simp[kC] at h
 |_::_,[],_,_,_,_,h=>by simp[kC] at h
 |t::ts,d::ds,n,xs,up,n',h=>by
  simp only[kC] at h
  split at h
  ·split at h
   ·rename_i h2
    cases h
    obtain ⟨k1,k2⟩:=zC ts ds _ h2
    exact ⟨by simp[k1],by simp[k2]⟩
   ·cases h
  ·cases h
theorem uq: ∀(xs:List AV) (i t:Nat),look (kT i xs) t=if i<=t then xs[t-i]? else none
 | [],i,t=>by simp[kT,look]
 |x::xs,i,t=>by
  simp only[kT,look,uq xs (i+1) t]
  by_cases e:i=t
  ·subst e;simp
  ·have e1:(i==t)=false:=by simp[e]
   simp only[e1,an]
   by_cases h:i<=t
   ·have h2:i+1<=t:=by omega
    simp only[h,h2,if_true]
    rw[show t-i=(t-(i+1))+1 by omega,List.getElem?_cons_succ]
   ·simp[h,show ¬i+1<=t by omega]
theorem jI.at {E:Env}: ∀ {xs:List AV} {vs:List Value},jI E xs vs-> ∀ {j:Nat} {x:AV},xs[j]? =some x-> ∃v,vs[j]? =some v/\jC E x v
 |x::xs,v::vs,h,0,y,hy=>by simp at hy;subst hy;exact ⟨v,rfl,h.1⟩
 |x::xs,v::vs,h,j+1,y,hy=>by
  obtain ⟨u,h1,h2⟩:=jI.at h.2 (j:=j) (by simpa using hy)
  exact ⟨u,by simpa using h1,h2⟩
theorem DH: ∀(l m:List (Nat×AV)) (t:Nat),look (l++m) t=match look l t with|some v=>some v|none=>look m t
 | [],m,t=>rfl
 | (i,x)::l,m,t=>by
   simp only[List.cons_append,look,DH l m t]
   cases i==t<;>rfl
theorem DI (hG:RJ P G) (hm:P.follows .mixedOrders=true) {f:FuncId} {fn:Func} {g:yb} {body:Code} (hf:P.funcs[f]? =some fn) (hb:fn.body=some body) (hl:qQ G live Λ body) (hN:G.nt=fn.ntmps) (hp:g.params.length<=fn.ntmps) (Tc:fn.results.size=g.results.length)
 {ds rs:List DV} {K:List DV->Option R} {r:R} (hK: ∀DD,K DD=some r->DD=rs) (he:NW G live Λ g fn ds K=some r):eP P f g ds rs:=by
 intro C0 args hP jX h1 h2
 let C:Cx:={C0 with N:=fn.ntmps,kv:=args}
 unfold NW at he
 split at he
 case h_2=>cases he
 rename_i xs up nx aem B8 tq
 rw[hb] at tq;cases tq
 have hlen:=zC _ _ _ B8
 obtain ⟨ρ1,rB,OY,hrel⟩:=vU (w:=C.w0) (Zf:=C.Zf0) (ZL:=C.Zl) _ _ _ _ _ _ _ _ B8 jX
 obtain ⟨hm0,HF⟩:=sN.start (C:=C) OY h1 h2
 have EB:=hrel _ HF
 have hal:args.length=g.params.length:=by rw[<- EB.length];exact hlen.1
 have hxl:xs.length<=fn.ntmps:=by rw[hlen.1];exact hp
 have h0:cn C ⟨Aj (bif wN g.kS then kT 0 xs else kT 0 xs++kT fn.ntmps xs),jh xC up,nx⟩ {tmps:=args.toArray++Array.replicate (fn.ntmps-args.toArray.size) undef,defers:=[]} C.w0 ρ1 rB:=by
  have low: ∀t,jC (C.env C.w0 ρ1 (jh xC up) nx rB) (Aj (kT 0 xs) t) (C.val {tmps:=args.toArray++Array.replicate (fn.ntmps-args.toArray.size) undef,defers:=[]} t):=fun t=>by
   unfold Aj
   rw[uq]
   simp only[Nat.zero_le,if_true,Nat.sub_zero]
   cases hx:xs[t]? with
   |none=>trivial
   |some x=>
    obtain ⟨v,hv,hr⟩:=EB.at hx
    have ht:t<args.length:=(List.getElem?_eq_some_iff.1 hv).1
    have VE:t<C.N:=by show t<fn.ntmps;omega
    simp only[Cx.val,aS VE]
    have e:(args.toArray++Array.replicate (fn.ntmps-args.toArray.size) undef).getD t undef=v:=by
     rw[Array.getD_eq_getD_getElem?,Array.getElem?_append_left (by simpa using ht)]
     simp[hv]
    rw[e];exact hr
  refine ⟨hm0,rfl,?_,fun t=> ?_⟩
  ·show (args.toArray++Array.replicate (fn.ntmps-args.toArray.size) undef).size=fn.ntmps
   simp;omega
  ·show jC _ (Aj (bif wN g.kS then kT 0 xs else kT 0 xs++kT fn.ntmps xs) t) _
   cases wN g.kS with
   |true=>exact low t
   |false=>
    have hla: ∀(l m:List (Nat×AV)),Aj (l++m) t=match look l t with|some v=>v|none=>Aj m t:=fun l m=>by
     unfold Aj
     rw[DH]
     cases look l t<;>rfl
    simp only[an]
    rw[hla]
    cases hq:look (kT 0 xs) t with
    |some v=>
     have:=low t
     unfold Aj at this
     rw[hq] at this
     exact this
    |none=>
     show jC _ (Aj (kT fn.ntmps xs) t) _
     unfold Aj
     rw[uq]
     by_cases ht:fn.ntmps<=t
     ·rw[aS ht]
      cases hx:xs[t-fn.ntmps]? with
      |none=>trivial
      |some x=>
       obtain ⟨v,hv,hr⟩:=EB.at hx
       have e1: ¬t<C.N:=by show ¬t<fn.ntmps;omega
       simp only[Cx.val,aD e1]
       have e:C.kv.getD (t-C.N) undef=v:=by
        show args.getD (t-fn.ntmps) undef=v
        rw[aL,hv];rfl
       rw[e];exact hr
     ·rw[aD ht];trivial
 refine calls_of_wp hf hb ?_
 refine TA hG hm (C:=C) ⟨hN,hP⟩ body hl he h0 fun x S' hK' a' w' ρ' Fs' h'=> ?_
 have fin:EE (Wy live) G.tt g fn S' K=some r->bodyPost P fn (Ends C0 g args rs) .normal a' w':=fun hf=>by
  obtain ⟨c,DD,f1,f2⟩:=Kr hf
  obtain rfl:=hK DD f2
  obtain ⟨v,k1,vs,F',k2,k3,k4,k5,k6,k7⟩:=J6 hG.tt h' (C:=C) (g:=g.to c) rfl rfl hal.symm Tc f1
  exact ⟨h'.defers,v,k1,vs,F',k2,k3,⟨k4.size,k4.os,k4.tape,k4.output,k4.block⟩,k5,k6,k7⟩
 cases x with
 |normal=>exact fin hK'
 |exit i=>cases hK'
 |ret=>exact fin hK'
end
