/- The abstract evaluator and its soundness: part VOpP. Conditions: as each section says. -/
import Derived.Test.YtbmmhdmljajcfaaGreatDoorVOpH
import Derived.Laws.CopyRow
import Derived.Deep.Upon
import Derived.Laws.Small
set_option linter.unusedVariables false
set_option linter.unusedSimpArgs false
namespace Go.Proofs.YtbmmhdmljajcfaaGreatDoor.V
open Go
section
variable {P:Program} {tt:TT} {C:Cx} {S:St} {a:Act} {w:World} {ρ:Place} {Fs:Nat->FP} {n:Nat}
theorem sT (env:Operand->Value) (nt:Nat) (sl:Nat->AV): ∀(ps:List (Nat×Operand)) (i:Nat) (xs:List AV),uX i (ps.map fun p=>(p.1,St.rd nt sl p.2))=some xs->xs=ps.map (fun p=>St.rd nt sl p.2)/\(ps.map fun p=>(p.1,env p.2))=((ps.map fun p=>env p.2).zipIdx i).map (fun x=>(x.2,x.1))
 | [],i,xs,h=>by simp only[List.map_nil,uX,Option.some.injEq] at h;subst h;exact ⟨rfl,rfl⟩
 |p::ps,i,xs,h=>by
  simp only[List.map_cons,uX] at h
  obtain ⟨h1,h⟩:=ai h
  have h1:=eq_of_beq h1
  split at h
  ·rename_i ys hq
   simp only[Option.some.injEq] at h
   subst h
   obtain ⟨g1,g2⟩:=sT env nt sl ps (i+1) ys hq
   subst g1
   refine ⟨rfl,?_⟩
   simp only[List.map_cons,List.zipIdx_cons,g2,h1]
  ·cases h
theorem IX (h:aQ C S a w ρ Fs): ∀ps:List (Nat×Operand),eV (C.env w ρ S.hp S.nx Fs) (ps.map fun p=>St.rd C.N S.sl p.2) (ps.map fun p=>a.eval p.2)
 | []=>trivial
 |p::ps=>⟨h.rd p.2,IX h ps⟩
theorem ja {e:Nat} {r:Row} (h:cp tt e=some r):r.len=0:=by
 unfold cp at h
 split at h
 all_goals first
  | (obtain ⟨_,h⟩:=ai h;cases h;rfl)
  | (cases h;rfl)
  |cases h
theorem x_ (w:World) (t e:TypeId) (len:Nat) (parts:Array (Nat×Value)) (vs:List Value) (ie:TypeInfo) (z:Value) (hu:P.underlying t=some (.slice e)) (VQ:P.info? e=some ie) (hz:ie.zero=some z) (PD:len*ie.size<=16777216) (hs:0<ie.size)
 (hp:parts.toList=(vs.zipIdx 0).map (fun x=>(x.2,x.1))) (hl:vs.length=len) (hv: ∀v∈vs,v.cells.size=ie.size):
 (Instr.buildSlice t len parts).run P w= .ok (.slice (some ⟨w.heap.size,0,none⟩) len len) (w.alloc (.cells (flat vs).toArray e)):=by
 by_cases h0:len=0
 ·subst h0
  have Kh:vs=[]:=List.eq_nil_of_length_eq_zero hl
  subst Kh
  have hp':parts.toList=[]:=by simpa using hp
  have LC:parts= #[]:=by apply Array.ext';simpa using hp'
  subst LC
  simp[Instr.buildSlice,run_underlying hu,sizeOf,typeInfo,VQ,newRow,Instr.fill,flat]
  congr 2
  apply Array.ext'
  simp
 ·refine run_buildSlice w t e len parts _ ie z hu VQ hz (by omega) (by have:=Nat.mul_pos (Nat.pos_of_ne_zero h0) hs;omega) ?_
  rw[hp]
  exact Great.fill_whole hs vs _ hv (by simp[hl])
theorem tP (T:kQ P tt) (h:aQ C S a w ρ Fs) {o:Oper} {t len:Nat} {ps:Array (Nat×Operand)} (ho:o.op= .buildSlice t len ps) {E:fR} (he:fa (R:=fR) tt S.hp n t len (ps.toList.map fun p=>(p.1,St.rd C.N S.sl p.2)) some=some E) (hg:S.hp n=some .dH): ∃w' ρ' Fs' u,Out P C S o E a w w' ρ' Fs' u:=by
 unfold fa at he
 split at he
 ·rename_i e my
  split at he
  ·rename_i r0 xs DQ vr
   obtain ⟨hc,he⟩:=ai he
   obtain ⟨hl,Jh⟩:=az hc
   have hl:=eq_of_beq hl
   have Jh:=Nat.le_of_ble_eq_true Jh
   split at he
   ·rename_i r ks hr
    cases he
    obtain ⟨g1,g2⟩:=sT a.eval C.N S.sl ps.toList 0 xs vr
    have hrel:=IX h ps.toList
    rw[<- g1] at hrel
    obtain ⟨F,k1,k2,k3,k4,k5,k6,k7,k8,_,_⟩:=xH h.mem xs _ S.hp r0 r ks (Sub.refl _) (ja DQ) hr hrel
    obtain ⟨te,q1,q2,q3,q4⟩:=lL T DQ
    obtain ⟨i,z,z1,z2,z3,z4,z5,z6⟩:=kE T q1 q3
    have Ry:(flat (ps.toList.map fun p=>a.eval p.2)).length=len*r0.size:=by
     have: ∀l:List Value,(∀v∈l,v.cells.size=r0.size)->(flat l).length=l.length*r0.size:=by
      intro l
      induction l with
      |nil=>intro _;simp[flat]
      |cons v l ih=>
       intro hv
       rw[kL,List.length_append,ih (fun u hu=>hv u (by simp[hu])),Array.length_toList,hv v (by simp),List.length_cons,Nat.succ_mul]
       omega
     rw[this _ k6,k7,hl]
    refine ⟨_,_,_,.slice (some ⟨w.heap.size,0,none⟩) len len,.inl ?_,aQ.newRow h hg ks k3.1 (k3.live (Sub.refl _)) e r (flat (ps.toList.map fun p=>a.eval p.2)).toArray e len F (by simpa using k1) k2 (by omega) (by rw[k5];simp only[List.size_toArray];omega) (w.alloc (.cells (flat (ps.toList.map fun p=>a.eval p.2)).toArray e)) rfl rfl rfl rfl,?_⟩
    ·simp only[execOp,ho]
     refine nh (x_ w t e len _ _ i z (jG T my) z1 z2 (by rw[z4,q2];exact Jh) (by omega) ?_ (by rw[k7,hl]) (fun v hv=>by rw[k6 v hv,z4,q2]))
     rw[Array.toList_map,g2]
    ·have:=IW (C:=C) (w':=w.alloc (.cells (flat (ps.toList.map fun p=>a.eval p.2)).toArray e)) (ρ':=gq ρ n (some (w.heap.size,len))) (hp':=eA S.hp (cF ks++[(n,some (.row e 0 r))])) (nx:=S.nx) (Fs':=eU (cS Fs ks) n (cn (f1 w.heap.size) F)) (cz h.mem hg) (dT ..) (e:=e) (v:=0) (r:=r) (by rw[bE,eT,if_pos rfl])
     rw[k4,hl] at this
     exact this
   ·cases he
  ·cases he
 ·cases he
theorem pr {t:TypeId} {i:TypeInfo} (hi:P.info? t=some i) {w:World} {b o:Nat} {arr:Array Value} {ty:TypeId} (hb:w.heap[b]? =some (.cells arr ty (0,0))) {v:Value} (hs:v.cells.size=i.size) (ke: ∀u∈v.cells.toList,u.oneCell' =true) (C5:o+i.size<=arr.size):
 (Instr.storeAt t (.pointer (some ⟨b,o,none⟩)) v).run P w= .ok () (w.setRow b (arr.toList.take o++v.cells.toList++arr.toList.drop (o+i.size)).toArray):=by
 unfold Instr.storeAt
 rw[cP (x:=(⟨b,o,none⟩:Addr)) (w':=w) rfl]
 unfold storeVar
 rw[cP (kK hi)]
 have:=run_storeCells_at P b o ty v.cells.toList 0 arr w hb (by simp[hs];exact C5) ke
 simp only[Nat.add_zero,Array.length_toList,hs] at this
 simp[hs,this]
theorem setRow_other (w:World) (g:Nat) (cs:Array Value) {b:Nat} (h:b≠g):(w.setRow g cs).heap[b]? =w.heap[b]? :=by
 simp[World.setRow,Array.getElem?_modify,Ne.symm h]
theorem setRow_size (w:World) (g:Nat) (cs:Array Value):(w.setRow g cs).heap.size=w.heap.size:=by simp[World.setRow]
def Zt (C:Cx) (w:World) (nx:Nat) (Fs:Nat->FP) (id:Nat) (ks:List Nat) (b:Nat) (F:FP):Zs:=fun b'=>C.ZL w (ar nx Fs) b' \/(1<=Fs id b' +cE Fs ks b' /\F b' =0/\b' ≠b)
theorem aQ.Dt (h:aQ C S a w ρ Fs) (ks:List Nat) (sA:ks.Nodup) (jX: ∀k∈ks,S.hp k≠none) {id:Nat} (hid:id∉ks) {root:aq} (DQ:S.hp id=some root) {b cap:Nat} (hρ:ρ id=some (b,cap)) {arr arr':Array Value} {ty:TypeId} (hb:w.heap[b]? =some (.cells arr ty (0,0))) (e ver:Nat) (r:Row) (F:FP)
 (hc:ah w (Zt C w S.nx Fs id ks b F) r.cells arr'.toList F) (hF: ∀b',F b' +f1 b b' <=Fs id b' +cE Fs ks b') (MO:1<=Fs id b) (h1:r.len<=cap) (h2:cap*r.size<=arr'.size) (hl:u9 w (w.setRow b arr') (ρ id) root (.row e ver r)):
 aQ C ⟨S.sl,eA S.hp (cF ks++[(id,some (.row e ver r))]),S.nx⟩ a (w.setRow b arr') ρ (eU (cS Fs ks) id (cn (f1 b) F)):=by
 have hk: ∀k∈ks,k<S.nx:=fun k h'=>by
  cases e:S.hp k with
  |none=>exact absurd e (jX k h')
  |some r=>exact cz h.mem e
 have kH:=cz h.mem DQ
 have wG: ∀b',Fs id b' +cE Fs ks b' <=ar S.nx Fs b':=fun b'=>oF Fs b' S.nx sA hk kH hid
 have Nb:F b=0:=by
  have:=hF b
  have:=wG b
  have:=h.mem.one b
  simp at*
  omega
 refine h.Nw ks sA jX id hid root _ DQ _ (w.setRow b arr') (setRow_size ..) rfl rfl rfl (fun b' nv h0=>setRow_other w b arr' (by rintro rfl;omega)) (fun b'=>by have:=hF b';simp;omega) hl (fun M=> ?_)
 refine .inr ⟨b,cap,arr',ty,F,hρ,setRow_heap w b arr arr' ty _ hb,h1,h2,hc.mono (fun b' nv=> ?_) (fun b' nv=>setRow_other w b arr' (by rintro rfl;omega)),rfl⟩
 rcases nv with nv| ⟨g1,g2,g3⟩
 ·exact M.zl b' nv
 ·obtain ⟨o1,o2⟩:=h.mem.nW b' (Nat.le_trans g1 (wG b'))
  refine ⟨.inr (.inr ⟨o2,by show b' <(w.setRow b arr').heap.size;rw[setRow_size];exact o1,?_⟩),setRow_other w b arr' g3⟩
  have k1:=en (cS Fs ks) (cn (f1 b) F) b' kH
  have k2:=jN Fs b' S.nx ks sA hk
  have k3:cS Fs ks id=Fs id:=by simp[cS,hid]
  have k4:=h.mem.one b'
  have k5:f1 b b' =0:=by rw[xn,if_neg g3]
  rw[k3] at k1
  simp[k5] at k1
  omega
theorem aY.append {E:Env}: ∀ {xs ys:List LV} {us vs:List Value},aY E xs us->aY E ys vs->aY E (xs++ys) (us++vs)
 | [],_,[],_,_,h=>h
 |x::xs,_,u::us,_,h,h'=>⟨h.1,aY.append h.2 h'⟩
theorem xI: ∀(xs A B D:List LV),B.length=xs.length->jO (A++(B++D)) A.length xs=A++(xs++D)
 | [],A,B,D,h=>by have:B=[]:=List.eq_nil_of_length_eq_zero h
                  subst this;rfl
 |x::xs,A,[],D,h=>by simp at h
 |x::xs,A,y::B,D,h=>by
  have e:(A++((y::B)++D)).set A.length x=(A++[x])++(B++D):=by
   rw[List.set_append_right _ _ (Nat.le_refl _)]
   simp
  have e2:A.length+1=(A++[x]).length:=by simp
  rw[jO,e,e2,xI xs (A++[x]) B D (by simpa using h)]
  simp
theorem zH (xs zs:List LV) (k:Nat) (h:k+xs.length<=zs.length):jO zs k xs=zs.take k++(xs++zs.drop (k+xs.length)):=by
 have e:zs=zs.take k++((zs.drop k).take xs.length++zs.drop (k+xs.length)):=by
  rw[<- List.drop_drop,List.take_append_drop,List.take_append_drop]
 have hk:(zs.take k).length=k:=by simp;omega
 have:=xI xs (zs.take k) ((zs.drop k).take xs.length) (zs.drop (k+xs.length)) (by simp;omega)
 rw[<- e,hk] at this
 exact this
theorem H0 (xs zs:List LV) (k:Nat) (h:k+xs.length<=zs.length):De zs k xs=jO zs k xs:=by
 unfold De
 cases hc:(Nat.beq k 0&&Nat.beq xs.length zs.length) with
 |false=>rfl
 |true=>
  rw[Bool.and_eq_true] at hc
  have h1:=Nat.eq_of_beq_eq_true hc.1
  have h2:=Nat.eq_of_beq_eq_true hc.2
  subst h1
  rw[zH xs zs 0 h,h2]
  simp
end
section
variable {P:Program} {tt:TT} {C:Cx} {S:St} {a:Act} {w:World} {ρ:Place} {Fs:Nat->FP} {n:Nat}
theorem NC {α:Type} (l:List α) (o:Nat) (v:α) (h:o<l.length):l.take o++[v]++l.drop (o+1)=l.set o v:=by
 rw[List.set_eq_take_append_cons_drop,if_pos h];simp
theorem zI {t:TypeId} {i:TypeInfo} (hi:P.info? t=some i) (h1:i.size=1) {w:World} {b o:Nat} {arr:Array Value} {ty:TypeId} (hb:w.heap[b]? =some (.cells arr ty (0,0))) {v:Value} (ke:v.oneCell' =true) (C5:o<arr.size):
 (Instr.storeAt t (.pointer (some ⟨b,o,none⟩)) v).run P w= .ok () (w.setRow b (arr.toList.set o v).toArray):=by
 have hc:=mI ke
 have:=pr hi hb (v:=v) (by rw[hc,h1];rfl) (fun u hu=>by rw[hc] at hu;simp at hu;subst hu;exact ke) (o:=o) (by omega)
 rw[this,hc,h1]
 congr 3
 exact NC arr.toList o v (by simpa using C5)
theorem tQ (T:kQ P tt) {t:Nat} (h:cQ tt t=true): ∃i,P.info? t=some i/\i.size=1:=by
 have hl:=fQ h
 unfold cQ at h
 split at h
 all_goals try (cases h;done)
 all_goals
  rename_i hq
  obtain ⟨i,z,z1,_,_,z4,_,z6⟩:=kE T hq (by simp)
  exact ⟨i,z1,by rw[z4,z6,hl];rfl⟩
theorem Out.stored {o:Oper} {t:Nat} {p x:Operand} (ho:o.op= .store t p x) {w':World} {up:List (Nat×Option aq)} {nx:Nat} {rl rc:List Nat} {ρ':Place} {Fs':Nat->FP} (hr:(Instr.storeAt t (a.eval p) (a.eval x)).run P w= .ok () w') (hs:aQ C ⟨S.sl,eA S.hp up,S.nx⟩ a w' ρ' Fs'): ∃w' ρ' Fs' u,Out P C S o ⟨.l .undef,up,nx,rl,rc⟩ a w w' ρ' Fs' u:=
 ⟨w',ρ',Fs',undef,.inr ⟨by simp only[execOp,ho];exact Sn hr,rfl⟩,hs,rfl⟩
theorem nF (m:fY C S.hp S.nx w ρ Fs) {id e ver:Nat} {r:Row} (h:S.hp id=some (.row e ver r)) {b cap:Nat} (hρ:ρ id=some (b,cap)) (hl:0<r.len): ∃arr ty F,w.heap[b]? =some (.cells arr ty (0,0))/\r.len<=cap/\cap*r.size<=arr.size/\ah w (C.ZL w (ar S.nx Fs)) r.cells arr.toList F/\Fs id=cn (f1 b) F/\F b=0:=by
 rcases m.roots id _ h with ⟨_,h2,_⟩| ⟨b',nr,arr,ty,F,h1,h2,h3,h4,h5,h6⟩
 ·omega
 ·simp only[Cx.env] at h1 h2
  rw[hρ] at h1;cases h1
  have t1:=iz Fs b (cz m h)
  have t2:=m.one b
  rw[h6] at t1
  simp at t1
  exact ⟨arr,ty,F,h2,h3,h4,h5,h6,by omega⟩
theorem ql {α β:Type} (g:α->List β) (n:Nat) (h: ∀x,(g x).length=n) (f:Nat) (hf:f<n) (c:β) (y:α): ∀(l:List α) (i:Nat) (x:α),l[i]? =some x->g y=(g x).set f c->(l.set i y).flatMap g=(l.flatMap g).set (i*n+f) c
 | [],i,x,hx,_=>by simp at hx
 |z::l,0,x,hx,hy=>by
  simp at hx;subst hx
  simp only[List.set_cons_zero,List.flatMap_cons,Nat.zero_mul,Nat.zero_add,hy]
  rw[List.set_append_left _ _ (by rw[h];exact hf)]
 |z::l,i+1,x,hx,hy=>by
  have e:(i+1)*n+f=n+(i*n+f):=by rw[Nat.succ_mul];omega
  simp only[List.set_cons_succ,List.flatMap_cons,e]
  rw[ql g n h f hf c y l i x (by simpa using hx) hy,List.set_append_right _ _ (by rw[h];omega),h,Nat.add_sub_cancel_left]
theorem xJ (sg:List Bool) (r:List jC) (f:Nat) (x:jC) (g:Nat):(qT sg r f x)[g]? =(sg[g]?).map fun b=>if g=f then x else if b then .ints (gl r g) else .int (gi r g):=by
 unfold qT
 rw[List.getElem?_map,List.getElem?_zipIdx]
 cases sg[g]? with
 |none=>rfl
 |some b=>
  simp only[Option.map_some,Nat.zero_add]
  by_cases e:g=f
  ·simp[e]
  ·simp[e,cond_eq_ite,beq_iff_eq]
theorem sL (o:Bool) (sg:List Bool) (r:List jC) (f:Nat) (x:jC) (c:Cell) (hc: ∃b,sg[f]? =some b/\c=if b then .sl o (match x with| .ints l=>l|_=>[]) else .sc (.int .i64 (match x with| .int n=>n|_=>0))):bn o (qT sg r f x) 0 sg=(bn o r 0 sg).set f c:=by
 obtain ⟨b,hb,hc⟩:=hc
 have hf:f<sg.length:=(List.getElem?_eq_some_iff.1 hb).1
 apply List.ext_getElem?
 intro j
 rw[fH,List.getElem?_set,fH]
 simp only[Nat.zero_add,cb]
 by_cases e:f=j
 ·subst e
  rw[if_pos rfl,if_pos hf,hb]
  simp only[Option.map_some,gi,gl,xJ,hb,if_true]
  rw[hc]
  cases b<;>cases x<;>rfl
 ·rw[if_neg e]
  cases hj:sg[j]? with
  |none=>rfl
  |some b'=>
   have e': ¬j=f:=fun h=>e h.symm
   cases b'<;>simp[gi,gl,xJ,hj,e']
theorem ah.split {w:World} {Z:Zs}: ∀ {cs ds:List Cell} {vs:List Value} {F:FP},ah w Z (cs++ds) vs F-> ∃F1 F2,ah w Z cs (vs.take cs.length) F1/\ah w Z ds (vs.drop cs.length) F2/\F=cn F1 F2
 | [],ds,vs,F,h=>⟨fz,F,rfl,by simpa using h,(gV F).symm⟩
 |c::cs,ds,v::vs,F,⟨F1,F2,h1,h2,hF⟩=>by
  obtain ⟨G1,G2,g1,g2,g3⟩:=ah.split h2
  exact ⟨cn F1 G1,G2,⟨F1,G1,h1,by simpa using g1,rfl⟩,by simpa using g2,by rw[hF,g3,pb]⟩
theorem l_ {w w':World} {q:Option (Nat×Nat)} {e v e' v':Nat} {r r':Row} (hl:r'.len=r.len) (hs:r'.size=r.size) (hv:v<=v') (wP: ∀f,r'.jA f=r.jA f) (hd:v' =v->r.deep=false):u9 w w' q (.row e v r) (.row e' v' r'):=
 ⟨hl,hs,hv,wP,fun h1 h2=>by rw[hd h1] at h2;cases h2⟩
theorem Fc (T:kQ P tt) (h:aQ C S a w ρ Fs) {o:Oper} {t:Nat} {p x:Operand} (ho:o.op= .store t p x) {id k bt:Nat} {cells xs:List LV} (hp:St.rd C.N S.sl p= .one (.l (.eJ id k))) (aj:S.hp id=some (.box bt cells)) (vr:k_ S.hp (St.rd C.N S.sl x)=some xs) (h1:xs.length=bh tt t) (P5:0<xs.length) (h2:k+xs.length<=cells.length) {nx:Nat} {rl rc:List Nat}:
 ∃w' ρ' Fs' u,Out P C S o ⟨.l .undef,[(id,some (.box bt (jO cells k xs)))],nx,rl,rc⟩ a w w' ρ' Fs' u:=by
 obtain ⟨fJ,sy,b,cap,hρ,hv⟩:=fP h hp
 obtain ⟨b',nr,vs,ty,g1,g2,g3,g4⟩:=h.mem.roots id _ aj
 simp only[Cx.env] at hρ g1 g2
 rw[hρ] at g1;cases g1
 obtain ⟨PE,qW⟩:=nk h.mem vr (h.rd x)
 have Sd:=PE.length
 have sB:=g3.length
 simp only[Array.length_toList] at Sd sB
 have DO: ∃e,tt t=some e:=by
  cases hq:tt t with
  |none=>exact absurd h1 (by simp only[bh,hq];exact Nat.ne_of_gt P5)
  |some e=>exact ⟨e,rfl⟩
 obtain ⟨e,hq⟩:=DO
 obtain ⟨i,i1,i2,_⟩:=(T t e hq).zz
 have mb:i.size=xs.length:=by rw[i2,h1];simp[bh,hq]
 have Mq:(a.eval x).cells.size=i.size:=by omega
 have Mj:k+i.size<=vs.size:=by omega
 have km:=pr (P:=P) i1 g2 (o:=k) (v:=a.eval x) Mq qW Mj
 rw[<- hv] at km
 have VR:Fs id=f1 b:=g4
 have:=h.Nw [] (by simp) (by simp) id (by simp) _ (.box bt (jO cells k xs)) aj (f1 b) (w.setRow b (vs.toList.take k++(a.eval x).cells.toList++vs.toList.drop (k+i.size)).toArray) (setRow_size ..) rfl rfl rfl
  (fun b' nv h0=>setRow_other w b _ (by rintro rfl;rw[VR] at h0;simp at h0)) (fun b'=>by rw[VR];omega) trivial
  (fun M=>⟨b,cap,_,ty,hρ,setRow_heap w b vs _ ty _ g2,by
    have Xp: ∀E':Env,oC (C.env w ρ S.hp S.nx Fs) E'->aY E' (jO cells k xs) (vs.toList.take k++(a.eval x).cells.toList++vs.toList.drop (k+i.size)):=fun E' M=>by
     rw[zH xs cells k h2,mb,List.append_assoc]
     exact aY.append ((g3.take k).mono M) (aY.append (PE.mono M) ((g3.drop _).mono M))
    exact Xp _ M,rfl⟩)
 exact Out.stored ho km this
theorem pt (T:kQ P tt) (h:aQ C S a w ρ Fs) {o:Oper} {t:Nat} {p x:Operand} (ho:o.op= .store t p x) {id e ver i f:Nat} {r:Row} (hp:St.rd C.N S.sl p= .one (.l (.oG id i f))) (aj:S.hp id=some (.row e ver r)) (hs:cQ tt t=true) (hf:f<r.size)
 (c:Cell) (r':Row) (sw e':Nat) (yY:r'.cells=r.cells.set (i*r.size+f) c) (hsc: ∃u,r.cells[i*r.size+f]? =some (.sc u)) (hv:dZ w (C.ZL w (ar S.nx Fs)) c (a.eval x) fz) (ke:(a.eval x).oneCell' =true) (hlen:r'.len=r.len) (qy:r'.size=r.size)
 (hl: ∀w',u9 w w' (ρ id) (.row e ver r) (.row e' sw r')) {nx:Nat} {rl rc:List Nat}: ∃w' ρ' Fs' u,Out P C S o ⟨.l .undef,cF []++[(id,some (.row e' sw r'))],nx,rl,rc⟩ a w w' ρ' Fs' u:=by
 obtain ⟨fJ,qW⟩:=fP h hp
 obtain ⟨r1,e1,hi,b,cap,hρ,JR⟩:=qW _ aj
 cases e1
 simp only[Cx.env] at hρ
 obtain ⟨arr,ty,F,g1,g2,g3,g4,g5,g6⟩:=nF h.mem aj hρ (by omega)
 obtain ⟨ti,t1,t2⟩:=tQ T hs
 have Ch:i*r.size+f<r.cells.length:=by
  rw[Row.dn]
  have:=Dn (n:=r.size) hi
  omega
 obtain ⟨u,hu⟩:=hsc
 obtain ⟨v0,F1,F2,k1,k2,k3,k4⟩:=g4.get hu
 have US:i*r.size+f<arr.size:=by simpa using (List.getElem?_eq_some_iff.1 k1).1
 obtain ⟨_,Kl⟩:=k2
 subst Kl
 rw[gV] at k3
 have pF:=k4 c (a.eval x) fz hv
 rw[gV,<- k3] at pF
 have km:=zI (P:=P) t1 t2 g1 ke US
 rw[<- JR] at km
 refine Out.stored ho km (aQ.Dt h [] (by simp) (by simp) (by simp) aj hρ g1 e' sw r' F ?_ (fun b'=>by rw[g5];simp;omega) (by rw[g5];simp) (by omega) (by rw[qy];simpa using g3) (hl _))
 rw[yY]
 simp only[List.toList_toArray]
 exact pF.mono (fun b hb=>⟨.inl hb,rfl⟩) (fun b _=>rfl)
theorem w7 (T:kQ P tt) (h:aQ C S a w ρ Fs) {o:Oper} {t:Nat} {p x:Operand} (ho:o.op= .store t p x) {id b cap off:Nat} {root:aq} (JR:a.eval p= .pointer (some ⟨b,off,none⟩)) (aj:S.hp id=some root) (hρ:ρ id=some (b,cap)) {arr:Array Value} {ty:TypeId} {F:FP} (g1:w.heap[b]? =some (.cells arr ty (0,0))) (g5:Fs id=cn (f1 b) F) (g6:F b=0)
 {ks:List Nat} (sA:jR S.hp ks) (Du:id∉ks) {A B D B':List Cell} (np:ah w (C.ZL w (ar S.nx Fs)) (A++(B++D)) arr.toList F) (hA:A.length=off) (hB:B'.length=B.length)
 {ti:TypeInfo} (t1:P.info? t=some ti) (t2:ti.size=B.length) (TH:(a.eval x).cells.size=B.length) (ke: ∀u∈(a.eval x).cells.toList,u.oneCell' =true) {Fv:FP} (hv:ah w (Zu C w S.nx Fs ks Fv) B' (a.eval x).cells.toList Fv) (Xq: ∀b,Fv b<=cE Fs ks b)
 (own:Bool) (r':Row) (sw e':Nat) (Xr:own=true->r'.cells=A++(B' ++D)) (Ul:own=false->r'.cells=(A++(B' ++D)).map Cell.eb) (hlen:r'.len<=cap) (qy:cap*r'.size<=arr.size)
 (hl: ∀w',u9 w w' (ρ id) root (.row e' sw r')) {nx:Nat} {rl rc:List Nat}: ∃w' ρ' Fs' u,Out P C S o ⟨.l .undef,cF ks++[(id,some (.row e' sw r'))],nx,rl,rc⟩ a w w' ρ' Fs' u:=by
 obtain ⟨FA,F2,h1,h2,Kl⟩:=ah.split np
 obtain ⟨FB,FD,h3,h4,Tz⟩:=ah.split h2
 have kH:=cz h.mem aj
 have UT: ∀k∈ks,k<S.nx:=sA.lt h.mem (Sub.refl _)
 have wG: ∀b',Fs id b' +cE Fs ks b' <=1:=fun b'=>Nat.le_trans (oF Fs b' S.nx sA.1 UT kH Du) (h.mem.one b')
 have PF:(A++(B++D)).length<=arr.toList.length:=np.length
 simp only[List.length_append,Array.length_toList] at PF
 have km:=pr (P:=P) t1 g1 (o:=off) (v:=a.eval x) (by rw[TH,t2]) ke (by omega)
 rw[<- JR] at km
 have hz: ∀G:FP,(∀b',G b' <=Fs id b' +cE Fs ks b')-> ∀b',C.ZL w (ar S.nx Fs) b'->Zt C w S.nx Fs id ks b G b':=fun G _ b' hb=> .inl hb
 have ND: ∀b',F b' +f1 b b' =Fs id b':=fun b'=>by rw[g5];simp;omega
 let G:FP:=cn FA (cn Fv FD)
 have hG: ∀b',G b' +f1 b b' <=Fs id b' +cE Fs ks b':=fun b'=>by
  have:=ND b'
  have:=Xq b'
  rw[Kl,Tz] at*
  simp[G] at*
  omega
 have Yc:G b=0:=by
  have:=hG b
  have:=wG b
  simp at*
  omega
 have Yd:cE Fs ks b=0:=by
  have:=wG b
  have:=ND b
  simp at*
  omega
 have Xs: ∀b',Zu C w S.nx Fs ks Fv b'->Zt C w S.nx Fs id ks b G b':=fun b' hb=>by
  rcases hb with hb| ⟨k1,k2⟩
  ·exact .inl hb
  ·have:=wG b'
   have:=ND b'
   refine .inr ⟨by omega,?_,by rintro rfl;omega⟩
   have e1:F b' =0:=by omega
   rw[Kl,Tz] at e1
   simp at e1
   simp[G];omega
 have pF:ah w (Zt C w S.nx Fs id ks b G) (A++(B' ++D)) (arr.toList.take off++((a.eval x).cells.toList++arr.toList.drop (off+ti.size))) G:=by
  have ha:ah w (Zt C w S.nx Fs id ks b G) A (arr.toList.take off) FA:=by rw[<- hA];exact h1.mono (fun b hb=>⟨.inl hb,rfl⟩) (fun b _=>rfl)
  have hd:ah w (Zt C w S.nx Fs id ks b G) D (arr.toList.drop (off+ti.size)) FD:=by
   rw[List.drop_drop,hA] at h4
   rw[t2]
   exact h4.mono (fun b hb=>⟨.inl hb,rfl⟩) (fun b _=>rfl)
  have nv:ah w (Zt C w S.nx Fs id ks b G) B' (a.eval x).cells.toList Fv:=hv.mono (fun b hb=>⟨Xs b hb,rfl⟩) (fun b _=>rfl)
  exact ah.append ha (by rw[List.length_take,Array.length_toList];omega) (ah.append nv (by rw[Array.length_toList];omega) hd)
 have UU: ∃F',ah w (Zt C w S.nx Fs id ks b F') r'.cells (arr.toList.take off++((a.eval x).cells.toList++arr.toList.drop (off+ti.size))) F' /\ ∀b',F' b' +f1 b b' <=Fs id b' +cE Fs ks b':=by
  cases own with
  |true=>rw[Xr rfl];exact ⟨G,pF,hG⟩
  |false=>
   rw[Ul rfl]
   refine ⟨fz,pF.eb (fun b' hb=> ?_) (fun b' hb=> .inr ⟨?_,rfl,?_⟩),fun b'=> ?_⟩
   ·rcases hb with hb| ⟨k1,_,k3⟩
    ·exact .inl hb
    ·exact .inr ⟨k1,rfl,k3⟩
   ·have:=hG b';omega
   ·rintro rfl;omega
   ·have:=hG b';simp;omega
 obtain ⟨F',k1,k2⟩:=UU
 rw[List.append_assoc] at km
 refine Out.stored ho km (aQ.Dt h ks sA.1 (fun k hk=>by obtain ⟨e,v,r,hh⟩:=sA.2 k hk;rw[hh];simp) Du aj hρ g1 e' sw r' F' ?_ k2 (by have:=ND b;simp at this;omega) hlen ?_ (hl _))
 ·simpa using k1
 ·have e1:(arr.toList.take off++((a.eval x).cells.toList++arr.toList.drop (off+ti.size))).length=arr.size:=by
   simp only[List.length_append,List.length_take,List.length_drop,Array.length_toList,TH,t2]
   omega
  rw[List.size_toArray,e1]
  exact qy
end
section
variable {P:Program} {tt:TT} {C:Cx} {S:St} {a:Act} {w:World} {ρ:Place} {Fs:Nat->FP} {n:Nat}
theorem tR (T:kQ P tt) {t:Nat} {e:TE} (h:tt t=some e): ∃i,P.info? t=some i/\i.size=e.size:=by
 obtain ⟨i,i1,i2,_⟩:=(T t e h).zz
 exact ⟨i,i1,i2⟩
theorem IY {r:Row} (h:r.deep=false) (f:Nat):r.jA f=false:=by
 cases hs:r.jA f with
 |false=>rfl
 |true=>rw[wY hs] at h;cases h
theorem PG {α:Type} (l:List α) (i:Nat) (h:i<l.length):l=l.take i++([l[i]]++l.drop (i+1)):=by
 rw[List.singleton_append,List.getElem_cons_drop,List.take_append_drop]
theorem w8 {α:Type} (l:List α) (i:Nat) (h:i<l.length):(l.take i).length=i:=by simp;omega
theorem mJ {α:Type} (l:List α) (i:Nat) (y:α) (h:i<l.length):l.set i y=l.take i++(y::l.drop (i+1)):=by
 rw[List.set_eq_take_append_cons_drop,if_pos h]
theorem zJ (T:kQ P tt) (h:aQ C S a w ρ Fs) {o:Oper} {t:Nat} {p x:Operand} (ho:o.op= .store t p x) {id i:Nat} (hp:St.rd C.N S.sl p= .one (.l (.oG id i 0))) {root:aq} (aj:S.hp id=some root) {own:Bool} {l:List (List Int)} (hr:root.row? =some (.rows own l)) (hs:cQ tt t=true)
 {c:Cell} (PH:fN w (C.ZL w (ar S.nx Fs)) (ρ id) ((Row.rows own l).cells.set i c) l.length 1 (Fs id))
 {y:LV} (hx:St.rd C.N S.sl x= .one (.l y)) {o':Bool} {z:List Int} {ks:List Nat} (he:n9 S.hp y=some (o',z,ks)) (Du:id∉ks) (e' sw:Nat)
 (hl: ∀w',u9 w w' (ρ id) root (.row e' sw (.rows (own&&o') (l.set i z)))) {nx:Nat} {rl rc:List Nat}: ∃w' ρ' Fs' u,Out P C S o ⟨.l .undef,cF ks++[(id,some (.row e' sw (.rows (own&&o') (l.set i z))))],nx,rl,rc⟩ a w w' ρ' Fs' u:=by
 obtain ⟨fJ,qW⟩:=fP h hp
 obtain ⟨r1,e1,hi,b,cap,hρ,JR⟩:=qW _ aj
 rw[hr] at e1;cases e1
 simp only[Cx.env,Row.len,Row.size,Nat.mul_one,Nat.add_zero] at hρ hi JR
 obtain ⟨F1,k1,k2,k3,k4,k5⟩:=pq h.mem (Sub.refl _) he (fP h hx)
 rcases PH with ⟨_,h0,_⟩| ⟨b',nr,arr,ty,F,g1,g2,g3,g4,g5,g6⟩
 ·omega
 rw[hρ] at g1;cases g1
 have g7:F b=0:=by
  have t1:=iz Fs b (cz h.mem aj)
  have t2:=h.mem.one b
  rw[g6] at t1
  simp at t1
  omega
 obtain ⟨ti,t1,t2⟩:=tQ T hs
 have sB:(Row.rows own l).cells.length=l.length:=by simp[Row.cells]
 have L0:=mJ (Row.rows own l).cells i c (by omega)
 rw[L0] at g5
 have ke:=mI k5
 refine w7 T h ho JR aj hρ g2 g6 g7 k3 Du (A:=(Row.rows own l).cells.take i) (B:=[c]) (D:=(Row.rows own l).cells.drop (i+1)) (B':=[.sl o' z]) g5 (w8 _ _ (by omega)) rfl t1 (by rw[t2];rfl) (by rw[ke];rfl) (fun u hu=>by rw[ke] at hu;simp at hu;subst hu;exact k5) (by rw[ke];exact zF k1) k2 (own&&o') _ sw e'
  (fun hh=> ?_) (fun _=> ?_) (by simp only[Row.len,List.length_set];exact g3) (by simpa[Row.size] using g4) hl
 ·obtain ⟨rfl,rfl⟩:=az hh
  show (l.set i z).map _=_
  rw[mJ l i z hi]
  simp[Row.cells,List.map_take,List.map_drop]
 ·show (l.set i z).map _=_
  rw[mJ l i z hi]
  rename_i hf
  simp[Row.cells,List.map_take,List.map_drop,Cell.eb,Function.comp_def,hf]
theorem Fe (T:kQ P tt) (h:aQ C S a w ρ Fs) {o:Oper} {t:Nat} {p x:Operand} (ho:o.op= .store t p x) {id ver i f j e:Nat} {l:List (List Int)} {z:Int} (hp:St.rd C.N S.sl p= .one (.l (.wT id ver i f j))) (aj:S.hp id=some (.row e ver (.rows true l))) (hs:cQ tt t=true) (hx:St.rd C.N S.sl x= .one (.l (.i .i64 z))) {nx:Nat} {rl rc:List Nat}:
 ∃w' ρ' Fs' u,Out P C S o ⟨.l .undef,[(id,some (.row e ver (.rows true (l.set i ((l.getD i []).set j z)))))],nx,rl,rc⟩ a w w' ρ' Fs' u:=by
 obtain ⟨fJ,qW⟩:=fP h hp
 obtain ⟨_,_,Ez⟩:=qW _ aj
 obtain ⟨k1,k2,k3,A0,n0,NE,k4,JR⟩:=Ez e _ rfl
 have hv:a.eval x= .int .i64 z:=fP h hx
 simp only[Row.jA] at k1
 have Dv:=eq_of_beq k1
 subst Dv
 simp only[Row.len] at k2
 have Mi:l.getD i [] =l[i]:=by simp[k2]
 simp only[dm,Mi] at k3
 simp only[Row.size,Nat.mul_one,Nat.add_zero,Cx.env] at k4
 cases hρ:ρ id with
 |none=>rw[hρ] at k4;cases k4
 |some q=>
  obtain ⟨b,cap⟩:=q
  rw[hρ] at k4
  obtain ⟨arr,ty,F,g1,g2,g3,g4,g5,g6⟩:=nF h.mem aj hρ (by simp only[Row.len];omega)
  simp only[cellAt] at k4
  rw[bJ g1] at k4
  have sB:(Row.rows true l).cells.length=l.length:=by simp[Row.cells]
  have np:=PG (Row.rows true l).cells i (by omega)
  have Xt:(Row.rows true l).cells[i]'(by omega)= .sl true l[i]:=by simp[Row.cells]
  rw[Xt] at np
  have Sv:=g4.length
  simp only[Array.length_toList] at Sv
  have has:=PG arr.toList i (by simp;omega)
  have Qe:=g4
  rw[np] at Qe
  obtain ⟨FA,F2,s1,s2,s3⟩:=ah.split Qe
  obtain ⟨FB,FD,s4,s5,s6⟩:=ah.split s2
  have Sw:((Row.rows true l).cells.take i).length=i:=w8 _ _ (by omega)
  rw[Sw] at s1 s4 s5
  have VS:arr.toList[i]'(by simp;omega)= .slice (some A0) n0 NE:=by
   have:arr.toList[i]? =some (.slice (some A0) n0 NE):=by simpa using k4
   exact (List.getElem?_eq_some_iff.1 this).2
  have Sx:arr.toList.drop i= .slice (some A0) n0 NE::arr.toList.drop (i+1):=by
   rw[<- VS,List.getElem_cons_drop]
  rw[Sx] at s4 s5
  simp only[List.length_singleton,List.take_succ_cons,List.take_zero,List.drop_succ_cons,List.drop_zero] at s4 s5
  obtain ⟨G1,G2,r1,r2,r3⟩:=s4
  have Xu:G2=fz:=r2
  subst Xu
  rw[b_] at r3
  subst r3
  rcases r1 with ⟨_,LC,_⟩| ⟨b2,wz,sx,Kk,q1,q2,q3,q4,q5,q6⟩
  ·rw[LC] at k3;simp at k3
  simp only[Value.slice.injEq,Option.some.injEq] at q1
  obtain ⟨rfl,rfl,rfl⟩:=q1
  obtain ⟨ti,t1,t2⟩:=tQ T hs
  rw[dr,Nat.zero_add] at JR
  have km:=zI (P:=P) t1 t2 q2 (o:=j) (v:=a.eval x) (by rw[hv];rfl) (by omega)
  rw[<- JR] at km
  have PI: ∀b',F b' =FA b' +(f1 b2 b' +FD b'):=fun b'=>by rw[s3,s6,q6];simp
  have ke: ∀b',Fs id b' <=1:=fun b'=>Nat.le_trans (iz Fs b' (cz h.mem aj)) (h.mem.one b')
  have Ki:Fs id b2=1:=by
   have h1:=ke b2
   have h2:=PI b2
   have h3:Fs id b2=f1 b b2+F b2:=by rw[g5];rfl
   simp at h2
   omega
  have mg:b≠b2:=by
   rintro rfl
   have h2:=PI b
   simp at h2
   omega
  have P2:FA b2=0/\FD b2=0:=by
   have h2:=PI b2
   have h3:Fs id b2=f1 b b2+F b2:=by rw[g5];rfl
   simp at h2
   omega
  have Sy: ∀i' f',(dm (.rows true (l.set i ((l.getD i []).set j z))) i' f').length=(dm (.rows true l) i' f').length:=fun i' f'=>by
   simp only[dm,List.getD_eq_getElem?_getD,List.getElem?_set]
   by_cases ei:i=i'
   ·subst ei;simp[k2]
   ·simp[ei]
  have:=h.Nw [] (by simp) (by simp) id (by simp) _ (.row e ver (.rows true (l.set i ((l.getD i []).set j z)))) aj (Fs id) (w.setRow b2 (sx.toList.set j (a.eval x)).toArray) (setRow_size ..) rfl rfl rfl
   (fun b' nv h0=>setRow_other w b2 _ (by rintro rfl;omega)) (fun b'=>by simp[cE]) ⟨by simp[Row.len],rfl,Nat.le_refl _,fun _=>rfl,fun _ _=>⟨Sy,fun b' nr hq=>by rw[hρ] at hq;cases hq;exact setRow_other w b2 _ mg⟩⟩
   (fun M=>by
     have VT: ∀ {cs:List Cell} {vs:List Value} {G:FP},ah w (C.ZL w (ar S.nx Fs)) cs vs G->G b2=0->ah (w.setRow b2 (sx.toList.set j (a.eval x)).toArray) (C.ZL (w.setRow b2 (sx.toList.set j (a.eval x)).toArray) (ar S.nx (eU (cS Fs []) id (Fs id)))) cs vs G:=fun hc hG=>
      hc.mono (fun b' nv=>M.zl b' nv) (fun b' nv=>setRow_other w b2 _ (by rintro rfl;omega))
     refine .inr ⟨b,cap,arr,ty,F,hρ,by rw[show (C.env (w.setRow b2 (sx.toList.set j (a.eval x)).toArray) ρ (eA S.hp (cF []++[(id,some (.row e ver (.rows true (l.set i ((l.getD i []).set j z)))))])) S.nx (eU (cS Fs []) id (Fs id))).w=w.setRow b2 (sx.toList.set j (a.eval x)).toArray from rfl,setRow_other w b2 _ mg];exact g1,by simp only[Row.len,List.length_set];exact g2,g3,?_,g5⟩
     have UW:(Row.rows true (l.set i ((l.getD i []).set j z))).cells=(Row.rows true l).cells.take i++([.sl true (l[i].set j z)]++(Row.rows true l).cells.drop (i+1)):=by
      show (l.set i _).map _=_
      rw[mJ l i _ k2,Mi]
      simp[Row.cells,List.map_take,List.map_drop]
     rw[UW,has,VS]
     have N_:F=cn FA (cn (f1 b2) FD):=by rw[s3,s6,q6]
     rw[N_]
     refine ah.append (VT s1 P2.1) (by rw[Sw];simp;omega) (ah.append (F:=f1 b2) ?_ rfl (VT s5 P2.2))
     refine ⟨f1 b2,fz,.inr ⟨b2,NE,(sx.toList.set j (a.eval x)).toArray,Kk,by simp,setRow_heap w b2 sx _ Kk _ q2,by simp;exact q3,by simp;exact q4,fun j' n' FH=> ?_,rfl⟩,rfl,(b_ _).symm⟩
     rw[List.getElem?_set] at FH
     simp only[List.getElem?_toArray,List.getElem?_set]
     by_cases ej:j=j'
     ·subst ej
      rw[if_pos rfl] at FH ⊢
      have US:j<sx.toList.length:=by simp;omega
      simp only[k3,if_true,Option.some.injEq] at FH
      subst FH
      simp[US,hv]
      omega
     ·rw[if_neg ej] at FH ⊢
      simpa using q5 j' n' FH)
  exact Out.stored ho km this
theorem Bg (T:kQ P tt) (h:aQ C S a w ρ Fs) {o:Oper} {t:Nat} {p x:Operand} (ho:o.op= .store t p x) {E:fR} (he:mC (R:=fR) tt S.hp n t (St.rd C.N S.sl p) (St.rd C.N S.sl x) some=some E): ∃w' ρ' Fs' u,Out P C S o E a w w' ρ' Fs' u:=by
 unfold mC at he
 split at he
 ·rename_i id k hp
  split at he
  ·rename_i bt cells xs aj vr
   obtain ⟨h1,he⟩:=ai he
   obtain ⟨h2,he⟩:=ai he
   cases he
   obtain ⟨h1,h3⟩:=az h1
   rw[H0 xs cells k (of_decide_eq_true h2)]
   exact Fc T h ho hp aj vr (eq_of_beq h1) (by simpa[Nat.blt_eq] using h3) (of_decide_eq_true h2)
  ·cases he
 ·rename_i id i f hp
  split at he
  ·rename_i te DO
   split at he
   ·rename_i bt ver r aj
    obtain ⟨hc,he⟩:=ai he
    split at he
    ·rename_i r' ks bump iq
     cases my:ks.elem id with
     |true=>rw[my] at he;cases he
     |false=>
      rw[my] at he
      cases he
      have Du:id∉ks:=fun hh=>by rw[List.elem_iff.2 hh] at my;cases my
      obtain ⟨fJ,qW⟩:=fP h hp
      obtain ⟨r1,e1,hi,b,cap,hρ,JR⟩:=qW _ aj
      cases e1
      simp only[Cx.env] at hρ
      have L1:cZ tt t=false->cQ tt t=true/\f<r.size:=fun hs=>by
       rw[hs] at hc
       obtain ⟨h1,h2⟩:=az hc
       exact ⟨h1,by simpa[Nat.blt_eq] using h2⟩
      have L2:cZ tt t=true->te.size=r.size/\f=0/\r.n8=true:=fun hs=>by
       rw[hs] at hc
       obtain ⟨h1,h2⟩:=az hc
       obtain ⟨h3,h4⟩:=az h1
       exact ⟨eq_of_beq h3,eq_of_beq h4,h2⟩
      cases r with
      |ints k l=>
       have PJ:cZ tt t=false:=by
        cases hq:cZ tt t with
        |false=>rfl
        |true=>have:=(L2 hq).2.2;cases this
       obtain ⟨hs,hf⟩:=L1 PJ
       simp only[Row.size] at hf
       have Dv:f=0:=by omega
       subst Dv
       simp only[Row.len] at hi
       simp only[ki] at iq
       split at iq
       ·rename_i k' z hx
        obtain ⟨hk,iq⟩:=ai iq
        have hk:=of_decide_eq_true hk
        subst hk
        simp only[Option.some.injEq,Prod.mk.injEq] at iq
        obtain ⟨rfl,rfl,rfl⟩:=iq
        have hv:a.eval x= .int k z:=fP h hx
        exact pt T h ho hp aj hs (by simp[Row.size]) (.sc (.int k z)) (.ints k (l.set i z)) ver bt (by simp[Row.cells,Row.size,List.map_set]) ⟨.int k l[i],by simp[Row.cells,Row.size,hi]⟩ ⟨hv,rfl⟩ (by rw[hv];rfl) (by simp[Row.len]) rfl (fun w'=>l_ (by simp[Row.len]) rfl (Nat.le_refl _) (fun _=>rfl) (fun _=>rfl))
       ·cases iq
      |cx l=>
       have PJ:cZ tt t=false:=by
        cases hq:cZ tt t with
        |false=>rfl
        |true=>have:=(L2 hq).2.2;cases this
       obtain ⟨hs,hf⟩:=L1 PJ
       simp only[Row.size] at hf
       have Dv:f=0:=by omega
       subst Dv
       simp only[Row.len] at hi
       simp only[ki] at iq
       split at iq
       ·rename_i z hx
        simp only[Option.some.injEq,Prod.mk.injEq] at iq
        obtain ⟨rfl,rfl,rfl⟩:=iq
        have hv:a.eval x= .bool z:=fP h hx
        exact pt T h ho hp aj hs (by simp[Row.size]) (.sc (.bool z)) (.cx (l.set i z)) ver bt (by simp[Row.cells,Row.size,List.map_set]) ⟨.bool l[i],by simp[Row.cells,Row.size,hi]⟩ ⟨hv,rfl⟩ (by rw[hv];rfl) (by simp[Row.len]) rfl (fun w'=>l_ (by simp[Row.len]) rfl (Nat.le_refl _) (fun _=>rfl) (fun _=>rfl))
       ·cases iq
      |strs l=>
       have PJ:cZ tt t=false:=by
        cases hq:cZ tt t with
        |false=>rfl
        |true=>have:=(L2 hq).2.2;cases this
       obtain ⟨hs,hf⟩:=L1 PJ
       simp only[Row.size] at hf
       have Dv:f=0:=by omega
       subst Dv
       simp only[Row.len] at hi
       simp only[ki] at iq
       split at iq
       ·rename_i z hx
        simp only[Option.some.injEq,Prod.mk.injEq] at iq
        obtain ⟨rfl,rfl,rfl⟩:=iq
        have hv:a.eval x= .string z:=fP h hx
        exact pt T h ho hp aj hs (by simp[Row.size]) (.sc (.string z)) (.strs (l.set i z)) ver bt (by simp[Row.cells,Row.size,List.map_set]) ⟨.string l[i],by simp[Row.cells,Row.size,hi]⟩ ⟨hv,rfl⟩ (by rw[hv];rfl) (by simp[Row.len]) rfl (fun w'=>l_ (by simp[Row.len]) rfl (Nat.le_refl _) (fun _=>rfl) (fun _=>rfl))
       ·cases iq
      |rows own l=>
       have PJ:cZ tt t=false:=by
        cases hq:cZ tt t with
        |false=>rfl
        |true=>have:=(L2 hq).2.2;cases this
       obtain ⟨hs,hf⟩:=L1 PJ
       simp only[Row.size] at hf
       have Dv:f=0:=by omega
       subst Dv
       simp only[Row.len] at hi
       simp only[ki] at iq
       split at iq
       ·rename_i y hx
        split at iq
        ·rename_i o' z ks' PK
         simp only[Option.some.injEq,Prod.mk.injEq] at iq
         obtain ⟨rfl,rfl,rfl⟩:=iq
         have Jy:=h.mem.roots id _ aj
         simp only[gJ,Cx.env] at Jy
         have pI:(Row.rows own l).cells.set i (.sl own l[i])=(Row.rows own l).cells:=by
          have:(Row.rows own l).cells[i]? =some (.sl own l[i]):=by simp[Row.cells,hi]
          apply List.ext_getElem?
          intro j
          rw[List.getElem?_set]
          by_cases e:i=j
          ·subst e;rw[if_pos rfl,this,if_pos (List.getElem?_eq_some_iff.1 this).1]
          ·rw[if_neg e]
         exact zJ T h ho hp aj rfl hs (c:= .sl own l[i]) (by rw[pI];exact Jy) hx PK Du bt (ver+1) (fun w'=>l_ (by simp[Row.len]) rfl (Nat.le_succ _) (fun _=>rfl) (fun hh=>by omega))
        ·cases iq
       ·cases iq
      |cB sg own l=>
       simp only[Row.len] at hi
       have L0:l=l.take i++([l[i]]++l.drop (i+1)):=PG l i hi
       have hA:((l.take i).flatMap fun r=>bn own r 0 sg).length=i*sg.length:=by
        rw[ng _ sg.length (fun r=>cb ..),w8 l i hi]
       simp only[ki] at iq
       split at iq
       ·rename_i xs hx
        obtain ⟨HR,iq⟩:=ai iq
        split at iq
        ·rename_i o' z ks' PK
         simp only[Option.some.injEq,Prod.mk.injEq] at iq
         obtain ⟨rfl,rfl,rfl⟩:=iq
         obtain ⟨mb,Dv,_⟩:=L2 HR
         subst Dv
         simp only[Row.size] at mb
         obtain ⟨arr,ty,F,g1,g2,g3,g4,g5,g6⟩:=nF h.mem aj hρ (by simp only[Row.len];omega)
         have hv:eE (C.env w ρ S.hp S.nx Fs) (.one (.agg xs)) (a.eval x):=by have:=h.rd x;rwa [hx] at this
         obtain ⟨us,Su,hrel⟩:=hv
         obtain ⟨Fv,v1,v2,v3,v4,v5⟩:=sS h.mem sg _ xs us o' z ks' (Sub.refl _) PK hrel
         obtain ⟨ti,t1,t2⟩:=tR T DO
         have np:(Row.cB sg own l).cells=((l.take i).flatMap fun r=>bn own r 0 sg)++(bn own l[i] 0 sg++((l.drop (i+1)).flatMap fun r=>bn own r 0 sg)):=by
          refine (congrArg (List.flatMap fun r=>bn own r 0 sg) L0).trans ?_
          simp only[List.flatMap_append,List.flatMap_cons,List.flatMap_nil,List.append_nil]
         rw[np] at g4
         have PL:(a.eval x).cells.toList=us:=by rw[Su];simp[Value.cells]
         have Kh:(a.eval x).cells.size=sg.length:=by rw[<- Array.length_toList,PL,v4]
         exact w7 T h ho JR aj hρ g1 g5 g6 v3 Du (A:=(l.take i).flatMap fun r=>bn own r 0 sg) (B:=bn own l[i] 0 sg) (D:=(l.drop (i+1)).flatMap fun r=>bn own r 0 sg) (B':=bn o' z 0 sg) g4 (by rw[hA];rfl) (by rw[cb,cb]) t1 (by rw[t2,mb,cb]) (by rw[Kh,cb]) (by rw[PL];exact v5) (by rw[PL];exact v1) v2 (own&&o') (.cB sg (own&&o') (l.set i z)) (ver+1) bt
          (fun hh=>by
            obtain ⟨rfl,rfl⟩:=az hh
            show (l.set i z).flatMap _=_
            rw[mJ l i z hi]
            simp)
          (fun hh=>by
            rw[hh]
            show (l.set i z).flatMap _=_
            rw[mJ l i z hi]
            simp[List.map_flatMap,jS])
          (by simp only[Row.len,List.length_set];exact g2) g3 (fun w'=>l_ (by simp[Row.len]) rfl (Nat.le_succ _) (fun _=>rfl) (fun hh=>by omega))
        ·cases iq
       ·rename_i z hx
        cases HR:cZ tt t with
        |true=>rw[HR] at iq;cases iq
        |false=>
         rw[HR] at iq
         simp only[cond_false] at iq
         obtain ⟨hs,hf⟩:=L1 HR
         simp only[Row.size] at hf
         split at iq
         ·rename_i R3
          simp only[Option.some.injEq,Prod.mk.injEq] at iq
          obtain ⟨rfl,rfl,rfl⟩:=iq
          have hv:a.eval x= .int .i64 z:=fP h hx
          have Tw:l[i]? =some l[i]:=List.getElem?_eq_getElem hi
          have Mi:l.getD i [] =l[i]:=by simp[hi]
          refine pt T h ho hp aj hs hf (.sc (.int .i64 z)) (.cB sg own (l.set i (qT sg (l.getD i []) f (.int z)))) (ver+1) bt ?_ ?_ ⟨hv,rfl⟩ (by rw[hv];rfl) (by simp[Row.len]) rfl (fun w'=>l_ (by simp[Row.len]) rfl (Nat.le_succ _) (fun _=>rfl) (fun hh=>by omega))
          ·simp only[Row.cells,Row.size]
           refine ql (fun r=>bn own r 0 sg) sg.length (fun r=>cb ..) f hf _ _ l i l[i] Tw ?_
           rw[Mi]
           exact sL own sg l[i] f (.int z) _ ⟨false,R3,rfl⟩
          ·have:=ov sg own l i f hf
           rw[Tw,R3] at this
           exact ⟨_,this⟩
         ·cases iq
       ·cases iq
    ·cases he
   ·rename_i bt ver l i' f' aj
    replace he:=ai he
    obtain ⟨hc,he⟩:=he
    obtain ⟨Dv,hs⟩:=az hc
    have Dv:=eq_of_beq Dv
    replace he:=dW he
    obtain ⟨UX,he⟩:=he
    have UX:=eq_of_beq UX
    subst Dv UX
    split at he
    ·rename_i y hx
     split at he
     ·rename_i z ks my
      cases Dw:ks.elem id with
      |true=>rw[Dw] at he;cases he
      |false=>
       rw[Dw] at he
       cases he
       have Du:id∉ks:=fun hh=>by rw[List.elem_iff.2 hh] at Dw;cases Dw
       have Jy:=h.mem.roots id _ aj
       obtain ⟨h1,h2,h3⟩:=Jy
       simp only[Row.size] at h2
       have Dv:f' =0:=by omega
       subst Dv
       simp only[Row.size,Nat.mul_one,Nat.add_zero,Cx.env] at h3
       exact zJ T h ho hp aj rfl hs (c:= .free) h3 hx my Du bt (ver+1) (fun w'=>⟨by simp[Row.len],rfl,Nat.lt_succ_self _⟩)
     ·cases he
    ·cases he
   ·cases he
  ·cases he
 ·rename_i id m hp
  split at he
  ·rename_i k e sz bs hq
   split at he
   ·rename_i bt ver r xs r0 aj hx DQ
    replace he:=ai he
    obtain ⟨hc,he⟩:=he
    obtain ⟨hc,c9⟩:=az hc
    obtain ⟨hc,c8⟩:=az hc
    obtain ⟨hc,c7⟩:=az hc
    obtain ⟨hc,c6⟩:=az hc
    obtain ⟨hc,c5⟩:=az hc
    obtain ⟨hc,c4⟩:=az hc
    obtain ⟨c2,c3⟩:=az hc
    have c2:=eq_of_beq c2
    have c3:=eq_of_beq c3
    have c4:=eq_of_beq c4
    have c6:=eq_of_beq c6
    have c8:=eq_of_beq c8
    have c9:0<k:=by simpa[Nat.blt_eq] using c9
    have c5:r0.deep=false:=by simpa using c5
    have c7:r.deep=false:=by simpa using c7
    split at he
    ·rename_i r' me
     cases he
     obtain ⟨fJ,qW⟩:=fP h hp
     obtain ⟨r1,e1,KL,b,cap,hρ,JR⟩:=qW _ aj
     cases e1
     simp only[Cx.env] at hρ
     obtain ⟨arr,ty,F,g1,g2,g3,g4,g5,g6⟩:=nF h.mem aj hρ (by omega)
     unfold LH at me
     split at me
     ·rename_i r2 Xv
      simp only[Option.some.injEq] at me
      subst me
      have hv:eE (C.env w ρ S.hp S.nx Fs) (.one (.agg xs)) (a.eval x):=by have:=h.rd x;rwa [hx] at this
      obtain ⟨us,Su,hrel⟩:=hv
      have Sz: ∀(xs:List LV) (us:List Value),aY (C.env w ρ S.hp S.nx Fs) xs us->eV (C.env w ρ S.hp S.nx Fs) (xs.map fun x=> .l x) us:=by
       intro xs
       induction xs with
       |nil=>intro us hh;cases us<;>exact hh
       |cons y ys ih=>intro us hh;cases us with
        |nil=>exact hh
        |cons u us=>exact ⟨hh.1,ih us hh.2⟩
      have JF:Sub (fun _=>none) S.hp:=fun j r hj=>by cases hj
      obtain ⟨Fv,v1,v2,v3,v4,v5,v6,v7,v8,v9,v10⟩:=xH h.mem _ us _ r0 r2 [] JF (ja DQ) Xv (Sz xs us hrel)
      have UR:r0.n8=false:=by cases r0<;>first|rfl| (simp[Row.deep] at c5;done)
      have ke: ∀u∈us,u.cells= #[u]:=fun u hu=>mI (v10 UR u hu)
      have Ry:flat us=us:=by
       have: ∀l:List Value,(∀u∈l,u.cells= #[u])->flat l=l:=by
        intro l
        induction l with
        |nil=>intro _;rfl
        |cons u l ih=>intro hl;rw[kL,hl u (by simp),ih (fun q hq=>hl q (by simp[hq]))];rfl
       exact this us ke
      rw[Ry] at v1 v8
      have hdd:r2.deep=false/\r2.size=1:=⟨by rw[v9];exact c5,by rw[v5];exact c4⟩
      obtain ⟨ti,t1,t2⟩:=tR T hq
      have Xw:ti.size=k:=by rw[t2,<- c8];simp[bh,hq]
      have PL:(a.eval x).cells.toList=us:=by rw[Su];simp[Value.cells]
      have Xx:us.length=k:=by rw[v7,List.length_map,c2]
      have Xy:r.cells.length=k:=by rw[Row.dn,c6,KL,c3,Nat.mul_one]
      have Xz:r2.cells.length=k:=by rw[Row.dn,hdd.2,v4,List.length_map,c2,Nat.mul_one]
      have Kh:(a.eval x).cells.size=k:=by rw[<- Array.length_toList,PL,Xx]
      exact w7 T h ho JR aj hρ g1 g5 g6 (jR.nil _) (by simp) (A:=[]) (B:=r.cells) (D:=[]) (B':=r2.cells) (ks:=[]) (by simpa using g4) rfl (by omega) t1 (by omega) (by omega) (by rw[PL];exact v8) (by rw[PL];exact v1) v2 true r2 (ver+1) bt (fun _=>by simp) (fun hh=>by cases hh) (by rw[v4,List.length_map];omega) (by rw[hdd.2];rw[c6] at g3;exact g3)
       (fun w'=>l_ (by rw[v4,List.length_map];omega) (by rw[hdd.2,c6]) (Nat.le_succ _) (fun f=>by rw[IY c7,IY hdd.1]) (fun hh=>by omega))
     ·cases me
    ·cases he
   ·cases he
  ·cases he
 ·rename_i id ver i f j hp
  split at he
  ·rename_i bt v' r z aj hx
   replace he:=ai he
   obtain ⟨hc,he⟩:=he
   obtain ⟨h1,h2⟩:=az hc
   have h1:=eq_of_beq h1
   subst h1
   split at he
   ·rename_i r' me
    cases he
    cases r with
    |rows own l=>
     cases own with
     |false=>cases me
     |true=>
      simp only[EV,Option.some.injEq] at me
      subst me
      exact Fe T h ho hp aj h2 hx
    |_=>cases me
   ·cases he
  ·cases he
 ·cases he
end
section
variable {P:Program} {tt:TT} {C:Cx} {S:St} {a:Act} {w:World} {ρ:Place} {Fs:Nat->FP} {n:Nat}
def Zx (C:Cx) (w:World) (nx:Nat) (Fs:Nat->FP) (ks:List Nat) (X:Nat) (F:FP):Zs:=fun b'=>C.ZL w (ar nx Fs) b' \/(1<=cE Fs ks b' /\F b' =0/\b' ≠X)
theorem xK {ks:List Nat} {X:Nat} {cs ct cf:List Cell} {vs:List Value} {F:FP} (h:ah w (C.ZL w (ar S.nx Fs)) cs vs F) (hF: ∀b,F b<=cE Fs ks b) (hX:F X=0) (o:Bool) (h1:o=true->ct=cs) (h2:o=false->cf=cs.map Cell.eb): ∃F',ah w (Zx C w S.nx Fs ks X F') (if o then ct else cf) vs F' /\(∀b,F' b<=cE Fs ks b)/\F' X=0:=by
 cases o with
 |true=>rw[h1 rfl];exact ⟨F,h.mono (fun b hb=>⟨.inl hb,rfl⟩) (fun b _=>rfl),hF,hX⟩
 |false=>
  rw[h2 rfl]
  refine ⟨fz,h.eb (fun b hb=> .inl hb) (fun b' hb=> .inr ⟨Nat.le_trans hb (hF b'),rfl,?_⟩),fun b=>by simp,rfl⟩
  rintro rfl;omega
theorem aQ.L3 (h:aQ C S a w ρ Fs) (hg:S.hp n=some .dH) (ks:List Nat) (sA:ks.Nodup) (jX: ∀k∈ks,∃r,S.hp k=some r/\r.real) (X cap:Nat) (arr:Array Value) (ty:TypeId) (e:Nat) (r:Row) (F:FP) (w':World)
 (hX:(X=w.heap.size/\w'.heap.size=w.heap.size+1)\/(1<=cE Fs ks X/\w'.heap.size=w.heap.size)) (oP: ∀b,b<w.heap.size->b≠X->w'.heap[b]? =w.heap[b]?) (gW:w'.heap[X]? =some (.cells arr ty (0,0))) (JO:w'.os=w.os) (JP:w'.tape=w.tape) (wZ:w'.output=w.output)
 (hc:ah w (Zx C w S.nx Fs ks X F) r.cells arr.toList F) (hF: ∀b,F b<=cE Fs ks b) (TI:F X=0) (h1:r.len<=cap) (h2:cap*r.size<=arr.size):
 aQ C ⟨S.sl,eA S.hp (cF ks++[(n,some (.row e 0 r))]),S.nx⟩ a w' (gq ρ n (some (X,cap))) (eU (cS Fs ks) n (cn (f1 X) F)):=by
 have hk: ∀k∈ks,k<S.nx:=fun k h'=>by
  obtain ⟨r,k1,_⟩:=jX k h'
  exact cz h.mem k1
 have own: ∀b,1<=cE Fs ks b->b<w.heap.size/\(C.w0.heap.size<=b\/1<=C.F0 b):=fun b hb=>h.mem.nW b (Nat.le_trans hb (jM Fs b S.nx sA hk))
 refine h.make hg ks sA jX (.row e 0 r) (some (X,cap)) _ w' (by rcases hX with ⟨_,h⟩| ⟨_,h⟩<;>omega) JO JP wZ (fun b hb h0=>oP b hb ?_) (fun b=> ?_) (fun M=> ?_)
 ·rintro rfl
  rcases hX with ⟨h,_⟩| ⟨h,_⟩<;>omega
 ·have:=hF b
  by_cases e:b=X
  ·subst e
   rcases hX with ⟨k1,k2⟩| ⟨k1,k2⟩
   ·rw[if_pos (by omega)];simp;omega
   ·simp;omega
  ·simp[xn,e];omega
 ·refine .inr ⟨X,cap,arr,ty,F,dT ..,gW,h1,h2,hc.mono (fun b hb=> ?_) (fun b hb=> ?_),rfl⟩
  ·rcases hb with hb| ⟨z7,Ki,Uh⟩
   ·exact M.zl b hb
   ·obtain ⟨o1,o2⟩:=own b z7
    refine ⟨.inr (.inr ⟨o2,by show b<w'.heap.size;rcases hX with ⟨_,h⟩| ⟨_,h⟩<;>omega,?_⟩),oP b o1 Uh⟩
    have g1:=en (cS Fs ks) (cn (f1 X) F) b (cz h.mem hg)
    have g2:=jN Fs b S.nx ks sA hk
    have g3:=h.mem.one b
    have g4:f1 X b=0:=by rw[xn,if_neg Uh]
    simp[g4] at g1
    omega
  ·refine oP b (own b (Nat.le_trans hb (hF b))).1 ?_
   rintro rfl;omega
theorem aQ.H2 (h:aQ C S a w ρ Fs) (hg:S.hp n=some .dH) (ks:List Nat) (sA:ks.Nodup) (jX: ∀k∈ks,∃r,S.hp k=some r/\r.real) (e:Nat) (r:Row) (hl:r.len=0) (w':World) (hw:w'.heap=w.heap) (JO:w'.os=w.os) (JP:w'.tape=w.tape) (wZ:w'.output=w.output):
 aQ C ⟨S.sl,eA S.hp (cF ks++[(n,some (.row e 0 r))]),S.nx⟩ a w' (gq ρ n none) (eU (cS Fs ks) n fz):=
 h.make hg ks sA jX (.row e 0 r) none _ w' (by rw[hw];exact Nat.le_refl _) JO JP wZ (fun b hb _=>by rw[hw]) (fun b=>by simp) (fun M=> .inl ⟨dT ..,hl,rfl⟩)
def Cell.ok:Cell->Prop
 | .sc v=>v.oneCell' =true
 | .sl _ _=>True
 | .free=>False
theorem L4 (r:Row): ∀c∈r.cells,c.ok:=by
 intro c hc
 cases r with
 |ints k l=>simp only[Row.cells,List.mem_map] at hc;obtain ⟨x,_,rfl⟩:=hc;rfl
 |cx l=>simp only[Row.cells,List.mem_map] at hc;obtain ⟨x,_,rfl⟩:=hc;rfl
 |strs l=>simp only[Row.cells,List.mem_map] at hc;obtain ⟨x,_,rfl⟩:=hc;rfl
 |rows o l=>simp only[Row.cells,List.mem_map] at hc;obtain ⟨x,_,rfl⟩:=hc;trivial
 |cB sg o l=>
  simp only[Row.cells,List.mem_flatMap] at hc
  obtain ⟨x,_,hc⟩:=hc
  obtain ⟨j,hj⟩:=List.getElem?_of_mem hc
  rw[fH] at hj
  cases hs:sg[j]? with
  |none=>rw[hs] at hj;cases hj
  |some b=>rw[hs] at hj;cases b<;>(simp at hj;subst hj)<;>first|rfl|trivial
theorem Ff {w:World} {Z:Zs} {c:Cell} {v:Value} {F:FP} (hc:c.ok) (h:dZ w Z c v F):v.oneCell' =true:=by
 cases c with
 |sc u=>obtain ⟨rfl,_⟩:=h;exact hc
 |sl o l=>obtain ⟨A,cap,hv,_⟩:=zD h;rw[hv];rfl
 |free=>exact hc.elim
theorem qY {w:World} {Z:Zs}: ∀ {cs:List Cell} {vs:List Value} {F:FP},(∀c∈cs,c.ok)->ah w Z cs vs F->vs.length<=cs.length-> ∀u∈vs,u.oneCell' =true
 | [],[],_,_,_,_,u,hu=>by cases hu
 | [],v::vs,_,_,_,hl,u,hu=>by simp at hl
 |c::cs,v::vs,F,hc,⟨F1,F2,h1,h2,hF⟩,hl,u,hu=>by
  rcases List.mem_cons.1 hu with rfl|hu
  ·exact Ff (hc c (by simp)) h1
  ·exact qY (fun c' Ir=>hc c' (by simp[Ir])) h2 (by simpa using hl) u hu
theorem uK {w:World} {Z:Zs}: ∀ {cs:List Cell} {vs:List Value} {F:FP},(∀c∈cs,(∃v,c= .sc v)\/ ∃l,c= .sl false l)->ah w Z cs vs F->F=fz
 | [],_,_,_,h=>h
 |c::cs,v::vs,F,hc,⟨F1,F2,h1,h2,hF⟩=>by
  have e2:=uK (fun c' Ir=>hc c' (by simp[Ir])) h2
  have e1:F1=fz:=by
   rcases hc c (by simp) with ⟨u,rfl⟩| ⟨l,rfl⟩
   ·exact h1.2
   ·exact h1.1
  rw[hF,e1,e2,b_]
theorem xL {w:World} {Z Z':Zs}: ∀ {cs:List Cell} {vs:List Value} {F:FP},(∀c∈cs,∃v,c= .sc v)->ah w Z cs vs F->ah w Z' cs vs F
 | [],_,_,_,h=>h
 |c::cs,v::vs,F,hc,⟨F1,F2,h1,h2,hF⟩=>by
  obtain ⟨u,rfl⟩:=hc c (by simp)
  exact ⟨F1,F2,h1,xL (fun c' Ir=>hc c' (by simp[Ir])) h2,hF⟩
def Row.loose:Row->Bool
 | .rows true _=>false
 | .cB _ true _=>false
 |_=>true
theorem xM {r:Row} (h:r.loose=true): ∀c∈r.cells,(∃v,c= .sc v)\/ ∃l,c= .sl false l:=by
 intro c hc
 cases r with
 |ints k l=>simp only[Row.cells,List.mem_map] at hc;obtain ⟨x,_,rfl⟩:=hc;exact .inl ⟨_,rfl⟩
 |cx l=>simp only[Row.cells,List.mem_map] at hc;obtain ⟨x,_,rfl⟩:=hc;exact .inl ⟨_,rfl⟩
 |strs l=>simp only[Row.cells,List.mem_map] at hc;obtain ⟨x,_,rfl⟩:=hc;exact .inl ⟨_,rfl⟩
 |rows o l=>cases o with
  |true=>cases h
  |false=>simp only[Row.cells,List.mem_map] at hc;obtain ⟨x,_,rfl⟩:=hc;exact .inr ⟨_,rfl⟩
 |cB sg o l=>cases o with
  |true=>cases h
  |false=>
   simp only[Row.cells,List.mem_flatMap] at hc
   obtain ⟨x,_,hc⟩:=hc
   obtain ⟨j,hj⟩:=List.getElem?_of_mem hc
   rw[fH] at hj
   cases hs:sg[j]? with
   |none=>rw[hs] at hj;cases hj
   |some b=>rw[hs] at hj;cases b<;>(simp at hj;subst hj)<;>first|exact .inl ⟨_,rfl⟩|exact .inr ⟨_,rfl⟩
theorem IZ (m:fY C S.hp S.nx w ρ Fs) {id e ver:Nat} {r:Row} (aj:S.hp id=some (.row e ver r)) {lo hi:Nat} (h1:lo<=hi) (h2:hi<=r.len) {tx e':TypeId} (hk:P.underlying tx=some (.slice e')):
 ∃news F,Src P r.size tx (j7 (ρ id) r.size lo hi) (hi-lo) news w/\ah w (C.ZL w (ar S.nx Fs)) ((r.take hi).drop lo).cells news F/\ ∀b,F b<=Fs id b:=by
 rcases m.roots id _ aj with ⟨g1,g2,g3⟩| ⟨b,cap,arr,ty,F',g1,g2,g3,g4,g5,g6⟩
 ·simp only[Cx.env] at g1
  have e1:lo=0:=by omega
  have e2:hi=0:=by omega
  subst e1 e2
  refine ⟨[],fz,by rw[g1];exact Src.ofNil w hk 0,?_,fun b=>by simp⟩
  rw[vk (by rw[mW,take_len];omega)]
  rfl
 ·simp only[Cx.env] at g1 g2
  obtain ⟨F1,t1,t2⟩:=g5.take (hi*r.size)
  obtain ⟨F2,t3,t4⟩:=t1.drop (lo*r.size)
  have sB:((r.take hi).drop lo).cells=(r.cells.take (hi*r.size)).drop (lo*r.size):=by rw[zB,o_,take_size]
  rw[<- sB] at t3
  have Sv:r.cells.length<=arr.size:=by have:=g5.length;simpa using this
  have KL:r.cells.length=r.len*r.size:=Row.dn r
  have Ye:hi*r.size<=r.len*r.size:=Nat.mul_le_mul_right _ h2
  have Yf:lo*r.size<=hi*r.size:=Nat.mul_le_mul_right _ h1
  have Oo:((arr.toList.take (hi*r.size)).drop (lo*r.size)).length=(hi-lo)*r.size:=by
   rw[Nat.sub_mul];simp;omega
  refine ⟨_,F2,?_,t3,fun b=> ?_⟩
  ·rw[g1]
   simp only[j7]
   refine Src.ofSlice w hk _ _ _ _ Oo (fun j u hj=> ?_) (qY (L4 _) t3 (by rw[Oo,Row.dn,mW,take_len,B5,take_size];exact Nat.mul_le_mul_right _ (by omega)))
   rw[List.getElem?_drop,List.getElem?_take] at hj
   split at hj
   ·rename_i Ch
    split
    ·rename_i hc
     exfalso
     have:hi=lo:=by omega
     subst this
     omega
    ·rw[dr,bJ g2]
     simpa using hj
   ·cases hj
  ·have:=t2 b;have:=t4 b;rw[g6];simp;omega
theorem L5 (r:Row):(r.take r.len).drop 0=r:=by
 cases r<;>simp[Row.take,Row.drop,Row.len]
theorem yo (q:Option (Nat×Nat)) (s n:Nat):j7 q s 0 n=hdr q n:=by
 cases q with
 |none=>rfl
 |some q=>obtain ⟨b,cap⟩:=q;simp only[j7,hdr,Nat.zero_mul,Nat.sub_zero];split<;>rfl
theorem NF {Z:Zs} {r:Row} {v:Value} (h:ea w Z r v) {tx e':TypeId} (hk:P.underlying tx=some (.slice e')): ∃news,Src P r.size tx v r.len news w/\ah w Z r.cells news fz:=by
 obtain ⟨A,cap,h1,h2,h3⟩:=h
 subst h1
 rcases Nat.eq_zero_or_pos r.len with h0|h0
 ·refine ⟨[],?_,by rw[vk h0];rfl⟩
  rw[h0]
  cases A with
  |none=>exact Src.ofNil w hk cap
  |some ad=>exact Src.ofSlice w hk ad 0 cap [] (by simp) (by simp) (by simp)
 ·obtain ⟨ad,rfl,hz,vs,g1,g2⟩:=h3 (by omega)
  have hl:=g2.length
  have g3:=g2.shrink
  have Oo:(vs.take r.cells.length).length=r.cells.length:=by simp;omega
  refine ⟨vs.take r.cells.length,Src.ofSlice w hk ad _ cap _ (by rw[Oo,Row.dn]) (fun j u hj=> ?_) (qY (L4 _) g3 (by omega)),g3⟩
  rw[List.getElem?_take] at hj
  split at hj
  ·rw[g1 j ‹_›];exact hj
  ·cases hj
theorem xN (m:fY C S.hp S.nx w ρ Fs) {r0:Row} {x:LV} {y:Row} {ks rc:List Nat} (he:lh S.hp r0 x=some (y,ks,rc)) (h0:r0.len=0) {tx:TypeId} (UY:(∃s,x= .s s)\/ ∃e',P.underlying tx=some (.slice e')) (wL: ∀s,x= .s s->P.underlying tx=some .string) {v:Value} (hv:dD (C.env w ρ S.hp S.nx Fs) x v):
 ∃news F,Src P y.size tx v y.len news w/\ah w (C.ZL w (ar S.nx Fs)) y.cells news F/\(∀b,F b<=cE Fs ks b)/\jR S.hp ks/\ ∀k∈ks,k∈rc:=by
 have wP:(∀s,x≠ .s s)-> ∃e',P.underlying tx=some (.slice e'):=fun hn=>by
  rcases UY with ⟨s,h⟩|h
  ·exact absurd h (hn s)
  ·exact h
 unfold lh at he
 split at he
 ·cases he
  obtain ⟨e',hk⟩:=wP (by simp)
  have hv:v= .slice none 0 0:=hv
  rw[hv,h0,vk h0]
  exact ⟨[],fz,Src.ofNil w hk 0,rfl,fun b=>by simp,jR.nil _,by simp⟩
 ·rename_i id
  obtain ⟨e',hk⟩:=wP (by simp)
  split at he
  ·rename_i e ver r aj
   obtain ⟨_,hx⟩:=hv
   obtain ⟨r',e1,e2⟩:=hx _ aj
   cases e1
   obtain ⟨news,F,s1,s2,s3⟩:=IZ (P:=P) m aj (Nat.zero_le _) (Nat.le_refl r.len) hk
   rw[yo,Nat.sub_zero] at s1
   rw[L5] at s2
   simp only[Cx.env] at e2
   rw[<- e2] at s1
   have VU:y=r->ks=[id]->rc=[id]-> ∃news F,Src P y.size tx v y.len news w/\ah w (C.ZL w (ar S.nx Fs)) y.cells news F/\(∀b,F b<=cE Fs ks b)/\jR S.hp ks/\ ∀k∈ks,k∈rc:=fun hy sA Ol=>by
    subst hy sA Ol
    exact ⟨news,F,s1,s2,fun b=>by have:=s3 b;simp[cE];exact this,⟨by simp,fun k hk=>by simp at hk;subst hk;exact ⟨_,_,_,aj⟩⟩,fun k hk=>hk⟩
   split at he
   ·cases he;exact VU rfl rfl rfl
   ·cases he;exact VU rfl rfl rfl
   ·rename_i iu qC
    cases he
    have yn:y.loose=true:=by
     cases y with
     |rows o l=>cases o<;>first|rfl|exact absurd rfl (iu _)
     |cB sg o l=>cases o<;>first|rfl|exact absurd rfl (qC _ _)
     |_=>rfl
    have hF:=uK (xM yn) s2
    subst hF
    exact ⟨news,fz,s1,s2,fun b=>by simp,jR.nil _,by simp⟩
  ·cases he
 ·rename_i id lo hi
  obtain ⟨e',hk⟩:=wP (by simp)
  split at he
  ·rename_i e ver r aj
   obtain ⟨_,hx⟩:=hv
   obtain ⟨r',e1,l1,l2,e2⟩:=hx _ aj
   cases e1
   obtain ⟨news,F,s1,s2,s3⟩:=IZ (P:=P) m aj l1 l2 hk
   simp only[Cx.env] at e2
   rw[<- e2] at s1
   have hlen:((r.take hi).drop lo).len=hi-lo:=by rw[mW,take_len];omega
   have mb:((r.take hi).drop lo).size=r.size:=by rw[B5,take_size]
   split at he
   ·cases he
   ·cases he
   ·rename_i iu qC
    cases he
    have yn:((r.take hi).drop lo).loose=true:=by
     cases r with
     |rows o l=>cases o<;>first|rfl|exact absurd rfl (iu _)
     |cB sg o l=>cases o<;>first|rfl|exact absurd rfl (qC _ _)
     |_=>rfl
    have hF:=uK (xM yn) s2
    subst hF
    rw[hlen,mb]
    exact ⟨news,fz,s1,s2,fun b=>by simp,jR.nil _,by simp⟩
  ·cases he
 ·rename_i s
  cases he
  have hv:v= .string s:=hv
  rw[hv]
  refine ⟨byteCells s,fz,?_,?_,fun b=>by simp,jR.nil _,by simp⟩
  ·have:=Src.ofString (P:=P) w (wL s rfl) s
   have hl:(Row.ints .u8 (s.data.toList.map fun b=>(b.toNat:Int))).len=s.size:=by simp[Row.len]<;>rfl
   rw[hl]
   exact this
  ·simp only[Row.cells,byteCells,List.map_map]
   generalize s.data.toList=l
   induction l with
   |nil=>rfl
   |cons b l ih=>exact ⟨fz,fz,⟨rfl,rfl⟩,ih,(b_ _).symm⟩
 ·rename_i x' iu qC tf DU
  obtain ⟨e',hk⟩:=wP (fun s hs=>DU s hs)
  split at he
  ·rename_i r Kj Ey
   cases he
   have P4:=lH m Ey hv
   obtain ⟨news,s1,s2⟩:=NF (P:=P) P4 hk
   cases x with
   |val p r'=>
    simp only[fG,Option.some.injEq,Prod.mk.injEq] at Ey
    obtain ⟨rfl,rfl⟩:=Ey
    exact ⟨news,fz,s1,s2.mono (fun b hb=>⟨(by rcases hb with hb| ⟨k,hk,_⟩<;>first|exact hb| (cases hk;done)),rfl⟩) (fun b _=>rfl),fun b=>by simp,jR.nil _,by simp⟩
   |inner id ver i f=>
    have: ∃l,y= .ints .i64 l:=by
     simp only[fG] at Ey
     split at Ey
     ·obtain ⟨_,Ey⟩:=ai Ey;cases Ey;exact ⟨_,rfl⟩
     ·obtain ⟨_,Ey⟩:=ai Ey;cases Ey;exact ⟨_,rfl⟩
     ·cases Ey
    obtain ⟨l,rfl⟩:=this
    exact ⟨news,fz,s1,xL (fun c hc=>by simp only[Row.cells,List.mem_map] at hc;obtain ⟨x,_,rfl⟩:=hc;exact ⟨_,rfl⟩) s2,fun b=>by simp,jR.nil _,by simp⟩
   |own id=>exact absurd rfl (qC id)
   |sub id lo hi=>exact absurd rfl (tf id lo hi)
   |_=>simp[fG] at Ey
  ·cases he
theorem JS {base y r:Row} (h:base.y7 y=some r):r.len=base.len+y.len/\r.size=base.size/\y.size=base.size/\ ∃o:Bool,(o=true->r.cells=base.cells++y.cells)/\(o=false->r.cells=(base.cells++y.cells).map Cell.eb):=by
 cases base<;>cases y<;>simp only[Row.y7] at h<;>try (cases h;done)
 ·replace h:=ai h
  obtain ⟨hk,h⟩:=h
  have:=of_decide_eq_true hk
  subst this
  cases h
  exact ⟨by simp[Row.len],rfl,rfl,true,fun _=>by simp[Row.cells],fun h=>by cases h⟩
 ·cases h
  exact ⟨by simp[Row.len],rfl,rfl,true,fun _=>by simp[Row.cells],fun h=>by cases h⟩
 ·cases h
  exact ⟨by simp[Row.len],rfl,rfl,true,fun _=>by simp[Row.cells],fun h=>by cases h⟩
 ·rename_i o l o' l'
  cases h
  refine ⟨by simp[Row.len],rfl,rfl,o&&o',fun hh=> ?_,fun hh=> ?_⟩
  ·obtain ⟨rfl,rfl⟩:=az hh;simp[Row.cells]
  ·simp[Row.cells,Cell.eb,Function.comp_def,hh]
 ·rename_i sg o l Oe o' l'
  replace h:=ai h
  obtain ⟨hk,h⟩:=h
  have:=eq_of_beq hk
  subst this
  cases h
  refine ⟨by simp[Row.len],rfl,rfl,o&&o',fun hh=> ?_,fun hh=> ?_⟩
  ·obtain ⟨rfl,rfl⟩:=az hh;simp[Row.cells]
  ·rw[hh];simp[Row.cells,List.map_flatMap,jS]
theorem Dx {w:World} {b o:Nat} {arr:Array Value} {ty:TypeId} (hb:w.heap[b]? =some (.cells arr ty (0,0))) {vs:List Value} (ke: ∀v∈vs,v.oneCell' =true) (C5:o+vs.length<=arr.size) (P:Program):w.setCells b o vs=w.setRow b (arr.toList.take o++vs++arr.toList.drop (o+vs.length)).toArray:=by
 have h1:=run_storeCells_at P b o ty vs 0 arr w hb (by simpa using C5) ke
 have h2:=run_storeCells_cells (P:=P) b o vs 0 w (fun j hj=>by rw[bJ hb];simp;omega) (fun j hj=>by simp[World.frozen?,hb]) ke
 simp only[Nat.add_zero] at h1 h2
 rw[h1] at h2
 injection h2 with _ h3
 exact h3.symm
structure H3 (C:Cx) (S:St) (w:World) (Fs:Nat->FP) (base:Row) (sv:Value) (kb:List Nat):Prop where
 is:(sv= .slice none 0 0/\base.len=0)\/ ∃X cap arr ty Fb,sv= .slice (some ⟨X,0,none⟩) base.len cap/\w.heap[X]? =some (.cells arr ty (0,0))/\base.len<=cap/\cap*base.size<=arr.size/\ah w (C.ZL w (ar S.nx Fs)) base.cells arr.toList Fb/\ ∀b,Fb b+f1 X b<=cE Fs kb b
theorem xO (T:kQ P tt) (h:aQ C S a w ρ Fs) (hg:S.hp n=some .dH) {t e tx ty:TypeId} {i:TypeInfo} {z:Value} (ht:P.underlying t=some (.slice e)) (hi:P.info? e=some i) (hz:i.zero=some z) (On:z.cells.size=i.size) (AY:0<i.size) (Qm:0<i.bytes)
 {base y r:Row} (JT:base.y7 y=some r) (I0:base.size=i.size) (Oq:(base.len+y.len)*i.bytes<=140737488355328) {sv xv:Value} {news:List Value} {Fy:FP} (src:Src P y.size tx xv y.len news w) (hy:ah w (C.ZL w (ar S.nx Fs)) y.cells news Fy) {ks kb:List Nat} (UZ: ∀b,Fy b<=cE Fs ks b) (H4:jR S.hp (ks++kb)) (hb:H3 C S w Fs base sv kb) (e':Nat):
 ∃w' q F',(Builtin.append_ #[t,tx] ty #[sv,xv]).run P w= .ok (hdr q r.len) w' /\aQ C ⟨S.sl,eA S.hp (cF (ks++kb)++[(n,some (.row e' 0 r))]),S.nx⟩ a w' (gq ρ n q) (eU (cS Fs (ks++kb)) n F'):=by
 obtain ⟨a1,a2,a3,o,a4,a5⟩:=JS JT
 have Na:y.size=i.size:=by omega
 rw[Na] at src
 have hk:=H4.lt h.mem (Sub.refl _)
 have jX:=H4.live (Sub.refl _)
 have wG: ∀b,cE Fs ks b+cE Fs kb b<=1:=fun b=>by
  have:=jM Fs b S.nx H4.1 hk
  have:=h.mem.one b
  rw[dF] at*
  omega
 have hold: ∀b,1<=cE Fs (ks++kb) b->b<w.heap.size:=fun b hb=>(h.mem.nW b (Nat.le_trans hb (jM Fs b S.nx H4.1 hk))).1
 have PD:base.len+y.len<=140737488355328:=Nat.le_trans (Nat.le_mul_of_pos_right _ Qm) Oq
 have Oo:news.length=y.len*i.size:=src.newsLen
 have Ot: ∀(bs:Option Addr) (sc:Nat) (olds:List Value) (Fo:FP),sv= .slice bs base.len sc->sc<base.len+y.len->(Builtin.firstCells i.size base.len (.slice bs base.len sc)).run P w.drew= .ok olds.toArray w.drew->olds.length=base.len*i.size->ah w (C.ZL w (ar S.nx Fs)) base.cells olds Fo->(∀b,Fo b<=cE Fs kb b)->
  ∃w' q F',(Builtin.append_ #[t,tx] ty #[sv,xv]).run P w= .ok (hdr q r.len) w' /\aQ C ⟨S.sl,eA S.hp (cF (ks++kb)++[(n,some (.row e' 0 r))]),S.nx⟩ a w' (gq ρ n q) (eU (cS Fs (ks++kb)) n F'):=by
  intro bs sc olds Fo NG hsc hf Ou SA XA
  have km:=run_append_grow_src (P:=P) w t tx ty e i z ht hi hz bs base.len sc olds hf xv y.len news src hsc (by omega) (growslice_fits hsc Oq)
  have Vi:=grownCap_ge w (base.len+y.len) sc e
  have L6:=ah.append SA (by rw[Ou,Row.dn,I0]) hy
  have hF: ∀b,cn Fo Fy b<=cE Fs (ks++kb) b:=fun b=>by
   have:=XA b;have:=UZ b;rw[dF];simp;omega
  have TI:cn Fo Fy w.heap.size=0:=by
   rcases Nat.eq_zero_or_pos (cn Fo Fy w.heap.size) with h0|h0
   ·exact h0
   ·have:=hold _ (Nat.le_trans h0 (hF _));omega
  obtain ⟨F',s1,s2,s3⟩:=xK (ks:=ks++kb) (X:=w.heap.size) L6 hF TI o (ct:=r.cells) (cf:=r.cells) a4 a5
  have mb:((olds++news).toArray++Builtin.zeroCells z.cells (grownCap w (base.len+y.len) sc e-(base.len+y.len))).size=grownCap w (base.len+y.len) sc e*i.size:=by
   have e1:(Builtin.zeroCells z.cells (grownCap w (base.len+y.len) sc e-(base.len+y.len))).size=(grownCap w (base.len+y.len) sc e-(base.len+y.len))*i.size:=by rw[<- On];simp[Builtin.zeroCells]
   rw[Array.size_append,e1,List.size_toArray,List.length_append,Ou,Oo,<- Nat.add_mul,<- Nat.add_mul]
   congr 1
   omega
  refine ⟨_,some (w.heap.size,grownCap w (base.len+y.len) sc e),_,?_,aQ.L3 h hg (ks++kb) H4.1 jX w.heap.size (grownCap w (base.len+y.len) sc e) _ e e' r F' (w.drew.alloc (.cells ((olds++news).toArray++Builtin.zeroCells z.cells (grownCap w (base.len+y.len) sc e-(base.len+y.len))) e)) (.inl ⟨rfl,ni w.drew _⟩) (fun b hb _=>u_ w.drew _ hb) (va w.drew _) rfl rfl rfl ?_ s2 s3 (by rw[a1];exact Vi) (by rw[a2,I0,mb];exact Nat.le_refl _)⟩
  ·rw[NG,km,a1];rfl
  ·have e2:(if o=true then r.cells else r.cells)=r.cells:=by cases o<;>rfl
   rw[e2] at s1
   rw[Array.toList_append]
   exact s1.more _
 rcases hb.is with ⟨NG,Ql⟩| ⟨X,cap,arr,VV,Fb,NG,hX,yZ,qy,XB,Nb⟩
 ·by_cases hn:y.len=0
  ·have km:=run_append_nothing (P:=P) w t tx ty e i ht hi none 0 0 (Nat.le_refl _) xv (by
    have:=src
    rw[hn] at this
    have Vu:news=[]:=List.eq_nil_of_length_eq_zero (by rw[Oo,hn,Nat.zero_mul])
    rw[Vu] at this
    exact this)
   refine ⟨w,none,fz,by rw[NG,km];rfl,aQ.H2 h hg (ks++kb) H4.1 jX e' r (by omega) w rfl rfl rfl rfl⟩
  ·refine Ot none 0 [] fz (by rw[NG,Ql]) (by omega) (by rw[Ql];exact run_firstCells_none ..) (by rw[Ql];simp) (by rw[vk Ql];rfl) (fun b=>by simp)
 ·have sB:base.cells.length=base.len*i.size:=by rw[Row.dn,I0]
  have hlen:base.len*i.size<=arr.size:=by
   rw[I0] at qy
   exact Nat.le_trans (Nat.mul_le_mul_right _ yZ) qy
  have Qh:(arr.toList.take (base.len*i.size)).length=base.len*i.size:=by simp;omega
  have SA:=XB.shrink
  rw[sB] at SA
  by_cases hr:base.len+y.len<=cap
  ·have C5:base.len*i.size+news.length<=arr.size:=by
    rw[Oo,<- Nat.add_mul]
    rw[I0] at qy
    exact Nat.le_trans (Nat.mul_le_mul_right _ hr) qy
   have km:=run_append_room_src (P:=P) w t tx ty e i ht hi X 0 base.len cap xv y.len news src hr (fun j hj=>by rw[bJ hX];simp;omega) (fun j hj=>by simp[World.frozen?,hX])
   rw[Nat.zero_add,Dx hX src.one C5 P] at km
   have L6:=ah.append SA (by rw[Qh,sB]) hy
   have hF: ∀b,cn Fb Fy b<=cE Fs (ks++kb) b:=fun b=>by
    have:=Nb b;have:=UZ b;rw[dF];simp;omega
   have Yg:1<=cE Fs kb X:=by have:=Nb X;simp at this;omega
   have TI:cn Fb Fy X=0:=by
    have h1:=Nb X;have h2:=UZ X;have h3:=wG X
    simp at h1
    simp;omega
   obtain ⟨F',s1,s2,s3⟩:=xK (ks:=ks++kb) (X:=X) L6 hF TI o (ct:=r.cells) (cf:=r.cells) a4 a5
   refine ⟨_,some (X,cap),_,by rw[NG,km,a1];rfl,aQ.L3 h hg (ks++kb) H4.1 jX X cap _ VV e' r F' (w.setRow X (arr.toList.take (base.len*i.size)++news++arr.toList.drop (base.len*i.size+news.length)).toArray) (.inr ⟨by rw[dF];omega,setRow_size ..⟩) (fun b _ mg=>setRow_other w X _ mg) (setRow_heap w X arr _ VV _ hX) rfl rfl rfl ?_ s2 s3 (by omega) (by
    rw[a2,I0,List.size_toArray]
    rw[I0] at qy
    simp only[List.length_append,List.length_take,List.length_drop,Array.length_toList]
    omega)⟩
   have e2:(if o=true then r.cells else r.cells)=r.cells:=by cases o<;>rfl
   rw[e2] at s1
   exact s1.more _
  ·refine Ot (some ⟨X,0,none⟩) cap (arr.toList.take (base.len*i.size)) Fb NG (by omega) (run_firstCells_some (P:=P) w.drew i.size base.len ⟨X,0,none⟩ base.len cap _ Qh (fun j v hj=> ?_)) Qh SA (fun b=>by have:=Nb b;omega)
   have Qi:j<base.len*i.size:=by rw[<- Qh];exact (List.getElem?_eq_some_iff.1 hj).1
   rw[dr,Nat.zero_add]
   have:w.drew.cell? ⟨X,j,none⟩=w.cell? ⟨X,j,none⟩:=rfl
   rw[this,bJ hX]
   rw[List.getElem?_take,if_pos Qi] at hj
   simpa using hj
theorem Bh (ks ks':List Nat):cF (ks++ks')=cF ks++cF ks':=by simp[cF]
theorem zK (m:fY C S.hp S.nx w ρ Fs) {id e ver:Nat} {r:Row} (aj:S.hp id=some (.row e ver r)) {hi:Nat} (BL:hi<=r.len):H3 C S w Fs (r.take hi) (hdr (ρ id) hi) [id]:=by
 rcases m.roots id _ aj with ⟨g1,g2,g3⟩| ⟨b,cap,arr,ty,F',g1,g2,g3,g4,g5,g6⟩
 ·simp only[Cx.env] at g1
  exact ⟨.inl ⟨by rw[g1];rfl,by rw[take_len];omega⟩⟩
 ·simp only[Cx.env] at g1 g2
  obtain ⟨F1,t1,t2⟩:=g5.take (hi*r.size)
  rw[<- o_] at t1
  have hl:(r.take hi).len=hi:=by rw[take_len];omega
  refine ⟨.inr ⟨b,cap,arr,ty,F1,by rw[g1,hl];rfl,g2,by omega,by rw[take_size];exact g4,?_,fun b'=> ?_⟩⟩
  ·have:arr.toList=arr.toList.take (hi*r.size)++arr.toList.drop (hi*r.size):=(List.take_append_drop ..).symm
   rw[this]
   exact t1.more _
  ·have:=t2 b';simp only[cE];rw[g6];simp;omega
theorem oz (r:Row):r.take r.len=r:=by
 cases r<;>simp[Row.take,Row.len]
theorem sU {o:Oper} {c:Call} {f:Tmp} {s x:Operand} {t tx:TypeId} (ho:o.op= .call c) (hc:c.callee= .builtin .append) (fj:c.args.toList=[s,x]) (wL:c.argTypes.toList=[t,tx]) {v:Value} {w':World} (hr:(Builtin.append_ #[t,tx] o.type #[a.eval s,a.eval x]).run P w= .ok v w'):(execOp a.eval o).run P w= .ok (.value v) w':=by
 have e1:c.args= #[s,x]:=by apply Array.ext';simpa using fj
 have e2:c.argTypes= #[t,tx]:=by apply Array.ext';simpa using wL
 simp[execOp,ho,resolve,hc,e1,e2,invoke,builtin,hr,Result.andThen]
theorem aQ.NH (h:aQ C S a w ρ Fs) (hg:S.hp n=some .dH) {id e ver i:Nat} {l:List (List Int)} (aj:S.hp id=some (.row e ver (.rows true l))) (hi:i<l.length) {v:Value} (hv:cellAt w (ρ id) i=some v) (e':Nat):
 ∃q Fs',aQ C ⟨S.sl,eA S.hp [(id,some (.hole e ver (.rows true l) i 0)),(n,some (.row e' 0 (.ints .i64 l[i])))],S.nx⟩ a w (gq ρ n q) Fs' /\v=hdr q l[i].length:=by
 have mg:id≠n:=by rintro rfl;rw[aj] at hg;cases hg
 have kH:=cz h.mem aj
 have EN:=cz h.mem hg
 have P3:Fs n=fz:=h.mem.roots n _ hg
 cases hρ:ρ id with
 |none=>rw[hρ] at hv;cases hv
 |some q=>
  obtain ⟨b,cap⟩:=q
  rw[hρ] at hv
  obtain ⟨arr,ty,F,g1,g2,g3,g4,g5,g6⟩:=nF h.mem aj hρ (by simp only[Row.len];omega)
  simp only[cellAt] at hv
  rw[bJ g1] at hv
  have hc:(Row.rows true l).cells[i]? =some (.sl true l[i]):=by simp[Row.cells,hi]
  obtain ⟨v',F1,F2,k1,k2,k3,k4⟩:=g4.get hc
  have xW:arr.toList[i]? =some v:=by simpa using hv
  rw[xW] at k1;cases k1
  have zh:=k4 .free v fz rfl
  have pI:arr.toList.set i v=arr.toList:=by
   apply List.ext_getElem?
   intro j
   rw[List.getElem?_set]
   by_cases e:i=j
   ·subst e;rw[if_pos rfl,if_pos (List.getElem?_eq_some_iff.1 xW).1,xW]
   ·rw[if_neg e]
  rw[pI,gV] at zh
  have nU: ∀j,eA S.hp [(id,some (.hole e ver (.rows true l) i 0)),(n,some (.row e' 0 (.ints .i64 l[i])))] j=if j=n then some (.row e' 0 (.ints .i64 l[i])) else if j=id then some (.hole e ver (.rows true l) i 0) else S.hp j:=fun j=>by
   rw[show [(id,some (aq.hole e ver (.rows true l) i 0)),(n,some (.row e' 0 (.ints .i64 l[i])))] =[(id,some (aq.hole e ver (.rows true l) i 0))]++[(n,some (.row e' 0 (.ints .i64 l[i])))] from rfl,bE,eT,eT]
  have Lq: ∃q,v=hdr q l[i].length/\ ∀(E':Env),E'.w=w->E'.ρ n=q->gJ E' n (.row e' 0 (.ints .i64 l[i])) F1:=by
   rcases k2 with ⟨p1,p2,p3⟩| ⟨b2,wz,sx,Kk,q1,q2,q3,q4,q5,q6⟩
   ·refine ⟨none,by rw[p1,p2];rfl,fun E' KV hq=> .inl ⟨hq,by rw[p2];rfl,p3⟩⟩
   ·refine ⟨some (b2,wz),by rw[q1];rfl,fun E' KV hq=> .inr ⟨b2,wz,sx,Kk,fz,hq,by rw[KV];exact q2,by simpa[Row.len] using q3,by simpa[Row.size] using q4,?_,by rw[b_];exact q6⟩⟩
    refine ah.Hq fun j c hj=> ?_
    simp only[Row.cells,List.getElem?_map] at hj
    cases xU:l[i][j]? with
    |none=>rw[xU] at hj;cases hj
    |some z=>
     rw[xU] at hj
     cases hj
     exact ⟨_,by simpa using q5 j z xU,rfl,rfl⟩
  obtain ⟨q,Lr,Jy⟩:=Lq
  have jc: ∀b',ar S.nx (eU (eU Fs id (cn (f1 b) F2)) n F1) b' =ar S.nx Fs b':=fun b'=>by
   have e1:=en (eU Fs id (cn (f1 b) F2)) F1 b' EN
   have e2:=en Fs (cn (f1 b) F2) b' kH
   rw[cN _ _ (Ne.symm mg),P3] at e1
   rw[g5,k3] at e2
   simp at e1 e2
   omega
  refine ⟨q,eU (eU Fs id (cn (f1 b) F2)) n F1,?_,Lr⟩
  refine h.gen _ _ w _ _ (fun _=>False) (Nat.le_refl _) rfl rfl rfl (fun _ _ _=>rfl) (fun _ h=>h.elim) (Nat.le_refl _) (fun j hj sy=>lU _ _ (by rintro rfl;exact sy _ hg)) (fun j hj=> ?_) (fun j hj=> .inl ⟨by rw[nU,if_neg (by omega),if_neg (by omega)];exact h.mem.fresh j hj,by rw[cN _ _ (by omega),cN _ _ (by omega)];exact h.mem.dead j (h.mem.fresh j hj)⟩) (fun b'=>by rw[jc];exact h.mem.one b') (fun b' nv=> .inl (by rw[jc] at nv;exact nv))
  by_cases e1:j=n
  ·subst e1
   exact .kC .dH _ hg (by rw[nU,if_pos rfl]) trivial (fun M=>by rw[fV];exact Jy _ rfl (dT ..))
  ·by_cases e2:j=id
   ·subst e2
    refine .kC _ (.hole e ver (.rows true l) i 0) aj (by rw[nU,if_neg e1,if_pos rfl]) ⟨rfl,rfl,Nat.le_refl _⟩ (fun M=> ?_)
    rw[cN _ _ e1,fV]
    refine ⟨by simpa[Row.len] using hi,by simp[Row.size],.inr ⟨b,cap,arr,ty,F2,by show gq ρ n q j=_;rw[lU _ _ e1];exact hρ,g1,g2,g3,?_,rfl⟩⟩
    simp only[Row.size,Nat.mul_one,Nat.add_zero]
    exact zh.mono (fun b hb=>M.zl b hb) (fun b _=>rfl)
   ·exact .same (by rw[nU,if_neg e1,if_neg e2]) (by rw[cN _ _ e1,cN _ _ e2]) (fun _ _ h=>h)
theorem xP {hp hp':Nat->Option aq} {r0:Row} {x:LV} {y:Row} {ks rc:List Nat} (he:lh hp r0 x=some (y,ks,rc)) (hh: ∀j∈rc,hp' j=hp j):lh hp' r0 x=some (y,ks,rc):=by
 cases x with
 |own id=>
  simp only[lh] at he ⊢
  have:id∈rc:=by
   split at he
   ·split at he<;>cases he<;>simp
   ·cases he
  rw[hh id this];exact he
 |sub id lo hi=>
  simp only[lh] at he ⊢
  have:id∈rc:=by
   split at he
   ·split at he<;>cases he;simp
   ·cases he
  rw[hh id this];exact he
 |inner id ver i f=>
  simp only[lh,fG] at he ⊢
  have:id∈rc:=by
   split at he
   ·rename_i r Kj hq
    cases he
    split at hq
    ·obtain ⟨_,hq⟩:=ai hq;cases hq;simp
    ·obtain ⟨_,hq⟩:=ai hq;cases hq;simp
    ·cases hq
   ·cases he
  rw[hh id this];exact he
 |_=>exact he
theorem zL {hp:Nat->Option aq} {r0:Row} {x:LV} {y:Row} {ks rc:List Nat} (he:lh hp r0 x=some (y,ks,rc)): ∀j∈rc,∃e v r,hp j=some (.row e v r):=by
 cases x with
 |own id=>
  simp only[lh] at he
  split at he
  ·rename_i e v r aj
   split at he<;>cases he<;>(intro j hj;simp at hj;subst hj;exact ⟨_,_,_,aj⟩)
  ·cases he
 |sub id lo hi=>
  simp only[lh] at he
  split at he
  ·rename_i e v r aj
   split at he<;>cases he;(intro j hj;simp at hj;subst hj;exact ⟨_,_,_,aj⟩)
  ·cases he
 |inner id ver i f=>
  simp only[lh,fG] at he
  split at he
  ·rename_i r Kj hq
   cases he
   split at hq
   ·rename_i aj;obtain ⟨_,hq⟩:=ai hq;cases hq;intro j hj;simp at hj;subst hj;exact ⟨_,_,_,aj⟩
   ·rename_i aj;obtain ⟨_,hq⟩:=ai hq;cases hq;intro j hj;simp at hj;subst hj;exact ⟨_,_,_,aj⟩
   ·cases hq
  ·cases he
 |val p r=>simp only[lh,fG,Option.some.injEq,Prod.mk.injEq] at he;obtain ⟨_,_,rfl⟩:=he;simp
 |nil=>simp only[lh,Option.some.injEq,Prod.mk.injEq] at he;obtain ⟨_,_,rfl⟩:=he;simp
 |s x=>simp only[lh,Option.some.injEq,Prod.mk.injEq] at he;obtain ⟨_,_,rfl⟩:=he;simp
 |_=>simp[lh,fG] at he
theorem L7 (T:kQ P tt) {r0:Row} {x:LV} {tx:Nat} (h:(match x with| .s _=>(match tt tx with|some ⟨.str,_,_⟩=>r0.size==1|_=>false)|_=>(jd tt tx).isSome)=true):((∃s,x= .s s)\/ ∃e',P.underlying tx=some (.slice e'))/\(∀s,x= .s s->P.underlying tx=some .string):=by
 split at h
 ·rename_i s
  refine ⟨.inl ⟨s,rfl⟩,fun _ _=> ?_⟩
  split at h
  ·rename_i sz bs hq;exact (T tx _ hq).desc
  ·cases h
 ·rename_i hn
  obtain ⟨e',he⟩:=Option.isSome_iff_exists.1 h
  exact ⟨.inr ⟨e',jG T he⟩,fun s hs=>absurd hs (hn s)⟩
theorem zM (T:kQ P tt) (h:aQ C S a w ρ Fs) {o:Oper} {c:Call} {t tx:Nat} {s x:Operand} (ho:o.op= .call c) (hc:c.callee= .builtin .append) (fj:c.args.toList=[s,x]) (wL:c.argTypes.toList=[t,tx]) {E:fR} (he:la (R:=fR) tt S.hp n t tx (St.rd C.N S.sl s) (St.rd C.N S.sl x) some=some E) (hg: ∀k,n<=k->k<E.nx->S.hp k=some .dH): ∃w' ρ' Fs' u,Out P C S o E a w w' ρ' Fs' u:=by
 unfold la at he
 split at he
 ·rename_i e sv xv my hs hx
  split at he
  ·rename_i r0 DQ
   split at he
   ·rename_i y ks rc PM
    replace he:=ai he
    obtain ⟨UY,he⟩:=he
    obtain ⟨VW,VX⟩:=L7 T UY
    obtain ⟨te,q1,q2,q3,q4⟩:=lL T DQ
    obtain ⟨i,z,z1,z2,z3,z4,z5,z6⟩:=kE T q1 q3
    have wP:=jG T my
    have On:z.cells.size=i.size:=by
     have:=congrArg List.length z3
     simp only[Array.length_toList,List.length_map] at this
     omega
    have Qm:0<i.bytes:=by rw[z5];exact (T e te q1).some.2
    have VY:bytesOf tt e=i.bytes:=by simp[bytesOf,q1,z5]
    obtain ⟨news,Fy,y1,y2,y3,y4,y5⟩:=xN (P:=P) h.mem PM (ja DQ) VW VX (fP h hx)
    have fin: ∀(base:Row) (kb:List Nat) (E:fR),n_ (R:=fR) tt e r0 base y ks (cF kb) n (rc++kb) some=some E->jR S.hp (ks++kb)->H3 C S w Fs base (a.eval s) kb->(∀k,n<=k->k<E.nx->S.hp k=some .dH)-> ∃w' ρ' Fs' u,Out P C S o E a w w' ρ' Fs' u:=by
     intro base kb E he SB SC hg
     unfold n_ at he
     split at he
     ·rename_i r JT
      replace he:=ai he
      obtain ⟨I0,he⟩:=he
      have I0:=eq_of_beq I0
      replace he:=dW he
      obtain ⟨Ov,he⟩:=he
      have Ov:=of_decide_eq_true Ov
      cases he
      have PN:=hg n (Nat.le_refl _) (Nat.lt_succ_self _)
      obtain ⟨w',q,F',k1,k2⟩:=xO T h PN wP z1 z2 On (by omega) Qm JT (by omega) (by rw[<- VY];exact Ov) y1 y2 (ty:=o.type) y3 SB SC e
      refine ⟨w',gq ρ n q,eU (cS Fs (ks++kb)) n F',hdr q r.len,.inl (sU (f:=0) ho hc fj wL k1),?_,?_⟩
      ·rw[Bh] at k2;exact k2
      ·refine ⟨cz h.mem PN,fun root hr=> ?_⟩
       simp only[Cx.env] at hr ⊢
       have:eA S.hp (cF ks++cF kb++[(n,some (.row e 0 r))]) n=some (.row e 0 r):=by rw[bE,eT,if_pos rfl]
       rw[this] at hr
       cases hr
       exact ⟨r,rfl,by rw[dT]⟩
     ·cases he
    have I1: ∀id e' ver r,S.hp id=some (.row e' ver r)->rc.elem id=false->jR S.hp (ks++[id]):=fun id e' ver r aj my=>by
     refine ⟨List.nodup_append.2 ⟨y4.1,by simp,fun a ha b hb=> ?_⟩,fun k hk=> ?_⟩
     ·simp at hb
      subst hb
      rintro rfl
      rw[List.elem_iff.2 (y5 a ha)] at my;cases my
     ·rcases List.mem_append.1 hk with hk|hk
      ·exact y4.2 k hk
      ·simp at hk;subst hk;exact ⟨_,_,_,aj⟩
    split at he
    ·exact fin r0 [] E (by simpa[cF] using he) (by simpa using y4) ⟨.inl ⟨fP h hs,ja DQ⟩⟩ hg
    ·rename_i id
     split at he
     ·rename_i e' ver r aj
      cases my:rc.elem id with
      |true=>rw[my] at he;cases he
      |false=>
       rw[my] at he
       simp only[cond_false] at he
       obtain ⟨_,qW⟩:=fP h hs
       obtain ⟨r',e1,e2⟩:=qW _ aj
       cases e1
       refine fin r [id] E (by simpa[cF] using he) (I1 id _ _ _ aj my) ?_ hg
       have:=zK h.mem aj (Nat.le_refl _)
       rw[oz] at this
       rw[e2]
       exact this
     ·cases he
    ·rename_i id lo hi
     split at he
     ·rename_i e' ver r aj
      cases my:rc.elem id with
      |true=>rw[my] at he;cases he
      |false=>
       rw[my] at he
       simp only[cond_false] at he
       replace he:=ai he
       obtain ⟨yn,he⟩:=he
       have yn:=eq_of_beq yn
       subst yn
       obtain ⟨_,qW⟩:=fP h hs
       obtain ⟨r',e1,_,l2,e2⟩:=qW _ aj
       cases e1
       refine fin (r.take hi) [id] E (by simpa[cF] using he) (I1 id _ _ _ aj my) ?_ hg
       have:=zK h.mem aj l2
       rw[e2,yo]
       exact this
     ·cases he
    ·rename_i id ver i' f
     split at he
     ·rename_i bt v l aj
      cases Dw:rc.elem id with
      |true=>rw[Dw] at he;cases he
      |false=>
       rw[Dw] at he
       simp only[cond_false] at he
       replace he:=ai he
       obtain ⟨hv,he⟩:=he
       have hv:=eq_of_beq hv
       subst hv
       unfold n_ at he
       split at he
       ·rename_i r JT
        replace he:=ai he
        obtain ⟨I0,he⟩:=he
        have I0:=eq_of_beq I0
        replace he:=dW he
        obtain ⟨Ov,he⟩:=he
        have Ov:=of_decide_eq_true Ov
        cases he
        have PN:=hg n (Nat.le_refl _) (by simp only[];omega)
        have NI:=hg (n+1) (Nat.le_succ _) (by simp only[];omega)
        obtain ⟨_,qW⟩:=fP h hs
        obtain ⟨_,_,Ez⟩:=qW _ aj
        obtain ⟨m1,m2,m4⟩:=Ez bt _ rfl
        simp only[Row.jA] at m1
        have Dv:=eq_of_beq m1
        subst Dv
        simp only[Row.len] at m2
        simp only[Row.size,Nat.mul_one,Nat.add_zero,Cx.env] at m4
        obtain ⟨q,Fs',h1,Lr⟩:=h.NH PN aj m2 m4 e
        have mg:id≠n:=by rintro rfl;rw[aj] at PN;cases PN
        have U0:id≠n+1:=by rintro rfl;rw[aj] at NI;cases NI
        have nU: ∀j,eA S.hp [(id,some (.hole bt v (.rows true l) i' 0)),(n,some (.row e 0 (.ints .i64 l[i'])))] j=if j=n then some (.row e 0 (.ints .i64 l[i'])) else if j=id then some (.hole bt v (.rows true l) i' 0) else S.hp j:=fun j=>by
         rw[show [(id,some (aq.hole bt v (.rows true l) i' 0)),(n,some (.row e 0 (.ints .i64 l[i'])))] =[(id,some (aq.hole bt v (.rows true l) i' 0))]++[(n,some (.row e 0 (.ints .i64 l[i'])))] from rfl,bE,eT,eT]
        have Ol: ∀j∈rc,j≠id/\j≠n:=fun j hj=>by
         refine ⟨?_,?_⟩
         ·rintro rfl;rw[List.elem_iff.2 hj] at Dw;cases Dw
         ·rintro rfl
          obtain ⟨_,_,_,hl⟩:=zL PM j hj
          rw[PN] at hl;cases hl
        have SD:=xP PM (hp':=eA S.hp [(id,some (.hole bt v (.rows true l) i' 0)),(n,some (.row e 0 (.ints .i64 l[i'])))]) (fun j hj=>by rw[nU,if_neg (Ol j hj).2,if_neg (Ol j hj).1])
        have PE:dD (C.env w (gq ρ n q) (eA S.hp [(id,some (.hole bt v (.rows true l) i' 0)),(n,some (.row e 0 (.ints .i64 l[i'])))]) S.nx Fs') xv (a.eval x):=by
         have:=h1.rd x
         rw[hx] at this
         exact this
        obtain ⟨VZ,Yh,w1,w2,w3,w4,w5⟩:=xN (P:=P) h1.mem SD (ja DQ) VW VX PE
        have L8:eA S.hp [(id,some (.hole bt v (.rows true l) i' 0)),(n,some (.row e 0 (.ints .i64 l[i'])))] n=some (.row e 0 (.ints .i64 l[i'])):=by rw[nU,if_pos rfl]
        have Mi:l.getD i' [] =l[i']:=by simp[m2]
        rw[Mi] at JT I0 Ov
        have SE:jR (eA S.hp [(id,some (.hole bt v (.rows true l) i' 0)),(n,some (.row e 0 (.ints .i64 l[i'])))]) (ks++[n]):=by
         refine ⟨List.nodup_append.2 ⟨w4.1,by simp,fun a ha b hb=> ?_⟩,fun k hk=> ?_⟩
         ·simp at hb
          subst hb
          exact (Ol a (w5 a ha)).2
         ·rcases List.mem_append.1 hk with hk|hk
          ·exact w4.2 k hk
          ·simp at hk;subst hk;exact ⟨_,_,_,L8⟩
        have z7:=zK h1.mem L8 (Nat.le_refl (Row.ints .i64 l[i']).len)
        rw[oz,dT] at z7
        have NG:a.eval s=hdr q (Row.ints .i64 l[i']).len:=Lr
        rw[<- NG] at z7
        have Vk:eA S.hp [(id,some (.hole bt v (.rows true l) i' 0)),(n,some (.row e 0 (.ints .i64 l[i'])))] (n+1)=some .dH:=by rw[nU,if_neg (by omega),if_neg (Ne.symm U0)];exact NI
        obtain ⟨w',q',F',k1,k2⟩:=xO T h1 Vk wP z1 z2 On (by omega) Qm JT (by omega) (by rw[<- VY];exact Ov) w1 w2 (ty:=o.type) w3 SE z7 e
        have U1:eA (eA S.hp [(id,some (.hole bt v (.rows true l) i' 0)),(n,some (.row e 0 (.ints .i64 l[i'])))]) (cF (ks++[n])++[(n+1,some (.row e 0 r))])=eA S.hp (cF ks++[(id,some (.hole bt v (.rows true l) i' 0)),(n,none)]++[(n+1,some (.row e 0 r))]):=by
         funext j
         rw[bE,eT,lV,je,nU,bE,eT,bE,show [(id,some (aq.hole bt v (.rows true l) i' 0)),(n,none)] =[(id,some (aq.hole bt v (.rows true l) i' 0))]++[(n,none)] from rfl,bE,eT,eT,lV,je]
         by_cases j1:j=n+1
         ·simp[j1]
         ·by_cases j2:j=n
          ·simp[j2]
          ·by_cases j3:j=id
           ·subst j3
            have:j∉ks:=fun hh=>(Ol j (w5 j hh)).1 rfl
            simp[j1,j2,this]
           ·simp[j1,j2,j3]
        rw[U1] at k2
        refine ⟨w',gq (gq ρ n q) (n+1) q',eU (cS Fs' (ks++[n])) (n+1) F',hdr q' r.len,.inl (sU (f:=0) ho hc fj wL k1),k2,?_⟩
        refine ⟨cz h.mem NI,fun root hr=> ?_⟩
        simp only[Cx.env] at hr ⊢
        have:eA S.hp (cF ks++[(id,some (.hole bt v (.rows true l) i' 0)),(n,none)]++[(n+1,some (.row e 0 r))]) (n+1)=some (.row e 0 r):=by rw[bE,eT,if_pos rfl]
        rw[this] at hr
        cases hr
        exact ⟨r,rfl,by rw[dT]⟩
       ·cases he
     ·cases he
    ·cases he
   ·cases he
  ·cases he
 ·cases he
end
section
variable {P:Program} {tt:TT} {C:Cx} {S:St} {a:Act} {w:World} {ρ:Place} {Fs:Nat->FP} {n:Nat}
theorem qz {o:Oper} {c:Call} {s x:Operand} {t tx:TypeId} (ho:o.op= .call c) (hc:c.callee= .builtin .copy) (fj:c.args.toList=[s,x]) (wL:c.argTypes.toList=[t,tx]) {v:Value} {w':World} (hr:(Builtin.copy_ #[t,tx] o.type #[a.eval s,a.eval x]).run P w= .ok v w'):(execOp a.eval o).run P w= .ok (.value v) w':=by
 have e1:c.args= #[s,x]:=by apply Array.ext';simpa using fj
 have e2:c.argTypes= #[t,tx]:=by apply Array.ext';simpa using wL
 simp[execOp,ho,resolve,hc,e1,e2,invoke,builtin,hr,Result.andThen]
theorem aQ.L9 (h:aQ C S a w ρ Fs) {id:Nat} {root:aq} (DQ:S.hp id=some root) {b cap:Nat} (hρ:ρ id=some (b,cap)) {arr arr':Array Value} {ty:TypeId} (hb:w.heap[b]? =some (.cells arr ty (0,0))) (e ver:Nat) (r:Row) (i f:Nat) (hi:i<r.len) (hf:f<r.size) (F:FP)
 (hc:ah w (C.ZL w (ar S.nx Fs)) (r.cells.set (i*r.size+f) .free) arr'.toList F) (hF: ∀b',F b' +f1 b b' <=Fs id b') (h1:r.len<=cap) (h2:cap*r.size<=arr'.size) (hl:u9 w (w.setRow b arr') (ρ id) root (.hole e ver r i f)):
 aQ C ⟨S.sl,eA S.hp [(id,some (.hole e ver r i f))],S.nx⟩ a (w.setRow b arr') ρ (eU (cS Fs []) id (cn (f1 b) F)):=by
 have kH:=cz h.mem DQ
 have Nb:F b=0:=by
  have:=hF b
  have:=iz Fs b kH
  have:=h.mem.one b
  simp at*
  omega
 have MO:1<=Fs id b:=by have:=hF b;simp at this;omega
 have:=h.Nw [] (by simp) (by simp) id (by simp) root (.hole e ver r i f) DQ (cn (f1 b) F) (w.setRow b arr') (setRow_size ..) rfl rfl rfl (fun b' nv h0=>setRow_other w b arr' (by rintro rfl;omega)) (fun b'=>by have:=hF b';simp;omega) hl (fun M=>
  ⟨hi,hf,.inr ⟨b,cap,arr',ty,F,hρ,setRow_heap w b arr arr' ty _ hb,h1,h2,hc.mono (fun b' nv=>M.zl b' nv) (fun b' nv=>setRow_other w b arr' (by rintro rfl;omega)),rfl⟩⟩)
 exact this
theorem JU (hp:Nat->Option aq) {id:Nat} {root:aq} (h:hp id=some root):eA hp [(id,some root)] =hp:=by
 funext j
 rw[eT]
 by_cases e:j=id
 ·subst e;rw[if_pos rfl,h]
 ·rw[if_neg e]
theorem Dy (T:kQ P tt) (h:aQ C S a w ρ Fs) {o:Oper} {c:Call} {t tx:Nat} {s x:Operand} (ho:o.op= .call c) (hc:c.callee= .builtin .copy) (fj:c.args.toList=[s,x]) (wL:c.argTypes.toList=[t,tx]) {E:fR} (he:pj (R:=fR) tt S.hp n t (St.rd C.N S.sl s) (St.rd C.N S.sl x) some=some E): ∃w' ρ' Fs' u,Out P C S o E a w w' ρ' Fs' u:=by
 unfold pj at he
 replace he:=ai he
 obtain ⟨TJ,he⟩:=he
 have my: ∃e,jd tt t=some e/\bh tt e=1:=by
  cases hq:jd tt t with
  |none=>rw[hq] at TJ;cases TJ
  |some e=>rw[hq] at TJ;exact ⟨e,rfl,eq_of_beq TJ⟩
 obtain ⟨e,my,mb⟩:=my
 have DO: ∃te,tt e=some te:=by
  cases hq:tt e with
  |none=>simp[bh,hq] at mb
  |some te=>exact ⟨te,rfl⟩
 obtain ⟨te,DO⟩:=DO
 obtain ⟨ti,t1,t2⟩:=tR T DO
 have Mq:(P.info? e).map (·.size)=some 1:=by
  rw[t1];simp only[Option.map_some,Option.some.injEq]
  rw[t2];simpa[bh,DO] using mb
 have hu:=jG T my
 split at he
 ·rename_i id lo hi TB gK qk hs hx
  obtain ⟨fJ,PE⟩:=fP h hs
  obtain ⟨XC,qW⟩:=fP h hx
  split at he
  ·rename_i bt ver k l aj
   replace he:=ai he
   obtain ⟨hid,he⟩:=he
   have hid:=eq_of_beq hid
   subst hid
   cases he
   obtain ⟨r1,e1,a1,a2,a3⟩:=PE _ aj
   cases e1
   obtain ⟨r2,e2,b1,b2,b3⟩:=qW _ aj
   cases e2
   simp only[Row.len] at a2 b2
   simp only[Row.size,Cx.env] at a3 b3
   by_cases hm:min (qk-gK) (hi-lo)=0
   ·
    have U2:l.take lo++(((l.take qk).drop gK).take (hi-lo)++l.drop (lo+min (qk-gK) (hi-lo)))=l:=by
     have:((l.take qk).drop gK).take (hi-lo)=[]:=by
      apply List.eq_nil_of_length_eq_zero
      simp only[List.length_take,List.length_drop]
      omega
     rw[this,hm,List.nil_append,Nat.add_zero,List.take_append_drop]
    have DX: ∃d dc,a.eval s= .slice d (hi-lo) dc:=by
     rw[a3]
     cases hρ:ρ id with
     |none=>
      have:=h.mem.roots id _ aj
      rcases this with ⟨_,g2,_⟩| ⟨b,cap,arr,ty,F',g1,_⟩
      ·simp only[Row.len] at g2
       have:hi-lo=0:=by omega
       rw[this];exact ⟨_,_,rfl⟩
      ·simp only[Cx.env] at g1;rw[hρ] at g1;cases g1
     |some q=>exact ⟨_,_,rfl⟩
    have Ip: ∃d dc,a.eval x= .slice d (qk-gK) dc:=by
     rw[b3]
     cases hρ:ρ id with
     |none=>
      have:=h.mem.roots id _ aj
      rcases this with ⟨_,g2,_⟩| ⟨b,cap,arr,ty,F',g1,_⟩
      ·simp only[Row.len] at g2
       have:qk-gK=0:=by omega
       rw[this];exact ⟨_,_,rfl⟩
      ·simp only[Cx.env] at g1;rw[hρ] at g1;cases g1
     |some q=>exact ⟨_,_,rfl⟩
    obtain ⟨d,dc,DX⟩:=DX
    obtain ⟨d',XD,Ip⟩:=Ip
    have km:=run_copy_none (P:=P) w t tx o.type e d d' (hi-lo) dc (qk-gK) XD hu Mq hm
    rw[<- DX,<- Ip] at km
    rw[U2,hm]
    refine ⟨w,ρ,Fs,goInt 0,.inl (qz ho hc fj wL km),by rw[JU S.hp aj];exact h,rfl⟩
   ·have AY:0<l.length:=by omega
    obtain ⟨b,cap,hρ,_⟩:=jH h.mem aj rfl (by simpa[Row.len] using AY)
    obtain ⟨arr,ty,F,g1,g2,g3,g4,g5,g6⟩:=nF h.mem aj hρ (by simpa[Row.len] using AY)
    simp only[Row.len] at g2
    simp only[Row.size,Nat.mul_one] at g3
    have Yi:F=fz:=tM (fun c hc=>by simp only[Row.cells,List.mem_map] at hc;obtain ⟨x,_,rfl⟩:=hc;exact ⟨_,rfl⟩) g4
    rw[hρ] at a3 b3
    simp only[j7,Nat.mul_one] at a3 b3
    rw[if_neg (by omega)] at a3 b3
    have JQ: ∀j,j<l.length->arr.toList[j]? =some (.int k (l.getD j 0)):=fun j hj=>by
     obtain ⟨v,F1,F2,q1,q2,_⟩:=g4.get (j:=j) (c:= .sc (.int k l[j])) (by simp[Row.cells,hj])
     obtain ⟨rfl,_⟩:=q2
     rw[q1];simp[hj]
    have VH:min (qk-gK) (hi-lo)=((l.drop gK).take (min (qk-gK) (hi-lo))).length:=by simp;omega
    have L0:((l.take qk).drop gK).take (hi-lo)=(l.drop gK).take (min (qk-gK) (hi-lo)):=by
     rw[List.drop_take,List.take_take,Nat.min_comm]
    let m:=min (qk-gK) (hi-lo)
    let cs:List Value:=((l.drop gK).take m).map (Value.int k)
    have sB:cs.length=m:=by simp[cs,m];omega
    have km:=run_copy_row (P:=P) w t tx o.type e b lo (hi-lo) (cap-lo) ⟨b,gK,none⟩ (qk-gK) (cap-gK) arr ty cs hu Mq g1 (by rw[sB]) (fun j v hj=>by
     rw[dr,bJ g1]
     simp only[cs,List.getElem?_map] at hj
     cases xU:((l.drop gK).take m)[j]? with
     |none=>rw[xU] at hj;cases hj
     |some z=>
      rw[xU] at hj
      cases hj
      rw[List.getElem?_take] at xU
      split at xU
      ·rw[List.getElem?_drop] at xU
       have hb:=(List.getElem?_eq_some_iff.1 xU).1
       have:=JQ (gK+j) hb
       rw[List.getD_eq_getElem?_getD,xU] at this
       simpa using this
      ·cases xU) (by rw[sB];simp only[m];omega) (fun v hv=>by simp only[cs,List.mem_map] at hv;obtain ⟨z,_,rfl⟩:=hv;rfl)
    rw[<- a3,<- b3] at km
    have pF:ah w (C.ZL w (ar S.nx Fs)) (Row.ints k (l.take lo++(((l.take qk).drop gK).take (hi-lo)++l.drop (lo+min (qk-gK) (hi-lo))))).cells (arr.toList.take lo++cs++arr.toList.drop (lo+cs.length)) fz:=by
     rw[L0,sB]
     refine ah.Hq fun j c hj=> ?_
     simp only[Row.cells,List.map_append,List.append_assoc] at hj
     rw[List.append_assoc]
     have Sc:arr.toList.length=arr.size:=by simp
     by_cases j1:j<lo
     ·rw[List.getElem?_append_left (by simp;omega)] at hj ⊢
      rw[List.getElem?_map,List.getElem?_take,if_pos j1] at hj
      rw[List.getElem?_take,if_pos j1,JQ j (by omega)]
      have:l[j]? =some l[j]:=List.getElem?_eq_getElem (by omega)
      rw[this] at hj
      cases hj
      exact ⟨_,rfl,by simp[show j<l.length by omega],rfl⟩
     ·rw[List.getElem?_append_right (by simp;omega)] at hj ⊢
      have el:(List.map (fun n=>Cell.sc (.int k n)) (l.take lo)).length=lo:=by simp;omega
      have XE:(arr.toList.take lo).length=lo:=by simp;omega
      rw[el] at hj
      rw[XE]
      by_cases j2:j-lo<m
      ·have e1:(List.map (fun n=>Cell.sc (.int k n)) (List.take (min (qk-gK) (hi-lo)) (List.drop gK l))).length=m:=by simp[m];omega
       rw[List.getElem?_append_left (by omega)] at hj ⊢
       rw[List.getElem?_map] at hj
       simp only[cs,List.getElem?_map,m]
       cases hq:(List.take (min (qk-gK) (hi-lo)) (List.drop gK l))[j-lo]? with
       |none=>rw[hq] at hj;cases hj
       |some z=>rw[hq] at hj;cases hj;exact ⟨_,rfl,rfl,rfl⟩
      ·have e1:(List.map (fun n=>Cell.sc (.int k n)) (List.take (min (qk-gK) (hi-lo)) (List.drop gK l))).length=m:=by simp[m];omega
       rw[List.getElem?_append_right (by omega)] at hj ⊢
       rw[e1,List.getElem?_map,List.getElem?_drop] at hj
       rw[sB,List.getElem?_drop]
       have e2:lo+min (qk-gK) (hi-lo)+(j-lo-m)=j:=by simp only[m];simp only[m] at j2;omega
       have e3:lo+m+(j-lo-m)=j:=by omega
       rw[e2] at hj
       rw[e3]
       cases hq:l[j]? with
       |none=>rw[hq] at hj;cases hj
       |some z=>
        rw[hq] at hj
        cases hj
        have hb:=(List.getElem?_eq_some_iff.1 hq).1
        have:=JQ j hb
        rw[List.getD_eq_getElem?_getD,hq] at this
        exact ⟨_,this,rfl,rfl⟩
    have hlen:(l.take lo++(((l.take qk).drop gK).take (hi-lo)++l.drop (lo+min (qk-gK) (hi-lo)))).length=l.length:=by
     simp only[List.length_append,List.length_take,List.length_drop]
     omega
    have hrel:=aQ.Dt h [] (by simp) (by simp) (by simp) aj hρ g1 bt ver (.ints k (l.take lo++(((l.take qk).drop gK).take (hi-lo)++l.drop (lo+min (qk-gK) (hi-lo))))) fz (arr':=(arr.toList.take lo++cs++arr.toList.drop (lo+cs.length)).toArray) (by
     simp only[List.toList_toArray]
     exact pF.mono (fun b hb=>⟨.inl hb,rfl⟩) (fun b _=>rfl)) (fun b'=>by rw[g5];simp;omega) (by rw[g5];simp) (by simp only[Row.len];omega) (by
     simp only[Row.size,List.size_toArray,List.length_append,List.length_take,List.length_drop,Array.length_toList,sB,m]
     omega) (l_ (by simp only[Row.len];exact hlen) rfl (Nat.le_refl _) (fun _=>rfl) (fun _=>rfl))
    refine ⟨_,ρ,_,goInt cs.length,.inl (qz ho hc fj wL km),hrel,?_⟩
    rw[sB]
    rfl
  ·rename_i bt ver l aj
   replace he:=ai he
   obtain ⟨hid,he⟩:=he
   have hid:=eq_of_beq hid
   subst hid
   replace he:=dW he
   obtain ⟨xX,he⟩:=he
   cases he
   obtain ⟨xX,c4⟩:=az xX
   obtain ⟨xX,c3⟩:=az xX
   obtain ⟨c1,c2⟩:=az xX
   have c1:=eq_of_beq c1
   have c2:=eq_of_beq c2
   have c3:=eq_of_beq c3
   have c4:=of_decide_eq_true c4
   subst c1 c2 c3
   obtain ⟨r1,e1,a1,a2,a3⟩:=PE _ aj
   cases e1
   obtain ⟨r2,e2,b1,b2,b3⟩:=qW _ aj
   cases e2
   simp only[Row.size,Cx.env] at a3 b3
   have AY:0<(Row.rows true l).len:=by simp only[Row.len];omega
   obtain ⟨b,cap,hρ,_⟩:=jH h.mem aj rfl AY
   obtain ⟨arr,ty,F,g1,g2,g3,g4,g5,g6⟩:=nF h.mem aj hρ AY
   simp only[Row.len] at g2
   simp only[Row.size,Nat.mul_one] at g3
   rw[hρ] at a3 b3
   simp only[j7,Nat.mul_one] at a3 b3
   rw[if_neg (by omega)] at b3
   have Sc:arr.toList.length=arr.size:=by simp
   let A:=(l.take gK).map (Cell.sl true)
   let M:=((l.drop gK).dropLast).map (Cell.sl true)
   have SF: ∃z,l.drop gK=(l.drop gK).dropLast++[z]:=by
    have mg:l.drop gK≠[]:=by intro hh;have:=congrArg List.length hh;simp at this;omega
    exact ⟨(l.drop gK).getLast mg,(List.dropLast_concat_getLast mg).symm⟩
   obtain ⟨z,hz⟩:=SF
   have Sw:A.length=gK:=by simp[A];omega
   have TL:M.length=l.length-gK-1:=by simp[M]
   have np:(Row.rows true l).cells=A++(M++[.sl true z]):=by
    show l.map _=_
    conv=>lhs;rw[<- List.take_append_drop gK l,hz]
    simp[A,M]
   rw[np] at g4
   obtain ⟨FA,F2,s1,s2,s3⟩:=ah.split g4
   obtain ⟨FM,FL,s4,s5,s6⟩:=ah.split s2
   rw[Sw] at s1 s4
   let V:List Value:=(arr.toList.drop gK).take M.length
   have U3:V.length=M.length:=by simp[V,TL];omega
   have SG: ∀v∈V,v.oneCell' =true:=qY (fun c hc=>by simp only[M,List.mem_map] at hc;obtain ⟨_,_,rfl⟩:=hc;trivial) s4 (by omega)
   have SH: ∃w',(Builtin.copy_ #[t,tx] o.type #[a.eval s,a.eval x]).run P w= .ok (goInt V.length) w' /\w' =w.setRow b (arr.toList.take (gK+1)++V++arr.toList.drop (gK+1+V.length)).toArray:=by
    by_cases hm:V.length=0
    ·have U4:Nat.min (l.length-gK) (l.length-(gK+1))=0:=by
      have:Nat.min (l.length-gK) (l.length-(gK+1))=min (l.length-gK) (l.length-(gK+1)):=rfl
      omega
     rw[a3,b3]
     refine ⟨w,by rw[hm];exact run_copy_none (P:=P) w t tx o.type e _ _ _ _ _ _ hu Mq U4,?_⟩
     have Vj:V=[]:=List.eq_nil_of_length_eq_zero hm
     rw[Vj]
     simp only[List.append_nil,List.length_nil,Nat.add_zero,List.take_append_drop,Array.toArray_toList]
     exact (setRow_self w b arr ty (0,0) g1).symm
    ·rw[if_neg (by omega)] at a3
     have km:=run_copy_row (P:=P) w t tx o.type e b (gK+1) (l.length-(gK+1)) (cap-(gK+1)) ⟨b,gK,none⟩ (l.length-gK) (cap-gK) arr ty V hu Mq g1 (by
      have:Nat.min (l.length-gK) (l.length-(gK+1))=min (l.length-gK) (l.length-(gK+1)):=rfl
      rw[U3,TL,this];omega) (fun j v hj=>by
      rw[dr,bJ g1]
      simp only[V] at hj
      rw[List.getElem?_take] at hj
      split at hj
      ·rw[List.getElem?_drop] at hj;simpa using hj
      ·cases hj) (by rw[U3,TL];omega) SG
     rw[<- a3,<- b3] at km
     exact ⟨_,km,rfl⟩
   obtain ⟨w',km,KV⟩:=SH
   have OF:gK<(l.take gK++[]::(l.drop gK).dropLast).length:=by simp;omega
   have hlen:(l.take gK++[]::(l.drop gK).dropLast).length=l.length:=by simp;omega
   have zh:(Row.rows true (l.take gK++[]::(l.drop gK).dropLast)).cells.set (gK*1+0) .free=A++(.free::M):=by
    show ((l.take gK++[]::(l.drop gK).dropLast).map _).set _ _=_
    rw[List.map_append,List.set_append_right _ _ (by simp;omega)]
    have:gK*1+0-(List.map (fun x=>Cell.sl true x) (l.take gK)).length=0:=by simp;omega
    rw[this]
    rfl
   have SI:arr.toList.take (gK+1)++V++arr.toList.drop (gK+1+V.length)=arr.toList.take gK++(arr.toList[gK]'(by omega)::(V++arr.toList.drop (gK+1+V.length))):=by
    rw[List.append_assoc,List.take_succ_eq_append_getElem (by omega)]
    simp
   have hrel:=aQ.L9 h aj hρ g1 bt (ver+1) (.rows true (l.take gK++[]::(l.drop gK).dropLast)) gK 0 OF (by simp[Row.size]) (cn FA FM) (arr':=(arr.toList.take (gK+1)++V++arr.toList.drop (gK+1+V.length)).toArray) (by
    simp only[Row.size,List.toList_toArray]
    rw[zh,SI]
    exact ah.append s1 (by rw[Sw];simp;omega) ⟨fz,FM,rfl,s4.more _,(gV FM).symm⟩)
    (fun b'=>by rw[g5,s3,s6];simp;omega) (by simp only[Row.len];omega) (by
      simp only[Row.size,List.size_toArray,List.length_append,List.length_take,List.length_drop,Array.length_toList]
      omega) ⟨by simp only[Row.len];exact hlen,rfl,Nat.le_succ _⟩
   refine ⟨w',ρ,_,goInt V.length,.inl (qz ho hc fj wL km),by rw[KV];exact hrel,?_⟩
   show goInt V.length=_
   rw[U3,TL,Nat.sub_sub]
   rfl
  ·cases he
 ·cases he
end
section
variable {P:Program} {tt:TT} {C:Cx} {S:St} {a:Act} {w:World} {ρ:Place} {Fs:Nat->FP} {n:Nat}
theorem H5 {t:Nat} {E:fR} (he:nJ (R:=fR) tt n t some=some E):E.nx=n+1:=by
 unfold nJ at he
 split at he
 ·cases he;rfl
 ·split at he
  ·replace he:=ai he;obtain ⟨_,he⟩:=he;cases he;rfl
  ·cases he
 ·replace he:=ai he;obtain ⟨_,he⟩:=he;cases he;rfl
 ·cases he
theorem L_ {hp:Nat->Option aq} {t:Nat} {x:AV} {E:fR} (he:qt (R:=fR) tt hp n t x some=some E):E.nx=n+1:=by
 unfold qt at he
 split at he
 ·cases he
 ·split at he
  ·cases he;rfl
  ·cases he
 ·cases he
theorem zN {t:Nat} {l c:Operand} {x:AV} {E:fR} (he:iQ (R:=fR) tt n t l c x some=some E):E.nx=n+1:=by
 unfold iQ at he
 replace he:=ai he
 obtain ⟨_,he⟩:=he
 split at he
 ·split at he
  ·obtain ⟨_,_,_,he⟩:=kj he
   replace he:=dW he
   obtain ⟨_,he⟩:=he
   cases he;rfl
  ·cases he
 ·cases he
theorem ya {hp:Nat->Option aq} {t len:Nat} {ps:List (Nat×AV)} {E:fR} (he:fa (R:=fR) tt hp n t len ps some=some E):E.nx=n+1:=by
 unfold fa at he
 split at he
 ·split at he
  ·replace he:=ai he
   obtain ⟨_,he⟩:=he
   split at he
   ·cases he;rfl
   ·cases he
  ·cases he
 ·cases he
theorem nM {o:Oper} {c:Call} {b:Builtin} (ho:o.op= .call c) (hc:c.callee= .builtin b) {v:Value} {w':World} (hr: ∀zO,(builtin b c.argTypes o.type zO (c.args.map a.eval)).run P w= .ok (.value v) w'):(execOp a.eval o).run P w= .ok (.value v) w':=by
 simp only[execOp,ho,resolve,hc]
 simp[invoke]
 exact hr _
theorem JV (T:kQ P tt) (h:aQ C S a w ρ Fs) {o:Oper} {c:Call} {t:Nat} {x:Operand} {s:ByteArray} (ho:o.op= .call c) (hc:c.callee= .builtin .len) (fj:c.args.toList=[x]) (wL:c.argTypes.toList=[t]) (hx:St.rd C.N S.sl x= .one (.l (.s s))) {sz bs:Nat} (hq:tt t=some ⟨.str,sz,bs⟩): ∃u,Out P C S o ⟨.l (.i .i64 s.size),[],n,[],[]⟩ a w w ρ Fs u:=by
 have hv:a.eval x= .string s:=fP h hx
 have e1:c.args= #[x]:=by apply Array.ext';simpa using fj
 have e2:c.argTypes= #[t]:=by apply Array.ext';simpa using wL
 refine ⟨_,Out.pure h rfl (nM (b:= .len) ho hc fun zO=> ?_) rfl⟩
 rw[e1,e2]
 have:=run_len_string (P:=P) w t o.type s (T t _ hq).desc
 simp[builtin,hv,this,goInt]
theorem Ma (T:kQ P tt) (h:aQ C S a w ρ Fs) {o:Oper} {c:Call} {t e k:Nat} {x:Operand} {y:LV} {rl rc:List Nat} (ho:o.op= .call c) (hc:c.callee= .builtin .len) (fj:c.args.toList=[x]) (wL:c.argTypes.toList=[t]) (hx:St.rd C.N S.sl x= .one (.l y)) (hq:jd tt t=some e) (hl:lenOf S.hp y=some (k,rl,rc)): ∃u,Out P C S o ⟨.l (.i .i64 k),[],n,rl,rc⟩ a w w ρ Fs u:=by
 obtain ⟨A,cap,hv⟩:=E4 h.mem hl (fP h hx)
 have e1:c.args= #[x]:=by apply Array.ext';simpa using fj
 have e2:c.argTypes= #[t]:=by apply Array.ext';simpa using wL
 refine ⟨_,Out.pure h rfl (nM (b:= .len) ho hc fun zO=> ?_) rfl⟩
 rw[e1,e2]
 have hu:=jG T hq
 have:=run_len_slice (P:=P) w t o.type A k cap (by rw[hu];simp[Program.elem,hu])
 simp[builtin,hv,this,goInt]
theorem Fg (h:aQ C S a w ρ Fs) {o:Oper} {c:Call} {x y:Operand} {k:IntKind} {u v:Int} (ho:o.op= .call c) (hc:c.callee= .builtin .min) (fj:c.args.toList=[x,y]) (hx:St.rd C.N S.sl x= .one (.l (.i k u))) (hy:St.rd C.N S.sl y= .one (.l (.i k v))): ∃r,Out P C S o ⟨.l (.i k (if v<u then v else u)),[],n,[],[]⟩ a w w ρ Fs r:=by
 have hu:a.eval x= .int k u:=fP h hx
 have hv:a.eval y= .int k v:=fP h hy
 have e1:c.args= #[x,y]:=by apply Array.ext';simpa using fj
 refine ⟨_,Out.pure h rfl (nM (b:= .min) ho hc fun zO=> ?_) rfl⟩
 rw[e1]
 have:=run_min_int2 (P:=P) w c.argTypes o.type k k u v
 simp[builtin,hu,hv,this]
theorem Fh (h:aQ C S a w ρ Fs) {o:Oper} {c:Call} {x y:Operand} {k:IntKind} {u v:Int} (ho:o.op= .call c) (hc:c.callee= .builtin .max) (fj:c.args.toList=[x,y]) (hx:St.rd C.N S.sl x= .one (.l (.i k u))) (hy:St.rd C.N S.sl y= .one (.l (.i k v))): ∃r,Out P C S o ⟨.l (.i k (if v>u then v else u)),[],n,[],[]⟩ a w w ρ Fs r:=by
 have hu:a.eval x= .int k u:=fP h hx
 have hv:a.eval y= .int k v:=fP h hy
 have e1:c.args= #[x,y]:=by apply Array.ext';simpa using fj
 refine ⟨_,Out.pure h rfl (nM (b:= .max) ho hc fun zO=> ?_) rfl⟩
 rw[e1]
 have:=run_max_int2 (P:=P) w c.argTypes o.type k k u v
 simp[builtin,hu,hv,this]
theorem kD.get {E:Env}: ∀ {xs:List A1} {vs:List Value},kD E xs vs-> ∀ {j:Nat} {x:A1},xs[j]? =some x-> ∃v,vs[j]? =some v/\uS E x v
 |x::xs,v::vs,h,0,y,hy=>by simp at hy;subst hy;exact ⟨v,rfl,h.1⟩
 |x::xs,v::vs,h,j+1,y,hy=>by simpa using kD.get h.2 (j:=j) (by simpa using hy)
def zj:Op->Bool
 | .call c=>(match c.callee with| .builtin _=>false|_=>true)
 |_=>false
theorem NJ {α β:Type} {f:α->β} {l:List α} {x y:β} (h:l.map f=[x,y]): ∃u v,l=[u,v]/\f u=x/\f v=y:=by
 cases l with
 |nil=>cases h
 |cons u l=>cases l with
  |nil=>simp at h
  |cons v l=>cases l with
   |nil=>simp at h;exact ⟨u,v,rfl,h.1,h.2⟩
   |cons _ _=>simp at h
theorem SJ {α β:Type} {f:α->β} {l:List α} {x:β} (h:l.map f=[x]): ∃u,l=[u]/\f u=x:=by
 cases l with
 |nil=>cases h
 |cons u l=>cases l with
  |nil=>simp at h;exact ⟨u,rfl,h⟩
  |cons _ _=>simp at h
theorem yb {G:fe fR} (T:kQ P G.tt) (h:aQ C S a w ρ Fs) {o:Oper} {c:Call} {b:Builtin} (ho:o.op= .call c) (hc:c.callee= .builtin b) {E:fR} (he:jQ G S.hp n b c.argTypes.toList (c.args.toList.map (St.rd C.N S.sl)) some=some E) (hg: ∀k,n<=k->k<E.nx->S.hp k=some .dH): ∃w' ρ' Fs' u,Out P C S o E a w w' ρ' Fs' u:=by
 generalize vr:c.args.toList.map (St.rd C.N S.sl)=xs at he
 generalize wL:c.argTypes.toList=ts at he
 unfold jQ at he
 split at he
 ·rename_i s t
  obtain ⟨x,e1,e2⟩:=SJ vr
  split at he
  ·rename_i sz bs hq
   cases he
   exact ⟨_,_,_,JV T h ho hc e1 wL e2 hq⟩
  ·cases he
 ·rename_i y t hn
  obtain ⟨x,e1,e2⟩:=SJ vr
  split at he
  ·rename_i k rl rc e' hq hl
   cases he
   exact ⟨_,_,_,Ma T h ho hc e1 wL e2 hq hl⟩
  ·cases he
 ·rename_i s x t tx
  obtain ⟨u,v,e1,e2,e3⟩:=NJ vr
  subst e2 e3
  exact zM T h ho hc e1 wL he hg
 ·rename_i d s t tx
  obtain ⟨u,v,e1,e2,e3⟩:=NJ vr
  subst e2 e3
  exact Dy T h ho hc e1 wL he
 ·rename_i k x k' y
  obtain ⟨u,v,e1,e2,e3⟩:=NJ vr
  replace he:=ai he
  obtain ⟨hk,he⟩:=he
  have:=of_decide_eq_true hk
  subst this
  cases he
  exact ⟨_,_,_,Fg h ho hc e1 e2 e3⟩
 ·rename_i k x k' y
  obtain ⟨u,v,e1,e2,e3⟩:=NJ vr
  replace he:=ai he
  obtain ⟨hk,he⟩:=he
  have:=of_decide_eq_true hk
  subst this
  cases he
  exact ⟨_,_,_,Fh h ho hc e1 e2 e3⟩
 ·cases he
theorem vl {R:Type} (p:Bool) (v:LV) (K:LV->Option R):aC p (K v)=(aC p (some v)).bind K:=by cases p<;>rfl
theorem tS {R:Type} (op:BinOp) (x y:LV) (K:LV->Option R):binOp op x y K=(binOp op x y some).bind K:=by
 unfold binOp
 split
 ·exact vl _ _ _
 ·exact vl _ _ _
 ·rename_i k a k' b _ _
  cases decide (k=k') with
  |false=>rfl
  |true=>
   simp only[cond_true]
   split<;>first|rfl|exact vl _ _ _
 all_goals first|rfl|exact vl _ _ _
theorem w9 {R:Type} (op:UnOp) (x:LV) (K:LV->Option R):unOp op x K=(unOp op x some).bind K:=by
 unfold unOp
 split<;>rfl
theorem kM {m:Nat} {v:AV} {E:fR} (h:kP m v some=some E):E=⟨v,[],m,[],[]⟩:=by cases h;rfl
theorem HE {G:fe fR} (T:kQ P G.tt) (hN:G.nt=C.N) (h:aQ C S a w ρ Fs) {o:Oper} (hf:zj o.op=false) {E:fR} (he:gX G o.op S.sl S.hp n some=some E) (hg: ∀k,n<=k->k<E.nx->S.hp k=some .dH): ∃w' ρ' Fs' u,Out P C S o E a w w' ρ' Fs' u:=by
 have one:(∃u,Out P C S o E a w w ρ Fs u)-> ∃w' ρ' Fs' u,Out P C S o E a w w' ρ' Fs' u:=fun ⟨u,hu⟩=>⟨_,_,_,u,hu⟩
 have gn:E.nx=n+1->S.hp n=some .dH:=fun hh=>hg n (Nat.le_refl _) (by omega)
 cases ho:o.op with
 |move x=>
  rw[ho] at he
  simp only[gX,hN] at he
  cases kM he
  exact one ⟨_,Out.pure h rfl (run_move (.inl ho) w) (h.rd x)⟩
 |assign x=>
  rw[ho] at he
  simp only[gX,hN] at he
  cases kM he
  exact one ⟨_,Out.pure h rfl (run_move (.inr ho) w) (h.rd x)⟩
 |pick c x y=>
  rw[ho] at he
  simp only[gX,hN] at he
  split at he
  ·rename_i b hc
   have hv:a.eval c= .bool b:=fP h hc
   cases b with
   |true=>cases kM he;exact one ⟨_,Out.pure h rfl (EY ho hv w) (h.rd x)⟩
   |false=>cases kM he;exact one ⟨_,Out.pure h rfl (EY ho hv w) (h.rd y)⟩
  ·cases he
 |alloc t=>
  rw[ho] at he
  simp only[gX,hN] at he
  exact Be T h ho he (gn (H5 he))
 |box t x=>
  rw[ho] at he
  simp only[gX,hN] at he
  exact E7 T h ho he (gn (L_ he))
 |build t ps=>
  rw[ho] at he
  simp only[gX,hN] at he
  exact one (Bf T h ho he)
 |buildSlice t len ps=>
  rw[ho] at he
  simp only[gX,hN] at he
  exact tP T h ho he (gn (ya he))
 |load t p=>
  rw[ho] at he
  simp only[gX,hN] at he
  exact one (Dp T h ho he)
 |store t p x=>
  rw[ho] at he
  simp only[gX,hN] at he
  exact Bg T h ho he
 |nilCheck x=>
  rw[ho] at he
  simp only[gX,hN] at he
  split at he
  ·rename_i id k hx
   have hr:=fP h hx
   obtain ⟨fJ,sy,b,cap,hρ,hv⟩:=hr
   cases kM he
   exact one ⟨_,Out.pure h rfl (Dk ho hv w) (by have:=h.rd x;rw[hx,hv] at this;exact this)⟩
  ·cases he
 |binOp op t x y u=>
  rw[ho] at he
  simp only[gX,hN] at he
  split at he
  ·rename_i x' y' hx hy
   replace he:=ai he
   obtain ⟨xX,he⟩:=he
   obtain ⟨h1,h2⟩:=az xX
   rw[tS] at he
   obtain ⟨z,hz,he⟩:=Option.bind_eq_some_iff.1 he
   cases kM he
   obtain ⟨r,r1,r2⟩:=E1 (P:=P) T hz t x y h1 (C.env w ρ S.hp S.nx Fs) (a.eval x) (a.eval y) (fP h hx) (fP h hy) (fun hh=>by
    subst hh
    cases y with
    |const c=>exact ⟨c,rfl⟩
    |_=>cases h2) w
   exact one ⟨r,Out.pure h rfl (JM ho r2) r1⟩
  ·cases he
 |unOp op t x=>
  rw[ho] at he
  simp only[gX,hN] at he
  split at he
  ·rename_i x' hx
   rw[w9] at he
   obtain ⟨z,hz,he⟩:=Option.bind_eq_some_iff.1 he
   cases kM he
   obtain ⟨r,r1,r2⟩:=HQ (P:=P) hz (C.env w ρ S.hp S.nx Fs) (a.eval x) (fP h hx) w
   exact one ⟨r,Out.pure h rfl (LR ho r2) r1⟩
  ·cases he
 |convert s d x=>
  rw[ho] at he
  simp only[gX,hN] at he
  exact one (xZ T h ho he)
 |makeSlice t l c=>
  rw[ho] at he
  simp only[gX,hN] at he
  exact vj T h ho he (gn (zN he))
 |slice t x lo hi mx=>
  rw[ho] at he
  simp only[gX,hN] at he
  cases mx with
  |none=>exact one (Bc T h ho he)
  |some m=>cases he
 |fieldAddr t x f=>
  rw[ho] at he
  simp only[gX,hN] at he
  exact one (vd T h ho he)
 |indexAddr t x i=>
  rw[ho] at he
  simp only[gX,hN] at he
  exact one (vc T h ho he)
 |index t x i=>
  rw[ho] at he
  simp only[gX,hN] at he
  exact one (Bd T h ho he)
 |extract x j=>
  rw[ho] at he
  simp only[gX,hN] at he
  split at he
  ·rename_i xs hx
   split at he
   ·rename_i y hy
    cases kM he
    have hr:=h.rd x
    rw[hx] at hr
    obtain ⟨vs,hv,hrel⟩:=hr
    obtain ⟨v,k1,k2⟩:=hrel.get hy
    exact one ⟨v,Out.pure h rfl (EZ ho hv (by simpa using k1) w) k2⟩
   ·cases he
  ·cases he
 |call c=>
  rw[ho] at he hf
  simp only[gX,hN] at he
  simp only[zj] at hf
  split at he
  ·rename_i b hc
   exact yb T h ho hc he hg
  ·rename_i f hc;rw[hc] at hf;cases hf
  ·cases he
 |_=>rw[ho] at he;cases he
end
section
variable {R:Type} {tt:TT} {hp:Nat->Option aq} {n:Nat} (K:fR->Option R)
theorem ba {A B:Type} (p:Bool) (x:Option A) (F:A->Option B):(bif p then x else none).bind F=bif p then x.bind F else none:=by cases p<;>rfl
theorem gG {A B:Type} (p:Bool) (x:Option A) (F:A->Option B):(bif p then none else x).bind F=bif p then none else x.bind F:=by cases p<;>rfl
theorem dO {A B:Type} (p:Bool) (x:Option A) (F:A->Option B):(aC p x).bind F=aC p (x.bind F):=by cases p<;>rfl
theorem iC {A B:Type} (x:AV) (G:Int->Option A) (F:A->Option B):(HK x G).bind F=HK x fun i=>(G i).bind F:=by
 unfold HK;split<;>rfl
theorem kN {A B:Type} (x:Option AV) (d:Int) (G:Int->Option A) (F:A->Option B):(zx x d G).bind F=zx x d fun i=>(G i).bind F:=by
 unfold zx;split
 ·rfl
 ·exact iC _ _ _
theorem mK (v:AV):(kP n v some).bind K=kP n v K:=rfl
theorem Dz (t:Nat):nJ tt n t K=(nJ tt n t some).bind K:=by
 unfold nJ
 repeat' (first|rfl|split| (simp only[ba,gG,dO,iC,kN,mK,Option.bind_some];done)|simp only[ba,gG,dO,iC,kN,mK,Option.bind_some])
theorem H6 (t:Nat) (x:AV):qt tt hp n t x K=(qt tt hp n t x some).bind K:=by
 unfold qt
 repeat' (first|rfl|split| (simp only[ba,gG,dO,iC,kN,mK,Option.bind_some];done)|simp only[ba,gG,dO,iC,kN,mK,Option.bind_some])
theorem DA (t:Nat) (ps:List (Nat×AV)):mB tt hp n t ps K=(mB tt hp n t ps some).bind K:=by
 unfold mB
 repeat' (first|rfl|split| (simp only[ba,gG,dO,iC,kN,mK,Option.bind_some];done)|simp only[ba,gG,dO,iC,kN,mK,Option.bind_some])
theorem vm (t len:Nat) (ps:List (Nat×AV)):fa tt hp n t len ps K=(fa tt hp n t len ps some).bind K:=by
 unfold fa
 split
 ·split
  ·simp only[ba]
   congr 1
   split<;>rfl
  ·rfl
 ·rfl
theorem Fi (t:Nat) (p:AV):pi tt hp n t p K=(pi tt hp n t p some).bind K:=by
 unfold pi
 split
 ·split
  ·cases cZ tt t
   ·simp only[cond_false,ba]
    congr 1
    split<;>rfl
   ·simp only[cond_true,ba];rfl
  ·rfl
 ·split
  ·simp only[ba];rfl
  ·rfl
 ·simp only[ba];rfl
 ·split
  ·simp only[ba];rfl
  ·rfl
 ·rfl
theorem w_ (t:Nat) (x ix:AV):gY tt hp n t x ix K=(gY tt hp n t x ix some).bind K:=by
 unfold gY
 rw[iC]
 congr 1
 funext i
 split
 ·split
  ·simp only[ba,dO];rfl
  ·rfl
 ·split
  ·simp only[ba,dO];rfl
  ·rfl
 ·simp only[ba,dO];rfl
 ·split
  ·simp only[ba,dO];rfl
  ·rfl
 ·split
  ·simp only[ba,dO];rfl
  ·rfl
 ·rfl
theorem xa (t:Nat) (x:AV) (f:Nat):gZ tt hp n t x f K=(gZ tt hp n t x f some).bind K:=by
 unfold gZ
 repeat' (first|rfl|split)
theorem DB (t:Nat) (x ix:AV):qU tt n t x ix K=(qU tt n t x ix some).bind K:=by
 unfold qU
 split
 ·split
  ·simp only[iC,dO];rfl
  ·rfl
 ·rfl
theorem zP (s d:Nat) (x:AV):jP tt hp n s d x K=(jP tt hp n s d x some).bind K:=by
 unfold jP
 simp only[ba]
 congr 1
 split
 ·split<;>rfl
 ·split<;>rfl
 ·split
  ·split<;>rfl
  ·rfl
 ·rfl
theorem xb (t:Nat) (l c:Operand) (x:AV):iQ tt n t l c x K=(iQ tt n t l c x some).bind K:=by
 unfold iQ
 simp only[ba]
 congr 1
 split
 ·split
  ·simp only[iC,dO];rfl
  ·rfl
 ·rfl
theorem nN (e:Nat) (r0 base y:Row) (ks:List Nat) (up:List (Nat×Option aq)) (rc:List Nat):n_ tt e r0 base y ks up n rc K=(n_ tt e r0 base y ks up n rc some).bind K:=by
 unfold n_
 split
 ·simp only[ba,dO];rfl
 ·rfl
theorem Bi (t tx:Nat) (s x:AV):la tt hp n t tx s x K=(la tt hp n t tx s x some).bind K:=by
 unfold la
 split
 ·split
  ·split
   ·simp only[ba]
    congr 1
    split
    ·exact nN K ..
    ·split
     ·simp only[gG];congr 1;exact nN K ..
     ·rfl
    ·split
     ·simp only[gG,ba];congr 2;exact nN K ..
     ·rfl
    ·split
     ·simp only[gG,ba];congr 2;exact nN K ..
     ·rfl
    ·rfl
   ·rfl
  ·rfl
 ·rfl
theorem Fj (t:Nat) (d s:AV):pj tt hp n t d s K=(pj tt hp n t d s some).bind K:=by
 unfold pj
 simp only[ba]
 congr 1
 split
 ·split
  ·simp only[ba];rfl
  ·simp only[ba,dO];rfl
  ·rfl
 ·rfl
theorem DC (t:Nat) (x:AV) (lo hi:Option AV):mD tt hp n t x lo hi K=(mD tt hp n t x lo hi some).bind K:=by
 unfold mD
 split
 ·split
  ·simp only[kN,dO];rfl
  ·rfl
 ·split
  ·simp only[ba]
   congr 1
   split
   ·rfl
   ·simp only[kN,dO];rfl
  ·rfl
 ·simp only[ba]
  congr 1
  split
  ·rfl
  ·simp only[iC,dO];rfl
  ·simp only[iC,dO];rfl
  ·simp only[iC,dO];rfl
 ·rfl
theorem DD (t:Nat) (p x:AV):mC tt hp n t p x K=(mC tt hp n t p x some).bind K:=by
 unfold mC
 split
 ·split
  ·simp only[ba];rfl
  ·rfl
 ·split
  ·split
   ·simp only[ba]
    congr 1
    split
    ·simp only[gG];rfl
    ·rfl
   ·simp only[ba,dO]
    congr 2
    split
    ·split
     ·simp only[gG];rfl
     ·rfl
    ·rfl
   ·rfl
  ·rfl
 ·split
  ·split
   ·simp only[ba]
    congr 1
    split<;>rfl
   ·rfl
  ·rfl
 ·split
  ·simp only[ba]
   congr 1
   split<;>rfl
  ·rfl
 ·rfl
def fe.DN {R:Type} (G:fe R):fe fR:=⟨G.tt,fun _ _ _=>none,G.sig,G.nt⟩
theorem zQ (G:fe R) (b:Builtin) (ts:List Nat) (xs:List AV):jQ G hp n b ts xs K=(jQ G.DN hp n b ts xs some).bind K:=by
 unfold jQ
 split
 ·simp only[fe.DN];split<;>rfl
 ·simp only[fe.DN];split<;>rfl
 ·exact Bi K ..
 ·exact Fj K ..
 ·simp only[ba];rfl
 ·simp only[ba];rfl
 ·rfl
theorem JC (G:fe R) (o:Op) (sl:Nat->AV) (hf:zj o=false):gX G o sl hp n K=(gX G.DN o sl hp n some).bind K:=by
 cases o with
 |move x=>rfl
 |assign x=>rfl
 |pick c x y=>
  simp only[gX,fe.DN]
  split
  ·split<;>rfl
  ·rfl
 |alloc t=>exact Dz K t
 |box t x=>exact H6 K t _
 |build t ps=>exact DA K t _
 |buildSlice t len ps=>exact vm K t len _
 |load t p=>exact Fi K t _
 |store t p x=>exact DD K t _ _
 |nilCheck x=>simp only[gX,fe.DN];split<;>rfl
 |binOp op t x y u=>
  simp only[gX,fe.DN]
  split
  ·simp only[ba]
   congr 1
   rw[tS,tS (R:=fR)]
   cases binOp op _ _ some<;>rfl
  ·rfl
 |unOp op t x=>
  simp only[gX,fe.DN]
  split
  ·rw[w9,w9 (R:=fR)]
   cases unOp op _ some<;>rfl
  ·rfl
 |convert s d x=>exact zP K s d _
 |makeSlice t l c=>exact xb K t l c _
 |slice t x lo hi mx=>
  cases mx with
  |none=>exact DC K t _ _ _
  |some m=>rfl
 |fieldAddr t x f=>exact xa K t _ f
 |indexAddr t x i=>exact w_ K t _ _
 |index t x i=>exact DB K t _ _
 |extract x j=>
  simp only[gX,fe.DN]
  split
  ·split<;>rfl
  ·rfl
 |call c=>
  simp only[gX,fe.DN]
  simp only[zj] at hf
  split
  ·exact zQ K ..
  ·rename_i f hc;rw[hc] at hf;cases hf
  ·rfl
 |_=>rfl
theorem kO {hp':Nat->Option aq} (hs:Sub hp hp') {id:Nat} {r:Row} (h:jg hp id=some r):jg hp' id=some r:=by
 unfold jg at h ⊢
 split at h
 ·rename_i hq;rw[hs _ _ hq];exact h
 ·rename_i hq;rw[hs _ _ hq];exact h
 ·cases h
theorem xA {hp':Nat->Option aq} (hs:Sub hp hp') {x:LV} {r:Row×List Nat} (h:fG hp x=some r):fG hp' x=some r:=by
 cases x with
 |val p r=>exact h
 |own id=>
  simp only[fG] at h ⊢
  split at h
  ·rename_i hq;rw[hs _ _ hq];exact h
  ·cases h
 |sub id lo hi=>
  simp only[fG] at h ⊢
  split at h
  ·rename_i hq;rw[hs _ _ hq];exact h
  ·cases h
 |inner id ver i f=>
  simp only[fG] at h ⊢
  split at h
  ·rename_i hq;rw[hs _ _ hq];exact h
  ·rename_i hq;rw[hs _ _ hq];exact h
  ·cases h
 |_=>cases h
theorem B_ {hp':Nat->Option aq} (hs:Sub hp hp') {x:LV} {r:Nat×List Nat×List Nat} (h:lenOf hp x=some r):lenOf hp' x=some r:=by
 cases x with
 |val p r=>exact h
 |nil=>exact h
 |own id=>
  simp only[lenOf] at h ⊢
  split at h
  ·rename_i hq;rw[kO hs hq];exact h
  ·cases h
 |sub id lo hi=>
  simp only[lenOf] at h ⊢
  split at h
  ·rename_i hq;rw[kO hs hq];exact h
  ·cases h
 |inner id ver i f=>
  simp only[lenOf] at h ⊢
  split at h
  ·rename_i hq;rw[hs _ _ hq];exact h
  ·rename_i hq;rw[hs _ _ hq];exact h
  ·cases h
 |_=>cases h
theorem vn {hp':Nat->Option aq} (hs:Sub hp hp') {x:LV} (h:storable hp x=true):storable hp' x=true:=by
 have row: ∀id,(jg hp id).isSome=true->(jg hp' id).isSome=true:=fun id hh=>by
  obtain ⟨r,hr⟩:=Option.isSome_iff_exists.1 hh
  rw[kO hs hr];rfl
 cases x with
 |own id=>exact row id h
 |sub id lo hi=>exact row id h
 |oG id i f=>exact row id h
 |arr id n=>exact row id h
 |inner id ver i f=>
  simp only[storable] at h ⊢
  split at h
  ·rename_i hq;rw[hs _ _ hq];exact h
  ·cases h
 |wT id ver i f j=>
  simp only[storable] at h ⊢
  split at h
  ·rename_i hq;rw[hs _ _ hq];exact h
  ·cases h
 |_=>exact h
theorem pu {hp':Nat->Option aq} (hs:Sub hp hp') {x:AV} {xs:List LV} (h:k_ hp x=some xs):k_ hp' x=some xs:=by
 unfold k_ at h ⊢
 split
 ·obtain ⟨h1,h2⟩:=ai h
  rw[vn hs h1];exact h2
 ·obtain ⟨h1,h2⟩:=ai h
  have:List.all _ (storable hp')=true:=List.all_eq_true.2 fun y hy=>vn hs (List.all_eq_true.1 h1 y hy)
  rw[this];exact h2
 ·exact h
theorem zR {hp':Nat->Option aq} (hs:Sub hp hp') (ks:List Nat):Sub (kill hp ks) (kill hp' ks):=fun j r h=>by
 obtain ⟨h1,h2⟩:=qV h
 rw[je,if_neg h1];exact hs j r h2
theorem pv {hp':Nat->Option aq} (hs:Sub hp hp') {x:LV} {r:Bool×List Int×List Nat} (h:n9 hp x=some r):n9 hp' x=some r:=by
 unfold n9 at h ⊢
 split at h
 ·exact h
 ·exact h
 ·split at h
  ·rename_i hq;simp only[hs _ _ hq];exact h
  ·cases h
 ·split at h
  ·rename_i hq;simp only[hs _ _ hq];exact h
  ·cases h
 ·cases h
end
section
variable {tt:TT} {hp hp':Nat->Option aq} {n:Nat}
theorem nO: ∀(sg:List Bool) (xs:List LV) {hp hp':Nat->Option aq} (hs:Sub hp hp') {r:Bool×List jC×List Nat},fI hp sg xs=some r->fI hp' sg xs=some r
 | [],[],_,_,_,_,h=>h
 | [],_::_,_,_,_,_,h=>by simp[fI] at h
 |false::sg,[],_,_,_,_,h=>by simp[fI] at h
 |true::sg,[],_,_,_,_,h=>by simp[fI] at h
 |false::sg,x::xs,hp,hp',hs,r,h=>by
  cases x with
  |i k z=>
   cases k with
   |i64=>
    simp only[fI] at h ⊢
    split at h
    ·rename_i hq;rw[nO sg xs hs hq];exact h
    ·cases h
   |_=>simp[fI] at h
  |_=>simp[fI] at h
 |true::sg,x::xs,hp,hp',hs,r,h=>by
  simp only[fI] at h ⊢
  split at h
  ·rename_i hq
   rw[pv hs hq]
   split at h
   ·rename_i FJ;simp only[nO sg xs (zR hs _) FJ];exact h
   ·cases h
  ·cases h
theorem mL: ∀(xs:List AV) {hp hp':Nat->Option aq} (hs:Sub hp hp') (r0:Row) {r:Row×List Nat},rowOf hp r0 xs=some r->rowOf hp' r0 xs=some r
 | [],_,_,_,r0,_,h=>by cases r0<;>simpa[rowOf] using h
 |x::xs,hp,hp',hs,r0,r,h=>by
  unfold rowOf at h ⊢
  split at h
  ·rename_i zG;cases zG
  ·rename_i k _ k' z Qn zG
   cases zG
   by_cases hk:k=k'
   ·subst hk
    simp only[decide_true,cond_true] at h ⊢
    split at h
    ·rename_i hq;rw[mL xs hs _ hq];exact h
    ·cases h
   ·simp[hk] at h
  ·rename_i zG
   cases zG
   split at h
   ·rename_i hq;rw[mL xs hs _ hq];exact h
   ·cases h
  ·rename_i zG
   cases zG
   split at h
   ·rename_i hq;rw[mL xs hs _ hq];exact h
   ·cases h
  ·rename_i zG
   cases zG
   split at h
   ·rename_i hq
    rw[pv hs hq]
    split at h
    ·rename_i FJ;simp only[mL xs (zR hs _) _ FJ];exact h
    ·cases h
   ·cases h
  ·rename_i zG
   cases zG
   split at h
   ·rename_i hq
    rw[nO _ _ hs hq]
    split at h
    ·rename_i FJ;simp only[mL xs (zR hs _) _ FJ];exact h
    ·cases h
   ·cases h
  ·cases h
theorem sV (hs:Sub hp hp') (fs:List (Nat×Nat)): ∀(ps:List (Nat×AV)) (zero:List LV) {xs:List LV},kJ tt hp fs zero ps=some xs->kJ tt hp' fs zero ps=some xs
 | [],zero,xs,h=>h
 | (i,x)::ps,zero,xs,h=>by
   simp only[kJ] at h ⊢
   split at h
   ·rename_i h1 h2
    simp only[h1,pu hs h2]
    split at h
    ·rename_i h3
     try simp only[h3]
     obtain ⟨h4,h5⟩:=ai h
     rw[h4]
     exact sV hs fs ps _ h5
    ·cases h
   ·cases h
theorem DE (hs:Sub hp hp') (ag:Bool) (i f:Nat) (x:AV) (r:Row) {y:Row×List Nat×Bool} (h:ki hp ag i f x r=some y):ki hp' ag i f x r=some y:=by
 cases r with
 |ints k l=>exact h
 |cx l=>exact h
 |strs l=>exact h
 |rows o l=>
  simp only[ki] at h ⊢
  split at h
  ·split at h
   ·rename_i hq;simp only[pv hs hq];exact h
   ·cases h
  ·cases h
 |cB sg o l=>
  simp only[ki] at h ⊢
  split at h
  ·obtain ⟨h1,h2⟩:=ai h
   subst h1
   simp only[cond_true]
   split at h2
   ·rename_i hq;rw[nO _ _ hs hq];exact h2
   ·cases h2
  ·exact h
  ·cases h
theorem JW (hs:Sub hp hp') {r0:Row} {x:LV} {y:Row×List Nat×List Nat} (h:lh hp r0 x=some y):lh hp' r0 x=some y:=by
 obtain ⟨y,ks,rc⟩:=y
 refine xP h fun j hj=> ?_
 obtain ⟨e,v,r,hl⟩:=zL h j hj
 rw[hl,hs _ _ hl]
theorem JX (hs:Sub hp hp') {t:Nat} {x:AV} {E:fR} (h:qt tt hp n t x some=some E):qt tt hp' n t x some=some E:=by
 unfold qt at h ⊢
 split at h
 ·cases h
 ·rename_i hn hq
  split at h
  ·rename_i h1
   rw[pu hs h1]
   first
    |exact h
    | (split<;>simp_all)
  ·cases h
 ·cases h
theorem Fl (hs:Sub hp hp') {t:Nat} {ps:List (Nat×AV)} {E:fR} (h:mB tt hp n t ps some=some E):mB tt hp' n t ps some=some E:=by
 unfold mB at h ⊢
 split at h
 ·rename_i hq
  try simp only[hq]
  split at h
  ·rename_i h1;rw[sV hs _ _ _ h1];exact h
  ·cases h
 ·rename_i hq
  try simp only[hq]
  exact h
 ·cases h
theorem xc (hs:Sub hp hp') {t len:Nat} {ps:List (Nat×AV)} {E:fR} (h:fa tt hp n t len ps some=some E):fa tt hp' n t len ps some=some E:=by
 unfold fa at h ⊢
 split at h
 ·rename_i hq
  try simp only[hq]
  split at h
  ·rename_i h1 h2
   try simp only[h1,h2]
   obtain ⟨h3,h4⟩:=ai h
   rw[h3]
   simp only[cond_true]
   split at h4
   ·rename_i h5;rw[mL _ hs _ h5];exact h4
   ·cases h4
  ·cases h
 ·cases h
theorem H7 (hs:Sub hp hp') {t:Nat} {p:AV} {E:fR} (h:pi tt hp n t p some=some E):pi tt hp' n t p some=some E:=by
 unfold pi at h ⊢
 split at h
 ·split at h
  ·rename_i h1;simp only[hs _ _ h1];exact h
  ·cases h
 ·split at h
  ·rename_i h1;simp only[hs _ _ h1];exact h
  ·cases h
 ·exact h
 ·split at h
  ·rename_i h1;simp only[hs _ _ h1];exact h
  ·cases h
 ·cases h
theorem Fm (hs:Sub hp hp') {t:Nat} {p x:AV} {E:fR} (h:mC tt hp n t p x some=some E):mC tt hp' n t p x some=some E:=by
 unfold mC at h ⊢
 split at h
 ·split at h
  ·rename_i h1 h2;simp only[hs _ _ h1,pu hs h2];exact h
  ·cases h
 ·split at h
  ·rename_i hq
   try simp only[hq]
   split at h
   ·rename_i h1
    simp only[hs _ _ h1]
    obtain ⟨h2,h3⟩:=ai h
    rw[h2]
    simp only[cond_true]
    split at h3
    ·rename_i h4;simp only[DE hs _ _ _ _ _ h4];exact h3
    ·cases h3
   ·rename_i h1
    simp only[hs _ _ h1]
    obtain ⟨h2,h3⟩:=ai h
    rw[h2]
    simp only[cond_true]
    obtain ⟨h4,h5⟩:=dW h3
    rw[h4]
    simp only[aC,cond_true]
    split at h5
    ·split at h5
     ·rename_i h6;simp only[pv hs h6];exact h5
     ·cases h5
    ·cases h5
   ·cases h
  ·cases h
 ·split at h
  ·rename_i hq
   try simp only[hq]
   split at h
   ·rename_i h1 h3
    simp only[hs _ _ h1,h3]
    exact h
   ·cases h
  ·cases h
 ·split at h
  ·rename_i h1
   simp only[hs _ _ h1]
   exact h
  ·cases h
 ·cases h
theorem PO {x:AV} {F F':Int->Option fR} {E:fR} (h:HK x F=some E) (hh: ∀i,F i=some E->F' i=some E):HK x F' =some E:=by
 obtain ⟨k,i,rfl,h⟩:=kj h
 exact hh i h
theorem yc (hs:Sub hp hp') {t:Nat} {x ix:AV} {E:fR} (h:gY tt hp n t x ix some=some E):gY tt hp' n t x ix some=some E:=by
 unfold gY at h ⊢
 refine PO h fun i h=> ?_
 split at h
 ·split at h
  ·rename_i h1;simp only[kO hs h1];exact h
  ·cases h
 ·split at h
  ·rename_i h1;simp only[kO hs h1];exact h
  ·cases h
 ·exact h
 ·split at h
  ·rename_i h1;simp only[B_ hs h1];exact h
  ·cases h
 ·split at h
  ·rename_i h1 h2;simp only[h1,kO hs h2];exact h
  ·cases h
 ·cases h
theorem yd (hs:Sub hp hp') {t f:Nat} {x:AV} {E:fR} (h:gZ tt hp n t x f some=some E):gZ tt hp' n t x f some=some E:=by
 unfold gZ at h ⊢
 split at h
 ·rename_i hq
  try simp only[hq]
  split at h
  ·rename_i FJ
   try simp only[FJ]
   split at h
   ·exact h
   ·split at h
    ·rename_i h1;simp only[kO hs h1];exact h
    ·cases h
   ·exact h
   ·cases h
  ·cases h
 ·cases h
theorem Fp (hs:Sub hp hp') {t:Nat} {x:AV} {lo hi:Option AV} {E:fR} (h:mD tt hp n t x lo hi some=some E):mD tt hp' n t x lo hi some=some E:=by
 unfold mD at h ⊢
 split at h
 ·exact h
 ·split at h
  ·rename_i h1;simp only[kO hs h1];exact h
  ·cases h
 ·exact h
 ·cases h
theorem Bj (hs:Sub hp hp') {s d:Nat} {x:AV} {E:fR} (h:jP tt hp n s d x some=some E):jP tt hp' n s d x some=some E:=by
 unfold jP at h ⊢
 obtain ⟨h1,h⟩:=ai h
 rw[h1]
 simp only[cond_true]
 split at h
 ·exact h
 ·exact h
 ·split at h
  ·rename_i h2 h3
   simp only[h2,xA hs h3]
   exact h
  ·cases h
 ·cases h
theorem DF (hs:Sub hp hp') {t tx:Nat} {s x:AV} {E:fR} (h:la tt hp n t tx s x some=some E):la tt hp' n t tx s x some=some E:=by
 unfold la at h ⊢
 split at h
 ·rename_i hq
  try simp only[hq]
  split at h
  ·rename_i FJ
   try simp only[FJ]
   split at h
   ·rename_i h1
    rw[JW hs h1]
    simp only[]
    obtain ⟨h2,h3⟩:=ai h
    rw[h2]
    simp only[cond_true]
    split at h3
    ·exact h3
    ·split at h3
     ·rename_i h4;simp only[hs _ _ h4];exact h3
     ·cases h3
    ·split at h3
     ·rename_i h4;simp only[hs _ _ h4];exact h3
     ·cases h3
    ·split at h3
     ·rename_i h4;simp only[hs _ _ h4];exact h3
     ·cases h3
    ·cases h3
   ·cases h
  ·cases h
 ·cases h
theorem H8 (hs:Sub hp hp') {t:Nat} {d s:AV} {E:fR} (h:pj tt hp n t d s some=some E):pj tt hp' n t d s some=some E:=by
 unfold pj at h ⊢
 obtain ⟨h1,h⟩:=ai h
 rw[h1]
 simp only[cond_true]
 split at h
 ·split at h
  ·rename_i h2;simp only[hs _ _ h2];exact h
  ·rename_i h2;simp only[hs _ _ h2];exact h
  ·cases h
 ·cases h
theorem Bk {G:fe fR} (hs:Sub hp hp') {b:Builtin} {ts:List Nat} {xs:List AV} {E:fR} (h:jQ G hp n b ts xs some=some E):jQ G hp' n b ts xs some=some E:=by
 unfold jQ at h ⊢
 split at h
 ·exact h
 ·split at h
  ·rename_i h1 h2;simp only[h1,B_ hs h2];exact h
  ·cases h
 ·exact DF hs h
 ·exact H8 hs h
 ·exact h
 ·exact h
 ·cases h
theorem Lu {G:fe fR} (hs:Sub hp hp') {o:Op} {sl:Nat->AV} (hf:zj o=false) {E:fR} (h:gX G o sl hp n some=some E):gX G o sl hp' n some=some E:=by
 cases o with
 |move x=>exact h
 |assign x=>exact h
 |pick c x y=>exact h
 |alloc t=>exact h
 |box t x=>exact JX hs h
 |build t ps=>exact Fl hs h
 |buildSlice t len ps=>exact xc hs h
 |load t p=>exact H7 hs h
 |store t p x=>exact Fm hs h
 |nilCheck x=>exact h
 |binOp op t x y u=>exact h
 |unOp op t x=>exact h
 |convert s d x=>exact Bj hs h
 |makeSlice t l c=>exact h
 |slice t x lo hi mx=>
  cases mx with
  |none=>exact Fp hs h
  |some m=>exact h
 |fieldAddr t x f=>exact yd hs h
 |indexAddr t x i=>exact yc hs h
 |index t x i=>exact h
 |extract x j=>exact h
 |call c=>
  simp only[gX] at h ⊢
  simp only[zj] at hf
  split at h
  ·exact Bk hs h
  ·rename_i f hc;rw[hc] at hf;cases hf
  ·exact h
 |_=>exact h
end
end Go.Proofs.YtbmmhdmljajcfaaGreatDoor.V
