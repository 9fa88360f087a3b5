/- The abstract evaluator and its soundness: part VOpP. Conditions: as each section says. -/
import Derived.Test.YtbmmhdmljajcfaaGreatDoorVOpH
import Derived.Laws.CopyRow
import Derived.Deep.Upon
import Derived.Laws.Small
set_option linter.unusedVariables false
set_option linter.unusedSimpArgs false
namespace Go.Proofs.YtbmmhdmljajcfaaGreatDoor.V
open Go
section
variable {P:Program} {tt:TT} {C:Cx} {S:St} {a:Act} {w:World} {ρ:Place} {Fs:Nat->FP} {n:Nat}
theorem inOrder_sound (env:Operand->Value) (nt:Nat) (sl:Nat->AV): ∀(ps:List (Nat×Operand)) (i:Nat) (xs:List AV),inOrder i (ps.map fun p=>(p.1,St.rd nt sl p.2))=some xs->xs=ps.map (fun p=>St.rd nt sl p.2)/\(ps.map fun p=>(p.1,env p.2))=((ps.map fun p=>env p.2).zipIdx i).map (fun x=>(x.2,x.1))
 | [],i,xs,h=>by simp only[List.map_nil,inOrder,Option.some.injEq] at h;subst h;exact ⟨rfl,rfl⟩
 |p::ps,i,xs,h=>by
  simp only[List.map_cons,inOrder] at h
  obtain ⟨h1,h⟩:=bif_some h
  have h1:=eq_of_beq h1
  split at h
  ·rename_i ys hq
   simp only[Option.some.injEq] at h
   subst h
   obtain ⟨g1,g2⟩:=inOrder_sound env nt sl ps (i+1) ys hq
   subst g1
   refine ⟨rfl,?_⟩
   simp only[List.map_cons,List.zipIdx_cons,g2,h1]
  ·cases h
theorem rds_rel (h:SRel C S a w ρ Fs): ∀ps:List (Nat×Operand),AVsRel (C.env w ρ S.hp S.nx Fs) (ps.map fun p=>St.rd C.N S.sl p.2) (ps.map fun p=>a.eval p.2)
 | []=>trivial
 |p::ps=>⟨h.rd p.2,rds_rel h ps⟩
theorem emptyRow_len {e:Nat} {r:Row} (h:emptyRow tt e=some r):r.len=0:=by
 unfold emptyRow at h
 split at h
 all_goals first
  | (obtain ⟨_,h⟩:=bif_some h;cases h;rfl)
  | (cases h;rfl)
  |cases h
theorem run_buildSlice' (w:World) (t e:TypeId) (len:Nat) (parts:Array (Nat×Value)) (vs:List Value) (ie:TypeInfo) (z:Value) (hu:P.underlying t=some (.slice e)) (hie:P.info? e=some ie) (hz:ie.zero=some z) (hsmall:len*ie.size<=16777216) (hs:0<ie.size)
 (hp:parts.toList=(vs.zipIdx 0).map (fun x=>(x.2,x.1))) (hl:vs.length=len) (hv: ∀v∈vs,v.cells.size=ie.size):
 (Instr.buildSlice t len parts).run P w= .ok (.slice (some ⟨w.heap.size,0,none⟩) len len) (w.alloc (.cells (flat vs).toArray e)):=by
 by_cases h0:len=0
 ·subst h0
  have hvs:vs=[]:=List.eq_nil_of_length_eq_zero hl
  subst hvs
  have hp':parts.toList=[]:=by simpa using hp
  have hnil:parts= #[]:=by apply Array.ext';simpa using hp'
  subst hnil
  simp[Instr.buildSlice,run_underlying hu,sizeOf,typeInfo,hie,newRow,Instr.fill,flat]
  congr 2
  apply Array.ext'
  simp
 ·refine run_buildSlice w t e len parts _ ie z hu hie hz (by omega) (by have:=Nat.mul_pos (Nat.pos_of_ne_zero h0) hs;omega) ?_
  rw[hp]
  exact Great.fill_whole hs vs _ hv (by simp[hl])
theorem evBuildSlice_sound (T:TOK P tt) (h:SRel C S a w ρ Fs) {o:Oper} {t len:Nat} {ps:Array (Nat×Operand)} (ho:o.op= .buildSlice t len ps) {E:Eff} (he:evBuildSlice (R:=Eff) tt S.hp n t len (ps.toList.map fun p=>(p.1,St.rd C.N S.sl p.2)) some=some E) (hg:S.hp n=some .ghost): ∃w' ρ' Fs' u,Out P C S o E a w w' ρ' Fs' u:=by
 unfold evBuildSlice at he
 split at he
 ·rename_i e hel
  split at he
  ·rename_i r0 xs hr0 hxs
   obtain ⟨hc,he⟩:=bif_some he
   obtain ⟨hl,hsm⟩:=and_bool hc
   have hl:=eq_of_beq hl
   have hsm:=Nat.le_of_ble_eq_true hsm
   split at he
   ·rename_i r ks hr
    cases he
    obtain ⟨g1,g2⟩:=inOrder_sound a.eval C.N S.sl ps.toList 0 xs hxs
    have hrel:=rds_rel h ps.toList
    rw[<- g1] at hrel
    obtain ⟨F,k1,k2,k3,k4,k5,k6,k7,k8,_,_⟩:=rowOf_sound h.mem xs _ S.hp r0 r ks (Sub.refl _) (emptyRow_len hr0) hr hrel
    obtain ⟨te,q1,q2,q3,q4⟩:=emptyRow_size T hr0
    obtain ⟨i,z,z1,z2,z3,z4,z5,z6⟩:=zero_facts T q1 q3
    have hfl:(flat (ps.toList.map fun p=>a.eval p.2)).length=len*r0.size:=by
     have: ∀l:List Value,(∀v∈l,v.cells.size=r0.size)->(flat l).length=l.length*r0.size:=by
      intro l
      induction l with
      |nil=>intro _;simp[flat]
      |cons v l ih=>
       intro hv
       rw[flat_cons,List.length_append,ih (fun u hu=>hv u (by simp[hu])),Array.length_toList,hv v (by simp),List.length_cons,Nat.succ_mul]
       omega
     rw[this _ k6,k7,hl]
    refine ⟨_,_,_,.slice (some ⟨w.heap.size,0,none⟩) len len,.inl ?_,SRel.newRow h hg ks k3.1 (k3.live (Sub.refl _)) e r (flat (ps.toList.map fun p=>a.eval p.2)).toArray e len F (by simpa using k1) k2 (by omega) (by rw[k5];simp only[List.size_toArray];omega) (w.alloc (.cells (flat (ps.toList.map fun p=>a.eval p.2)).toArray e)) rfl rfl rfl rfl,?_⟩
    ·simp only[execOp,ho]
     refine run_v (run_buildSlice' w t e len _ _ i z (slice_facts T hel) z1 z2 (by rw[z4,q2];exact hsm) (by omega) ?_ (by rw[k7,hl]) (fun v hv=>by rw[k6 v hv,z4,q2]))
     rw[Array.toList_map,g2]
    ·have:=own_rel (C:=C) (w':=w.alloc (.cells (flat (ps.toList.map fun p=>a.eval p.2)).toArray e)) (ρ':=newρ ρ n (some (w.heap.size,len))) (hp':=upd S.hp (killUp ks++[(n,some (.row e 0 r))])) (nx:=S.nx) (Fs':=putF (kilF Fs ks) n (fadd (f1 w.heap.size) F)) (live_lt h.mem hg) (newρ_self ..) (e:=e) (v:=0) (r:=r) (by rw[upd_append,upd_one,if_pos rfl])
     rw[k4,hl] at this
     exact this
   ·cases he
  ·cases he
 ·cases he
theorem run_storeAt' {t:TypeId} {i:TypeInfo} (hi:P.info? t=some i) {w:World} {b o:Nat} {arr:Array Value} {ty:TypeId} (hb:w.heap[b]? =some (.cells arr ty (0,0))) {v:Value} (hs:v.cells.size=i.size) (hone: ∀u∈v.cells.toList,u.oneCell' =true) (hfit:o+i.size<=arr.size):
 (Instr.storeAt t (.pointer (some ⟨b,o,none⟩)) v).run P w= .ok () (w.setRow b (arr.toList.take o++v.cells.toList++arr.toList.drop (o+i.size)).toArray):=by
 unfold Instr.storeAt
 rw[run_then (x:=(⟨b,o,none⟩:Addr)) (w':=w) rfl]
 unfold storeVar
 rw[run_then (run_sizeOf' hi)]
 have:=run_storeCells_at P b o ty v.cells.toList 0 arr w hb (by simp[hs];exact hfit) hone
 simp only[Nat.add_zero,Array.length_toList,hs] at this
 simp[hs,this]
theorem setRow_other (w:World) (g:Nat) (cs:Array Value) {b:Nat} (h:b≠g):(w.setRow g cs).heap[b]? =w.heap[b]? :=by
 simp[World.setRow,Array.getElem?_modify,Ne.symm h]
theorem setRow_size (w:World) (g:Nat) (cs:Array Value):(w.setRow g cs).heap.size=w.heap.size:=by simp[World.setRow]
def Zt (C:Cx) (w:World) (nx:Nat) (Fs:Nat->FP) (id:Nat) (ks:List Nat) (b:Nat) (F:FP):Zs:=fun b'=>C.ZL w (sumTo nx Fs) b' \/(1<=Fs id b' +sumL Fs ks b' /\F b' =0/\b' ≠b)
theorem SRel.turnRow (h:SRel C S a w ρ Fs) (ks:List Nat) (hks:ks.Nodup) (hlive: ∀k∈ks,S.hp k≠none) {id:Nat} (hid:id∉ks) {root:Root} (hr0:S.hp id=some root) {b cap:Nat} (hρ:ρ id=some (b,cap)) {arr arr':Array Value} {ty:TypeId} (hb:w.heap[b]? =some (.cells arr ty (0,0))) (e ver:Nat) (r:Row) (F:FP)
 (hc:CellsRel w (Zt C w S.nx Fs id ks b F) r.cells arr'.toList F) (hF: ∀b',F b' +f1 b b' <=Fs id b' +sumL Fs ks b') (hown:1<=Fs id b) (h1:r.len<=cap) (h2:cap*r.size<=arr'.size) (hl:Like w (w.setRow b arr') (ρ id) root (.row e ver r)):
 SRel C ⟨S.sl,upd S.hp (killUp ks++[(id,some (.row e ver r))]),S.nx⟩ a (w.setRow b arr') ρ (putF (kilF Fs ks) id (fadd (f1 b) F)):=by
 have hk: ∀k∈ks,k<S.nx:=fun k h'=>by
  cases e:S.hp k with
  |none=>exact absurd e (hlive k h')
  |some r=>exact live_lt h.mem e
 have hidlt:=live_lt h.mem hr0
 have htot: ∀b',Fs id b' +sumL Fs ks b' <=sumTo S.nx Fs b':=fun b'=>sumL_out Fs b' S.nx hks hk hidlt hid
 have hFb:F b=0:=by
  have:=hF b
  have:=htot b
  have:=h.mem.one b
  simp at*
  omega
 refine h.turn ks hks hlive id hid root _ hr0 _ (w.setRow b arr') (setRow_size ..) rfl rfl rfl (fun b' hb' h0=>setRow_other w b arr' (by rintro rfl;omega)) (fun b'=>by have:=hF b';simp;omega) hl (fun M=> ?_)
 refine .inr ⟨b,cap,arr',ty,F,hρ,setRow_heap w b arr arr' ty _ hb,h1,h2,hc.mono (fun b' hb'=> ?_) (fun b' hb'=>setRow_other w b arr' (by rintro rfl;omega)),rfl⟩
 rcases hb' with hb' | ⟨g1,g2,g3⟩
 ·exact M.zl b' hb'
 ·obtain ⟨o1,o2⟩:=h.mem.mine b' (Nat.le_trans g1 (htot b'))
  refine ⟨.inr (.inr ⟨o2,by show b' <(w.setRow b arr').heap.size;rw[setRow_size];exact o1,?_⟩),setRow_other w b arr' g3⟩
  have k1:=sumTo_put (kilF Fs ks) (fadd (f1 b) F) b' hidlt
  have k2:=sumTo_kil Fs b' S.nx ks hks hk
  have k3:kilF Fs ks id=Fs id:=by simp[kilF,hid]
  have k4:=h.mem.one b'
  have k5:f1 b b' =0:=by rw[f1_at,if_neg g3]
  rw[k3] at k1
  simp[k5] at k1
  omega
theorem LVsRel.append {E:Env}: ∀ {xs ys:List LV} {us vs:List Value},LVsRel E xs us->LVsRel E ys vs->LVsRel E (xs++ys) (us++vs)
 | [],_,[],_,_,h=>h
 |x::xs,_,u::us,_,h,h'=>⟨h.1,LVsRel.append h.2 h'⟩
theorem setMany_mid: ∀(xs A B D:List LV),B.length=xs.length->setMany (A++(B++D)) A.length xs=A++(xs++D)
 | [],A,B,D,h=>by have:B=[]:=List.eq_nil_of_length_eq_zero h
                  subst this;rfl
 |x::xs,A,[],D,h=>by simp at h
 |x::xs,A,y::B,D,h=>by
  have e:(A++((y::B)++D)).set A.length x=(A++[x])++(B++D):=by
   rw[List.set_append_right _ _ (Nat.le_refl _)]
   simp
  have e2:A.length+1=(A++[x]).length:=by simp
  rw[setMany,e,e2,setMany_mid xs (A++[x]) B D (by simpa using h)]
  simp
theorem setMany_eq (xs zs:List LV) (k:Nat) (h:k+xs.length<=zs.length):setMany zs k xs=zs.take k++(xs++zs.drop (k+xs.length)):=by
 have e:zs=zs.take k++((zs.drop k).take xs.length++zs.drop (k+xs.length)):=by
  rw[<- List.drop_drop,List.take_append_drop,List.take_append_drop]
 have hk:(zs.take k).length=k:=by simp;omega
 have:=setMany_mid xs (zs.take k) ((zs.drop k).take xs.length) (zs.drop (k+xs.length)) (by simp;omega)
 rw[<- e,hk] at this
 exact this
theorem putMany_eq (xs zs:List LV) (k:Nat) (h:k+xs.length<=zs.length):putMany zs k xs=setMany zs k xs:=by
 unfold putMany
 cases hc:(Nat.beq k 0&&Nat.beq xs.length zs.length) with
 |false=>rfl
 |true=>
  rw[Bool.and_eq_true] at hc
  have h1:=Nat.eq_of_beq_eq_true hc.1
  have h2:=Nat.eq_of_beq_eq_true hc.2
  subst h1
  rw[setMany_eq xs zs 0 h,h2]
  simp
end
end Go.Proofs.YtbmmhdmljajcfaaGreatDoor.V
namespace Go.Proofs.YtbmmhdmljajcfaaGreatDoor.V
open Go
section
variable {P:Program} {tt:TT} {C:Cx} {S:St} {a:Act} {w:World} {ρ:Place} {Fs:Nat->FP} {n:Nat}
theorem set_seg {α:Type} (l:List α) (o:Nat) (v:α) (h:o<l.length):l.take o++[v]++l.drop (o+1)=l.set o v:=by
 rw[List.set_eq_take_append_cons_drop,if_pos h];simp
theorem run_store1 {t:TypeId} {i:TypeInfo} (hi:P.info? t=some i) (h1:i.size=1) {w:World} {b o:Nat} {arr:Array Value} {ty:TypeId} (hb:w.heap[b]? =some (.cells arr ty (0,0))) {v:Value} (hone:v.oneCell' =true) (hfit:o<arr.size):
 (Instr.storeAt t (.pointer (some ⟨b,o,none⟩)) v).run P w= .ok () (w.setRow b (arr.toList.set o v).toArray):=by
 have hc:=one_cells hone
 have:=run_storeAt' hi hb (v:=v) (by rw[hc,h1];rfl) (fun u hu=>by rw[hc] at hu;simp at hu;subst hu;exact hone) (o:=o) (by omega)
 rw[this,hc,h1]
 congr 3
 exact set_seg arr.toList o v (by simpa using hfit)
theorem scalar_one (T:TOK P tt) {t:Nat} (h:scalarTy tt t=true): ∃i,P.info? t=some i/\i.size=1:=by
 have hl:=scalar_leaf h
 unfold scalarTy at h
 split at h
 all_goals try (cases h;done)
 all_goals
  rename_i hq
  obtain ⟨i,z,z1,_,_,z4,_,z6⟩:=zero_facts T hq (by simp)
  exact ⟨i,z1,by rw[z4,z6,hl];rfl⟩
theorem Out.stored {o:Oper} {t:Nat} {p x:Operand} (ho:o.op= .store t p x) {w':World} {up:List (Nat×Option Root)} {nx:Nat} {rl rc:List Nat} {ρ':Place} {Fs':Nat->FP} (hr:(Instr.storeAt t (a.eval p) (a.eval x)).run P w= .ok () w') (hs:SRel C ⟨S.sl,upd S.hp up,S.nx⟩ a w' ρ' Fs'): ∃w' ρ' Fs' u,Out P C S o ⟨.l .undef,up,nx,rl,rc⟩ a w w' ρ' Fs' u:=
 ⟨w',ρ',Fs',undef,.inr ⟨by simp only[execOp,ho];exact run_u hr,rfl⟩,hs,rfl⟩
theorem row_mem (m:MRel C S.hp S.nx w ρ Fs) {id e ver:Nat} {r:Row} (h:S.hp id=some (.row e ver r)) {b cap:Nat} (hρ:ρ id=some (b,cap)) (hl:0<r.len): ∃arr ty F,w.heap[b]? =some (.cells arr ty (0,0))/\r.len<=cap/\cap*r.size<=arr.size/\CellsRel w (C.ZL w (sumTo S.nx Fs)) r.cells arr.toList F/\Fs id=fadd (f1 b) F/\F b=0:=by
 rcases m.roots id _ h with ⟨_,h2,_⟩| ⟨b',cap',arr,ty,F,h1,h2,h3,h4,h5,h6⟩
 ·omega
 ·simp only[Cx.env] at h1 h2
  rw[hρ] at h1;cases h1
  have t1:=sumTo_le Fs b (live_lt m h)
  have t2:=m.one b
  rw[h6] at t1
  simp at t1
  exact ⟨arr,ty,F,h2,h3,h4,h5,h6,by omega⟩
theorem flatMap_set {α β:Type} (g:α->List β) (n:Nat) (h: ∀x,(g x).length=n) (f:Nat) (hf:f<n) (c:β) (y:α): ∀(l:List α) (i:Nat) (x:α),l[i]? =some x->g y=(g x).set f c->(l.set i y).flatMap g=(l.flatMap g).set (i*n+f) c
 | [],i,x,hx,_=>by simp at hx
 |z::l,0,x,hx,hy=>by
  simp at hx;subst hx
  simp only[List.set_cons_zero,List.flatMap_cons,Nat.zero_mul,Nat.zero_add,hy]
  rw[List.set_append_left _ _ (by rw[h];exact hf)]
 |z::l,i+1,x,hx,hy=>by
  have e:(i+1)*n+f=n+(i*n+f):=by rw[Nat.succ_mul];omega
  simp only[List.set_cons_succ,List.flatMap_cons,e]
  rw[flatMap_set g n h f hf c y l i x (by simpa using hx) hy,List.set_append_right _ _ (by rw[h];omega),h,Nat.add_sub_cancel_left]
theorem setLeaf_get (sg:List Bool) (r:List Leaf) (f:Nat) (x:Leaf) (g:Nat):(setLeaf sg r f x)[g]? =(sg[g]?).map fun b=>if g=f then x else if b then .ints (gl r g) else .int (gi r g):=by
 unfold setLeaf
 rw[List.getElem?_map,List.getElem?_zipIdx]
 cases sg[g]? with
 |none=>rfl
 |some b=>
  simp only[Option.map_some,Nat.zero_add]
  by_cases e:g=f
  ·simp[e]
  ·simp[e,cond_eq_ite,beq_iff_eq]
theorem setLeaf_cells (o:Bool) (sg:List Bool) (r:List Leaf) (f:Nat) (x:Leaf) (c:Cell) (hc: ∃b,sg[f]? =some b/\c=if b then .sl o (match x with| .ints l=>l|_=>[]) else .sc (.int .i64 (match x with| .int n=>n|_=>0))):recCells o (setLeaf sg r f x) 0 sg=(recCells o r 0 sg).set f c:=by
 obtain ⟨b,hb,hc⟩:=hc
 have hf:f<sg.length:=(List.getElem?_eq_some_iff.1 hb).1
 apply List.ext_getElem?
 intro j
 rw[recCells_get,List.getElem?_set,recCells_get]
 simp only[Nat.zero_add,recCells_length]
 by_cases e:f=j
 ·subst e
  rw[if_pos rfl,if_pos hf,hb]
  simp only[Option.map_some,gi,gl,setLeaf_get,hb,if_true]
  rw[hc]
  cases b<;>cases x<;>rfl
 ·rw[if_neg e]
  cases hj:sg[j]? with
  |none=>rfl
  |some b'=>
   have e': ¬j=f:=fun h=>e h.symm
   cases b'<;>simp[gi,gl,setLeaf_get,hj,e']
theorem CellsRel.split {w:World} {Z:Zs}: ∀ {cs ds:List Cell} {vs:List Value} {F:FP},CellsRel w Z (cs++ds) vs F-> ∃F1 F2,CellsRel w Z cs (vs.take cs.length) F1/\CellsRel w Z ds (vs.drop cs.length) F2/\F=fadd F1 F2
 | [],ds,vs,F,h=>⟨fz,F,rfl,by simpa using h,(fz_fadd F).symm⟩
 |c::cs,ds,v::vs,F,⟨F1,F2,h1,h2,hF⟩=>by
  obtain ⟨G1,G2,g1,g2,g3⟩:=CellsRel.split h2
  exact ⟨fadd F1 G1,G2,⟨F1,G1,h1,by simpa using g1,rfl⟩,by simpa using g2,by rw[hF,g3,fadd_assoc]⟩
theorem like_row {w w':World} {q:Option (Nat×Nat)} {e v e' v':Nat} {r r':Row} (hl:r'.len=r.len) (hs:r'.size=r.size) (hv:v<=v') (hsl: ∀f,r'.slAt f=r.slAt f) (hd:v' =v->r.deep=false):Like w w' q (.row e v r) (.row e' v' r'):=
 ⟨hl,hs,hv,hsl,fun h1 h2=>by rw[hd h1] at h2;cases h2⟩
theorem evStore_box (T:TOK P tt) (h:SRel C S a w ρ Fs) {o:Oper} {t:Nat} {p x:Operand} (ho:o.op= .store t p x) {id k bt:Nat} {cells xs:List LV} (hp:St.rd C.N S.sl p= .one (.l (.bptr id k))) (hroot:S.hp id=some (.box bt cells)) (hxs:aggCells S.hp (St.rd C.N S.sl x)=some xs) (h1:xs.length=sizeOf' tt t) (h1':0<xs.length) (h2:k+xs.length<=cells.length) {nx:Nat} {rl rc:List Nat}:
 ∃w' ρ' Fs' u,Out P C S o ⟨.l .undef,[(id,some (.box bt (setMany cells k xs)))],nx,rl,rc⟩ a w w' ρ' Fs' u:=by
 obtain ⟨hlt,hre,b,cap,hρ,hv⟩:=rd_l h hp
 obtain ⟨b',cap',vs,ty,g1,g2,g3,g4⟩:=h.mem.roots id _ hroot
 simp only[Cx.env] at hρ g1 g2
 rw[hρ] at g1;cases g1
 obtain ⟨hx1,hx2⟩:=aggCells_sound h.mem hxs (h.rd x)
 have hxl:=hx1.length
 have hcl:=g3.length
 simp only[Array.length_toList] at hxl hcl
 have hte: ∃e,tt t=some e:=by
  cases hq:tt t with
  |none=>exact absurd h1 (by simp only[sizeOf',hq];exact Nat.ne_of_gt h1')
  |some e=>exact ⟨e,rfl⟩
 obtain ⟨e,hq⟩:=hte
 obtain ⟨i,i1,i2,_⟩:=(T t e hq).info
 have hsz:i.size=xs.length:=by rw[i2,h1];simp[sizeOf',hq]
 have hs1:(a.eval x).cells.size=i.size:=by omega
 have hs2:k+i.size<=vs.size:=by omega
 have hrun:=run_storeAt' (P:=P) i1 g2 (o:=k) (v:=a.eval x) hs1 hx2 hs2
 rw[<- hv] at hrun
 have hFs:Fs id=f1 b:=g4
 have:=h.turn [] (by simp) (by simp) id (by simp) _ (.box bt (setMany cells k xs)) hroot (f1 b) (w.setRow b (vs.toList.take k++(a.eval x).cells.toList++vs.toList.drop (k+i.size)).toArray) (setRow_size ..) rfl rfl rfl
  (fun b' hb' h0=>setRow_other w b _ (by rintro rfl;rw[hFs] at h0;simp at h0)) (fun b'=>by rw[hFs];omega) trivial
  (fun M=>⟨b,cap,_,ty,hρ,setRow_heap w b vs _ ty _ g2,by
    have hgo: ∀E':Env,Mono (C.env w ρ S.hp S.nx Fs) E'->LVsRel E' (setMany cells k xs) (vs.toList.take k++(a.eval x).cells.toList++vs.toList.drop (k+i.size)):=fun E' M=>by
     rw[setMany_eq xs cells k h2,hsz,List.append_assoc]
     exact LVsRel.append ((g3.take k).mono M) (LVsRel.append (hx1.mono M) ((g3.drop _).mono M))
    exact hgo _ M,rfl⟩)
 exact Out.stored ho hrun this
theorem store_cell (T:TOK P tt) (h:SRel C S a w ρ Fs) {o:Oper} {t:Nat} {p x:Operand} (ho:o.op= .store t p x) {id e ver i f:Nat} {r:Row} (hp:St.rd C.N S.sl p= .one (.l (.eptr id i f))) (hroot:S.hp id=some (.row e ver r)) (hs:scalarTy tt t=true) (hf:f<r.size)
 (c:Cell) (r':Row) (ver' e':Nat) (hcells:r'.cells=r.cells.set (i*r.size+f) c) (hsc: ∃u,r.cells[i*r.size+f]? =some (.sc u)) (hv:CellRel w (C.ZL w (sumTo S.nx Fs)) c (a.eval x) fz) (hone:(a.eval x).oneCell' =true) (hlen:r'.len=r.len) (hsize:r'.size=r.size)
 (hl: ∀w',Like w w' (ρ id) (.row e ver r) (.row e' ver' r')) {nx:Nat} {rl rc:List Nat}: ∃w' ρ' Fs' u,Out P C S o ⟨.l .undef,killUp []++[(id,some (.row e' ver' r'))],nx,rl,rc⟩ a w w' ρ' Fs' u:=by
 obtain ⟨hlt,hx2⟩:=rd_l h hp
 obtain ⟨r1,e1,hi,b,cap,hρ,hpv⟩:=hx2 _ hroot
 cases e1
 simp only[Cx.env] at hρ
 obtain ⟨arr,ty,F,g1,g2,g3,g4,g5,g6⟩:=row_mem h.mem hroot hρ (by omega)
 obtain ⟨ti,t1,t2⟩:=scalar_one T hs
 have hjl:i*r.size+f<r.cells.length:=by
  rw[Row.cells_length]
  have:=rec_lt (n:=r.size) hi
  omega
 obtain ⟨u,hu⟩:=hsc
 obtain ⟨v0,F1,F2,k1,k2,k3,k4⟩:=g4.get hu
 have hjs:i*r.size+f<arr.size:=by simpa using (List.getElem?_eq_some_iff.1 k1).1
 obtain ⟨_,hF1⟩:=k2
 subst hF1
 rw[fz_fadd] at k3
 have hnew:=k4 c (a.eval x) fz hv
 rw[fz_fadd,<- k3] at hnew
 have hrun:=run_store1 (P:=P) t1 t2 g1 hone hjs
 rw[<- hpv] at hrun
 refine Out.stored ho hrun (SRel.turnRow h [] (by simp) (by simp) (by simp) hroot hρ g1 e' ver' r' F ?_ (fun b'=>by rw[g5];simp;omega) (by rw[g5];simp) (by omega) (by rw[hsize];simpa using g3) (hl _))
 rw[hcells]
 simp only[List.toList_toArray]
 exact hnew.mono (fun b hb=>⟨.inl hb,rfl⟩) (fun b _=>rfl)
theorem store_own (T:TOK P tt) (h:SRel C S a w ρ Fs) {o:Oper} {t:Nat} {p x:Operand} (ho:o.op= .store t p x) {id b cap off:Nat} {root:Root} (hpv:a.eval p= .pointer (some ⟨b,off,none⟩)) (hroot:S.hp id=some root) (hρ:ρ id=some (b,cap)) {arr:Array Value} {ty:TypeId} {F:FP} (g1:w.heap[b]? =some (.cells arr ty (0,0))) (g5:Fs id=fadd (f1 b) F) (g6:F b=0)
 {ks:List Nat} (hks:Took S.hp ks) (hidk:id∉ks) {A B D B':List Cell} (hcs:CellsRel w (C.ZL w (sumTo S.nx Fs)) (A++(B++D)) arr.toList F) (hA:A.length=off) (hB:B'.length=B.length)
 {ti:TypeInfo} (t1:P.info? t=some ti) (t2:ti.size=B.length) (hvl:(a.eval x).cells.size=B.length) (hone: ∀u∈(a.eval x).cells.toList,u.oneCell' =true) {Fv:FP} (hv:CellsRel w (Zu C w S.nx Fs ks Fv) B' (a.eval x).cells.toList Fv) (hFv: ∀b,Fv b<=sumL Fs ks b)
 (own:Bool) (r':Row) (ver' e':Nat) (hct:own=true->r'.cells=A++(B' ++D)) (hcf:own=false->r'.cells=(A++(B' ++D)).map Cell.frz) (hlen:r'.len<=cap) (hsize:cap*r'.size<=arr.size)
 (hl: ∀w',Like w w' (ρ id) root (.row e' ver' r')) {nx:Nat} {rl rc:List Nat}: ∃w' ρ' Fs' u,Out P C S o ⟨.l .undef,killUp ks++[(id,some (.row e' ver' r'))],nx,rl,rc⟩ a w w' ρ' Fs' u:=by
 obtain ⟨FA,F2,h1,h2,hF1⟩:=CellsRel.split hcs
 obtain ⟨FB,FD,h3,h4,hF2⟩:=CellsRel.split h2
 have hidlt:=live_lt h.mem hroot
 have hks': ∀k∈ks,k<S.nx:=hks.lt h.mem (Sub.refl _)
 have htot: ∀b',Fs id b' +sumL Fs ks b' <=1:=fun b'=>Nat.le_trans (sumL_out Fs b' S.nx hks.1 hks' hidlt hidk) (h.mem.one b')
 have hlenle:(A++(B++D)).length<=arr.toList.length:=hcs.length
 simp only[List.length_append,Array.length_toList] at hlenle
 have hrun:=run_storeAt' (P:=P) t1 g1 (o:=off) (v:=a.eval x) (by rw[hvl,t2]) hone (by omega)
 rw[<- hpv] at hrun
 have hz: ∀G:FP,(∀b',G b' <=Fs id b' +sumL Fs ks b')-> ∀b',C.ZL w (sumTo S.nx Fs) b'->Zt C w S.nx Fs id ks b G b':=fun G _ b' hb=> .inl hb
 have hFid: ∀b',F b' +f1 b b' =Fs id b':=fun b'=>by rw[g5];simp;omega
 let G:FP:=fadd FA (fadd Fv FD)
 have hG: ∀b',G b' +f1 b b' <=Fs id b' +sumL Fs ks b':=fun b'=>by
  have:=hFid b'
  have:=hFv b'
  rw[hF1,hF2] at*
  simp[G] at*
  omega
 have hGb:G b=0:=by
  have:=hG b
  have:=htot b
  simp at*
  omega
 have hkb:sumL Fs ks b=0:=by
  have:=htot b
  have:=hFid b
  simp at*
  omega
 have hZu: ∀b',Zu C w S.nx Fs ks Fv b'->Zt C w S.nx Fs id ks b G b':=fun b' hb=>by
  rcases hb with hb| ⟨k1,k2⟩
  ·exact .inl hb
  ·have:=htot b'
   have:=hFid b'
   refine .inr ⟨by omega,?_,by rintro rfl;omega⟩
   have e1:F b' =0:=by omega
   rw[hF1,hF2] at e1
   simp at e1
   simp[G];omega
 have hnew:CellsRel w (Zt C w S.nx Fs id ks b G) (A++(B' ++D)) (arr.toList.take off++((a.eval x).cells.toList++arr.toList.drop (off+ti.size))) G:=by
  have ha:CellsRel w (Zt C w S.nx Fs id ks b G) A (arr.toList.take off) FA:=by rw[<- hA];exact h1.mono (fun b hb=>⟨.inl hb,rfl⟩) (fun b _=>rfl)
  have hd:CellsRel w (Zt C w S.nx Fs id ks b G) D (arr.toList.drop (off+ti.size)) FD:=by
   rw[List.drop_drop,hA] at h4
   rw[t2]
   exact h4.mono (fun b hb=>⟨.inl hb,rfl⟩) (fun b _=>rfl)
  have hb':CellsRel w (Zt C w S.nx Fs id ks b G) B' (a.eval x).cells.toList Fv:=hv.mono (fun b hb=>⟨hZu b hb,rfl⟩) (fun b _=>rfl)
  exact CellsRel.append ha (by rw[List.length_take,Array.length_toList];omega) (CellsRel.append hb' (by rw[Array.length_toList];omega) hd)
 have hfin: ∃F',CellsRel w (Zt C w S.nx Fs id ks b F') r'.cells (arr.toList.take off++((a.eval x).cells.toList++arr.toList.drop (off+ti.size))) F' /\ ∀b',F' b' +f1 b b' <=Fs id b' +sumL Fs ks b':=by
  cases own with
  |true=>rw[hct rfl];exact ⟨G,hnew,hG⟩
  |false=>
   rw[hcf rfl]
   refine ⟨fz,hnew.frz (fun b' hb=> ?_) (fun b' hb=> .inr ⟨?_,rfl,?_⟩),fun b'=> ?_⟩
   ·rcases hb with hb| ⟨k1,_,k3⟩
    ·exact .inl hb
    ·exact .inr ⟨k1,rfl,k3⟩
   ·have:=hG b';omega
   ·rintro rfl;omega
   ·have:=hG b';simp;omega
 obtain ⟨F',k1,k2⟩:=hfin
 rw[List.append_assoc] at hrun
 refine Out.stored ho hrun (SRel.turnRow h ks hks.1 (fun k hk=>by obtain ⟨e,v,r,hh⟩:=hks.2 k hk;rw[hh];simp) hidk hroot hρ g1 e' ver' r' F' ?_ k2 (by have:=hFid b;simp at this;omega) hlen ?_ (hl _))
 ·simpa using k1
 ·have e1:(arr.toList.take off++((a.eval x).cells.toList++arr.toList.drop (off+ti.size))).length=arr.size:=by
   simp only[List.length_append,List.length_take,List.length_drop,Array.length_toList,hvl,t2]
   omega
  rw[List.size_toArray,e1]
  exact hsize
end
end Go.Proofs.YtbmmhdmljajcfaaGreatDoor.V
namespace Go.Proofs.YtbmmhdmljajcfaaGreatDoor.V
open Go
section
variable {P:Program} {tt:TT} {C:Cx} {S:St} {a:Act} {w:World} {ρ:Place} {Fs:Nat->FP} {n:Nat}
theorem size_facts (T:TOK P tt) {t:Nat} {e:TE} (h:tt t=some e): ∃i,P.info? t=some i/\i.size=e.size:=by
 obtain ⟨i,i1,i2,_⟩:=(T t e h).info
 exact ⟨i,i1,i2⟩
theorem slAt_nd {r:Row} (h:r.deep=false) (f:Nat):r.slAt f=false:=by
 cases hs:r.slAt f with
 |false=>rfl
 |true=>rw[slAt_deep hs] at h;cases h
theorem seg3 {α:Type} (l:List α) (i:Nat) (h:i<l.length):l=l.take i++([l[i]]++l.drop (i+1)):=by
 rw[List.singleton_append,List.getElem_cons_drop,List.take_append_drop]
theorem ltake_len {α:Type} (l:List α) (i:Nat) (h:i<l.length):(l.take i).length=i:=by simp;omega
theorem set_split {α:Type} (l:List α) (i:Nat) (y:α) (h:i<l.length):l.set i y=l.take i++(y::l.drop (i+1)):=by
 rw[List.set_eq_take_append_cons_drop,if_pos h]
theorem store_rows (T:TOK P tt) (h:SRel C S a w ρ Fs) {o:Oper} {t:Nat} {p x:Operand} (ho:o.op= .store t p x) {id i:Nat} (hp:St.rd C.N S.sl p= .one (.l (.eptr id i 0))) {root:Root} (hroot:S.hp id=some root) {own:Bool} {l:List (List Int)} (hr:root.row? =some (.rows own l)) (hs:scalarTy tt t=true)
 {c:Cell} (hroots:RowRel w (C.ZL w (sumTo S.nx Fs)) (ρ id) ((Row.rows own l).cells.set i c) l.length 1 (Fs id))
 {y:LV} (hx:St.rd C.N S.sl x= .one (.l y)) {o':Bool} {z:List Int} {ks:List Nat} (he:elemSl S.hp y=some (o',z,ks)) (hidk:id∉ks) (e' ver':Nat)
 (hl: ∀w',Like w w' (ρ id) root (.row e' ver' (.rows (own&&o') (l.set i z)))) {nx:Nat} {rl rc:List Nat}: ∃w' ρ' Fs' u,Out P C S o ⟨.l .undef,killUp ks++[(id,some (.row e' ver' (.rows (own&&o') (l.set i z))))],nx,rl,rc⟩ a w w' ρ' Fs' u:=by
 obtain ⟨hlt,hx2⟩:=rd_l h hp
 obtain ⟨r1,e1,hi,b,cap,hρ,hpv⟩:=hx2 _ hroot
 rw[hr] at e1;cases e1
 simp only[Cx.env,Row.len,Row.size,Nat.mul_one,Nat.add_zero] at hρ hi hpv
 obtain ⟨F1,k1,k2,k3,k4,k5⟩:=elemSl_sound h.mem (Sub.refl _) he (rd_l h hx)
 rcases hroots with ⟨_,h0,_⟩| ⟨b',cap',arr,ty,F,g1,g2,g3,g4,g5,g6⟩
 ·omega
 rw[hρ] at g1;cases g1
 have g7:F b=0:=by
  have t1:=sumTo_le Fs b (live_lt h.mem hroot)
  have t2:=h.mem.one b
  rw[g6] at t1
  simp at t1
  omega
 obtain ⟨ti,t1,t2⟩:=scalar_one T hs
 have hcl:(Row.rows own l).cells.length=l.length:=by simp[Row.cells]
 have hseg:=set_split (Row.rows own l).cells i c (by omega)
 rw[hseg] at g5
 have hone:=one_cells k5
 refine store_own T h ho hpv hroot hρ g2 g6 g7 k3 hidk (A:=(Row.rows own l).cells.take i) (B:=[c]) (D:=(Row.rows own l).cells.drop (i+1)) (B':=[.sl o' z]) g5 (ltake_len _ _ (by omega)) rfl t1 (by rw[t2];rfl) (by rw[hone];rfl) (fun u hu=>by rw[hone] at hu;simp at hu;subst hu;exact k5) (by rw[hone];exact cell_one k1) k2 (own&&o') _ ver' e'
  (fun hh=> ?_) (fun _=> ?_) (by simp only[Row.len,List.length_set];exact g3) (by simpa[Row.size] using g4) hl
 ·obtain ⟨rfl,rfl⟩:=and_bool hh
  show (l.set i z).map _=_
  rw[set_split l i z hi]
  simp[Row.cells,List.map_take,List.map_drop]
 ·show (l.set i z).map _=_
  rw[set_split l i z hi]
  rename_i hf
  simp[Row.cells,List.map_take,List.map_drop,Cell.frz,Function.comp_def,hf]
theorem store_inner (T:TOK P tt) (h:SRel C S a w ρ Fs) {o:Oper} {t:Nat} {p x:Operand} (ho:o.op= .store t p x) {id ver i f j e:Nat} {l:List (List Int)} {z:Int} (hp:St.rd C.N S.sl p= .one (.l (.iptr id ver i f j))) (hroot:S.hp id=some (.row e ver (.rows true l))) (hs:scalarTy tt t=true) (hx:St.rd C.N S.sl x= .one (.l (.i .i64 z))) {nx:Nat} {rl rc:List Nat}:
 ∃w' ρ' Fs' u,Out P C S o ⟨.l .undef,[(id,some (.row e ver (.rows true (l.set i ((l.getD i []).set j z)))))],nx,rl,rc⟩ a w w' ρ' Fs' u:=by
 obtain ⟨hlt,hx2⟩:=rd_l h hp
 obtain ⟨_,_,hx3⟩:=hx2 _ hroot
 obtain ⟨k1,k2,k3,A0,n0,cap0,k4,hpv⟩:=hx3 e _ rfl
 have hv:a.eval x= .int .i64 z:=rd_l h hx
 simp only[Row.slAt] at k1
 have hf0:=eq_of_beq k1
 subst hf0
 simp only[Row.len] at k2
 have hgd:l.getD i [] =l[i]:=by simp[k2]
 simp only[innerOf,hgd] at k3
 simp only[Row.size,Nat.mul_one,Nat.add_zero,Cx.env] at k4
 cases hρ:ρ id with
 |none=>rw[hρ] at k4;cases k4
 |some q=>
  obtain ⟨b,cap⟩:=q
  rw[hρ] at k4
  obtain ⟨arr,ty,F,g1,g2,g3,g4,g5,g6⟩:=row_mem h.mem hroot hρ (by simp only[Row.len];omega)
  simp only[cellAt] at k4
  rw[cell?_plain g1] at k4
  have hcl:(Row.rows true l).cells.length=l.length:=by simp[Row.cells]
  have hcs:=seg3 (Row.rows true l).cells i (by omega)
  have hci:(Row.rows true l).cells[i]'(by omega)= .sl true l[i]:=by simp[Row.cells]
  rw[hci] at hcs
  have hale:=g4.length
  simp only[Array.length_toList] at hale
  have has:=seg3 arr.toList i (by simp;omega)
  have g4':=g4
  rw[hcs] at g4'
  obtain ⟨FA,F2,s1,s2,s3⟩:=CellsRel.split g4'
  obtain ⟨FB,FD,s4,s5,s6⟩:=CellsRel.split s2
  have hAl:((Row.rows true l).cells.take i).length=i:=ltake_len _ _ (by omega)
  rw[hAl] at s1 s4 s5
  have hvi:arr.toList[i]'(by simp;omega)= .slice (some A0) n0 cap0:=by
   have:arr.toList[i]? =some (.slice (some A0) n0 cap0):=by simpa using k4
   exact (List.getElem?_eq_some_iff.1 this).2
  have hdrop:arr.toList.drop i= .slice (some A0) n0 cap0::arr.toList.drop (i+1):=by
   rw[<- hvi,List.getElem_cons_drop]
  rw[hdrop] at s4 s5
  simp only[List.length_singleton,List.take_succ_cons,List.take_zero,List.drop_succ_cons,List.drop_zero] at s4 s5
  obtain ⟨G1,G2,r1,r2,r3⟩:=s4
  have hG2:G2=fz:=r2
  subst hG2
  rw[fadd_fz] at r3
  subst r3
  rcases r1 with ⟨_,hnil,_⟩| ⟨b2,cap2,arr2,ty2,q1,q2,q3,q4,q5,q6⟩
  ·rw[hnil] at k3;simp at k3
  simp only[Value.slice.injEq,Option.some.injEq] at q1
  obtain ⟨rfl,rfl,rfl⟩:=q1
  obtain ⟨ti,t1,t2⟩:=scalar_one T hs
  rw[plain_add,Nat.zero_add] at hpv
  have hrun:=run_store1 (P:=P) t1 t2 q2 (o:=j) (v:=a.eval x) (by rw[hv];rfl) (by omega)
  rw[<- hpv] at hrun
  have hFb2: ∀b',F b' =FA b' +(f1 b2 b' +FD b'):=fun b'=>by rw[s3,s6,q6];simp
  have hone: ∀b',Fs id b' <=1:=fun b'=>Nat.le_trans (sumTo_le Fs b' (live_lt h.mem hroot)) (h.mem.one b')
  have hb2:Fs id b2=1:=by
   have h1:=hone b2
   have h2:=hFb2 b2
   have h3:Fs id b2=f1 b b2+F b2:=by rw[g5];rfl
   simp at h2
   omega
  have hne:b≠b2:=by
   rintro rfl
   have h2:=hFb2 b
   simp at h2
   omega
  have hz2:FA b2=0/\FD b2=0:=by
   have h2:=hFb2 b2
   have h3:Fs id b2=f1 b b2+F b2:=by rw[g5];rfl
   simp at h2
   omega
  have hlset: ∀i' f',(innerOf (.rows true (l.set i ((l.getD i []).set j z))) i' f').length=(innerOf (.rows true l) i' f').length:=fun i' f'=>by
   simp only[innerOf,List.getD_eq_getElem?_getD,List.getElem?_set]
   by_cases ei:i=i'
   ·subst ei;simp[k2]
   ·simp[ei]
  have:=h.turn [] (by simp) (by simp) id (by simp) _ (.row e ver (.rows true (l.set i ((l.getD i []).set j z)))) hroot (Fs id) (w.setRow b2 (arr2.toList.set j (a.eval x)).toArray) (setRow_size ..) rfl rfl rfl
   (fun b' hb' h0=>setRow_other w b2 _ (by rintro rfl;omega)) (fun b'=>by simp[sumL]) ⟨by simp[Row.len],rfl,Nat.le_refl _,fun _=>rfl,fun _ _=>⟨hlset,fun b' cap' hq=>by rw[hρ] at hq;cases hq;exact setRow_other w b2 _ hne⟩⟩
   (fun M=>by
     have hmv: ∀ {cs:List Cell} {vs:List Value} {G:FP},CellsRel w (C.ZL w (sumTo S.nx Fs)) cs vs G->G b2=0->CellsRel (w.setRow b2 (arr2.toList.set j (a.eval x)).toArray) (C.ZL (w.setRow b2 (arr2.toList.set j (a.eval x)).toArray) (sumTo S.nx (putF (kilF Fs []) id (Fs id)))) cs vs G:=fun hc hG=>
      hc.mono (fun b' hb'=>M.zl b' hb') (fun b' hb'=>setRow_other w b2 _ (by rintro rfl;omega))
     refine .inr ⟨b,cap,arr,ty,F,hρ,by rw[show (C.env (w.setRow b2 (arr2.toList.set j (a.eval x)).toArray) ρ (upd S.hp (killUp []++[(id,some (.row e ver (.rows true (l.set i ((l.getD i []).set j z)))))])) S.nx (putF (kilF Fs []) id (Fs id))).w=w.setRow b2 (arr2.toList.set j (a.eval x)).toArray from rfl,setRow_other w b2 _ hne];exact g1,by simp only[Row.len,List.length_set];exact g2,g3,?_,g5⟩
     have hcs':(Row.rows true (l.set i ((l.getD i []).set j z))).cells=(Row.rows true l).cells.take i++([.sl true (l[i].set j z)]++(Row.rows true l).cells.drop (i+1)):=by
      show (l.set i _).map _=_
      rw[set_split l i _ k2,hgd]
      simp[Row.cells,List.map_take,List.map_drop]
     rw[hcs',has,hvi]
     have hF':F=fadd FA (fadd (f1 b2) FD):=by rw[s3,s6,q6]
     rw[hF']
     refine CellsRel.append (hmv s1 hz2.1) (by rw[hAl];simp;omega) (CellsRel.append (F:=f1 b2) ?_ rfl (hmv s5 hz2.2))
     refine ⟨f1 b2,fz,.inr ⟨b2,cap0,(arr2.toList.set j (a.eval x)).toArray,ty2,by simp,setRow_heap w b2 arr2 _ ty2 _ q2,by simp;exact q3,by simp;exact q4,fun j' n' hj'=> ?_,rfl⟩,rfl,(fadd_fz _).symm⟩
     rw[List.getElem?_set] at hj'
     simp only[List.getElem?_toArray,List.getElem?_set]
     by_cases ej:j=j'
     ·subst ej
      rw[if_pos rfl] at hj' ⊢
      have hjs:j<arr2.toList.length:=by simp;omega
      simp only[k3,if_true,Option.some.injEq] at hj'
      subst hj'
      simp[hjs,hv]
      omega
     ·rw[if_neg ej] at hj' ⊢
      simpa using q5 j' n' hj')
  exact Out.stored ho hrun this
theorem evStore_sound (T:TOK P tt) (h:SRel C S a w ρ Fs) {o:Oper} {t:Nat} {p x:Operand} (ho:o.op= .store t p x) {E:Eff} (he:evStore (R:=Eff) tt S.hp n t (St.rd C.N S.sl p) (St.rd C.N S.sl x) some=some E): ∃w' ρ' Fs' u,Out P C S o E a w w' ρ' Fs' u:=by
 unfold evStore at he
 split at he
 ·rename_i id k hp
  split at he
  ·rename_i bt cells xs hroot hxs
   obtain ⟨h1,he⟩:=bif_some he
   obtain ⟨h2,he⟩:=bif_some he
   cases he
   obtain ⟨h1,h3⟩:=and_bool h1
   rw[putMany_eq xs cells k (of_decide_eq_true h2)]
   exact evStore_box T h ho hp hroot hxs (eq_of_beq h1) (by simpa[Nat.blt_eq] using h3) (of_decide_eq_true h2)
  ·cases he
 ·rename_i id i f hp
  split at he
  ·rename_i te hte
   split at he
   ·rename_i bt ver r hroot
    obtain ⟨hc,he⟩:=bif_some he
    split at he
    ·rename_i r' ks bump hst
     cases hel:ks.elem id with
     |true=>rw[hel] at he;cases he
     |false=>
      rw[hel] at he
      cases he
      have hidk:id∉ks:=fun hh=>by rw[List.elem_iff.2 hh] at hel;cases hel
      obtain ⟨hlt,hx2⟩:=rd_l h hp
      obtain ⟨r1,e1,hi,b,cap,hρ,hpv⟩:=hx2 _ hroot
      cases e1
      simp only[Cx.env] at hρ
      have scal:isStruct tt t=false->scalarTy tt t=true/\f<r.size:=fun hs=>by
       rw[hs] at hc
       obtain ⟨h1,h2⟩:=and_bool hc
       exact ⟨h1,by simpa[Nat.blt_eq] using h2⟩
      have stru:isStruct tt t=true->te.size=r.size/\f=0/\r.isRecs=true:=fun hs=>by
       rw[hs] at hc
       obtain ⟨h1,h2⟩:=and_bool hc
       obtain ⟨h3,h4⟩:=and_bool h1
       exact ⟨eq_of_beq h3,eq_of_beq h4,h2⟩
      cases r with
      |ints k l=>
       have hns:isStruct tt t=false:=by
        cases hq:isStruct tt t with
        |false=>rfl
        |true=>have:=(stru hq).2.2;cases this
       obtain ⟨hs,hf⟩:=scal hns
       simp only[Row.size] at hf
       have hf0:f=0:=by omega
       subst hf0
       simp only[Row.len] at hi
       simp only[storeOwn] at hst
       split at hst
       ·rename_i k' z hx
        obtain ⟨hk,hst⟩:=bif_some hst
        have hk:=of_decide_eq_true hk
        subst hk
        simp only[Option.some.injEq,Prod.mk.injEq] at hst
        obtain ⟨rfl,rfl,rfl⟩:=hst
        have hv:a.eval x= .int k z:=rd_l h hx
        exact store_cell T h ho hp hroot hs (by simp[Row.size]) (.sc (.int k z)) (.ints k (l.set i z)) ver bt (by simp[Row.cells,Row.size,List.map_set]) ⟨.int k l[i],by simp[Row.cells,Row.size,hi]⟩ ⟨hv,rfl⟩ (by rw[hv];rfl) (by simp[Row.len]) rfl (fun w'=>like_row (by simp[Row.len]) rfl (Nat.le_refl _) (fun _=>rfl) (fun _=>rfl))
       ·cases hst
      |bools l=>
       have hns:isStruct tt t=false:=by
        cases hq:isStruct tt t with
        |false=>rfl
        |true=>have:=(stru hq).2.2;cases this
       obtain ⟨hs,hf⟩:=scal hns
       simp only[Row.size] at hf
       have hf0:f=0:=by omega
       subst hf0
       simp only[Row.len] at hi
       simp only[storeOwn] at hst
       split at hst
       ·rename_i z hx
        simp only[Option.some.injEq,Prod.mk.injEq] at hst
        obtain ⟨rfl,rfl,rfl⟩:=hst
        have hv:a.eval x= .bool z:=rd_l h hx
        exact store_cell T h ho hp hroot hs (by simp[Row.size]) (.sc (.bool z)) (.bools (l.set i z)) ver bt (by simp[Row.cells,Row.size,List.map_set]) ⟨.bool l[i],by simp[Row.cells,Row.size,hi]⟩ ⟨hv,rfl⟩ (by rw[hv];rfl) (by simp[Row.len]) rfl (fun w'=>like_row (by simp[Row.len]) rfl (Nat.le_refl _) (fun _=>rfl) (fun _=>rfl))
       ·cases hst
      |strs l=>
       have hns:isStruct tt t=false:=by
        cases hq:isStruct tt t with
        |false=>rfl
        |true=>have:=(stru hq).2.2;cases this
       obtain ⟨hs,hf⟩:=scal hns
       simp only[Row.size] at hf
       have hf0:f=0:=by omega
       subst hf0
       simp only[Row.len] at hi
       simp only[storeOwn] at hst
       split at hst
       ·rename_i z hx
        simp only[Option.some.injEq,Prod.mk.injEq] at hst
        obtain ⟨rfl,rfl,rfl⟩:=hst
        have hv:a.eval x= .string z:=rd_l h hx
        exact store_cell T h ho hp hroot hs (by simp[Row.size]) (.sc (.string z)) (.strs (l.set i z)) ver bt (by simp[Row.cells,Row.size,List.map_set]) ⟨.string l[i],by simp[Row.cells,Row.size,hi]⟩ ⟨hv,rfl⟩ (by rw[hv];rfl) (by simp[Row.len]) rfl (fun w'=>like_row (by simp[Row.len]) rfl (Nat.le_refl _) (fun _=>rfl) (fun _=>rfl))
       ·cases hst
      |rows own l=>
       have hns:isStruct tt t=false:=by
        cases hq:isStruct tt t with
        |false=>rfl
        |true=>have:=(stru hq).2.2;cases this
       obtain ⟨hs,hf⟩:=scal hns
       simp only[Row.size] at hf
       have hf0:f=0:=by omega
       subst hf0
       simp only[Row.len] at hi
       simp only[storeOwn] at hst
       split at hst
       ·rename_i y hx
        split at hst
        ·rename_i o' z ks' hel'
         simp only[Option.some.injEq,Prod.mk.injEq] at hst
         obtain ⟨rfl,rfl,rfl⟩:=hst
         have hrr:=h.mem.roots id _ hroot
         simp only[RootRel,Cx.env] at hrr
         have hset:(Row.rows own l).cells.set i (.sl own l[i])=(Row.rows own l).cells:=by
          have:(Row.rows own l).cells[i]? =some (.sl own l[i]):=by simp[Row.cells,hi]
          apply List.ext_getElem?
          intro j
          rw[List.getElem?_set]
          by_cases e:i=j
          ·subst e;rw[if_pos rfl,this,if_pos (List.getElem?_eq_some_iff.1 this).1]
          ·rw[if_neg e]
         exact store_rows T h ho hp hroot rfl hs (c:= .sl own l[i]) (by rw[hset];exact hrr) hx hel' hidk bt (ver+1) (fun w'=>like_row (by simp[Row.len]) rfl (Nat.le_succ _) (fun _=>rfl) (fun hh=>by omega))
        ·cases hst
       ·cases hst
      |recs sg own l=>
       simp only[Row.len] at hi
       have hseg:l=l.take i++([l[i]]++l.drop (i+1)):=seg3 l i hi
       have hA:((l.take i).flatMap fun r=>recCells own r 0 sg).length=i*sg.length:=by
        rw[flatMap_length _ sg.length (fun r=>recCells_length ..),ltake_len l i hi]
       simp only[storeOwn] at hst
       split at hst
       ·rename_i xs hx
        obtain ⟨hag,hst⟩:=bif_some hst
        split at hst
        ·rename_i o' z ks' hel'
         simp only[Option.some.injEq,Prod.mk.injEq] at hst
         obtain ⟨rfl,rfl,rfl⟩:=hst
         obtain ⟨hsz,hf0,_⟩:=stru hag
         subst hf0
         simp only[Row.size] at hsz
         obtain ⟨arr,ty,F,g1,g2,g3,g4,g5,g6⟩:=row_mem h.mem hroot hρ (by simp only[Row.len];omega)
         have hv:AVRel (C.env w ρ S.hp S.nx Fs) (.one (.agg xs)) (a.eval x):=by have:=h.rd x;rwa [hx] at this
         obtain ⟨us,hus,hrel⟩:=hv
         obtain ⟨Fv,v1,v2,v3,v4,v5⟩:=elemRec_sound h.mem sg _ xs us o' z ks' (Sub.refl _) hel' hrel
         obtain ⟨ti,t1,t2⟩:=size_facts T hte
         have hcs:(Row.recs sg own l).cells=((l.take i).flatMap fun r=>recCells own r 0 sg)++(recCells own l[i] 0 sg++((l.drop (i+1)).flatMap fun r=>recCells own r 0 sg)):=by
          refine (congrArg (List.flatMap fun r=>recCells own r 0 sg) hseg).trans ?_
          simp only[List.flatMap_append,List.flatMap_cons,List.flatMap_nil,List.append_nil]
         rw[hcs] at g4
         have hvc:(a.eval x).cells.toList=us:=by rw[hus];simp[Value.cells]
         have hvs:(a.eval x).cells.size=sg.length:=by rw[<- Array.length_toList,hvc,v4]
         exact store_own T h ho hpv hroot hρ g1 g5 g6 v3 hidk (A:=(l.take i).flatMap fun r=>recCells own r 0 sg) (B:=recCells own l[i] 0 sg) (D:=(l.drop (i+1)).flatMap fun r=>recCells own r 0 sg) (B':=recCells o' z 0 sg) g4 (by rw[hA];rfl) (by rw[recCells_length,recCells_length]) t1 (by rw[t2,hsz,recCells_length]) (by rw[hvs,recCells_length]) (by rw[hvc];exact v5) (by rw[hvc];exact v1) v2 (own&&o') (.recs sg (own&&o') (l.set i z)) (ver+1) bt
          (fun hh=>by
            obtain ⟨rfl,rfl⟩:=and_bool hh
            show (l.set i z).flatMap _=_
            rw[set_split l i z hi]
            simp)
          (fun hh=>by
            rw[hh]
            show (l.set i z).flatMap _=_
            rw[set_split l i z hi]
            simp[List.map_flatMap,recCells_frz])
          (by simp only[Row.len,List.length_set];exact g2) g3 (fun w'=>like_row (by simp[Row.len]) rfl (Nat.le_succ _) (fun _=>rfl) (fun hh=>by omega))
        ·cases hst
       ·rename_i z hx
        cases hag:isStruct tt t with
        |true=>rw[hag] at hst;cases hst
        |false=>
         rw[hag] at hst
         simp only[cond_false] at hst
         obtain ⟨hs,hf⟩:=scal hag
         simp only[Row.size] at hf
         split at hst
         ·rename_i hsg
          simp only[Option.some.injEq,Prod.mk.injEq] at hst
          obtain ⟨rfl,rfl,rfl⟩:=hst
          have hv:a.eval x= .int .i64 z:=rd_l h hx
          have hli:l[i]? =some l[i]:=List.getElem?_eq_getElem hi
          have hgd:l.getD i [] =l[i]:=by simp[hi]
          refine store_cell T h ho hp hroot hs hf (.sc (.int .i64 z)) (.recs sg own (l.set i (setLeaf sg (l.getD i []) f (.int z)))) (ver+1) bt ?_ ?_ ⟨hv,rfl⟩ (by rw[hv];rfl) (by simp[Row.len]) rfl (fun w'=>like_row (by simp[Row.len]) rfl (Nat.le_succ _) (fun _=>rfl) (fun hh=>by omega))
          ·simp only[Row.cells,Row.size]
           refine flatMap_set (fun r=>recCells own r 0 sg) sg.length (fun r=>recCells_length ..) f hf _ _ l i l[i] hli ?_
           rw[hgd]
           exact setLeaf_cells own sg l[i] f (.int z) _ ⟨false,hsg,rfl⟩
          ·have:=recs_get sg own l i f hf
           rw[hli,hsg] at this
           exact ⟨_,this⟩
         ·cases hst
       ·cases hst
    ·cases he
   ·rename_i bt ver l i' f' hroot
    replace he:=bif_some he
    obtain ⟨hc,he⟩:=he
    obtain ⟨hf0,hs⟩:=and_bool hc
    have hf0:=eq_of_beq hf0
    replace he:=chk_some he
    obtain ⟨hii,he⟩:=he
    have hii:=eq_of_beq hii
    subst hf0 hii
    split at he
    ·rename_i y hx
     split at he
     ·rename_i z ks hel
      cases helm:ks.elem id with
      |true=>rw[helm] at he;cases he
      |false=>
       rw[helm] at he
       cases he
       have hidk:id∉ks:=fun hh=>by rw[List.elem_iff.2 hh] at helm;cases helm
       have hrr:=h.mem.roots id _ hroot
       obtain ⟨h1,h2,h3⟩:=hrr
       simp only[Row.size] at h2
       have hf0:f' =0:=by omega
       subst hf0
       simp only[Row.size,Nat.mul_one,Nat.add_zero,Cx.env] at h3
       exact store_rows T h ho hp hroot rfl hs (c:= .free) h3 hx hel hidk bt (ver+1) (fun w'=>⟨by simp[Row.len],rfl,Nat.lt_succ_self _⟩)
     ·cases he
    ·cases he
   ·cases he
  ·cases he
 ·rename_i id m hp
  split at he
  ·rename_i k e sz bs hq
   split at he
   ·rename_i bt ver r xs r0 hroot hx hr0
    replace he:=bif_some he
    obtain ⟨hc,he⟩:=he
    obtain ⟨hc,c9⟩:=and_bool hc
    obtain ⟨hc,c8⟩:=and_bool hc
    obtain ⟨hc,c7⟩:=and_bool hc
    obtain ⟨hc,c6⟩:=and_bool hc
    obtain ⟨hc,c5⟩:=and_bool hc
    obtain ⟨hc,c4⟩:=and_bool hc
    obtain ⟨c2,c3⟩:=and_bool hc
    have c2:=eq_of_beq c2
    have c3:=eq_of_beq c3
    have c4:=eq_of_beq c4
    have c6:=eq_of_beq c6
    have c8:=eq_of_beq c8
    have c9:0<k:=by simpa[Nat.blt_eq] using c9
    have c5:r0.deep=false:=by simpa using c5
    have c7:r.deep=false:=by simpa using c7
    split at he
    ·rename_i r' hr'
     cases he
     obtain ⟨hlt,hx2⟩:=rd_l h hp
     obtain ⟨r1,e1,hrl,b,cap,hρ,hpv⟩:=hx2 _ hroot
     cases e1
     simp only[Cx.env] at hρ
     obtain ⟨arr,ty,F,g1,g2,g3,g4,g5,g6⟩:=row_mem h.mem hroot hρ (by omega)
     unfold arrRow at hr'
     split at hr'
     ·rename_i r2 hr2
      simp only[Option.some.injEq] at hr'
      subst hr'
      have hv:AVRel (C.env w ρ S.hp S.nx Fs) (.one (.agg xs)) (a.eval x):=by have:=h.rd x;rwa [hx] at this
      obtain ⟨us,hus,hrel⟩:=hv
      have hrels: ∀(xs:List LV) (us:List Value),LVsRel (C.env w ρ S.hp S.nx Fs) xs us->AVsRel (C.env w ρ S.hp S.nx Fs) (xs.map fun x=> .l x) us:=by
       intro xs
       induction xs with
       |nil=>intro us hh;cases us<;>exact hh
       |cons y ys ih=>intro us hh;cases us with
        |nil=>exact hh
        |cons u us=>exact ⟨hh.1,ih us hh.2⟩
      have hsub:Sub (fun _=>none) S.hp:=fun j r hj=>by cases hj
      obtain ⟨Fv,v1,v2,v3,v4,v5,v6,v7,v8,v9,v10⟩:=rowOf_sound h.mem _ us _ r0 r2 [] hsub (emptyRow_len hr0) hr2 (hrels xs us hrel)
      have hir:r0.isRecs=false:=by cases r0<;>first|rfl| (simp[Row.deep] at c5;done)
      have hone: ∀u∈us,u.cells= #[u]:=fun u hu=>one_cells (v10 hir u hu)
      have hfl:flat us=us:=by
       have: ∀l:List Value,(∀u∈l,u.cells= #[u])->flat l=l:=by
        intro l
        induction l with
        |nil=>intro _;rfl
        |cons u l ih=>intro hl;rw[flat_cons,hl u (by simp),ih (fun q hq=>hl q (by simp[hq]))];rfl
       exact this us hone
      rw[hfl] at v1 v8
      have hdd:r2.deep=false/\r2.size=1:=⟨by rw[v9];exact c5,by rw[v5];exact c4⟩
      obtain ⟨ti,t1,t2⟩:=size_facts T hq
      have hszt:ti.size=k:=by rw[t2,<- c8];simp[sizeOf',hq]
      have hvc:(a.eval x).cells.toList=us:=by rw[hus];simp[Value.cells]
      have hul:us.length=k:=by rw[v7,List.length_map,c2]
      have hrcl:r.cells.length=k:=by rw[Row.cells_length,c6,hrl,c3,Nat.mul_one]
      have hr2l:r2.cells.length=k:=by rw[Row.cells_length,hdd.2,v4,List.length_map,c2,Nat.mul_one]
      have hvs:(a.eval x).cells.size=k:=by rw[<- Array.length_toList,hvc,hul]
      exact store_own T h ho hpv hroot hρ g1 g5 g6 (Took.nil _) (by simp) (A:=[]) (B:=r.cells) (D:=[]) (B':=r2.cells) (ks:=[]) (by simpa using g4) rfl (by omega) t1 (by omega) (by omega) (by rw[hvc];exact v8) (by rw[hvc];exact v1) v2 true r2 (ver+1) bt (fun _=>by simp) (fun hh=>by cases hh) (by rw[v4,List.length_map];omega) (by rw[hdd.2];rw[c6] at g3;exact g3)
       (fun w'=>like_row (by rw[v4,List.length_map];omega) (by rw[hdd.2,c6]) (Nat.le_succ _) (fun f=>by rw[slAt_nd c7,slAt_nd hdd.1]) (fun hh=>by omega))
     ·cases hr'
    ·cases he
   ·cases he
  ·cases he
 ·rename_i id ver i f j hp
  split at he
  ·rename_i bt v' r z hroot hx
   replace he:=bif_some he
   obtain ⟨hc,he⟩:=he
   obtain ⟨h1,h2⟩:=and_bool hc
   have h1:=eq_of_beq h1
   subst h1
   split at he
   ·rename_i r' hr'
    cases he
    cases r with
    |rows own l=>
     cases own with
     |false=>cases hr'
     |true=>
      simp only[setInner,Option.some.injEq] at hr'
      subst hr'
      exact store_inner T h ho hp hroot h2 hx
    |_=>cases hr'
   ·cases he
  ·cases he
 ·cases he
end
end Go.Proofs.YtbmmhdmljajcfaaGreatDoor.V
namespace Go.Proofs.YtbmmhdmljajcfaaGreatDoor.V
open Go
section
variable {P:Program} {tt:TT} {C:Cx} {S:St} {a:Act} {w:World} {ρ:Place} {Fs:Nat->FP} {n:Nat}
def Zx (C:Cx) (w:World) (nx:Nat) (Fs:Nat->FP) (ks:List Nat) (X:Nat) (F:FP):Zs:=fun b'=>C.ZL w (sumTo nx Fs) b' \/(1<=sumL Fs ks b' /\F b' =0/\b' ≠X)
theorem cells_sealX {ks:List Nat} {X:Nat} {cs ct cf:List Cell} {vs:List Value} {F:FP} (h:CellsRel w (C.ZL w (sumTo S.nx Fs)) cs vs F) (hF: ∀b,F b<=sumL Fs ks b) (hX:F X=0) (o:Bool) (h1:o=true->ct=cs) (h2:o=false->cf=cs.map Cell.frz): ∃F',CellsRel w (Zx C w S.nx Fs ks X F') (if o then ct else cf) vs F' /\(∀b,F' b<=sumL Fs ks b)/\F' X=0:=by
 cases o with
 |true=>rw[h1 rfl];exact ⟨F,h.mono (fun b hb=>⟨.inl hb,rfl⟩) (fun b _=>rfl),hF,hX⟩
 |false=>
  rw[h2 rfl]
  refine ⟨fz,h.frz (fun b hb=> .inl hb) (fun b' hb=> .inr ⟨Nat.le_trans hb (hF b'),rfl,?_⟩),fun b=>by simp,rfl⟩
  rintro rfl;omega
theorem SRel.remake (h:SRel C S a w ρ Fs) (hg:S.hp n=some .ghost) (ks:List Nat) (hks:ks.Nodup) (hlive: ∀k∈ks,∃r,S.hp k=some r/\r.real) (X cap:Nat) (arr:Array Value) (ty:TypeId) (e:Nat) (r:Row) (F:FP) (w':World)
 (hX:(X=w.heap.size/\w'.heap.size=w.heap.size+1)\/(1<=sumL Fs ks X/\w'.heap.size=w.heap.size)) (hsame: ∀b,b<w.heap.size->b≠X->w'.heap[b]? =w.heap[b]?) (hcell:w'.heap[X]? =some (.cells arr ty (0,0))) (hos:w'.os=w.os) (htp:w'.tape=w.tape) (hout:w'.output=w.output)
 (hc:CellsRel w (Zx C w S.nx Fs ks X F) r.cells arr.toList F) (hF: ∀b,F b<=sumL Fs ks b) (hFX:F X=0) (h1:r.len<=cap) (h2:cap*r.size<=arr.size):
 SRel C ⟨S.sl,upd S.hp (killUp ks++[(n,some (.row e 0 r))]),S.nx⟩ a w' (newρ ρ n (some (X,cap))) (putF (kilF Fs ks) n (fadd (f1 X) F)):=by
 have hk: ∀k∈ks,k<S.nx:=fun k h'=>by
  obtain ⟨r,k1,_⟩:=hlive k h'
  exact live_lt h.mem k1
 have own: ∀b,1<=sumL Fs ks b->b<w.heap.size/\(C.w0.heap.size<=b\/1<=C.F0 b):=fun b hb=>h.mem.mine b (Nat.le_trans hb (sumL_le Fs b S.nx hks hk))
 refine h.make hg ks hks hlive (.row e 0 r) (some (X,cap)) _ w' (by rcases hX with ⟨_,h⟩| ⟨_,h⟩<;>omega) hos htp hout (fun b hb h0=>hsame b hb ?_) (fun b=> ?_) (fun M=> ?_)
 ·rintro rfl
  rcases hX with ⟨h,_⟩| ⟨h,_⟩<;>omega
 ·have:=hF b
  by_cases e:b=X
  ·subst e
   rcases hX with ⟨k1,k2⟩| ⟨k1,k2⟩
   ·rw[if_pos (by omega)];simp;omega
   ·simp;omega
  ·simp[f1_at,e];omega
 ·refine .inr ⟨X,cap,arr,ty,F,newρ_self ..,hcell,h1,h2,hc.mono (fun b hb=> ?_) (fun b hb=> ?_),rfl⟩
  ·rcases hb with hb| ⟨hb1,hb2,hb3⟩
   ·exact M.zl b hb
   ·obtain ⟨o1,o2⟩:=own b hb1
    refine ⟨.inr (.inr ⟨o2,by show b<w'.heap.size;rcases hX with ⟨_,h⟩| ⟨_,h⟩<;>omega,?_⟩),hsame b o1 hb3⟩
    have g1:=sumTo_put (kilF Fs ks) (fadd (f1 X) F) b (live_lt h.mem hg)
    have g2:=sumTo_kil Fs b S.nx ks hks hk
    have g3:=h.mem.one b
    have g4:f1 X b=0:=by rw[f1_at,if_neg hb3]
    simp[g4] at g1
    omega
  ·refine hsame b (own b (Nat.le_trans hb (hF b))).1 ?_
   rintro rfl;omega
theorem SRel.remake_nil (h:SRel C S a w ρ Fs) (hg:S.hp n=some .ghost) (ks:List Nat) (hks:ks.Nodup) (hlive: ∀k∈ks,∃r,S.hp k=some r/\r.real) (e:Nat) (r:Row) (hl:r.len=0) (w':World) (hw:w'.heap=w.heap) (hos:w'.os=w.os) (htp:w'.tape=w.tape) (hout:w'.output=w.output):
 SRel C ⟨S.sl,upd S.hp (killUp ks++[(n,some (.row e 0 r))]),S.nx⟩ a w' (newρ ρ n none) (putF (kilF Fs ks) n fz):=
 h.make hg ks hks hlive (.row e 0 r) none _ w' (by rw[hw];exact Nat.le_refl _) hos htp hout (fun b hb _=>by rw[hw]) (fun b=>by simp) (fun M=> .inl ⟨newρ_self ..,hl,rfl⟩)
def Cell.ok:Cell->Prop
 | .sc v=>v.oneCell' =true
 | .sl _ _=>True
 | .free=>False
theorem row_ok (r:Row): ∀c∈r.cells,c.ok:=by
 intro c hc
 cases r with
 |ints k l=>simp only[Row.cells,List.mem_map] at hc;obtain ⟨x,_,rfl⟩:=hc;rfl
 |bools l=>simp only[Row.cells,List.mem_map] at hc;obtain ⟨x,_,rfl⟩:=hc;rfl
 |strs l=>simp only[Row.cells,List.mem_map] at hc;obtain ⟨x,_,rfl⟩:=hc;rfl
 |rows o l=>simp only[Row.cells,List.mem_map] at hc;obtain ⟨x,_,rfl⟩:=hc;trivial
 |recs sg o l=>
  simp only[Row.cells,List.mem_flatMap] at hc
  obtain ⟨x,_,hc⟩:=hc
  obtain ⟨j,hj⟩:=List.getElem?_of_mem hc
  rw[recCells_get] at hj
  cases hs:sg[j]? with
  |none=>rw[hs] at hj;cases hj
  |some b=>rw[hs] at hj;cases b<;>(simp at hj;subst hj)<;>first|rfl|trivial
theorem cell_ok_one {w:World} {Z:Zs} {c:Cell} {v:Value} {F:FP} (hc:c.ok) (h:CellRel w Z c v F):v.oneCell' =true:=by
 cases c with
 |sc u=>obtain ⟨rfl,_⟩:=h;exact hc
 |sl o l=>obtain ⟨A,cap,hv,_⟩:=sl_hdr h;rw[hv];rfl
 |free=>exact hc.elim
theorem cells_one {w:World} {Z:Zs}: ∀ {cs:List Cell} {vs:List Value} {F:FP},(∀c∈cs,c.ok)->CellsRel w Z cs vs F->vs.length<=cs.length-> ∀u∈vs,u.oneCell' =true
 | [],[],_,_,_,_,u,hu=>by cases hu
 | [],v::vs,_,_,_,hl,u,hu=>by simp at hl
 |c::cs,v::vs,F,hc,⟨F1,F2,h1,h2,hF⟩,hl,u,hu=>by
  rcases List.mem_cons.1 hu with rfl|hu
  ·exact cell_ok_one (hc c (by simp)) h1
  ·exact cells_one (fun c' hc'=>hc c' (by simp[hc'])) h2 (by simpa using hl) u hu
theorem plain_fz {w:World} {Z:Zs}: ∀ {cs:List Cell} {vs:List Value} {F:FP},(∀c∈cs,(∃v,c= .sc v)\/ ∃l,c= .sl false l)->CellsRel w Z cs vs F->F=fz
 | [],_,_,_,h=>h
 |c::cs,v::vs,F,hc,⟨F1,F2,h1,h2,hF⟩=>by
  have e2:=plain_fz (fun c' hc'=>hc c' (by simp[hc'])) h2
  have e1:F1=fz:=by
   rcases hc c (by simp) with ⟨u,rfl⟩| ⟨l,rfl⟩
   ·exact h1.2
   ·exact h1.1
  rw[hF,e1,e2,fadd_fz]
theorem scalars_any {w:World} {Z Z':Zs}: ∀ {cs:List Cell} {vs:List Value} {F:FP},(∀c∈cs,∃v,c= .sc v)->CellsRel w Z cs vs F->CellsRel w Z' cs vs F
 | [],_,_,_,h=>h
 |c::cs,v::vs,F,hc,⟨F1,F2,h1,h2,hF⟩=>by
  obtain ⟨u,rfl⟩:=hc c (by simp)
  exact ⟨F1,F2,h1,scalars_any (fun c' hc'=>hc c' (by simp[hc'])) h2,hF⟩
def Row.loose:Row->Bool
 | .rows true _=>false
 | .recs _ true _=>false
 |_=>true
theorem loose_cells {r:Row} (h:r.loose=true): ∀c∈r.cells,(∃v,c= .sc v)\/ ∃l,c= .sl false l:=by
 intro c hc
 cases r with
 |ints k l=>simp only[Row.cells,List.mem_map] at hc;obtain ⟨x,_,rfl⟩:=hc;exact .inl ⟨_,rfl⟩
 |bools l=>simp only[Row.cells,List.mem_map] at hc;obtain ⟨x,_,rfl⟩:=hc;exact .inl ⟨_,rfl⟩
 |strs l=>simp only[Row.cells,List.mem_map] at hc;obtain ⟨x,_,rfl⟩:=hc;exact .inl ⟨_,rfl⟩
 |rows o l=>cases o with
  |true=>cases h
  |false=>simp only[Row.cells,List.mem_map] at hc;obtain ⟨x,_,rfl⟩:=hc;exact .inr ⟨_,rfl⟩
 |recs sg o l=>cases o with
  |true=>cases h
  |false=>
   simp only[Row.cells,List.mem_flatMap] at hc
   obtain ⟨x,_,hc⟩:=hc
   obtain ⟨j,hj⟩:=List.getElem?_of_mem hc
   rw[recCells_get] at hj
   cases hs:sg[j]? with
   |none=>rw[hs] at hj;cases hj
   |some b=>rw[hs] at hj;cases b<;>(simp at hj;subst hj)<;>first|exact .inl ⟨_,rfl⟩|exact .inr ⟨_,rfl⟩
theorem own_src (m:MRel C S.hp S.nx w ρ Fs) {id e ver:Nat} {r:Row} (hroot:S.hp id=some (.row e ver r)) {lo hi:Nat} (h1:lo<=hi) (h2:hi<=r.len) {tx e':TypeId} (hk:P.underlying tx=some (.slice e')):
 ∃news F,Src P r.size tx (subHdr (ρ id) r.size lo hi) (hi-lo) news w/\CellsRel w (C.ZL w (sumTo S.nx Fs)) ((r.take hi).drop lo).cells news F/\ ∀b,F b<=Fs id b:=by
 rcases m.roots id _ hroot with ⟨g1,g2,g3⟩| ⟨b,cap,arr,ty,F',g1,g2,g3,g4,g5,g6⟩
 ·simp only[Cx.env] at g1
  have e1:lo=0:=by omega
  have e2:hi=0:=by omega
  subst e1 e2
  refine ⟨[],fz,by rw[g1];exact Src.ofNil w hk 0,?_,fun b=>by simp⟩
  rw[row_nil (by rw[drop_len,take_len];omega)]
  rfl
 ·simp only[Cx.env] at g1 g2
  obtain ⟨F1,t1,t2⟩:=g5.take (hi*r.size)
  obtain ⟨F2,t3,t4⟩:=t1.drop (lo*r.size)
  have hcl:((r.take hi).drop lo).cells=(r.cells.take (hi*r.size)).drop (lo*r.size):=by rw[drop_cells,take_cells,take_size]
  rw[<- hcl] at t3
  have hale:r.cells.length<=arr.size:=by have:=g5.length;simpa using this
  have hrl:r.cells.length=r.len*r.size:=Row.cells_length r
  have hm1:hi*r.size<=r.len*r.size:=Nat.mul_le_mul_right _ h2
  have hm2:lo*r.size<=hi*r.size:=Nat.mul_le_mul_right _ h1
  have hnl:((arr.toList.take (hi*r.size)).drop (lo*r.size)).length=(hi-lo)*r.size:=by
   rw[Nat.sub_mul];simp;omega
  refine ⟨_,F2,?_,t3,fun b=> ?_⟩
  ·rw[g1]
   simp only[subHdr]
   refine Src.ofSlice w hk _ _ _ _ hnl (fun j u hj=> ?_) (cells_one (row_ok _) t3 (by rw[hnl,Row.cells_length,drop_len,take_len,drop_size,take_size];exact Nat.mul_le_mul_right _ (by omega)))
   rw[List.getElem?_drop,List.getElem?_take] at hj
   split at hj
   ·rename_i hjl
    split
    ·rename_i hc
     exfalso
     have:hi=lo:=by omega
     subst this
     omega
    ·rw[plain_add,cell?_plain g2]
     simpa using hj
   ·cases hj
  ·have:=t2 b;have:=t4 b;rw[g6];simp;omega
theorem take_all (r:Row):(r.take r.len).drop 0=r:=by
 cases r<;>simp[Row.take,Row.drop,Row.len]
theorem hdr_sub (q:Option (Nat×Nat)) (s n:Nat):subHdr q s 0 n=hdr q n:=by
 cases q with
 |none=>rfl
 |some q=>obtain ⟨b,cap⟩:=q;simp only[subHdr,hdr,Nat.zero_mul,Nat.sub_zero];split<;>rfl
theorem frz_src {Z:Zs} {r:Row} {v:Value} (h:FrzRow w Z r v) {tx e':TypeId} (hk:P.underlying tx=some (.slice e')): ∃news,Src P r.size tx v r.len news w/\CellsRel w Z r.cells news fz:=by
 obtain ⟨A,cap,h1,h2,h3⟩:=h
 subst h1
 rcases Nat.eq_zero_or_pos r.len with h0|h0
 ·refine ⟨[],?_,by rw[row_nil h0];rfl⟩
  rw[h0]
  cases A with
  |none=>exact Src.ofNil w hk cap
  |some ad=>exact Src.ofSlice w hk ad 0 cap [] (by simp) (by simp) (by simp)
 ·obtain ⟨ad,rfl,hz,vs,g1,g2⟩:=h3 (by omega)
  have hl:=g2.length
  have g3:=g2.shrink
  have hnl:(vs.take r.cells.length).length=r.cells.length:=by simp;omega
  refine ⟨vs.take r.cells.length,Src.ofSlice w hk ad _ cap _ (by rw[hnl,Row.cells_length]) (fun j u hj=> ?_) (cells_one (row_ok _) g3 (by omega)),g3⟩
  rw[List.getElem?_take] at hj
  split at hj
  ·rw[g1 j ‹_›];exact hj
  ·cases hj
theorem added_sound (m:MRel C S.hp S.nx w ρ Fs) {r0:Row} {x:LV} {y:Row} {ks rc:List Nat} (he:added S.hp r0 x=some (y,ks,rc)) (h0:r0.len=0) {tx:TypeId} (htx:(∃s,x= .s s)\/ ∃e',P.underlying tx=some (.slice e')) (hts: ∀s,x= .s s->P.underlying tx=some .string) {v:Value} (hv:LVRel (C.env w ρ S.hp S.nx Fs) x v):
 ∃news F,Src P y.size tx v y.len news w/\CellsRel w (C.ZL w (sumTo S.nx Fs)) y.cells news F/\(∀b,F b<=sumL Fs ks b)/\Took S.hp ks/\ ∀k∈ks,k∈rc:=by
 have hsl:(∀s,x≠ .s s)-> ∃e',P.underlying tx=some (.slice e'):=fun hn=>by
  rcases htx with ⟨s,h⟩|h
  ·exact absurd h (hn s)
  ·exact h
 unfold added at he
 split at he
 ·cases he
  obtain ⟨e',hk⟩:=hsl (by simp)
  have hv:v= .slice none 0 0:=hv
  rw[hv,h0,row_nil h0]
  exact ⟨[],fz,Src.ofNil w hk 0,rfl,fun b=>by simp,Took.nil _,by simp⟩
 ·rename_i id
  obtain ⟨e',hk⟩:=hsl (by simp)
  split at he
  ·rename_i e ver r hroot
   obtain ⟨_,hx⟩:=hv
   obtain ⟨r',e1,e2⟩:=hx _ hroot
   cases e1
   obtain ⟨news,F,s1,s2,s3⟩:=own_src (P:=P) m hroot (Nat.zero_le _) (Nat.le_refl r.len) hk
   rw[hdr_sub,Nat.sub_zero] at s1
   rw[take_all] at s2
   simp only[Cx.env] at e2
   rw[<- e2] at s1
   have big:y=r->ks=[id]->rc=[id]-> ∃news F,Src P y.size tx v y.len news w/\CellsRel w (C.ZL w (sumTo S.nx Fs)) y.cells news F/\(∀b,F b<=sumL Fs ks b)/\Took S.hp ks/\ ∀k∈ks,k∈rc:=fun hy hks hrc=>by
    subst hy hks hrc
    exact ⟨news,F,s1,s2,fun b=>by have:=s3 b;simp[sumL];exact this,⟨by simp,fun k hk=>by simp at hk;subst hk;exact ⟨_,_,_,hroot⟩⟩,fun k hk=>hk⟩
   split at he
   ·cases he;exact big rfl rfl rfl
   ·cases he;exact big rfl rfl rfl
   ·rename_i hn1 hn2
    cases he
    have hlo:y.loose=true:=by
     cases y with
     |rows o l=>cases o<;>first|rfl|exact absurd rfl (hn1 _)
     |recs sg o l=>cases o<;>first|rfl|exact absurd rfl (hn2 _ _)
     |_=>rfl
    have hF:=plain_fz (loose_cells hlo) s2
    subst hF
    exact ⟨news,fz,s1,s2,fun b=>by simp,Took.nil _,by simp⟩
  ·cases he
 ·rename_i id lo hi
  obtain ⟨e',hk⟩:=hsl (by simp)
  split at he
  ·rename_i e ver r hroot
   obtain ⟨_,hx⟩:=hv
   obtain ⟨r',e1,l1,l2,e2⟩:=hx _ hroot
   cases e1
   obtain ⟨news,F,s1,s2,s3⟩:=own_src (P:=P) m hroot l1 l2 hk
   simp only[Cx.env] at e2
   rw[<- e2] at s1
   have hlen:((r.take hi).drop lo).len=hi-lo:=by rw[drop_len,take_len];omega
   have hsz:((r.take hi).drop lo).size=r.size:=by rw[drop_size,take_size]
   split at he
   ·cases he
   ·cases he
   ·rename_i hn1 hn2
    cases he
    have hlo:((r.take hi).drop lo).loose=true:=by
     cases r with
     |rows o l=>cases o<;>first|rfl|exact absurd rfl (hn1 _)
     |recs sg o l=>cases o<;>first|rfl|exact absurd rfl (hn2 _ _)
     |_=>rfl
    have hF:=plain_fz (loose_cells hlo) s2
    subst hF
    rw[hlen,hsz]
    exact ⟨news,fz,s1,s2,fun b=>by simp,Took.nil _,by simp⟩
  ·cases he
 ·rename_i s
  cases he
  have hv:v= .string s:=hv
  rw[hv]
  refine ⟨byteCells s,fz,?_,?_,fun b=>by simp,Took.nil _,by simp⟩
  ·have:=Src.ofString (P:=P) w (hts s rfl) s
   have hl:(Row.ints .u8 (s.data.toList.map fun b=>(b.toNat:Int))).len=s.size:=by simp[Row.len]<;>rfl
   rw[hl]
   exact this
  ·simp only[Row.cells,byteCells,List.map_map]
   generalize s.data.toList=l
   induction l with
   |nil=>rfl
   |cons b l ih=>exact ⟨fz,fz,⟨rfl,rfl⟩,ih,(fadd_fz _).symm⟩
 ·rename_i x' hn1 hn2 hn3 hn4
  obtain ⟨e',hk⟩:=hsl (fun s hs=>hn4 s hs)
  split at he
  ·rename_i r rc' hvr
   cases he
   have hfz:=viewRow_sound m hvr hv
   obtain ⟨news,s1,s2⟩:=frz_src (P:=P) hfz hk
   cases x with
   |val p r'=>
    simp only[viewRow,Option.some.injEq,Prod.mk.injEq] at hvr
    obtain ⟨rfl,rfl⟩:=hvr
    exact ⟨news,fz,s1,s2.mono (fun b hb=>⟨(by rcases hb with hb| ⟨k,hk,_⟩<;>first|exact hb| (cases hk;done)),rfl⟩) (fun b _=>rfl),fun b=>by simp,Took.nil _,by simp⟩
   |inner id ver i f=>
    have: ∃l,y= .ints .i64 l:=by
     simp only[viewRow] at hvr
     split at hvr
     ·obtain ⟨_,hvr⟩:=bif_some hvr;cases hvr;exact ⟨_,rfl⟩
     ·obtain ⟨_,hvr⟩:=bif_some hvr;cases hvr;exact ⟨_,rfl⟩
     ·cases hvr
    obtain ⟨l,rfl⟩:=this
    exact ⟨news,fz,s1,scalars_any (fun c hc=>by simp only[Row.cells,List.mem_map] at hc;obtain ⟨x,_,rfl⟩:=hc;exact ⟨_,rfl⟩) s2,fun b=>by simp,Took.nil _,by simp⟩
   |own id=>exact absurd rfl (hn2 id)
   |sub id lo hi=>exact absurd rfl (hn3 id lo hi)
   |_=>simp[viewRow] at hvr
  ·cases he
theorem app_facts {base y r:Row} (h:base.app y=some r):r.len=base.len+y.len/\r.size=base.size/\y.size=base.size/\ ∃o:Bool,(o=true->r.cells=base.cells++y.cells)/\(o=false->r.cells=(base.cells++y.cells).map Cell.frz):=by
 cases base<;>cases y<;>simp only[Row.app] at h<;>try (cases h;done)
 ·replace h:=bif_some h
  obtain ⟨hk,h⟩:=h
  have:=of_decide_eq_true hk
  subst this
  cases h
  exact ⟨by simp[Row.len],rfl,rfl,true,fun _=>by simp[Row.cells],fun h=>by cases h⟩
 ·cases h
  exact ⟨by simp[Row.len],rfl,rfl,true,fun _=>by simp[Row.cells],fun h=>by cases h⟩
 ·cases h
  exact ⟨by simp[Row.len],rfl,rfl,true,fun _=>by simp[Row.cells],fun h=>by cases h⟩
 ·rename_i o l o' l'
  cases h
  refine ⟨by simp[Row.len],rfl,rfl,o&&o',fun hh=> ?_,fun hh=> ?_⟩
  ·obtain ⟨rfl,rfl⟩:=and_bool hh;simp[Row.cells]
  ·simp[Row.cells,Cell.frz,Function.comp_def,hh]
 ·rename_i sg o l sg' o' l'
  replace h:=bif_some h
  obtain ⟨hk,h⟩:=h
  have:=eq_of_beq hk
  subst this
  cases h
  refine ⟨by simp[Row.len],rfl,rfl,o&&o',fun hh=> ?_,fun hh=> ?_⟩
  ·obtain ⟨rfl,rfl⟩:=and_bool hh;simp[Row.cells]
  ·rw[hh];simp[Row.cells,List.map_flatMap,recCells_frz]
theorem setCells_row {w:World} {b o:Nat} {arr:Array Value} {ty:TypeId} (hb:w.heap[b]? =some (.cells arr ty (0,0))) {vs:List Value} (hone: ∀v∈vs,v.oneCell' =true) (hfit:o+vs.length<=arr.size) (P:Program):w.setCells b o vs=w.setRow b (arr.toList.take o++vs++arr.toList.drop (o+vs.length)).toArray:=by
 have h1:=run_storeCells_at P b o ty vs 0 arr w hb (by simpa using hfit) hone
 have h2:=run_storeCells_cells (P:=P) b o vs 0 w (fun j hj=>by rw[cell?_plain hb];simp;omega) (fun j hj=>by simp[World.frozen?,hb]) hone
 simp only[Nat.add_zero] at h1 h2
 rw[h1] at h2
 injection h2 with _ h3
 exact h3.symm
structure BaseIs (C:Cx) (S:St) (w:World) (Fs:Nat->FP) (base:Row) (sv:Value) (kb:List Nat):Prop where
 is:(sv= .slice none 0 0/\base.len=0)\/ ∃X cap arr ty Fb,sv= .slice (some ⟨X,0,none⟩) base.len cap/\w.heap[X]? =some (.cells arr ty (0,0))/\base.len<=cap/\cap*base.size<=arr.size/\CellsRel w (C.ZL w (sumTo S.nx Fs)) base.cells arr.toList Fb/\ ∀b,Fb b+f1 X b<=sumL Fs kb b
theorem append_core (T:TOK P tt) (h:SRel C S a w ρ Fs) (hg:S.hp n=some .ghost) {t e tx ty:TypeId} {i:TypeInfo} {z:Value} (ht:P.underlying t=some (.slice e)) (hi:P.info? e=some i) (hz:i.zero=some z) (hzs:z.cells.size=i.size) (hpos:0<i.size) (hbp:0<i.bytes)
 {base y r:Row} (happ:base.app y=some r) (hbs:base.size=i.size) (hroom:(base.len+y.len)*i.bytes<=140737488355328) {sv xv:Value} {news:List Value} {Fy:FP} (src:Src P y.size tx xv y.len news w) (hy:CellsRel w (C.ZL w (sumTo S.nx Fs)) y.cells news Fy) {ks kb:List Nat} (hFy: ∀b,Fy b<=sumL Fs ks b) (took:Took S.hp (ks++kb)) (hb:BaseIs C S w Fs base sv kb) (e':Nat):
 ∃w' q F',(Builtin.append_ #[t,tx] ty #[sv,xv]).run P w= .ok (hdr q r.len) w' /\SRel C ⟨S.sl,upd S.hp (killUp (ks++kb)++[(n,some (.row e' 0 r))]),S.nx⟩ a w' (newρ ρ n q) (putF (kilF Fs (ks++kb)) n F'):=by
 obtain ⟨a1,a2,a3,o,a4,a5⟩:=app_facts happ
 have hys:y.size=i.size:=by omega
 rw[hys] at src
 have hk:=took.lt h.mem (Sub.refl _)
 have hlive:=took.live (Sub.refl _)
 have htot: ∀b,sumL Fs ks b+sumL Fs kb b<=1:=fun b=>by
  have:=sumL_le Fs b S.nx took.1 hk
  have:=h.mem.one b
  rw[sumL_append] at*
  omega
 have hold: ∀b,1<=sumL Fs (ks++kb) b->b<w.heap.size:=fun b hb=>(h.mem.mine b (Nat.le_trans hb (sumL_le Fs b S.nx took.1 hk))).1
 have hsmall:base.len+y.len<=140737488355328:=Nat.le_trans (Nat.le_mul_of_pos_right _ hbp) hroom
 have hnl:news.length=y.len*i.size:=src.newsLen
 have hgrow: ∀(bs:Option Addr) (sc:Nat) (olds:List Value) (Fo:FP),sv= .slice bs base.len sc->sc<base.len+y.len->(Builtin.firstCells i.size base.len (.slice bs base.len sc)).run P w.drew= .ok olds.toArray w.drew->olds.length=base.len*i.size->CellsRel w (C.ZL w (sumTo S.nx Fs)) base.cells olds Fo->(∀b,Fo b<=sumL Fs kb b)->
  ∃w' q F',(Builtin.append_ #[t,tx] ty #[sv,xv]).run P w= .ok (hdr q r.len) w' /\SRel C ⟨S.sl,upd S.hp (killUp (ks++kb)++[(n,some (.row e' 0 r))]),S.nx⟩ a w' (newρ ρ n q) (putF (kilF Fs (ks++kb)) n F'):=by
  intro bs sc olds Fo hsv hsc hf holen hco hFo
  have hrun:=run_append_grow_src (P:=P) w t tx ty e i z ht hi hz bs base.len sc olds hf xv y.len news src hsc (by omega) (growslice_fits hsc hroom)
  have hge:=grownCap_ge w (base.len+y.len) sc e
  have hjoin:=CellsRel.append hco (by rw[holen,Row.cells_length,hbs]) hy
  have hF: ∀b,fadd Fo Fy b<=sumL Fs (ks++kb) b:=fun b=>by
   have:=hFo b;have:=hFy b;rw[sumL_append];simp;omega
  have hFX:fadd Fo Fy w.heap.size=0:=by
   rcases Nat.eq_zero_or_pos (fadd Fo Fy w.heap.size) with h0|h0
   ·exact h0
   ·have:=hold _ (Nat.le_trans h0 (hF _));omega
  obtain ⟨F',s1,s2,s3⟩:=cells_sealX (ks:=ks++kb) (X:=w.heap.size) hjoin hF hFX o (ct:=r.cells) (cf:=r.cells) a4 a5
  have hsz:((olds++news).toArray++Builtin.zeroCells z.cells (grownCap w (base.len+y.len) sc e-(base.len+y.len))).size=grownCap w (base.len+y.len) sc e*i.size:=by
   have e1:(Builtin.zeroCells z.cells (grownCap w (base.len+y.len) sc e-(base.len+y.len))).size=(grownCap w (base.len+y.len) sc e-(base.len+y.len))*i.size:=by rw[<- hzs];simp[Builtin.zeroCells]
   rw[Array.size_append,e1,List.size_toArray,List.length_append,holen,hnl,<- Nat.add_mul,<- Nat.add_mul]
   congr 1
   omega
  refine ⟨_,some (w.heap.size,grownCap w (base.len+y.len) sc e),_,?_,SRel.remake h hg (ks++kb) took.1 hlive w.heap.size (grownCap w (base.len+y.len) sc e) _ e e' r F' (w.drew.alloc (.cells ((olds++news).toArray++Builtin.zeroCells z.cells (grownCap w (base.len+y.len) sc e-(base.len+y.len))) e)) (.inl ⟨rfl,heap_push_size w.drew _⟩) (fun b hb _=>heap_push_lt w.drew _ hb) (heap_push_eq w.drew _) rfl rfl rfl ?_ s2 s3 (by rw[a1];exact hge) (by rw[a2,hbs,hsz];exact Nat.le_refl _)⟩
  ·rw[hsv,hrun,a1];rfl
  ·have e2:(if o=true then r.cells else r.cells)=r.cells:=by cases o<;>rfl
   rw[e2] at s1
   rw[Array.toList_append]
   exact s1.more _
 rcases hb.is with ⟨hsv,hb0⟩| ⟨X,cap,arr,bty,Fb,hsv,hX,hcap,hsize,hcb,hFb⟩
 ·by_cases hn:y.len=0
  ·have hrun:=run_append_nothing (P:=P) w t tx ty e i ht hi none 0 0 (Nat.le_refl _) xv (by
    have:=src
    rw[hn] at this
    have hnn:news=[]:=List.eq_nil_of_length_eq_zero (by rw[hnl,hn,Nat.zero_mul])
    rw[hnn] at this
    exact this)
   refine ⟨w,none,fz,by rw[hsv,hrun];rfl,SRel.remake_nil h hg (ks++kb) took.1 hlive e' r (by omega) w rfl rfl rfl rfl⟩
  ·refine hgrow none 0 [] fz (by rw[hsv,hb0]) (by omega) (by rw[hb0];exact run_firstCells_none ..) (by rw[hb0];simp) (by rw[row_nil hb0];rfl) (fun b=>by simp)
 ·have hcl:base.cells.length=base.len*i.size:=by rw[Row.cells_length,hbs]
  have hlen:base.len*i.size<=arr.size:=by
   rw[hbs] at hsize
   exact Nat.le_trans (Nat.mul_le_mul_right _ hcap) hsize
  have hol:(arr.toList.take (base.len*i.size)).length=base.len*i.size:=by simp;omega
  have hco:=hcb.shrink
  rw[hcl] at hco
  by_cases hr:base.len+y.len<=cap
  ·have hfit:base.len*i.size+news.length<=arr.size:=by
    rw[hnl,<- Nat.add_mul]
    rw[hbs] at hsize
    exact Nat.le_trans (Nat.mul_le_mul_right _ hr) hsize
   have hrun:=run_append_room_src (P:=P) w t tx ty e i ht hi X 0 base.len cap xv y.len news src hr (fun j hj=>by rw[cell?_plain hX];simp;omega) (fun j hj=>by simp[World.frozen?,hX])
   rw[Nat.zero_add,setCells_row hX src.one hfit P] at hrun
   have hjoin:=CellsRel.append hco (by rw[hol,hcl]) hy
   have hF: ∀b,fadd Fb Fy b<=sumL Fs (ks++kb) b:=fun b=>by
    have:=hFb b;have:=hFy b;rw[sumL_append];simp;omega
   have hkX:1<=sumL Fs kb X:=by have:=hFb X;simp at this;omega
   have hFX:fadd Fb Fy X=0:=by
    have h1:=hFb X;have h2:=hFy X;have h3:=htot X
    simp at h1
    simp;omega
   obtain ⟨F',s1,s2,s3⟩:=cells_sealX (ks:=ks++kb) (X:=X) hjoin hF hFX o (ct:=r.cells) (cf:=r.cells) a4 a5
   refine ⟨_,some (X,cap),_,by rw[hsv,hrun,a1];rfl,SRel.remake h hg (ks++kb) took.1 hlive X cap _ bty e' r F' (w.setRow X (arr.toList.take (base.len*i.size)++news++arr.toList.drop (base.len*i.size+news.length)).toArray) (.inr ⟨by rw[sumL_append];omega,setRow_size ..⟩) (fun b _ hne=>setRow_other w X _ hne) (setRow_heap w X arr _ bty _ hX) rfl rfl rfl ?_ s2 s3 (by omega) (by
    rw[a2,hbs,List.size_toArray]
    rw[hbs] at hsize
    simp only[List.length_append,List.length_take,List.length_drop,Array.length_toList]
    omega)⟩
   have e2:(if o=true then r.cells else r.cells)=r.cells:=by cases o<;>rfl
   rw[e2] at s1
   exact s1.more _
  ·refine hgrow (some ⟨X,0,none⟩) cap (arr.toList.take (base.len*i.size)) Fb hsv (by omega) (run_firstCells_some (P:=P) w.drew i.size base.len ⟨X,0,none⟩ base.len cap _ hol (fun j v hj=> ?_)) hol hco (fun b=>by have:=hFb b;omega)
   have hj2:j<base.len*i.size:=by rw[<- hol];exact (List.getElem?_eq_some_iff.1 hj).1
   rw[plain_add,Nat.zero_add]
   have:w.drew.cell? ⟨X,j,none⟩=w.cell? ⟨X,j,none⟩:=rfl
   rw[this,cell?_plain hX]
   rw[List.getElem?_take,if_pos hj2] at hj
   simpa using hj
theorem killUp_append (ks ks':List Nat):killUp (ks++ks')=killUp ks++killUp ks':=by simp[killUp]
theorem base_own (m:MRel C S.hp S.nx w ρ Fs) {id e ver:Nat} {r:Row} (hroot:S.hp id=some (.row e ver r)) {hi:Nat} (hhi:hi<=r.len):BaseIs C S w Fs (r.take hi) (hdr (ρ id) hi) [id]:=by
 rcases m.roots id _ hroot with ⟨g1,g2,g3⟩| ⟨b,cap,arr,ty,F',g1,g2,g3,g4,g5,g6⟩
 ·simp only[Cx.env] at g1
  exact ⟨.inl ⟨by rw[g1];rfl,by rw[take_len];omega⟩⟩
 ·simp only[Cx.env] at g1 g2
  obtain ⟨F1,t1,t2⟩:=g5.take (hi*r.size)
  rw[<- take_cells] at t1
  have hl:(r.take hi).len=hi:=by rw[take_len];omega
  refine ⟨.inr ⟨b,cap,arr,ty,F1,by rw[g1,hl];rfl,g2,by omega,by rw[take_size];exact g4,?_,fun b'=> ?_⟩⟩
  ·have:arr.toList=arr.toList.take (hi*r.size)++arr.toList.drop (hi*r.size):=(List.take_append_drop ..).symm
   rw[this]
   exact t1.more _
  ·have:=t2 b';simp only[sumL];rw[g6];simp;omega
theorem take_self (r:Row):r.take r.len=r:=by
 cases r<;>simp[Row.take,Row.len]
theorem run_append_op {o:Oper} {c:Call} {f:Tmp} {s x:Operand} {t tx:TypeId} (ho:o.op= .call c) (hc:c.callee= .builtin .append) (hargs:c.args.toList=[s,x]) (hts:c.argTypes.toList=[t,tx]) {v:Value} {w':World} (hr:(Builtin.append_ #[t,tx] o.type #[a.eval s,a.eval x]).run P w= .ok v w'):(execOp a.eval o).run P w= .ok (.value v) w':=by
 have e1:c.args= #[s,x]:=by apply Array.ext';simpa using hargs
 have e2:c.argTypes= #[t,tx]:=by apply Array.ext';simpa using hts
 simp[execOp,ho,resolve,hc,e1,e2,invoke,builtin,hr,Result.andThen]
theorem SRel.takeOut (h:SRel C S a w ρ Fs) (hg:S.hp n=some .ghost) {id e ver i:Nat} {l:List (List Int)} (hroot:S.hp id=some (.row e ver (.rows true l))) (hi:i<l.length) {v:Value} (hv:cellAt w (ρ id) i=some v) (e':Nat):
 ∃q Fs',SRel C ⟨S.sl,upd S.hp [(id,some (.hole e ver (.rows true l) i 0)),(n,some (.row e' 0 (.ints .i64 l[i])))],S.nx⟩ a w (newρ ρ n q) Fs' /\v=hdr q l[i].length:=by
 have hne:id≠n:=by rintro rfl;rw[hroot] at hg;cases hg
 have hidlt:=live_lt h.mem hroot
 have hnlt:=live_lt h.mem hg
 have hg0:Fs n=fz:=h.mem.roots n _ hg
 cases hρ:ρ id with
 |none=>rw[hρ] at hv;cases hv
 |some q=>
  obtain ⟨b,cap⟩:=q
  rw[hρ] at hv
  obtain ⟨arr,ty,F,g1,g2,g3,g4,g5,g6⟩:=row_mem h.mem hroot hρ (by simp only[Row.len];omega)
  simp only[cellAt] at hv
  rw[cell?_plain g1] at hv
  have hc:(Row.rows true l).cells[i]? =some (.sl true l[i]):=by simp[Row.cells,hi]
  obtain ⟨v',F1,F2,k1,k2,k3,k4⟩:=g4.get hc
  have hv':arr.toList[i]? =some v:=by simpa using hv
  rw[hv'] at k1;cases k1
  have hhole:=k4 .free v fz rfl
  have hset:arr.toList.set i v=arr.toList:=by
   apply List.ext_getElem?
   intro j
   rw[List.getElem?_set]
   by_cases e:i=j
   ·subst e;rw[if_pos rfl,if_pos (List.getElem?_eq_some_iff.1 hv').1,hv']
   ·rw[if_neg e]
  rw[hset,fz_fadd] at hhole
  have hat: ∀j,upd S.hp [(id,some (.hole e ver (.rows true l) i 0)),(n,some (.row e' 0 (.ints .i64 l[i])))] j=if j=n then some (.row e' 0 (.ints .i64 l[i])) else if j=id then some (.hole e ver (.rows true l) i 0) else S.hp j:=fun j=>by
   rw[show [(id,some (Root.hole e ver (.rows true l) i 0)),(n,some (.row e' 0 (.ints .i64 l[i])))] =[(id,some (Root.hole e ver (.rows true l) i 0))]++[(n,some (.row e' 0 (.ints .i64 l[i])))] from rfl,upd_append,upd_one,upd_one]
  have hcase: ∃q,v=hdr q l[i].length/\ ∀(E':Env),E'.w=w->E'.ρ n=q->RootRel E' n (.row e' 0 (.ints .i64 l[i])) F1:=by
   rcases k2 with ⟨p1,p2,p3⟩| ⟨b2,cap2,arr2,ty2,q1,q2,q3,q4,q5,q6⟩
   ·refine ⟨none,by rw[p1,p2];rfl,fun E' hw' hq=> .inl ⟨hq,by rw[p2];rfl,p3⟩⟩
   ·refine ⟨some (b2,cap2),by rw[q1];rfl,fun E' hw' hq=> .inr ⟨b2,cap2,arr2,ty2,fz,hq,by rw[hw'];exact q2,by simpa[Row.len] using q3,by simpa[Row.size] using q4,?_,by rw[fadd_fz];exact q6⟩⟩
    refine CellsRel.ofFz fun j c hj=> ?_
    simp only[Row.cells,List.getElem?_map] at hj
    cases hlj:l[i][j]? with
    |none=>rw[hlj] at hj;cases hj
    |some z=>
     rw[hlj] at hj
     cases hj
     exact ⟨_,by simpa using q5 j z hlj,rfl,rfl⟩
  obtain ⟨q,hvq,hrr⟩:=hcase
  have hsum: ∀b',sumTo S.nx (putF (putF Fs id (fadd (f1 b) F2)) n F1) b' =sumTo S.nx Fs b':=fun b'=>by
   have e1:=sumTo_put (putF Fs id (fadd (f1 b) F2)) F1 b' hnlt
   have e2:=sumTo_put Fs (fadd (f1 b) F2) b' hidlt
   rw[putF_ne _ _ (Ne.symm hne),hg0] at e1
   rw[g5,k3] at e2
   simp at e1 e2
   omega
  refine ⟨q,putF (putF Fs id (fadd (f1 b) F2)) n F1,?_,hvq⟩
  refine h.gen _ _ w _ _ (fun _=>False) (Nat.le_refl _) rfl rfl rfl (fun _ _ _=>rfl) (fun _ h=>h.elim) (Nat.le_refl _) (fun j hj hre=>newρ_ne _ _ (by rintro rfl;exact hre _ hg)) (fun j hj=> ?_) (fun j hj=> .inl ⟨by rw[hat,if_neg (by omega),if_neg (by omega)];exact h.mem.fresh j hj,by rw[putF_ne _ _ (by omega),putF_ne _ _ (by omega)];exact h.mem.dead j (h.mem.fresh j hj)⟩) (fun b'=>by rw[hsum];exact h.mem.one b') (fun b' hb'=> .inl (by rw[hsum] at hb';exact hb'))
  by_cases e1:j=n
  ·subst e1
   exact .turned .ghost _ hg (by rw[hat,if_pos rfl]) trivial (fun M=>by rw[putF_self];exact hrr _ rfl (newρ_self ..))
  ·by_cases e2:j=id
   ·subst e2
    refine .turned _ (.hole e ver (.rows true l) i 0) hroot (by rw[hat,if_neg e1,if_pos rfl]) ⟨rfl,rfl,Nat.le_refl _⟩ (fun M=> ?_)
    rw[putF_ne _ _ e1,putF_self]
    refine ⟨by simpa[Row.len] using hi,by simp[Row.size],.inr ⟨b,cap,arr,ty,F2,by show newρ ρ n q j=_;rw[newρ_ne _ _ e1];exact hρ,g1,g2,g3,?_,rfl⟩⟩
    simp only[Row.size,Nat.mul_one,Nat.add_zero]
    exact hhole.mono (fun b hb=>M.zl b hb) (fun b _=>rfl)
   ·exact .same (by rw[hat,if_neg e1,if_neg e2]) (by rw[putF_ne _ _ e1,putF_ne _ _ e2]) (fun _ _ h=>h)
theorem added_congr {hp hp':Nat->Option Root} {r0:Row} {x:LV} {y:Row} {ks rc:List Nat} (he:added hp r0 x=some (y,ks,rc)) (hh: ∀j∈rc,hp' j=hp j):added hp' r0 x=some (y,ks,rc):=by
 cases x with
 |own id=>
  simp only[added] at he ⊢
  have:id∈rc:=by
   split at he
   ·split at he<;>cases he<;>simp
   ·cases he
  rw[hh id this];exact he
 |sub id lo hi=>
  simp only[added] at he ⊢
  have:id∈rc:=by
   split at he
   ·split at he<;>cases he;simp
   ·cases he
  rw[hh id this];exact he
 |inner id ver i f=>
  simp only[added,viewRow] at he ⊢
  have:id∈rc:=by
   split at he
   ·rename_i r rc' hq
    cases he
    split at hq
    ·obtain ⟨_,hq⟩:=bif_some hq;cases hq;simp
    ·obtain ⟨_,hq⟩:=bif_some hq;cases hq;simp
    ·cases hq
   ·cases he
  rw[hh id this];exact he
 |_=>exact he
theorem added_live {hp:Nat->Option Root} {r0:Row} {x:LV} {y:Row} {ks rc:List Nat} (he:added hp r0 x=some (y,ks,rc)): ∀j∈rc,∃e v r,hp j=some (.row e v r):=by
 cases x with
 |own id=>
  simp only[added] at he
  split at he
  ·rename_i e v r hroot
   split at he<;>cases he<;>(intro j hj;simp at hj;subst hj;exact ⟨_,_,_,hroot⟩)
  ·cases he
 |sub id lo hi=>
  simp only[added] at he
  split at he
  ·rename_i e v r hroot
   split at he<;>cases he;(intro j hj;simp at hj;subst hj;exact ⟨_,_,_,hroot⟩)
  ·cases he
 |inner id ver i f=>
  simp only[added,viewRow] at he
  split at he
  ·rename_i r rc' hq
   cases he
   split at hq
   ·rename_i hroot;obtain ⟨_,hq⟩:=bif_some hq;cases hq;intro j hj;simp at hj;subst hj;exact ⟨_,_,_,hroot⟩
   ·rename_i hroot;obtain ⟨_,hq⟩:=bif_some hq;cases hq;intro j hj;simp at hj;subst hj;exact ⟨_,_,_,hroot⟩
   ·cases hq
  ·cases he
 |val p r=>simp only[added,viewRow,Option.some.injEq,Prod.mk.injEq] at he;obtain ⟨_,_,rfl⟩:=he;simp
 |nil=>simp only[added,Option.some.injEq,Prod.mk.injEq] at he;obtain ⟨_,_,rfl⟩:=he;simp
 |s x=>simp only[added,Option.some.injEq,Prod.mk.injEq] at he;obtain ⟨_,_,rfl⟩:=he;simp
 |_=>simp[added,viewRow] at he
theorem tx_facts (T:TOK P tt) {r0:Row} {x:LV} {tx:Nat} (h:(match x with| .s _=>(match tt tx with|some ⟨.str,_,_⟩=>r0.size==1|_=>false)|_=>(elemTy tt tx).isSome)=true):((∃s,x= .s s)\/ ∃e',P.underlying tx=some (.slice e'))/\(∀s,x= .s s->P.underlying tx=some .string):=by
 split at h
 ·rename_i s
  refine ⟨.inl ⟨s,rfl⟩,fun _ _=> ?_⟩
  split at h
  ·rename_i sz bs hq;exact (T tx _ hq).desc
  ·cases h
 ·rename_i hn
  obtain ⟨e',he⟩:=Option.isSome_iff_exists.1 h
  exact ⟨.inr ⟨e',slice_facts T he⟩,fun s hs=>absurd hs (hn s)⟩
theorem evAppend_sound (T:TOK P tt) (h:SRel C S a w ρ Fs) {o:Oper} {c:Call} {t tx:Nat} {s x:Operand} (ho:o.op= .call c) (hc:c.callee= .builtin .append) (hargs:c.args.toList=[s,x]) (hts:c.argTypes.toList=[t,tx]) {E:Eff} (he:evAppend (R:=Eff) tt S.hp n t tx (St.rd C.N S.sl s) (St.rd C.N S.sl x) some=some E) (hg: ∀k,n<=k->k<E.nx->S.hp k=some .ghost): ∃w' ρ' Fs' u,Out P C S o E a w w' ρ' Fs' u:=by
 unfold evAppend at he
 split at he
 ·rename_i e sv xv hel hs hx
  split at he
  ·rename_i r0 hr0
   split at he
   ·rename_i y ks rc hadd
    replace he:=bif_some he
    obtain ⟨htx,he⟩:=he
    obtain ⟨tx1,tx2⟩:=tx_facts T htx
    obtain ⟨te,q1,q2,q3,q4⟩:=emptyRow_size T hr0
    obtain ⟨i,z,z1,z2,z3,z4,z5,z6⟩:=zero_facts T q1 q3
    have hsl:=slice_facts T hel
    have hzs:z.cells.size=i.size:=by
     have:=congrArg List.length z3
     simp only[Array.length_toList,List.length_map] at this
     omega
    have hbp:0<i.bytes:=by rw[z5];exact (T e te q1).some.2
    have hbb:bytesOf tt e=i.bytes:=by simp[bytesOf,q1,z5]
    obtain ⟨news,Fy,y1,y2,y3,y4,y5⟩:=added_sound (P:=P) h.mem hadd (emptyRow_len hr0) tx1 tx2 (rd_l h hx)
    have fin: ∀(base:Row) (kb:List Nat) (E:Eff),appFin (R:=Eff) tt e r0 base y ks (killUp kb) n (rc++kb) some=some E->Took S.hp (ks++kb)->BaseIs C S w Fs base (a.eval s) kb->(∀k,n<=k->k<E.nx->S.hp k=some .ghost)-> ∃w' ρ' Fs' u,Out P C S o E a w w' ρ' Fs' u:=by
     intro base kb E he htook hbase hg
     unfold appFin at he
     split at he
     ·rename_i r happ
      replace he:=bif_some he
      obtain ⟨hbs,he⟩:=he
      have hbs:=eq_of_beq hbs
      replace he:=chk_some he
      obtain ⟨hrm,he⟩:=he
      have hrm:=of_decide_eq_true hrm
      cases he
      have hgn:=hg n (Nat.le_refl _) (Nat.lt_succ_self _)
      obtain ⟨w',q,F',k1,k2⟩:=append_core T h hgn hsl z1 z2 hzs (by omega) hbp happ (by omega) (by rw[<- hbb];exact hrm) y1 y2 (ty:=o.type) y3 htook hbase e
      refine ⟨w',newρ ρ n q,putF (kilF Fs (ks++kb)) n F',hdr q r.len,.inl (run_append_op (f:=0) ho hc hargs hts k1),?_,?_⟩
      ·rw[killUp_append] at k2;exact k2
      ·refine ⟨live_lt h.mem hgn,fun root hr=> ?_⟩
       simp only[Cx.env] at hr ⊢
       have:upd S.hp (killUp ks++killUp kb++[(n,some (.row e 0 r))]) n=some (.row e 0 r):=by rw[upd_append,upd_one,if_pos rfl]
       rw[this] at hr
       cases hr
       exact ⟨r,rfl,by rw[newρ_self]⟩
     ·cases he
    have tookOwn: ∀id e' ver r,S.hp id=some (.row e' ver r)->rc.elem id=false->Took S.hp (ks++[id]):=fun id e' ver r hroot hel=>by
     refine ⟨List.nodup_append.2 ⟨y4.1,by simp,fun a ha b hb=> ?_⟩,fun k hk=> ?_⟩
     ·simp at hb
      subst hb
      rintro rfl
      rw[List.elem_iff.2 (y5 a ha)] at hel;cases hel
     ·rcases List.mem_append.1 hk with hk|hk
      ·exact y4.2 k hk
      ·simp at hk;subst hk;exact ⟨_,_,_,hroot⟩
    split at he
    ·exact fin r0 [] E (by simpa[killUp] using he) (by simpa using y4) ⟨.inl ⟨rd_l h hs,emptyRow_len hr0⟩⟩ hg
    ·rename_i id
     split at he
     ·rename_i e' ver r hroot
      cases hel:rc.elem id with
      |true=>rw[hel] at he;cases he
      |false=>
       rw[hel] at he
       simp only[cond_false] at he
       obtain ⟨_,hx2⟩:=rd_l h hs
       obtain ⟨r',e1,e2⟩:=hx2 _ hroot
       cases e1
       refine fin r [id] E (by simpa[killUp] using he) (tookOwn id _ _ _ hroot hel) ?_ hg
       have:=base_own h.mem hroot (Nat.le_refl _)
       rw[take_self] at this
       rw[e2]
       exact this
     ·cases he
    ·rename_i id lo hi
     split at he
     ·rename_i e' ver r hroot
      cases hel:rc.elem id with
      |true=>rw[hel] at he;cases he
      |false=>
       rw[hel] at he
       simp only[cond_false] at he
       replace he:=bif_some he
       obtain ⟨hlo,he⟩:=he
       have hlo:=eq_of_beq hlo
       subst hlo
       obtain ⟨_,hx2⟩:=rd_l h hs
       obtain ⟨r',e1,_,l2,e2⟩:=hx2 _ hroot
       cases e1
       refine fin (r.take hi) [id] E (by simpa[killUp] using he) (tookOwn id _ _ _ hroot hel) ?_ hg
       have:=base_own h.mem hroot l2
       rw[e2,hdr_sub]
       exact this
     ·cases he
    ·rename_i id ver i' f
     split at he
     ·rename_i bt v l hroot
      cases helm:rc.elem id with
      |true=>rw[helm] at he;cases he
      |false=>
       rw[helm] at he
       simp only[cond_false] at he
       replace he:=bif_some he
       obtain ⟨hv,he⟩:=he
       have hv:=eq_of_beq hv
       subst hv
       unfold appFin at he
       split at he
       ·rename_i r happ
        replace he:=bif_some he
        obtain ⟨hbs,he⟩:=he
        have hbs:=eq_of_beq hbs
        replace he:=chk_some he
        obtain ⟨hrm,he⟩:=he
        have hrm:=of_decide_eq_true hrm
        cases he
        have hgn:=hg n (Nat.le_refl _) (by simp only[];omega)
        have hgn1:=hg (n+1) (Nat.le_succ _) (by simp only[];omega)
        obtain ⟨_,hx2⟩:=rd_l h hs
        obtain ⟨_,_,hx3⟩:=hx2 _ hroot
        obtain ⟨m1,m2,m4⟩:=hx3 bt _ rfl
        simp only[Row.slAt] at m1
        have hf0:=eq_of_beq m1
        subst hf0
        simp only[Row.len] at m2
        simp only[Row.size,Nat.mul_one,Nat.add_zero,Cx.env] at m4
        obtain ⟨q,Fs',h1,hvq⟩:=h.takeOut hgn hroot m2 m4 e
        have hne:id≠n:=by rintro rfl;rw[hroot] at hgn;cases hgn
        have hne1:id≠n+1:=by rintro rfl;rw[hroot] at hgn1;cases hgn1
        have hat: ∀j,upd S.hp [(id,some (.hole bt v (.rows true l) i' 0)),(n,some (.row e 0 (.ints .i64 l[i'])))] j=if j=n then some (.row e 0 (.ints .i64 l[i'])) else if j=id then some (.hole bt v (.rows true l) i' 0) else S.hp j:=fun j=>by
         rw[show [(id,some (Root.hole bt v (.rows true l) i' 0)),(n,some (.row e 0 (.ints .i64 l[i'])))] =[(id,some (Root.hole bt v (.rows true l) i' 0))]++[(n,some (.row e 0 (.ints .i64 l[i'])))] from rfl,upd_append,upd_one,upd_one]
        have hrc: ∀j∈rc,j≠id/\j≠n:=fun j hj=>by
         refine ⟨?_,?_⟩
         ·rintro rfl;rw[List.elem_iff.2 hj] at helm;cases helm
         ·rintro rfl
          obtain ⟨_,_,_,hl⟩:=added_live hadd j hj
          rw[hgn] at hl;cases hl
        have hadd1:=added_congr hadd (hp':=upd S.hp [(id,some (.hole bt v (.rows true l) i' 0)),(n,some (.row e 0 (.ints .i64 l[i'])))]) (fun j hj=>by rw[hat,if_neg (hrc j hj).2,if_neg (hrc j hj).1])
        have hx1:LVRel (C.env w (newρ ρ n q) (upd S.hp [(id,some (.hole bt v (.rows true l) i' 0)),(n,some (.row e 0 (.ints .i64 l[i'])))]) S.nx Fs') xv (a.eval x):=by
         have:=h1.rd x
         rw[hx] at this
         exact this
        obtain ⟨news1,Fy1,w1,w2,w3,w4,w5⟩:=added_sound (P:=P) h1.mem hadd1 (emptyRow_len hr0) tx1 tx2 hx1
        have hroot1:upd S.hp [(id,some (.hole bt v (.rows true l) i' 0)),(n,some (.row e 0 (.ints .i64 l[i'])))] n=some (.row e 0 (.ints .i64 l[i'])):=by rw[hat,if_pos rfl]
        have hgd:l.getD i' [] =l[i']:=by simp[m2]
        rw[hgd] at happ hbs hrm
        have took1:Took (upd S.hp [(id,some (.hole bt v (.rows true l) i' 0)),(n,some (.row e 0 (.ints .i64 l[i'])))]) (ks++[n]):=by
         refine ⟨List.nodup_append.2 ⟨w4.1,by simp,fun a ha b hb=> ?_⟩,fun k hk=> ?_⟩
         ·simp at hb
          subst hb
          exact (hrc a (w5 a ha)).2
         ·rcases List.mem_append.1 hk with hk|hk
          ·exact w4.2 k hk
          ·simp at hk;subst hk;exact ⟨_,_,_,hroot1⟩
        have hb1:=base_own h1.mem hroot1 (Nat.le_refl (Row.ints .i64 l[i']).len)
        rw[take_self,newρ_self] at hb1
        have hsv:a.eval s=hdr q (Row.ints .i64 l[i']).len:=hvq
        rw[<- hsv] at hb1
        have hg1:upd S.hp [(id,some (.hole bt v (.rows true l) i' 0)),(n,some (.row e 0 (.ints .i64 l[i'])))] (n+1)=some .ghost:=by rw[hat,if_neg (by omega),if_neg (Ne.symm hne1)];exact hgn1
        obtain ⟨w',q',F',k1,k2⟩:=append_core T h1 hg1 hsl z1 z2 hzs (by omega) hbp happ (by omega) (by rw[<- hbb];exact hrm) w1 w2 (ty:=o.type) w3 took1 hb1 e
        have hfun:upd (upd S.hp [(id,some (.hole bt v (.rows true l) i' 0)),(n,some (.row e 0 (.ints .i64 l[i'])))]) (killUp (ks++[n])++[(n+1,some (.row e 0 r))])=upd S.hp (killUp ks++[(id,some (.hole bt v (.rows true l) i' 0)),(n,none)]++[(n+1,some (.row e 0 r))]):=by
         funext j
         rw[upd_append,upd_one,upd_kill,kill_at,hat,upd_append,upd_one,upd_append,show [(id,some (Root.hole bt v (.rows true l) i' 0)),(n,none)] =[(id,some (Root.hole bt v (.rows true l) i' 0))]++[(n,none)] from rfl,upd_append,upd_one,upd_one,upd_kill,kill_at]
         by_cases j1:j=n+1
         ·simp[j1]
         ·by_cases j2:j=n
          ·simp[j2]
          ·by_cases j3:j=id
           ·subst j3
            have:j∉ks:=fun hh=>(hrc j (w5 j hh)).1 rfl
            simp[j1,j2,this]
           ·simp[j1,j2,j3]
        rw[hfun] at k2
        refine ⟨w',newρ (newρ ρ n q) (n+1) q',putF (kilF Fs' (ks++[n])) (n+1) F',hdr q' r.len,.inl (run_append_op (f:=0) ho hc hargs hts k1),k2,?_⟩
        refine ⟨live_lt h.mem hgn1,fun root hr=> ?_⟩
        simp only[Cx.env] at hr ⊢
        have:upd S.hp (killUp ks++[(id,some (.hole bt v (.rows true l) i' 0)),(n,none)]++[(n+1,some (.row e 0 r))]) (n+1)=some (.row e 0 r):=by rw[upd_append,upd_one,if_pos rfl]
        rw[this] at hr
        cases hr
        exact ⟨r,rfl,by rw[newρ_self]⟩
       ·cases he
     ·cases he
    ·cases he
   ·cases he
  ·cases he
 ·cases he
end
end Go.Proofs.YtbmmhdmljajcfaaGreatDoor.V
namespace Go.Proofs.YtbmmhdmljajcfaaGreatDoor.V
open Go
section
variable {P:Program} {tt:TT} {C:Cx} {S:St} {a:Act} {w:World} {ρ:Place} {Fs:Nat->FP} {n:Nat}
theorem run_copy_op {o:Oper} {c:Call} {s x:Operand} {t tx:TypeId} (ho:o.op= .call c) (hc:c.callee= .builtin .copy) (hargs:c.args.toList=[s,x]) (hts:c.argTypes.toList=[t,tx]) {v:Value} {w':World} (hr:(Builtin.copy_ #[t,tx] o.type #[a.eval s,a.eval x]).run P w= .ok v w'):(execOp a.eval o).run P w= .ok (.value v) w':=by
 have e1:c.args= #[s,x]:=by apply Array.ext';simpa using hargs
 have e2:c.argTypes= #[t,tx]:=by apply Array.ext';simpa using hts
 simp[execOp,ho,resolve,hc,e1,e2,invoke,builtin,hr,Result.andThen]
theorem SRel.turnHole (h:SRel C S a w ρ Fs) {id:Nat} {root:Root} (hr0:S.hp id=some root) {b cap:Nat} (hρ:ρ id=some (b,cap)) {arr arr':Array Value} {ty:TypeId} (hb:w.heap[b]? =some (.cells arr ty (0,0))) (e ver:Nat) (r:Row) (i f:Nat) (hi:i<r.len) (hf:f<r.size) (F:FP)
 (hc:CellsRel w (C.ZL w (sumTo S.nx Fs)) (r.cells.set (i*r.size+f) .free) arr'.toList F) (hF: ∀b',F b' +f1 b b' <=Fs id b') (h1:r.len<=cap) (h2:cap*r.size<=arr'.size) (hl:Like w (w.setRow b arr') (ρ id) root (.hole e ver r i f)):
 SRel C ⟨S.sl,upd S.hp [(id,some (.hole e ver r i f))],S.nx⟩ a (w.setRow b arr') ρ (putF (kilF Fs []) id (fadd (f1 b) F)):=by
 have hidlt:=live_lt h.mem hr0
 have hFb:F b=0:=by
  have:=hF b
  have:=sumTo_le Fs b hidlt
  have:=h.mem.one b
  simp at*
  omega
 have hown:1<=Fs id b:=by have:=hF b;simp at this;omega
 have:=h.turn [] (by simp) (by simp) id (by simp) root (.hole e ver r i f) hr0 (fadd (f1 b) F) (w.setRow b arr') (setRow_size ..) rfl rfl rfl (fun b' hb' h0=>setRow_other w b arr' (by rintro rfl;omega)) (fun b'=>by have:=hF b';simp;omega) hl (fun M=>
  ⟨hi,hf,.inr ⟨b,cap,arr',ty,F,hρ,setRow_heap w b arr arr' ty _ hb,h1,h2,hc.mono (fun b' hb'=>M.zl b' hb') (fun b' hb'=>setRow_other w b arr' (by rintro rfl;omega)),rfl⟩⟩)
 exact this
theorem same_root (hp:Nat->Option Root) {id:Nat} {root:Root} (h:hp id=some root):upd hp [(id,some root)] =hp:=by
 funext j
 rw[upd_one]
 by_cases e:j=id
 ·subst e;rw[if_pos rfl,h]
 ·rw[if_neg e]
theorem evCopy_sound (T:TOK P tt) (h:SRel C S a w ρ Fs) {o:Oper} {c:Call} {t tx:Nat} {s x:Operand} (ho:o.op= .call c) (hc:c.callee= .builtin .copy) (hargs:c.args.toList=[s,x]) (hts:c.argTypes.toList=[t,tx]) {E:Eff} (he:evCopy (R:=Eff) tt S.hp n t (St.rd C.N S.sl s) (St.rd C.N S.sl x) some=some E): ∃w' ρ' Fs' u,Out P C S o E a w w' ρ' Fs' u:=by
 unfold evCopy at he
 replace he:=bif_some he
 obtain ⟨hty,he⟩:=he
 have hel: ∃e,elemTy tt t=some e/\sizeOf' tt e=1:=by
  cases hq:elemTy tt t with
  |none=>rw[hq] at hty;cases hty
  |some e=>rw[hq] at hty;exact ⟨e,rfl,eq_of_beq hty⟩
 obtain ⟨e,hel,hsz⟩:=hel
 have hte: ∃te,tt e=some te:=by
  cases hq:tt e with
  |none=>simp[sizeOf',hq] at hsz
  |some te=>exact ⟨te,rfl⟩
 obtain ⟨te,hte⟩:=hte
 obtain ⟨ti,t1,t2⟩:=size_facts T hte
 have hs1:(P.info? e).map (·.size)=some 1:=by
  rw[t1];simp only[Option.map_some,Option.some.injEq]
  rw[t2];simpa[sizeOf',hte] using hsz
 have hu:=slice_facts T hel
 split at he
 ·rename_i id lo hi id' lo' hi' hs hx
  obtain ⟨hlt,hx1⟩:=rd_l h hs
  obtain ⟨hlt',hx2⟩:=rd_l h hx
  split at he
  ·rename_i bt ver k l hroot
   replace he:=bif_some he
   obtain ⟨hid,he⟩:=he
   have hid:=eq_of_beq hid
   subst hid
   cases he
   obtain ⟨r1,e1,a1,a2,a3⟩:=hx1 _ hroot
   cases e1
   obtain ⟨r2,e2,b1,b2,b3⟩:=hx2 _ hroot
   cases e2
   simp only[Row.len] at a2 b2
   simp only[Row.size,Cx.env] at a3 b3
   by_cases hm:min (hi' -lo') (hi-lo)=0
   ·
    have hlst:l.take lo++(((l.take hi').drop lo').take (hi-lo)++l.drop (lo+min (hi' -lo') (hi-lo)))=l:=by
     have:((l.take hi').drop lo').take (hi-lo)=[]:=by
      apply List.eq_nil_of_length_eq_zero
      simp only[List.length_take,List.length_drop]
      omega
     rw[this,hm,List.nil_append,Nat.add_zero,List.take_append_drop]
    have hv1: ∃d dc,a.eval s= .slice d (hi-lo) dc:=by
     rw[a3]
     cases hρ:ρ id with
     |none=>
      have:=h.mem.roots id _ hroot
      rcases this with ⟨_,g2,_⟩| ⟨b,cap,arr,ty,F',g1,_⟩
      ·simp only[Row.len] at g2
       have:hi-lo=0:=by omega
       rw[this];exact ⟨_,_,rfl⟩
      ·simp only[Cx.env] at g1;rw[hρ] at g1;cases g1
     |some q=>exact ⟨_,_,rfl⟩
    have hv2: ∃d dc,a.eval x= .slice d (hi' -lo') dc:=by
     rw[b3]
     cases hρ:ρ id with
     |none=>
      have:=h.mem.roots id _ hroot
      rcases this with ⟨_,g2,_⟩| ⟨b,cap,arr,ty,F',g1,_⟩
      ·simp only[Row.len] at g2
       have:hi' -lo' =0:=by omega
       rw[this];exact ⟨_,_,rfl⟩
      ·simp only[Cx.env] at g1;rw[hρ] at g1;cases g1
     |some q=>exact ⟨_,_,rfl⟩
    obtain ⟨d,dc,hv1⟩:=hv1
    obtain ⟨d',dc',hv2⟩:=hv2
    have hrun:=run_copy_none (P:=P) w t tx o.type e d d' (hi-lo) dc (hi' -lo') dc' hu hs1 hm
    rw[<- hv1,<- hv2] at hrun
    rw[hlst,hm]
    refine ⟨w,ρ,Fs,goInt 0,.inl (run_copy_op ho hc hargs hts hrun),by rw[same_root S.hp hroot];exact h,rfl⟩
   ·have hpos:0<l.length:=by omega
    obtain ⟨b,cap,hρ,_⟩:=rows_place h.mem hroot rfl (by simpa[Row.len] using hpos)
    obtain ⟨arr,ty,F,g1,g2,g3,g4,g5,g6⟩:=row_mem h.mem hroot hρ (by simpa[Row.len] using hpos)
    simp only[Row.len] at g2
    simp only[Row.size,Nat.mul_one] at g3
    have hFz:F=fz:=scalars_fz (fun c hc=>by simp only[Row.cells,List.mem_map] at hc;obtain ⟨x,_,rfl⟩:=hc;exact ⟨_,rfl⟩) g4
    rw[hρ] at a3 b3
    simp only[subHdr,Nat.mul_one] at a3 b3
    rw[if_neg (by omega)] at a3 b3
    have hget: ∀j,j<l.length->arr.toList[j]? =some (.int k (l.getD j 0)):=fun j hj=>by
     obtain ⟨v,F1,F2,q1,q2,_⟩:=g4.get (j:=j) (c:= .sc (.int k l[j])) (by simp[Row.cells,hj])
     obtain ⟨rfl,_⟩:=q2
     rw[q1];simp[hj]
    have hmm:min (hi' -lo') (hi-lo)=((l.drop lo').take (min (hi' -lo') (hi-lo))).length:=by simp;omega
    have hseg:((l.take hi').drop lo').take (hi-lo)=(l.drop lo').take (min (hi' -lo') (hi-lo)):=by
     rw[List.drop_take,List.take_take,Nat.min_comm]
    let m:=min (hi' -lo') (hi-lo)
    let cs:List Value:=((l.drop lo').take m).map (Value.int k)
    have hcl:cs.length=m:=by simp[cs,m];omega
    have hrun:=run_copy_row (P:=P) w t tx o.type e b lo (hi-lo) (cap-lo) ⟨b,lo',none⟩ (hi' -lo') (cap-lo') arr ty cs hu hs1 g1 (by rw[hcl]) (fun j v hj=>by
     rw[plain_add,cell?_plain g1]
     simp only[cs,List.getElem?_map] at hj
     cases hlj:((l.drop lo').take m)[j]? with
     |none=>rw[hlj] at hj;cases hj
     |some z=>
      rw[hlj] at hj
      cases hj
      rw[List.getElem?_take] at hlj
      split at hlj
      ·rw[List.getElem?_drop] at hlj
       have hb:=(List.getElem?_eq_some_iff.1 hlj).1
       have:=hget (lo' +j) hb
       rw[List.getD_eq_getElem?_getD,hlj] at this
       simpa using this
      ·cases hlj) (by rw[hcl];simp only[m];omega) (fun v hv=>by simp only[cs,List.mem_map] at hv;obtain ⟨z,_,rfl⟩:=hv;rfl)
    rw[<- a3,<- b3] at hrun
    have hnew:CellsRel w (C.ZL w (sumTo S.nx Fs)) (Row.ints k (l.take lo++(((l.take hi').drop lo').take (hi-lo)++l.drop (lo+min (hi' -lo') (hi-lo))))).cells (arr.toList.take lo++cs++arr.toList.drop (lo+cs.length)) fz:=by
     rw[hseg,hcl]
     refine CellsRel.ofFz fun j c hj=> ?_
     simp only[Row.cells,List.map_append,List.append_assoc] at hj
     rw[List.append_assoc]
     have hal:arr.toList.length=arr.size:=by simp
     by_cases j1:j<lo
     ·rw[List.getElem?_append_left (by simp;omega)] at hj ⊢
      rw[List.getElem?_map,List.getElem?_take,if_pos j1] at hj
      rw[List.getElem?_take,if_pos j1,hget j (by omega)]
      have:l[j]? =some l[j]:=List.getElem?_eq_getElem (by omega)
      rw[this] at hj
      cases hj
      exact ⟨_,rfl,by simp[show j<l.length by omega],rfl⟩
     ·rw[List.getElem?_append_right (by simp;omega)] at hj ⊢
      have el:(List.map (fun n=>Cell.sc (.int k n)) (l.take lo)).length=lo:=by simp;omega
      have el2:(arr.toList.take lo).length=lo:=by simp;omega
      rw[el] at hj
      rw[el2]
      by_cases j2:j-lo<m
      ·have e1:(List.map (fun n=>Cell.sc (.int k n)) (List.take (min (hi' -lo') (hi-lo)) (List.drop lo' l))).length=m:=by simp[m];omega
       rw[List.getElem?_append_left (by omega)] at hj ⊢
       rw[List.getElem?_map] at hj
       simp only[cs,List.getElem?_map,m]
       cases hq:(List.take (min (hi' -lo') (hi-lo)) (List.drop lo' l))[j-lo]? with
       |none=>rw[hq] at hj;cases hj
       |some z=>rw[hq] at hj;cases hj;exact ⟨_,rfl,rfl,rfl⟩
      ·have e1:(List.map (fun n=>Cell.sc (.int k n)) (List.take (min (hi' -lo') (hi-lo)) (List.drop lo' l))).length=m:=by simp[m];omega
       rw[List.getElem?_append_right (by omega)] at hj ⊢
       rw[e1,List.getElem?_map,List.getElem?_drop] at hj
       rw[hcl,List.getElem?_drop]
       have e2:lo+min (hi' -lo') (hi-lo)+(j-lo-m)=j:=by simp only[m];simp only[m] at j2;omega
       have e3:lo+m+(j-lo-m)=j:=by omega
       rw[e2] at hj
       rw[e3]
       cases hq:l[j]? with
       |none=>rw[hq] at hj;cases hj
       |some z=>
        rw[hq] at hj
        cases hj
        have hb:=(List.getElem?_eq_some_iff.1 hq).1
        have:=hget j hb
        rw[List.getD_eq_getElem?_getD,hq] at this
        exact ⟨_,this,rfl,rfl⟩
    have hlen:(l.take lo++(((l.take hi').drop lo').take (hi-lo)++l.drop (lo+min (hi' -lo') (hi-lo)))).length=l.length:=by
     simp only[List.length_append,List.length_take,List.length_drop]
     omega
    have hrel:=SRel.turnRow h [] (by simp) (by simp) (by simp) hroot hρ g1 bt ver (.ints k (l.take lo++(((l.take hi').drop lo').take (hi-lo)++l.drop (lo+min (hi' -lo') (hi-lo))))) fz (arr':=(arr.toList.take lo++cs++arr.toList.drop (lo+cs.length)).toArray) (by
     simp only[List.toList_toArray]
     exact hnew.mono (fun b hb=>⟨.inl hb,rfl⟩) (fun b _=>rfl)) (fun b'=>by rw[g5];simp;omega) (by rw[g5];simp) (by simp only[Row.len];omega) (by
     simp only[Row.size,List.size_toArray,List.length_append,List.length_take,List.length_drop,Array.length_toList,hcl,m]
     omega) (like_row (by simp only[Row.len];exact hlen) rfl (Nat.le_refl _) (fun _=>rfl) (fun _=>rfl))
    refine ⟨_,ρ,_,goInt cs.length,.inl (run_copy_op ho hc hargs hts hrun),hrel,?_⟩
    rw[hcl]
    rfl
  ·rename_i bt ver l hroot
   replace he:=bif_some he
   obtain ⟨hid,he⟩:=he
   have hid:=eq_of_beq hid
   subst hid
   replace he:=chk_some he
   obtain ⟨hck,he⟩:=he
   cases he
   obtain ⟨hck,c4⟩:=and_bool hck
   obtain ⟨hck,c3⟩:=and_bool hck
   obtain ⟨c1,c2⟩:=and_bool hck
   have c1:=eq_of_beq c1
   have c2:=eq_of_beq c2
   have c3:=eq_of_beq c3
   have c4:=of_decide_eq_true c4
   subst c1 c2 c3
   obtain ⟨r1,e1,a1,a2,a3⟩:=hx1 _ hroot
   cases e1
   obtain ⟨r2,e2,b1,b2,b3⟩:=hx2 _ hroot
   cases e2
   simp only[Row.size,Cx.env] at a3 b3
   have hpos:0<(Row.rows true l).len:=by simp only[Row.len];omega
   obtain ⟨b,cap,hρ,_⟩:=rows_place h.mem hroot rfl hpos
   obtain ⟨arr,ty,F,g1,g2,g3,g4,g5,g6⟩:=row_mem h.mem hroot hρ hpos
   simp only[Row.len] at g2
   simp only[Row.size,Nat.mul_one] at g3
   rw[hρ] at a3 b3
   simp only[subHdr,Nat.mul_one] at a3 b3
   rw[if_neg (by omega)] at b3
   have hal:arr.toList.length=arr.size:=by simp
   let A:=(l.take lo').map (Cell.sl true)
   let M:=((l.drop lo').dropLast).map (Cell.sl true)
   have hlast: ∃z,l.drop lo' =(l.drop lo').dropLast++[z]:=by
    have hne:l.drop lo' ≠[]:=by intro hh;have:=congrArg List.length hh;simp at this;omega
    exact ⟨(l.drop lo').getLast hne,(List.dropLast_concat_getLast hne).symm⟩
   obtain ⟨z,hz⟩:=hlast
   have hAl:A.length=lo':=by simp[A];omega
   have hMl:M.length=l.length-lo' -1:=by simp[M]
   have hcs:(Row.rows true l).cells=A++(M++[.sl true z]):=by
    show l.map _=_
    conv=>lhs;rw[<- List.take_append_drop lo' l,hz]
    simp[A,M]
   rw[hcs] at g4
   obtain ⟨FA,F2,s1,s2,s3⟩:=CellsRel.split g4
   obtain ⟨FM,FL,s4,s5,s6⟩:=CellsRel.split s2
   rw[hAl] at s1 s4
   let V:List Value:=(arr.toList.drop lo').take M.length
   have hVl:V.length=M.length:=by simp[V,hMl];omega
   have hvone: ∀v∈V,v.oneCell' =true:=cells_one (fun c hc=>by simp only[M,List.mem_map] at hc;obtain ⟨_,_,rfl⟩:=hc;trivial) s4 (by omega)
   have hrunw: ∃w',(Builtin.copy_ #[t,tx] o.type #[a.eval s,a.eval x]).run P w= .ok (goInt V.length) w' /\w' =w.setRow b (arr.toList.take (lo' +1)++V++arr.toList.drop (lo' +1+V.length)).toArray:=by
    by_cases hm:V.length=0
    ·have hmin:Nat.min (l.length-lo') (l.length-(lo' +1))=0:=by
      have:Nat.min (l.length-lo') (l.length-(lo' +1))=min (l.length-lo') (l.length-(lo' +1)):=rfl
      omega
     rw[a3,b3]
     refine ⟨w,by rw[hm];exact run_copy_none (P:=P) w t tx o.type e _ _ _ _ _ _ hu hs1 hmin,?_⟩
     have hv0:V=[]:=List.eq_nil_of_length_eq_zero hm
     rw[hv0]
     simp only[List.append_nil,List.length_nil,Nat.add_zero,List.take_append_drop,Array.toArray_toList]
     exact (setRow_self w b arr ty (0,0) g1).symm
    ·rw[if_neg (by omega)] at a3
     have hrun:=run_copy_row (P:=P) w t tx o.type e b (lo' +1) (l.length-(lo' +1)) (cap-(lo' +1)) ⟨b,lo',none⟩ (l.length-lo') (cap-lo') arr ty V hu hs1 g1 (by
      have:Nat.min (l.length-lo') (l.length-(lo' +1))=min (l.length-lo') (l.length-(lo' +1)):=rfl
      rw[hVl,hMl,this];omega) (fun j v hj=>by
      rw[plain_add,cell?_plain g1]
      simp only[V] at hj
      rw[List.getElem?_take] at hj
      split at hj
      ·rw[List.getElem?_drop] at hj;simpa using hj
      ·cases hj) (by rw[hVl,hMl];omega) hvone
     rw[<- a3,<- b3] at hrun
     exact ⟨_,hrun,rfl⟩
   obtain ⟨w',hrun,hw'⟩:=hrunw
   have hlt2:lo' <(l.take lo' ++[]::(l.drop lo').dropLast).length:=by simp;omega
   have hlen:(l.take lo' ++[]::(l.drop lo').dropLast).length=l.length:=by simp;omega
   have hhole:(Row.rows true (l.take lo' ++[]::(l.drop lo').dropLast)).cells.set (lo' *1+0) .free=A++(.free::M):=by
    show ((l.take lo' ++[]::(l.drop lo').dropLast).map _).set _ _=_
    rw[List.map_append,List.set_append_right _ _ (by simp;omega)]
    have:lo' *1+0-(List.map (fun x=>Cell.sl true x) (l.take lo')).length=0:=by simp;omega
    rw[this]
    rfl
   have htail:arr.toList.take (lo' +1)++V++arr.toList.drop (lo' +1+V.length)=arr.toList.take lo' ++(arr.toList[lo']'(by omega)::(V++arr.toList.drop (lo' +1+V.length))):=by
    rw[List.append_assoc,List.take_succ_eq_append_getElem (by omega)]
    simp
   have hrel:=SRel.turnHole h hroot hρ g1 bt (ver+1) (.rows true (l.take lo' ++[]::(l.drop lo').dropLast)) lo' 0 hlt2 (by simp[Row.size]) (fadd FA FM) (arr':=(arr.toList.take (lo' +1)++V++arr.toList.drop (lo' +1+V.length)).toArray) (by
    simp only[Row.size,List.toList_toArray]
    rw[hhole,htail]
    exact CellsRel.append s1 (by rw[hAl];simp;omega) ⟨fz,FM,rfl,s4.more _,(fz_fadd FM).symm⟩)
    (fun b'=>by rw[g5,s3,s6];simp;omega) (by simp only[Row.len];omega) (by
      simp only[Row.size,List.size_toArray,List.length_append,List.length_take,List.length_drop,Array.length_toList]
      omega) ⟨by simp only[Row.len];exact hlen,rfl,Nat.le_succ _⟩
   refine ⟨w',ρ,_,goInt V.length,.inl (run_copy_op ho hc hargs hts hrun),by rw[hw'];exact hrel,?_⟩
   show goInt V.length=_
   rw[hVl,hMl,Nat.sub_sub]
   rfl
  ·cases he
 ·cases he
end
end Go.Proofs.YtbmmhdmljajcfaaGreatDoor.V
namespace Go.Proofs.YtbmmhdmljajcfaaGreatDoor.V
open Go
section
variable {P:Program} {tt:TT} {C:Cx} {S:St} {a:Act} {w:World} {ρ:Place} {Fs:Nat->FP} {n:Nat}
theorem evAlloc_nx {t:Nat} {E:Eff} (he:evAlloc (R:=Eff) tt n t some=some E):E.nx=n+1:=by
 unfold evAlloc at he
 split at he
 ·cases he;rfl
 ·split at he
  ·replace he:=bif_some he;obtain ⟨_,he⟩:=he;cases he;rfl
  ·cases he
 ·replace he:=bif_some he;obtain ⟨_,he⟩:=he;cases he;rfl
 ·cases he
theorem evBox_nx {hp:Nat->Option Root} {t:Nat} {x:AV} {E:Eff} (he:evBox (R:=Eff) tt hp n t x some=some E):E.nx=n+1:=by
 unfold evBox at he
 split at he
 ·cases he
 ·split at he
  ·cases he;rfl
  ·cases he
 ·cases he
theorem evMakeSlice_nx {t:Nat} {l c:Operand} {x:AV} {E:Eff} (he:evMakeSlice (R:=Eff) tt n t l c x some=some E):E.nx=n+1:=by
 unfold evMakeSlice at he
 replace he:=bif_some he
 obtain ⟨_,he⟩:=he
 split at he
 ·split at he
  ·obtain ⟨_,_,_,he⟩:=asI_some he
   replace he:=chk_some he
   obtain ⟨_,he⟩:=he
   cases he;rfl
  ·cases he
 ·cases he
theorem evBuildSlice_nx {hp:Nat->Option Root} {t len:Nat} {ps:List (Nat×AV)} {E:Eff} (he:evBuildSlice (R:=Eff) tt hp n t len ps some=some E):E.nx=n+1:=by
 unfold evBuildSlice at he
 split at he
 ·split at he
  ·replace he:=bif_some he
   obtain ⟨_,he⟩:=he
   split at he
   ·cases he;rfl
   ·cases he
  ·cases he
 ·cases he
theorem run_builtin {o:Oper} {c:Call} {b:Builtin} (ho:o.op= .call c) (hc:c.callee= .builtin b) {v:Value} {w':World} (hr: ∀consts,(builtin b c.argTypes o.type consts (c.args.map a.eval)).run P w= .ok (.value v) w'):(execOp a.eval o).run P w= .ok (.value v) w':=by
 simp only[execOp,ho,resolve,hc]
 simp[invoke]
 exact hr _
theorem evLen_str (T:TOK P tt) (h:SRel C S a w ρ Fs) {o:Oper} {c:Call} {t:Nat} {x:Operand} {s:ByteArray} (ho:o.op= .call c) (hc:c.callee= .builtin .len) (hargs:c.args.toList=[x]) (hts:c.argTypes.toList=[t]) (hx:St.rd C.N S.sl x= .one (.l (.s s))) {sz bs:Nat} (hq:tt t=some ⟨.str,sz,bs⟩): ∃u,Out P C S o ⟨.l (.i .i64 s.size),[],n,[],[]⟩ a w w ρ Fs u:=by
 have hv:a.eval x= .string s:=rd_l h hx
 have e1:c.args= #[x]:=by apply Array.ext';simpa using hargs
 have e2:c.argTypes= #[t]:=by apply Array.ext';simpa using hts
 refine ⟨_,Out.pure h rfl (run_builtin (b:= .len) ho hc fun consts=> ?_) rfl⟩
 rw[e1,e2]
 have:=run_len_string (P:=P) w t o.type s (T t _ hq).desc
 simp[builtin,hv,this,goInt]
theorem evLen_sl (T:TOK P tt) (h:SRel C S a w ρ Fs) {o:Oper} {c:Call} {t e k:Nat} {x:Operand} {y:LV} {rl rc:List Nat} (ho:o.op= .call c) (hc:c.callee= .builtin .len) (hargs:c.args.toList=[x]) (hts:c.argTypes.toList=[t]) (hx:St.rd C.N S.sl x= .one (.l y)) (hq:elemTy tt t=some e) (hl:lenOf S.hp y=some (k,rl,rc)): ∃u,Out P C S o ⟨.l (.i .i64 k),[],n,rl,rc⟩ a w w ρ Fs u:=by
 obtain ⟨A,cap,hv⟩:=lenOf_sound h.mem hl (rd_l h hx)
 have e1:c.args= #[x]:=by apply Array.ext';simpa using hargs
 have e2:c.argTypes= #[t]:=by apply Array.ext';simpa using hts
 refine ⟨_,Out.pure h rfl (run_builtin (b:= .len) ho hc fun consts=> ?_) rfl⟩
 rw[e1,e2]
 have hu:=slice_facts T hq
 have:=run_len_slice (P:=P) w t o.type A k cap (by rw[hu];simp[Program.elem,hu])
 simp[builtin,hv,this,goInt]
theorem evMin_sound (h:SRel C S a w ρ Fs) {o:Oper} {c:Call} {x y:Operand} {k:IntKind} {u v:Int} (ho:o.op= .call c) (hc:c.callee= .builtin .min) (hargs:c.args.toList=[x,y]) (hx:St.rd C.N S.sl x= .one (.l (.i k u))) (hy:St.rd C.N S.sl y= .one (.l (.i k v))): ∃r,Out P C S o ⟨.l (.i k (if v<u then v else u)),[],n,[],[]⟩ a w w ρ Fs r:=by
 have hu:a.eval x= .int k u:=rd_l h hx
 have hv:a.eval y= .int k v:=rd_l h hy
 have e1:c.args= #[x,y]:=by apply Array.ext';simpa using hargs
 refine ⟨_,Out.pure h rfl (run_builtin (b:= .min) ho hc fun consts=> ?_) rfl⟩
 rw[e1]
 have:=run_min_int2 (P:=P) w c.argTypes o.type k k u v
 simp[builtin,hu,hv,this]
theorem evMax_sound (h:SRel C S a w ρ Fs) {o:Oper} {c:Call} {x y:Operand} {k:IntKind} {u v:Int} (ho:o.op= .call c) (hc:c.callee= .builtin .max) (hargs:c.args.toList=[x,y]) (hx:St.rd C.N S.sl x= .one (.l (.i k u))) (hy:St.rd C.N S.sl y= .one (.l (.i k v))): ∃r,Out P C S o ⟨.l (.i k (if v>u then v else u)),[],n,[],[]⟩ a w w ρ Fs r:=by
 have hu:a.eval x= .int k u:=rd_l h hx
 have hv:a.eval y= .int k v:=rd_l h hy
 have e1:c.args= #[x,y]:=by apply Array.ext';simpa using hargs
 refine ⟨_,Out.pure h rfl (run_builtin (b:= .max) ho hc fun consts=> ?_) rfl⟩
 rw[e1]
 have:=run_max_int2 (P:=P) w c.argTypes o.type k k u v
 simp[builtin,hu,hv,this]
theorem A1sRel.get {E:Env}: ∀ {xs:List A1} {vs:List Value},A1sRel E xs vs-> ∀ {j:Nat} {x:A1},xs[j]? =some x-> ∃v,vs[j]? =some v/\A1Rel E x v
 |x::xs,v::vs,h,0,y,hy=>by simp at hy;subst hy;exact ⟨v,rfl,h.1⟩
 |x::xs,v::vs,h,j+1,y,hy=>by simpa using A1sRel.get h.2 (j:=j) (by simpa using hy)
def isFn:Op->Bool
 | .call c=>(match c.callee with| .builtin _=>false|_=>true)
 |_=>false
theorem map2 {α β:Type} {f:α->β} {l:List α} {x y:β} (h:l.map f=[x,y]): ∃u v,l=[u,v]/\f u=x/\f v=y:=by
 cases l with
 |nil=>cases h
 |cons u l=>cases l with
  |nil=>simp at h
  |cons v l=>cases l with
   |nil=>simp at h;exact ⟨u,v,rfl,h.1,h.2⟩
   |cons _ _=>simp at h
theorem map1 {α β:Type} {f:α->β} {l:List α} {x:β} (h:l.map f=[x]): ∃u,l=[u]/\f u=x:=by
 cases l with
 |nil=>cases h
 |cons u l=>cases l with
  |nil=>simp at h;exact ⟨u,rfl,h⟩
  |cons _ _=>simp at h
theorem evBuiltin_sound {G:Glob Eff} (T:TOK P G.tt) (h:SRel C S a w ρ Fs) {o:Oper} {c:Call} {b:Builtin} (ho:o.op= .call c) (hc:c.callee= .builtin b) {E:Eff} (he:evBuiltin G S.hp n b c.argTypes.toList (c.args.toList.map (St.rd C.N S.sl)) some=some E) (hg: ∀k,n<=k->k<E.nx->S.hp k=some .ghost): ∃w' ρ' Fs' u,Out P C S o E a w w' ρ' Fs' u:=by
 generalize hxs:c.args.toList.map (St.rd C.N S.sl)=xs at he
 generalize hts:c.argTypes.toList=ts at he
 unfold evBuiltin at he
 split at he
 ·rename_i s t
  obtain ⟨x,e1,e2⟩:=map1 hxs
  split at he
  ·rename_i sz bs hq
   cases he
   exact ⟨_,_,_,evLen_str T h ho hc e1 hts e2 hq⟩
  ·cases he
 ·rename_i y t hn
  obtain ⟨x,e1,e2⟩:=map1 hxs
  split at he
  ·rename_i k rl rc e' hq hl
   cases he
   exact ⟨_,_,_,evLen_sl T h ho hc e1 hts e2 hq hl⟩
  ·cases he
 ·rename_i s x t tx
  obtain ⟨u,v,e1,e2,e3⟩:=map2 hxs
  subst e2 e3
  exact evAppend_sound T h ho hc e1 hts he hg
 ·rename_i d s t tx
  obtain ⟨u,v,e1,e2,e3⟩:=map2 hxs
  subst e2 e3
  exact evCopy_sound T h ho hc e1 hts he
 ·rename_i k x k' y
  obtain ⟨u,v,e1,e2,e3⟩:=map2 hxs
  replace he:=bif_some he
  obtain ⟨hk,he⟩:=he
  have:=of_decide_eq_true hk
  subst this
  cases he
  exact ⟨_,_,_,evMin_sound h ho hc e1 e2 e3⟩
 ·rename_i k x k' y
  obtain ⟨u,v,e1,e2,e3⟩:=map2 hxs
  replace he:=bif_some he
  obtain ⟨hk,he⟩:=he
  have:=of_decide_eq_true hk
  subst this
  cases he
  exact ⟨_,_,_,evMax_sound h ho hc e1 e2 e3⟩
 ·cases he
theorem chk_bind {R:Type} (p:Bool) (v:LV) (K:LV->Option R):chk p (K v)=(chk p (some v)).bind K:=by cases p<;>rfl
theorem binOp_bind {R:Type} (op:BinOp) (x y:LV) (K:LV->Option R):binOp op x y K=(binOp op x y some).bind K:=by
 unfold binOp
 split
 ·exact chk_bind _ _ _
 ·exact chk_bind _ _ _
 ·rename_i k a k' b _ _
  cases decide (k=k') with
  |false=>rfl
  |true=>
   simp only[cond_true]
   split<;>first|rfl|exact chk_bind _ _ _
 all_goals first|rfl|exact chk_bind _ _ _
theorem unOp_bind {R:Type} (op:UnOp) (x:LV) (K:LV->Option R):unOp op x K=(unOp op x some).bind K:=by
 unfold unOp
 split<;>rfl
theorem ret1_some {m:Nat} {v:AV} {E:Eff} (h:ret1 m v some=some E):E=⟨v,[],m,[],[]⟩:=by cases h;rfl
theorem evOp_sound {G:Glob Eff} (T:TOK P G.tt) (hN:G.nt=C.N) (h:SRel C S a w ρ Fs) {o:Oper} (hf:isFn o.op=false) {E:Eff} (he:evOp G o.op S.sl S.hp n some=some E) (hg: ∀k,n<=k->k<E.nx->S.hp k=some .ghost): ∃w' ρ' Fs' u,Out P C S o E a w w' ρ' Fs' u:=by
 have one:(∃u,Out P C S o E a w w ρ Fs u)-> ∃w' ρ' Fs' u,Out P C S o E a w w' ρ' Fs' u:=fun ⟨u,hu⟩=>⟨_,_,_,u,hu⟩
 have gn:E.nx=n+1->S.hp n=some .ghost:=fun hh=>hg n (Nat.le_refl _) (by omega)
 cases ho:o.op with
 |move x=>
  rw[ho] at he
  simp only[evOp,hN] at he
  cases ret1_some he
  exact one ⟨_,Out.pure h rfl (run_move (.inl ho) w) (h.rd x)⟩
 |assign x=>
  rw[ho] at he
  simp only[evOp,hN] at he
  cases ret1_some he
  exact one ⟨_,Out.pure h rfl (run_move (.inr ho) w) (h.rd x)⟩
 |pick c x y=>
  rw[ho] at he
  simp only[evOp,hN] at he
  split at he
  ·rename_i b hc
   have hv:a.eval c= .bool b:=rd_l h hc
   cases b with
   |true=>cases ret1_some he;exact one ⟨_,Out.pure h rfl (run_pick ho hv w) (h.rd x)⟩
   |false=>cases ret1_some he;exact one ⟨_,Out.pure h rfl (run_pick ho hv w) (h.rd y)⟩
  ·cases he
 |alloc t=>
  rw[ho] at he
  simp only[evOp,hN] at he
  exact evAlloc_sound T h ho he (gn (evAlloc_nx he))
 |box t x=>
  rw[ho] at he
  simp only[evOp,hN] at he
  exact evBox_sound T h ho he (gn (evBox_nx he))
 |build t ps=>
  rw[ho] at he
  simp only[evOp,hN] at he
  exact one (evBuild_sound T h ho he)
 |buildSlice t len ps=>
  rw[ho] at he
  simp only[evOp,hN] at he
  exact evBuildSlice_sound T h ho he (gn (evBuildSlice_nx he))
 |load t p=>
  rw[ho] at he
  simp only[evOp,hN] at he
  exact one (evLoad_sound T h ho he)
 |store t p x=>
  rw[ho] at he
  simp only[evOp,hN] at he
  exact evStore_sound T h ho he
 |nilCheck x=>
  rw[ho] at he
  simp only[evOp,hN] at he
  split at he
  ·rename_i id k hx
   have hr:=rd_l h hx
   obtain ⟨hlt,hre,b,cap,hρ,hv⟩:=hr
   cases ret1_some he
   exact one ⟨_,Out.pure h rfl (run_nilCheck ho hv w) (by have:=h.rd x;rw[hx,hv] at this;exact this)⟩
  ·cases he
 |binOp op t x y u=>
  rw[ho] at he
  simp only[evOp,hN] at he
  split at he
  ·rename_i x' y' hx hy
   replace he:=bif_some he
   obtain ⟨hck,he⟩:=he
   obtain ⟨h1,h2⟩:=and_bool hck
   rw[binOp_bind] at he
   obtain ⟨z,hz,he⟩:=Option.bind_eq_some_iff.1 he
   cases ret1_some he
   obtain ⟨r,r1,r2⟩:=binOp_sound (P:=P) T hz t x y h1 (C.env w ρ S.hp S.nx Fs) (a.eval x) (a.eval y) (rd_l h hx) (rd_l h hy) (fun hh=>by
    subst hh
    cases y with
    |const c=>exact ⟨c,rfl⟩
    |_=>cases h2) w
   exact one ⟨r,Out.pure h rfl (run_binOp ho r2) r1⟩
  ·cases he
 |unOp op t x=>
  rw[ho] at he
  simp only[evOp,hN] at he
  split at he
  ·rename_i x' hx
   rw[unOp_bind] at he
   obtain ⟨z,hz,he⟩:=Option.bind_eq_some_iff.1 he
   cases ret1_some he
   obtain ⟨r,r1,r2⟩:=unOp_sound (P:=P) hz (C.env w ρ S.hp S.nx Fs) (a.eval x) (rd_l h hx) w
   exact one ⟨r,Out.pure h rfl (run_unOp ho r2) r1⟩
  ·cases he
 |convert s d x=>
  rw[ho] at he
  simp only[evOp,hN] at he
  exact one (evConvert_sound T h ho he)
 |makeSlice t l c=>
  rw[ho] at he
  simp only[evOp,hN] at he
  exact evMakeSlice_sound T h ho he (gn (evMakeSlice_nx he))
 |slice t x lo hi mx=>
  rw[ho] at he
  simp only[evOp,hN] at he
  cases mx with
  |none=>exact one (evSlice_sound T h ho he)
  |some m=>cases he
 |fieldAddr t x f=>
  rw[ho] at he
  simp only[evOp,hN] at he
  exact one (evFieldAddr_sound T h ho he)
 |indexAddr t x i=>
  rw[ho] at he
  simp only[evOp,hN] at he
  exact one (evIndexAddr_sound T h ho he)
 |index t x i=>
  rw[ho] at he
  simp only[evOp,hN] at he
  exact one (evIndex_sound T h ho he)
 |extract x j=>
  rw[ho] at he
  simp only[evOp,hN] at he
  split at he
  ·rename_i xs hx
   split at he
   ·rename_i y hy
    cases ret1_some he
    have hr:=h.rd x
    rw[hx] at hr
    obtain ⟨vs,hv,hrel⟩:=hr
    obtain ⟨v,k1,k2⟩:=hrel.get hy
    exact one ⟨v,Out.pure h rfl (run_extract ho hv (by simpa using k1) w) k2⟩
   ·cases he
  ·cases he
 |call c=>
  rw[ho] at he hf
  simp only[evOp,hN] at he
  simp only[isFn] at hf
  split at he
  ·rename_i b hc
   exact evBuiltin_sound T h ho hc he hg
  ·rename_i f hc;rw[hc] at hf;cases hf
  ·cases he
 |_=>rw[ho] at he;cases he
end
end Go.Proofs.YtbmmhdmljajcfaaGreatDoor.V
namespace Go.Proofs.YtbmmhdmljajcfaaGreatDoor.V
open Go
section
variable {R:Type} {tt:TT} {hp:Nat->Option Root} {n:Nat} (K:Eff->Option R)
theorem cond_bind {A B:Type} (p:Bool) (x:Option A) (F:A->Option B):(bif p then x else none).bind F=bif p then x.bind F else none:=by cases p<;>rfl
theorem cond_bind' {A B:Type} (p:Bool) (x:Option A) (F:A->Option B):(bif p then none else x).bind F=bif p then none else x.bind F:=by cases p<;>rfl
theorem chk_bind' {A B:Type} (p:Bool) (x:Option A) (F:A->Option B):(chk p x).bind F=chk p (x.bind F):=by cases p<;>rfl
theorem asI_bind {A B:Type} (x:AV) (G:Int->Option A) (F:A->Option B):(asI x G).bind F=asI x fun i=>(G i).bind F:=by
 unfold asI;split<;>rfl
theorem optI_bind {A B:Type} (x:Option AV) (d:Int) (G:Int->Option A) (F:A->Option B):(optI x d G).bind F=optI x d fun i=>(G i).bind F:=by
 unfold optI;split
 ·rfl
 ·exact asI_bind _ _ _
theorem ret1_bind (v:AV):(ret1 n v some).bind K=ret1 n v K:=rfl
theorem evAlloc_bind (t:Nat):evAlloc tt n t K=(evAlloc tt n t some).bind K:=by
 unfold evAlloc
 repeat' (first|rfl|split| (simp only[cond_bind,cond_bind',chk_bind',asI_bind,optI_bind,ret1_bind,Option.bind_some];done)|simp only[cond_bind,cond_bind',chk_bind',asI_bind,optI_bind,ret1_bind,Option.bind_some])
theorem evBox_bind (t:Nat) (x:AV):evBox tt hp n t x K=(evBox tt hp n t x some).bind K:=by
 unfold evBox
 repeat' (first|rfl|split| (simp only[cond_bind,cond_bind',chk_bind',asI_bind,optI_bind,ret1_bind,Option.bind_some];done)|simp only[cond_bind,cond_bind',chk_bind',asI_bind,optI_bind,ret1_bind,Option.bind_some])
theorem evBuild_bind (t:Nat) (ps:List (Nat×AV)):evBuild tt hp n t ps K=(evBuild tt hp n t ps some).bind K:=by
 unfold evBuild
 repeat' (first|rfl|split| (simp only[cond_bind,cond_bind',chk_bind',asI_bind,optI_bind,ret1_bind,Option.bind_some];done)|simp only[cond_bind,cond_bind',chk_bind',asI_bind,optI_bind,ret1_bind,Option.bind_some])
theorem evBuildSlice_bind (t len:Nat) (ps:List (Nat×AV)):evBuildSlice tt hp n t len ps K=(evBuildSlice tt hp n t len ps some).bind K:=by
 unfold evBuildSlice
 split
 ·split
  ·simp only[cond_bind]
   congr 1
   split<;>rfl
  ·rfl
 ·rfl
theorem evLoad_bind (t:Nat) (p:AV):evLoad tt hp n t p K=(evLoad tt hp n t p some).bind K:=by
 unfold evLoad
 split
 ·split
  ·cases isStruct tt t
   ·simp only[cond_false,cond_bind]
    congr 1
    split<;>rfl
   ·simp only[cond_true,cond_bind];rfl
  ·rfl
 ·split
  ·simp only[cond_bind];rfl
  ·rfl
 ·simp only[cond_bind];rfl
 ·split
  ·simp only[cond_bind];rfl
  ·rfl
 ·rfl
theorem evIndexAddr_bind (t:Nat) (x ix:AV):evIndexAddr tt hp n t x ix K=(evIndexAddr tt hp n t x ix some).bind K:=by
 unfold evIndexAddr
 rw[asI_bind]
 congr 1
 funext i
 split
 ·split
  ·simp only[cond_bind,chk_bind'];rfl
  ·rfl
 ·split
  ·simp only[cond_bind,chk_bind'];rfl
  ·rfl
 ·simp only[cond_bind,chk_bind'];rfl
 ·split
  ·simp only[cond_bind,chk_bind'];rfl
  ·rfl
 ·split
  ·simp only[cond_bind,chk_bind'];rfl
  ·rfl
 ·rfl
theorem evFieldAddr_bind (t:Nat) (x:AV) (f:Nat):evFieldAddr tt hp n t x f K=(evFieldAddr tt hp n t x f some).bind K:=by
 unfold evFieldAddr
 repeat' (first|rfl|split)
theorem evIndex_bind (t:Nat) (x ix:AV):evIndex tt n t x ix K=(evIndex tt n t x ix some).bind K:=by
 unfold evIndex
 split
 ·split
  ·simp only[asI_bind,chk_bind'];rfl
  ·rfl
 ·rfl
theorem evConvert_bind (s d:Nat) (x:AV):evConvert tt hp n s d x K=(evConvert tt hp n s d x some).bind K:=by
 unfold evConvert
 simp only[cond_bind]
 congr 1
 split
 ·split<;>rfl
 ·split<;>rfl
 ·split
  ·split<;>rfl
  ·rfl
 ·rfl
theorem evMakeSlice_bind (t:Nat) (l c:Operand) (x:AV):evMakeSlice tt n t l c x K=(evMakeSlice tt n t l c x some).bind K:=by
 unfold evMakeSlice
 simp only[cond_bind]
 congr 1
 split
 ·split
  ·simp only[asI_bind,chk_bind'];rfl
  ·rfl
 ·rfl
theorem appFin_bind (e:Nat) (r0 base y:Row) (ks:List Nat) (up:List (Nat×Option Root)) (rc:List Nat):appFin tt e r0 base y ks up n rc K=(appFin tt e r0 base y ks up n rc some).bind K:=by
 unfold appFin
 split
 ·simp only[cond_bind,chk_bind'];rfl
 ·rfl
theorem evAppend_bind (t tx:Nat) (s x:AV):evAppend tt hp n t tx s x K=(evAppend tt hp n t tx s x some).bind K:=by
 unfold evAppend
 split
 ·split
  ·split
   ·simp only[cond_bind]
    congr 1
    split
    ·exact appFin_bind K ..
    ·split
     ·simp only[cond_bind'];congr 1;exact appFin_bind K ..
     ·rfl
    ·split
     ·simp only[cond_bind',cond_bind];congr 2;exact appFin_bind K ..
     ·rfl
    ·split
     ·simp only[cond_bind',cond_bind];congr 2;exact appFin_bind K ..
     ·rfl
    ·rfl
   ·rfl
  ·rfl
 ·rfl
theorem evCopy_bind (t:Nat) (d s:AV):evCopy tt hp n t d s K=(evCopy tt hp n t d s some).bind K:=by
 unfold evCopy
 simp only[cond_bind]
 congr 1
 split
 ·split
  ·simp only[cond_bind];rfl
  ·simp only[cond_bind,chk_bind'];rfl
  ·rfl
 ·rfl
theorem evSlice_bind (t:Nat) (x:AV) (lo hi:Option AV):evSlice tt hp n t x lo hi K=(evSlice tt hp n t x lo hi some).bind K:=by
 unfold evSlice
 split
 ·split
  ·simp only[optI_bind,chk_bind'];rfl
  ·rfl
 ·split
  ·simp only[cond_bind]
   congr 1
   split
   ·rfl
   ·simp only[optI_bind,chk_bind'];rfl
  ·rfl
 ·simp only[cond_bind]
  congr 1
  split
  ·rfl
  ·simp only[asI_bind,chk_bind'];rfl
  ·simp only[asI_bind,chk_bind'];rfl
  ·simp only[asI_bind,chk_bind'];rfl
 ·rfl
theorem evStore_bind (t:Nat) (p x:AV):evStore tt hp n t p x K=(evStore tt hp n t p x some).bind K:=by
 unfold evStore
 split
 ·split
  ·simp only[cond_bind];rfl
  ·rfl
 ·split
  ·split
   ·simp only[cond_bind]
    congr 1
    split
    ·simp only[cond_bind'];rfl
    ·rfl
   ·simp only[cond_bind,chk_bind']
    congr 2
    split
    ·split
     ·simp only[cond_bind'];rfl
     ·rfl
    ·rfl
   ·rfl
  ·rfl
 ·split
  ·split
   ·simp only[cond_bind]
    congr 1
    split<;>rfl
   ·rfl
  ·rfl
 ·split
  ·simp only[cond_bind]
   congr 1
   split<;>rfl
  ·rfl
 ·rfl
def Glob.eff {R:Type} (G:Glob R):Glob Eff:=⟨G.tt,fun _ _ _=>none,G.sig,G.nt⟩
theorem evBuiltin_bind (G:Glob R) (b:Builtin) (ts:List Nat) (xs:List AV):evBuiltin G hp n b ts xs K=(evBuiltin G.eff hp n b ts xs some).bind K:=by
 unfold evBuiltin
 split
 ·simp only[Glob.eff];split<;>rfl
 ·simp only[Glob.eff];split<;>rfl
 ·exact evAppend_bind K ..
 ·exact evCopy_bind K ..
 ·simp only[cond_bind];rfl
 ·simp only[cond_bind];rfl
 ·rfl
theorem evOp_bind (G:Glob R) (o:Op) (sl:Nat->AV) (hf:isFn o=false):evOp G o sl hp n K=(evOp G.eff o sl hp n some).bind K:=by
 cases o with
 |move x=>rfl
 |assign x=>rfl
 |pick c x y=>
  simp only[evOp,Glob.eff]
  split
  ·split<;>rfl
  ·rfl
 |alloc t=>exact evAlloc_bind K t
 |box t x=>exact evBox_bind K t _
 |build t ps=>exact evBuild_bind K t _
 |buildSlice t len ps=>exact evBuildSlice_bind K t len _
 |load t p=>exact evLoad_bind K t _
 |store t p x=>exact evStore_bind K t _ _
 |nilCheck x=>simp only[evOp,Glob.eff];split<;>rfl
 |binOp op t x y u=>
  simp only[evOp,Glob.eff]
  split
  ·simp only[cond_bind]
   congr 1
   rw[binOp_bind,binOp_bind (R:=Eff)]
   cases binOp op _ _ some<;>rfl
  ·rfl
 |unOp op t x=>
  simp only[evOp,Glob.eff]
  split
  ·rw[unOp_bind,unOp_bind (R:=Eff)]
   cases unOp op _ some<;>rfl
  ·rfl
 |convert s d x=>exact evConvert_bind K s d _
 |makeSlice t l c=>exact evMakeSlice_bind K t l c _
 |slice t x lo hi mx=>
  cases mx with
  |none=>exact evSlice_bind K t _ _ _
  |some m=>rfl
 |fieldAddr t x f=>exact evFieldAddr_bind K t _ f
 |indexAddr t x i=>exact evIndexAddr_bind K t _ _
 |index t x i=>exact evIndex_bind K t _ _
 |extract x j=>
  simp only[evOp,Glob.eff]
  split
  ·split<;>rfl
  ·rfl
 |call c=>
  simp only[evOp,Glob.eff]
  simp only[isFn] at hf
  split
  ·exact evBuiltin_bind K ..
  ·rename_i f hc;rw[hc] at hf;cases hf
  ·rfl
 |_=>rfl
theorem rowAt_sub {hp':Nat->Option Root} (hs:Sub hp hp') {id:Nat} {r:Row} (h:rowAt? hp id=some r):rowAt? hp' id=some r:=by
 unfold rowAt? at h ⊢
 split at h
 ·rename_i hq;rw[hs _ _ hq];exact h
 ·rename_i hq;rw[hs _ _ hq];exact h
 ·cases h
theorem viewRow_sub {hp':Nat->Option Root} (hs:Sub hp hp') {x:LV} {r:Row×List Nat} (h:viewRow hp x=some r):viewRow hp' x=some r:=by
 cases x with
 |val p r=>exact h
 |own id=>
  simp only[viewRow] at h ⊢
  split at h
  ·rename_i hq;rw[hs _ _ hq];exact h
  ·cases h
 |sub id lo hi=>
  simp only[viewRow] at h ⊢
  split at h
  ·rename_i hq;rw[hs _ _ hq];exact h
  ·cases h
 |inner id ver i f=>
  simp only[viewRow] at h ⊢
  split at h
  ·rename_i hq;rw[hs _ _ hq];exact h
  ·rename_i hq;rw[hs _ _ hq];exact h
  ·cases h
 |_=>cases h
theorem lenOf_sub {hp':Nat->Option Root} (hs:Sub hp hp') {x:LV} {r:Nat×List Nat×List Nat} (h:lenOf hp x=some r):lenOf hp' x=some r:=by
 cases x with
 |val p r=>exact h
 |nil=>exact h
 |own id=>
  simp only[lenOf] at h ⊢
  split at h
  ·rename_i hq;rw[rowAt_sub hs hq];exact h
  ·cases h
 |sub id lo hi=>
  simp only[lenOf] at h ⊢
  split at h
  ·rename_i hq;rw[rowAt_sub hs hq];exact h
  ·cases h
 |inner id ver i f=>
  simp only[lenOf] at h ⊢
  split at h
  ·rename_i hq;rw[hs _ _ hq];exact h
  ·rename_i hq;rw[hs _ _ hq];exact h
  ·cases h
 |_=>cases h
theorem storable_sub {hp':Nat->Option Root} (hs:Sub hp hp') {x:LV} (h:storable hp x=true):storable hp' x=true:=by
 have row: ∀id,(rowAt? hp id).isSome=true->(rowAt? hp' id).isSome=true:=fun id hh=>by
  obtain ⟨r,hr⟩:=Option.isSome_iff_exists.1 hh
  rw[rowAt_sub hs hr];rfl
 cases x with
 |own id=>exact row id h
 |sub id lo hi=>exact row id h
 |eptr id i f=>exact row id h
 |arr id n=>exact row id h
 |inner id ver i f=>
  simp only[storable] at h ⊢
  split at h
  ·rename_i hq;rw[hs _ _ hq];exact h
  ·cases h
 |iptr id ver i f j=>
  simp only[storable] at h ⊢
  split at h
  ·rename_i hq;rw[hs _ _ hq];exact h
  ·cases h
 |_=>exact h
theorem aggCells_sub {hp':Nat->Option Root} (hs:Sub hp hp') {x:AV} {xs:List LV} (h:aggCells hp x=some xs):aggCells hp' x=some xs:=by
 unfold aggCells at h ⊢
 split
 ·obtain ⟨h1,h2⟩:=bif_some h
  rw[storable_sub hs h1];exact h2
 ·obtain ⟨h1,h2⟩:=bif_some h
  have:List.all _ (storable hp')=true:=List.all_eq_true.2 fun y hy=>storable_sub hs (List.all_eq_true.1 h1 y hy)
  rw[this];exact h2
 ·exact h
theorem kill_sub {hp':Nat->Option Root} (hs:Sub hp hp') (ks:List Nat):Sub (kill hp ks) (kill hp' ks):=fun j r h=>by
 obtain ⟨h1,h2⟩:=kill_some h
 rw[kill_at,if_neg h1];exact hs j r h2
theorem elemSl_sub {hp':Nat->Option Root} (hs:Sub hp hp') {x:LV} {r:Bool×List Int×List Nat} (h:elemSl hp x=some r):elemSl hp' x=some r:=by
 unfold elemSl at h ⊢
 split at h
 ·exact h
 ·exact h
 ·split at h
  ·rename_i hq;simp only[hs _ _ hq];exact h
  ·cases h
 ·split at h
  ·rename_i hq;simp only[hs _ _ hq];exact h
  ·cases h
 ·cases h
end
end Go.Proofs.YtbmmhdmljajcfaaGreatDoor.V
namespace Go.Proofs.YtbmmhdmljajcfaaGreatDoor.V
open Go
section
variable {tt:TT} {hp hp':Nat->Option Root} {n:Nat}
theorem elemRec_sub: ∀(sg:List Bool) (xs:List LV) {hp hp':Nat->Option Root} (hs:Sub hp hp') {r:Bool×List Leaf×List Nat},elemRec hp sg xs=some r->elemRec hp' sg xs=some r
 | [],[],_,_,_,_,h=>h
 | [],_::_,_,_,_,_,h=>by simp[elemRec] at h
 |false::sg,[],_,_,_,_,h=>by simp[elemRec] at h
 |true::sg,[],_,_,_,_,h=>by simp[elemRec] at h
 |false::sg,x::xs,hp,hp',hs,r,h=>by
  cases x with
  |i k z=>
   cases k with
   |i64=>
    simp only[elemRec] at h ⊢
    split at h
    ·rename_i hq;rw[elemRec_sub sg xs hs hq];exact h
    ·cases h
   |_=>simp[elemRec] at h
  |_=>simp[elemRec] at h
 |true::sg,x::xs,hp,hp',hs,r,h=>by
  simp only[elemRec] at h ⊢
  split at h
  ·rename_i hq
   rw[elemSl_sub hs hq]
   split at h
   ·rename_i hq2;simp only[elemRec_sub sg xs (kill_sub hs _) hq2];exact h
   ·cases h
  ·cases h
theorem rowOf_sub: ∀(xs:List AV) {hp hp':Nat->Option Root} (hs:Sub hp hp') (r0:Row) {r:Row×List Nat},rowOf hp r0 xs=some r->rowOf hp' r0 xs=some r
 | [],_,_,_,r0,_,h=>by cases r0<;>simpa[rowOf] using h
 |x::xs,hp,hp',hs,r0,r,h=>by
  unfold rowOf at h ⊢
  split at h
  ·rename_i heq;cases heq
  ·rename_i k _ k' z xs' heq
   cases heq
   by_cases hk:k=k'
   ·subst hk
    simp only[decide_true,cond_true] at h ⊢
    split at h
    ·rename_i hq;rw[rowOf_sub xs hs _ hq];exact h
    ·cases h
   ·simp[hk] at h
  ·rename_i heq
   cases heq
   split at h
   ·rename_i hq;rw[rowOf_sub xs hs _ hq];exact h
   ·cases h
  ·rename_i heq
   cases heq
   split at h
   ·rename_i hq;rw[rowOf_sub xs hs _ hq];exact h
   ·cases h
  ·rename_i heq
   cases heq
   split at h
   ·rename_i hq
    rw[elemSl_sub hs hq]
    split at h
    ·rename_i hq2;simp only[rowOf_sub xs (kill_sub hs _) _ hq2];exact h
    ·cases h
   ·cases h
  ·rename_i heq
   cases heq
   split at h
   ·rename_i hq
    rw[elemRec_sub _ _ hs hq]
    split at h
    ·rename_i hq2;simp only[rowOf_sub xs (kill_sub hs _) _ hq2];exact h
    ·cases h
   ·cases h
  ·cases h
theorem fillParts_sub (hs:Sub hp hp') (fs:List (Nat×Nat)): ∀(ps:List (Nat×AV)) (zero:List LV) {xs:List LV},fillParts tt hp fs zero ps=some xs->fillParts tt hp' fs zero ps=some xs
 | [],zero,xs,h=>h
 | (i,x)::ps,zero,xs,h=>by
   simp only[fillParts] at h ⊢
   split at h
   ·rename_i h1 h2
    simp only[h1,aggCells_sub hs h2]
    split at h
    ·rename_i h3
     try simp only[h3]
     obtain ⟨h4,h5⟩:=bif_some h
     rw[h4]
     exact fillParts_sub hs fs ps _ h5
    ·cases h
   ·cases h
theorem storeOwn_sub (hs:Sub hp hp') (ag:Bool) (i f:Nat) (x:AV) (r:Row) {y:Row×List Nat×Bool} (h:storeOwn hp ag i f x r=some y):storeOwn hp' ag i f x r=some y:=by
 cases r with
 |ints k l=>exact h
 |bools l=>exact h
 |strs l=>exact h
 |rows o l=>
  simp only[storeOwn] at h ⊢
  split at h
  ·split at h
   ·rename_i hq;simp only[elemSl_sub hs hq];exact h
   ·cases h
  ·cases h
 |recs sg o l=>
  simp only[storeOwn] at h ⊢
  split at h
  ·obtain ⟨h1,h2⟩:=bif_some h
   subst h1
   simp only[cond_true]
   split at h2
   ·rename_i hq;rw[elemRec_sub _ _ hs hq];exact h2
   ·cases h2
  ·exact h
  ·cases h
theorem added_sub (hs:Sub hp hp') {r0:Row} {x:LV} {y:Row×List Nat×List Nat} (h:added hp r0 x=some y):added hp' r0 x=some y:=by
 obtain ⟨y,ks,rc⟩:=y
 refine added_congr h fun j hj=> ?_
 obtain ⟨e,v,r,hl⟩:=added_live h j hj
 rw[hl,hs _ _ hl]
theorem evBox_sub (hs:Sub hp hp') {t:Nat} {x:AV} {E:Eff} (h:evBox tt hp n t x some=some E):evBox tt hp' n t x some=some E:=by
 unfold evBox at h ⊢
 split at h
 ·cases h
 ·rename_i hn hq
  split at h
  ·rename_i h1
   rw[aggCells_sub hs h1]
   first
    |exact h
    | (split<;>simp_all)
  ·cases h
 ·cases h
theorem evBuild_sub (hs:Sub hp hp') {t:Nat} {ps:List (Nat×AV)} {E:Eff} (h:evBuild tt hp n t ps some=some E):evBuild tt hp' n t ps some=some E:=by
 unfold evBuild at h ⊢
 split at h
 ·rename_i hq
  try simp only[hq]
  split at h
  ·rename_i h1;rw[fillParts_sub hs _ _ _ h1];exact h
  ·cases h
 ·rename_i hq
  try simp only[hq]
  exact h
 ·cases h
theorem evBuildSlice_sub (hs:Sub hp hp') {t len:Nat} {ps:List (Nat×AV)} {E:Eff} (h:evBuildSlice tt hp n t len ps some=some E):evBuildSlice tt hp' n t len ps some=some E:=by
 unfold evBuildSlice at h ⊢
 split at h
 ·rename_i hq
  try simp only[hq]
  split at h
  ·rename_i h1 h2
   try simp only[h1,h2]
   obtain ⟨h3,h4⟩:=bif_some h
   rw[h3]
   simp only[cond_true]
   split at h4
   ·rename_i h5;rw[rowOf_sub _ hs _ h5];exact h4
   ·cases h4
  ·cases h
 ·cases h
theorem evLoad_sub (hs:Sub hp hp') {t:Nat} {p:AV} {E:Eff} (h:evLoad tt hp n t p some=some E):evLoad tt hp' n t p some=some E:=by
 unfold evLoad at h ⊢
 split at h
 ·split at h
  ·rename_i h1;simp only[hs _ _ h1];exact h
  ·cases h
 ·split at h
  ·rename_i h1;simp only[hs _ _ h1];exact h
  ·cases h
 ·exact h
 ·split at h
  ·rename_i h1;simp only[hs _ _ h1];exact h
  ·cases h
 ·cases h
theorem evStore_sub (hs:Sub hp hp') {t:Nat} {p x:AV} {E:Eff} (h:evStore tt hp n t p x some=some E):evStore tt hp' n t p x some=some E:=by
 unfold evStore at h ⊢
 split at h
 ·split at h
  ·rename_i h1 h2;simp only[hs _ _ h1,aggCells_sub hs h2];exact h
  ·cases h
 ·split at h
  ·rename_i hq
   try simp only[hq]
   split at h
   ·rename_i h1
    simp only[hs _ _ h1]
    obtain ⟨h2,h3⟩:=bif_some h
    rw[h2]
    simp only[cond_true]
    split at h3
    ·rename_i h4;simp only[storeOwn_sub hs _ _ _ _ _ h4];exact h3
    ·cases h3
   ·rename_i h1
    simp only[hs _ _ h1]
    obtain ⟨h2,h3⟩:=bif_some h
    rw[h2]
    simp only[cond_true]
    obtain ⟨h4,h5⟩:=chk_some h3
    rw[h4]
    simp only[chk,cond_true]
    split at h5
    ·split at h5
     ·rename_i h6;simp only[elemSl_sub hs h6];exact h5
     ·cases h5
    ·cases h5
   ·cases h
  ·cases h
 ·split at h
  ·rename_i hq
   try simp only[hq]
   split at h
   ·rename_i h1 h3
    simp only[hs _ _ h1,h3]
    exact h
   ·cases h
  ·cases h
 ·split at h
  ·rename_i h1
   simp only[hs _ _ h1]
   exact h
  ·cases h
 ·cases h
theorem asI_of {x:AV} {F F':Int->Option Eff} {E:Eff} (h:asI x F=some E) (hh: ∀i,F i=some E->F' i=some E):asI x F' =some E:=by
 obtain ⟨k,i,rfl,h⟩:=asI_some h
 exact hh i h
theorem evIndexAddr_sub (hs:Sub hp hp') {t:Nat} {x ix:AV} {E:Eff} (h:evIndexAddr tt hp n t x ix some=some E):evIndexAddr tt hp' n t x ix some=some E:=by
 unfold evIndexAddr at h ⊢
 refine asI_of h fun i h=> ?_
 split at h
 ·split at h
  ·rename_i h1;simp only[rowAt_sub hs h1];exact h
  ·cases h
 ·split at h
  ·rename_i h1;simp only[rowAt_sub hs h1];exact h
  ·cases h
 ·exact h
 ·split at h
  ·rename_i h1;simp only[lenOf_sub hs h1];exact h
  ·cases h
 ·split at h
  ·rename_i h1 h2;simp only[h1,rowAt_sub hs h2];exact h
  ·cases h
 ·cases h
theorem evFieldAddr_sub (hs:Sub hp hp') {t f:Nat} {x:AV} {E:Eff} (h:evFieldAddr tt hp n t x f some=some E):evFieldAddr tt hp' n t x f some=some E:=by
 unfold evFieldAddr at h ⊢
 split at h
 ·rename_i hq
  try simp only[hq]
  split at h
  ·rename_i hq2
   try simp only[hq2]
   split at h
   ·exact h
   ·split at h
    ·rename_i h1;simp only[rowAt_sub hs h1];exact h
    ·cases h
   ·exact h
   ·cases h
  ·cases h
 ·cases h
theorem evSlice_sub (hs:Sub hp hp') {t:Nat} {x:AV} {lo hi:Option AV} {E:Eff} (h:evSlice tt hp n t x lo hi some=some E):evSlice tt hp' n t x lo hi some=some E:=by
 unfold evSlice at h ⊢
 split at h
 ·exact h
 ·split at h
  ·rename_i h1;simp only[rowAt_sub hs h1];exact h
  ·cases h
 ·exact h
 ·cases h
theorem evConvert_sub (hs:Sub hp hp') {s d:Nat} {x:AV} {E:Eff} (h:evConvert tt hp n s d x some=some E):evConvert tt hp' n s d x some=some E:=by
 unfold evConvert at h ⊢
 obtain ⟨h1,h⟩:=bif_some h
 rw[h1]
 simp only[cond_true]
 split at h
 ·exact h
 ·exact h
 ·split at h
  ·rename_i h2 h3
   simp only[h2,viewRow_sub hs h3]
   exact h
  ·cases h
 ·cases h
theorem evAppend_sub (hs:Sub hp hp') {t tx:Nat} {s x:AV} {E:Eff} (h:evAppend tt hp n t tx s x some=some E):evAppend tt hp' n t tx s x some=some E:=by
 unfold evAppend at h ⊢
 split at h
 ·rename_i hq
  try simp only[hq]
  split at h
  ·rename_i hq2
   try simp only[hq2]
   split at h
   ·rename_i h1
    rw[added_sub hs h1]
    simp only[]
    obtain ⟨h2,h3⟩:=bif_some h
    rw[h2]
    simp only[cond_true]
    split at h3
    ·exact h3
    ·split at h3
     ·rename_i h4;simp only[hs _ _ h4];exact h3
     ·cases h3
    ·split at h3
     ·rename_i h4;simp only[hs _ _ h4];exact h3
     ·cases h3
    ·split at h3
     ·rename_i h4;simp only[hs _ _ h4];exact h3
     ·cases h3
    ·cases h3
   ·cases h
  ·cases h
 ·cases h
theorem evCopy_sub (hs:Sub hp hp') {t:Nat} {d s:AV} {E:Eff} (h:evCopy tt hp n t d s some=some E):evCopy tt hp' n t d s some=some E:=by
 unfold evCopy at h ⊢
 obtain ⟨h1,h⟩:=bif_some h
 rw[h1]
 simp only[cond_true]
 split at h
 ·split at h
  ·rename_i h2;simp only[hs _ _ h2];exact h
  ·rename_i h2;simp only[hs _ _ h2];exact h
  ·cases h
 ·cases h
theorem evBuiltin_sub {G:Glob Eff} (hs:Sub hp hp') {b:Builtin} {ts:List Nat} {xs:List AV} {E:Eff} (h:evBuiltin G hp n b ts xs some=some E):evBuiltin G hp' n b ts xs some=some E:=by
 unfold evBuiltin at h ⊢
 split at h
 ·exact h
 ·split at h
  ·rename_i h1 h2;simp only[h1,lenOf_sub hs h2];exact h
  ·cases h
 ·exact evAppend_sub hs h
 ·exact evCopy_sub hs h
 ·exact h
 ·exact h
 ·cases h
theorem evOp_sub {G:Glob Eff} (hs:Sub hp hp') {o:Op} {sl:Nat->AV} (hf:isFn o=false) {E:Eff} (h:evOp G o sl hp n some=some E):evOp G o sl hp' n some=some E:=by
 cases o with
 |move x=>exact h
 |assign x=>exact h
 |pick c x y=>exact h
 |alloc t=>exact h
 |box t x=>exact evBox_sub hs h
 |build t ps=>exact evBuild_sub hs h
 |buildSlice t len ps=>exact evBuildSlice_sub hs h
 |load t p=>exact evLoad_sub hs h
 |store t p x=>exact evStore_sub hs h
 |nilCheck x=>exact h
 |binOp op t x y u=>exact h
 |unOp op t x=>exact h
 |convert s d x=>exact evConvert_sub hs h
 |makeSlice t l c=>exact h
 |slice t x lo hi mx=>
  cases mx with
  |none=>exact evSlice_sub hs h
  |some m=>exact h
 |fieldAddr t x f=>exact evFieldAddr_sub hs h
 |indexAddr t x i=>exact evIndexAddr_sub hs h
 |index t x i=>exact h
 |extract x j=>exact h
 |call c=>
  simp only[evOp] at h ⊢
  simp only[isFn] at hf
  split at h
  ·exact evBuiltin_sub hs h
  ·rename_i f hc;rw[hc] at hf;cases hf
  ·exact h
 |_=>exact h
end
end Go.Proofs.YtbmmhdmljajcfaaGreatDoor.V
