/- The abstract evaluator and its soundness: part VOpP. Conditions: as each section says. -/
import Derived.Test.YtbmmhdmljajcfaaGreatDoorVOpH
import Derived.Laws.CopyRow
import Derived.Deep.Upon
import Derived.Laws.Small
set_option linter.unusedVariables false
set_option linter.unusedSimpArgs false
namespace Go.Proofs.YtbmmhdmljajcfaaGreatDoor.V
open Go
section
variable {P:Program} {tt:TT} {C:Cx} {S:St} {a:Act} {w:World} {ρ:Place} {Fs:Nat->FP} {n:Nat}
theorem vy (env:Operand->Value) (nt:Nat) (sl:Nat->AV): ∀(ps:List (Nat×Operand)) (i:Nat) (xs:List AV),xM i (ps.map fun p=>(p.1,St.rd nt sl p.2))=some xs->xs=ps.map (fun p=>St.rd nt sl p.2)/\(ps.map fun p=>(p.1,env p.2))=((ps.map fun p=>env p.2).zipIdx i).map (fun x=>(x.2,x.1))
 | [],i,xs,h=>by simp only[List.map_nil,xM,Option.some.injEq] at h;subst h;exact ⟨rfl,rfl⟩
 |p::ps,i,xs,h=>by
  simp only[List.map_cons,xM] at h
  obtain ⟨h1,h⟩:=ak h
  have h1:=eq_of_beq h1
  split at h
  ·rename_i ys hq
   simp only[Option.some.injEq] at h
   subst h
   obtain ⟨g1,g2⟩:=vy env nt sl ps (i+1) ys hq
   subst g1
   refine ⟨rfl,?_⟩
   simp only[List.map_cons,List.zipIdx_cons,g2,h1]
  ·cases h
theorem LM (h:bb C S a w ρ Fs): ∀ps:List (Nat×Operand),gD (C.env w ρ S.hp S.nx Fs) (ps.map fun p=>St.rd C.N S.sl p.2) (ps.map fun p=>a.eval p.2)
 | []=>trivial
 |p::ps=>⟨h.rd p.2,LM h ps⟩
theorem ky {e:Nat} {r:Row} (h:di tt e=some r):r.len=0:=by
 unfold di at h
 split at h
 all_goals first
  | (obtain ⟨_,h⟩:=ak h;cases h;rfl)
  | (cases h;rfl)
  |cases h
theorem AE (w:World) (t e:TypeId) (len:Nat) (parts:Array (Nat×Value)) (vs:List Value) (ie:TypeInfo) (z:Value) (hu:P.underlying t=some (.slice e)) (hie:P.info? e=some ie) (hz:ie.zero=some z) (UU:len*ie.size<=16777216) (hs:0<ie.size)
 (hp:parts.toList=(vs.zipIdx 0).map (fun x=>(x.2,x.1))) (hl:vs.length=len) (hv: ∀v∈vs,v.cells.size=ie.size):
 (Instr.buildSlice t len parts).run P w= .ok (.slice (some ⟨w.heap.size,0,none⟩) len len) (w.alloc (.cells (flat vs).toArray e)):=by
 by_cases h0:len=0
 ·subst h0
  have RX:vs=[]:=List.eq_nil_of_length_eq_zero hl
  subst RX
  have hp':parts.toList=[]:=by simpa using hp
  have P_:parts= #[]:=by apply Array.ext';simpa using hp'
  subst P_
  simp[Instr.buildSlice,run_underlying hu,sizeOf,typeInfo,hie,newRow,Instr.fill,flat]
  congr 2
  apply Array.ext'
  simp
 ·refine run_buildSlice w t e len parts _ ie z hu hie hz (by omega) (by have:=Nat.mul_pos (Nat.pos_of_ne_zero h0) hs;omega) ?_
  rw[hp]
  exact Great.fill_whole hs vs _ hv (by simp[hl])
theorem wy (T:mW P tt) (h:bb C S a w ρ Fs) {o:Oper} {t len:Nat} {ps:Array (Nat×Operand)} (ho:o.op= .buildSlice t len ps) {E:iy} (he:gN (R:=iy) tt S.hp n t len (ps.toList.map fun p=>(p.1,St.rd C.N S.sl p.2)) some=some E) (hg:S.hp n=some .eW): ∃w' ρ' Fs' u,Out P C S o E a w w' ρ' Fs' u:=by
 unfold gN at he
 split at he
 ·rename_i e oF
  split at he
  ·rename_i r0 xs G7 A5
   obtain ⟨hc,he⟩:=ak he
   obtain ⟨hl,N_⟩:=aE hc
   have hl:=eq_of_beq hl
   have N_:=Nat.le_of_ble_eq_true N_
   split at he
   ·rename_i r ks hr
    cases he
    obtain ⟨g1,g2⟩:=vy a.eval C.N S.sl ps.toList 0 xs A5
    have hrel:=LM h ps.toList
    rw[<- g1] at hrel
    obtain ⟨F,k1,k2,k3,k4,k5,k6,k7,k8,_,_⟩:=Al h.mem xs _ S.hp r0 r ks (Sub.refl _) (ky G7) hr hrel
    obtain ⟨te,q1,q2,q3,q4⟩:=nZ T G7
    obtain ⟨i,z,z1,z2,z3,z4,z5,z6⟩:=mr T q1 q3
    have Wm:(flat (ps.toList.map fun p=>a.eval p.2)).length=len*r0.size:=by
     have: ∀l:List Value,(∀v∈l,v.cells.size=r0.size)->(flat l).length=l.length*r0.size:=by
      intro l
      induction l with
      |nil=>intro _;simp[flat]
      |cons v l ih=>
       intro hv
       rw[mG,List.length_append,ih (fun u hu=>hv u (by simp[hu])),Array.length_toList,hv v (by simp),List.length_cons,Nat.succ_mul]
       omega
     rw[this _ k6,k7,hl]
    refine ⟨_,_,_,.slice (some ⟨w.heap.size,0,none⟩) len len,.inl ?_,bb.newRow h hg ks k3.1 (k3.live (Sub.refl _)) e r (flat (ps.toList.map fun p=>a.eval p.2)).toArray e len F (by simpa using k1) k2 (by omega) (by rw[k5];simp only[List.size_toArray];omega) (w.alloc (.cells (flat (ps.toList.map fun p=>a.eval p.2)).toArray e)) rfl rfl rfl rfl,?_⟩
    ·simp only[execOp,ho]
     refine py (AE w t e len _ _ i z (lc T oF) z1 z2 (by rw[z4,q2];exact N_) (by omega) ?_ (by rw[k7,hl]) (fun v hv=>by rw[k6 v hv,z4,q2]))
     rw[Array.toList_map,g2]
    ·have:=LJ (C:=C) (w':=w.alloc (.cells (flat (ps.toList.map fun p=>a.eval p.2)).toArray e)) (ρ':=iQ ρ n (some (w.heap.size,len))) (hp':=fV S.hp (dJ ks++[(n,some (.row e 0 r))])) (nx:=S.nx) (Fs':=gC (dX Fs ks) n (dh (f1 w.heap.size) F)) (dA h.mem hg) (fi ..) (e:=e) (v:=0) (r:=r) (by rw[ch,gA,if_pos rfl])
     rw[k4,hl] at this
     exact this
   ·cases he
  ·cases he
 ·cases he
theorem sx {t:TypeId} {i:TypeInfo} (hi:P.info? t=some i) {w:World} {b o:Nat} {arr:Array Value} {ty:TypeId} (hb:w.heap[b]? =some (.cells arr ty (0,0))) {v:Value} (hs:v.cells.size=i.size) (lP: ∀u∈v.cells.toList,u.oneCell' =true) (Ge:o+i.size<=arr.size):
 (Instr.storeAt t (.pointer (some ⟨b,o,none⟩)) v).run P w= .ok () (w.setRow b (arr.toList.take o++v.cells.toList++arr.toList.drop (o+i.size)).toArray):=by
 unfold Instr.storeAt
 rw[dR (x:=(⟨b,o,none⟩:Addr)) (w':=w) rfl]
 unfold storeVar
 rw[dR (mF hi)]
 have:=run_storeCells_at P b o ty v.cells.toList 0 arr w hb (by simp[hs];exact Ge) lP
 simp only[Nat.add_zero,Array.length_toList,hs] at this
 simp[hs,this]
theorem setRow_other (w:World) (g:Nat) (cs:Array Value) {b:Nat} (h:b≠g):(w.setRow g cs).heap[b]? =w.heap[b]? :=by
 simp[World.setRow,Array.getElem?_modify,Ne.symm h]
theorem setRow_size (w:World) (g:Nat) (cs:Array Value):(w.setRow g cs).heap.size=w.heap.size:=by simp[World.setRow]
def Zt (C:Cx) (w:World) (nx:Nat) (Fs:Nat->FP) (id:Nat) (ks:List Nat) (b:Nat) (F:FP):Zs:=fun b'=>C.ZL w (ar nx Fs) b' \/(1<=Fs id b' +dH Fs ks b' /\F b' =0/\b' ≠b)
theorem bb.GG (h:bb C S a w ρ Fs) (ks:List Nat) (u_:ks.Nodup) (lC: ∀k∈ks,S.hp k≠none) {id:Nat} (hid:id∉ks) {root:aw} (G7:S.hp id=some root) {b cap:Nat} (hρ:ρ id=some (b,cap)) {arr arr':Array Value} {ty:TypeId} (hb:w.heap[b]? =some (.cells arr ty (0,0))) (e ver:Nat) (r:Row) (F:FP)
 (hc:aj w (Zt C w S.nx Fs id ks b F) r.cells arr'.toList F) (hF: ∀b',F b' +f1 b b' <=Fs id b' +dH Fs ks b') (ME:1<=Fs id b) (h1:r.len<=cap) (h2:cap*r.size<=arr'.size) (hl:xQ w (w.setRow b arr') (ρ id) root (.row e ver r)):
 bb C ⟨S.sl,fV S.hp (dJ ks++[(id,some (.row e ver r))]),S.nx⟩ a (w.setRow b arr') ρ (gC (dX Fs ks) id (dh (f1 b) F)):=by
 have hk: ∀k∈ks,k<S.nx:=fun k h'=>by
  cases e:S.hp k with
  |none=>exact absurd e (lC k h')
  |some r=>exact dA h.mem e
 have mC:=dA h.mem G7
 have yy: ∀b',Fs id b' +dH Fs ks b' <=ar S.nx Fs b':=fun b'=>q9 Fs b' S.nx u_ hk mC hid
 have RH:F b=0:=by
  have:=hF b
  have:=yy b
  have:=h.mem.one b
  simp at*
  omega
 refine h.R2 ks u_ lC id hid root _ G7 _ (w.setRow b arr') (setRow_size ..) rfl rfl rfl (fun b' pJ h0=>setRow_other w b arr' (by rintro rfl;omega)) (fun b'=>by have:=hF b';simp;omega) hl (fun M=> ?_)
 refine .inr ⟨b,cap,arr',ty,F,hρ,setRow_heap w b arr arr' ty _ hb,h1,h2,hc.mono (fun b' pJ=> ?_) (fun b' pJ=>setRow_other w b arr' (by rintro rfl;omega)),rfl⟩
 rcases pJ with pJ| ⟨g1,g2,g3⟩
 ·exact M.zl b' pJ
 ·obtain ⟨o1,o2⟩:=h.mem.qw b' (Nat.le_trans g1 (yy b'))
  refine ⟨.inr (.inr ⟨o2,by show b' <(w.setRow b arr').heap.size;rw[setRow_size];exact o1,?_⟩),setRow_other w b arr' g3⟩
  have k1:=fN (dX Fs ks) (dh (f1 b) F) b' mC
  have k2:=ll Fs b' S.nx ks u_ hk
  have k3:dX Fs ks id=Fs id:=by simp[dX,hid]
  have k4:=h.mem.one b'
  have k5:f1 b b' =0:=by rw[zU,if_neg g3]
  rw[k3] at k1
  simp[k5] at k1
  omega
theorem bj.append {E:Env}: ∀ {xs ys:List LV} {us vs:List Value},bj E xs us->bj E ys vs->bj E (xs++ys) (us++vs)
 | [],_,[],_,_,h=>h
 |x::xs,_,u::us,_,h,h'=>⟨h.1,bj.append h.2 h'⟩
theorem Am: ∀(xs A B D:List LV),B.length=xs.length->lm (A++(B++D)) A.length xs=A++(xs++D)
 | [],A,B,D,h=>by have:B=[]:=List.eq_nil_of_length_eq_zero h
                  subst this;rfl
 |x::xs,A,[],D,h=>by simp at h
 |x::xs,A,y::B,D,h=>by
  have e:(A++((y::B)++D)).set A.length x=(A++[x])++(B++D):=by
   rw[List.set_append_right _ _ (Nat.le_refl _)]
   simp
  have e2:A.length+1=(A++[x]).length:=by simp
  rw[lm,e,e2,Am xs (A++[x]) B D (by simpa using h)]
  simp
theorem Cy (xs zs:List LV) (k:Nat) (h:k+xs.length<=zs.length):lm zs k xs=zs.take k++(xs++zs.drop (k+xs.length)):=by
 have e:zs=zs.take k++((zs.drop k).take xs.length++zs.drop (k+xs.length)):=by
  rw[<- List.drop_drop,List.take_append_drop,List.take_append_drop]
 have hk:(zs.take k).length=k:=by simp;omega
 have:=Am xs (zs.take k) ((zs.drop k).take xs.length) (zs.drop (k+xs.length)) (by simp;omega)
 rw[<- e,hk] at this
 exact this
theorem KH (xs zs:List LV) (k:Nat) (h:k+xs.length<=zs.length):Gq zs k xs=lm zs k xs:=by
 unfold Gq
 cases hc:(Nat.beq k 0&&Nat.beq xs.length zs.length) with
 |false=>rfl
 |true=>
  rw[Bool.and_eq_true] at hc
  have h1:=Nat.eq_of_beq_eq_true hc.1
  have h2:=Nat.eq_of_beq_eq_true hc.2
  subst h1
  rw[Cy xs zs 0 h,h2]
  simp
end
section
variable {P:Program} {tt:TT} {C:Cx} {S:St} {a:Act} {w:World} {ρ:Place} {Fs:Nat->FP} {n:Nat}
theorem R8 {α:Type} (l:List α) (o:Nat) (v:α) (h:o<l.length):l.take o++[v]++l.drop (o+1)=l.set o v:=by
 rw[List.set_eq_take_append_cons_drop,if_pos h];simp
theorem Cz {t:TypeId} {i:TypeInfo} (hi:P.info? t=some i) (h1:i.size=1) {w:World} {b o:Nat} {arr:Array Value} {ty:TypeId} (hb:w.heap[b]? =some (.cells arr ty (0,0))) {v:Value} (lP:v.oneCell' =true) (Ge:o<arr.size):
 (Instr.storeAt t (.pointer (some ⟨b,o,none⟩)) v).run P w= .ok () (w.setRow b (arr.toList.set o v).toArray):=by
 have hc:=oT lP
 have:=sx hi hb (v:=v) (by rw[hc,h1];rfl) (fun u hu=>by rw[hc] at hu;simp at hu;subst hu;exact lP) (o:=o) (by omega)
 rw[this,hc,h1]
 congr 3
 exact R8 arr.toList o v (by simpa using Ge)
theorem wz (T:mW P tt) {t:Nat} (h:dT tt t=true): ∃i,P.info? t=some i/\i.size=1:=by
 have hl:=iw h
 unfold dT at h
 split at h
 all_goals try (cases h;done)
 all_goals
  rename_i hq
  obtain ⟨i,z,z1,_,_,z4,_,z6⟩:=mr T hq (by simp)
  exact ⟨i,z1,by rw[z4,z6,hl];rfl⟩
theorem Out.stored {o:Oper} {t:Nat} {p x:Operand} (ho:o.op= .store t p x) {w':World} {up:List (Nat×Option aw)} {nx:Nat} {rl rc:List Nat} {ρ':Place} {Fs':Nat->FP} (hr:(Instr.storeAt t (a.eval p) (a.eval x)).run P w= .ok () w') (hs:bb C ⟨S.sl,fV S.hp up,S.nx⟩ a w' ρ' Fs'): ∃w' ρ' Fs' u,Out P C S o ⟨.l .undef,up,nx,rl,rc⟩ a w w' ρ' Fs' u:=
 ⟨w',ρ',Fs',undef,.inr ⟨by simp only[execOp,ho];exact Xe hr,rfl⟩,hs,rfl⟩
theorem pW (m:iM C S.hp S.nx w ρ Fs) {id e ver:Nat} {r:Row} (h:S.hp id=some (.row e ver r)) {b cap:Nat} (hρ:ρ id=some (b,cap)) (hl:0<r.len): ∃arr ty F,w.heap[b]? =some (.cells arr ty (0,0))/\r.len<=cap/\cap*r.size<=arr.size/\aj w (C.ZL w (ar S.nx Fs)) r.cells arr.toList F/\Fs id=dh (f1 b) F/\F b=0:=by
 rcases m.roots id _ h with ⟨_,h2,_⟩| ⟨b',pF,arr,ty,F,h1,h2,h3,h4,h5,h6⟩
 ·omega
 ·simp only[Cx.env] at h1 h2
  rw[hρ] at h1;cases h1
  have t1:=j9 Fs b (dA m h)
  have t2:=m.one b
  rw[h6] at t1
  simp at t1
  exact ⟨arr,ty,F,h2,h3,h4,h5,h6,by omega⟩
theorem tO {α β:Type} (g:α->List β) (n:Nat) (h: ∀x,(g x).length=n) (f:Nat) (hf:f<n) (c:β) (y:α): ∀(l:List α) (i:Nat) (x:α),l[i]? =some x->g y=(g x).set f c->(l.set i y).flatMap g=(l.flatMap g).set (i*n+f) c
 | [],i,x,hx,_=>by simp at hx
 |z::l,0,x,hx,hy=>by
  simp at hx;subst hx
  simp only[List.set_cons_zero,List.flatMap_cons,Nat.zero_mul,Nat.zero_add,hy]
  rw[List.set_append_left _ _ (by rw[h];exact hf)]
 |z::l,i+1,x,hx,hy=>by
  have e:(i+1)*n+f=n+(i*n+f):=by rw[Nat.succ_mul];omega
  simp only[List.set_cons_succ,List.flatMap_cons,e]
  rw[tO g n h f hf c y l i x (by simpa using hx) hy,List.set_append_right _ _ (by rw[h];omega),h,Nat.add_sub_cancel_left]
theorem An (sg:List Bool) (r:List gR) (f:Nat) (x:gR) (g:Nat):(uQ sg r f x)[g]? =(sg[g]?).map fun b=>if g=f then x else if b then .ints (gl r g) else .int (gi r g):=by
 unfold uQ
 rw[List.getElem?_map,List.getElem?_zipIdx]
 cases sg[g]? with
 |none=>rfl
 |some b=>
  simp only[Option.map_some,Nat.zero_add]
  by_cases e:g=f
  ·simp[e]
  ·simp[e,cond_eq_ite,beq_iff_eq]
theorem vo (o:Bool) (sg:List Bool) (r:List gR) (f:Nat) (x:gR) (c:Cell) (hc: ∃b,sg[f]? =some b/\c=if b then .sl o (match x with| .ints l=>l|_=>[]) else .sc (.int .i64 (match x with| .int n=>n|_=>0))):bD o (uQ sg r f x) 0 sg=(bD o r 0 sg).set f c:=by
 obtain ⟨b,hb,hc⟩:=hc
 have hf:f<sg.length:=(List.getElem?_eq_some_iff.1 hb).1
 apply List.ext_getElem?
 intro j
 rw[ic,List.getElem?_set,ic]
 simp only[Nat.zero_add,c_]
 by_cases e:f=j
 ·subst e
  rw[if_pos rfl,if_pos hf,hb]
  simp only[Option.map_some,gi,gl,An,hb,if_true]
  rw[hc]
  cases b<;>cases x<;>rfl
 ·rw[if_neg e]
  cases hj:sg[j]? with
  |none=>rfl
  |some b'=>
   have e': ¬j=f:=fun h=>e h.symm
   cases b'<;>simp[gi,gl,An,hj,e']
theorem aj.split {w:World} {Z:Zs}: ∀ {cs ds:List Cell} {vs:List Value} {F:FP},aj w Z (cs++ds) vs F-> ∃F1 F2,aj w Z cs (vs.take cs.length) F1/\aj w Z ds (vs.drop cs.length) F2/\F=dh F1 F2
 | [],ds,vs,F,h=>⟨fz,F,rfl,by simpa using h,(jy F).symm⟩
 |c::cs,ds,v::vs,F,⟨F1,F2,h1,h2,hF⟩=>by
  obtain ⟨G1,G2,g1,g2,g3⟩:=aj.split h2
  exact ⟨dh F1 G1,G2,⟨F1,G1,h1,by simpa using g1,rfl⟩,by simpa using g2,by rw[hF,g3,rZ]⟩
theorem oh {w w':World} {q:Option (Nat×Nat)} {e v e' v':Nat} {r r':Row} (hl:r'.len=r.len) (hs:r'.size=r.size) (hv:v<=v') (xh: ∀f,r'.kZ f=r.kZ f) (hd:v' =v->r.deep=false):xQ w w' q (.row e v r) (.row e' v' r'):=
 ⟨hl,hs,hv,xh,fun h1 h2=>by rw[hd h1] at h2;cases h2⟩
theorem IV (T:mW P tt) (h:bb C S a w ρ Fs) {o:Oper} {t:Nat} {p x:Operand} (ho:o.op= .store t p x) {id k bt:Nat} {cells xs:List LV} (hp:St.rd C.N S.sl p= .one (.l (.fP id k))) (ao:S.hp id=some (.box bt cells)) (A5:nf S.hp (St.rd C.N S.sl x)=some xs) (h1:xs.length=bz tt t) (Vk:0<xs.length) (h2:k+xs.length<=cells.length) {nx:Nat} {rl rc:List Nat}:
 ∃w' ρ' Fs' u,Out P C S o ⟨.l .undef,[(id,some (.box bt (lm cells k xs)))],nx,rl,rc⟩ a w w' ρ' Fs' u:=by
 obtain ⟨gr,u9,b,cap,hρ,hv⟩:=iv h hp
 obtain ⟨b',pF,vs,ty,g1,g2,g3,g4⟩:=h.mem.roots id _ ao
 simp only[Cx.env] at hρ g1 g2
 rw[hρ] at g1;cases g1
 obtain ⟨UW,uU⟩:=pD h.mem A5 (h.rd x)
 have Yf:=UW.length
 have ui:=g3.length
 simp only[Array.length_toList] at Yf ui
 have G6: ∃e,tt t=some e:=by
  cases hq:tt t with
  |none=>exact absurd h1 (by simp only[bz,hq];exact Nat.ne_of_gt Vk)
  |some e=>exact ⟨e,rfl⟩
 obtain ⟨e,hq⟩:=G6
 obtain ⟨i,i1,i2,_⟩:=(T t e hq).Cn
 have mL:i.size=xs.length:=by rw[i2,h1];simp[bz,hq]
 have QT:(a.eval x).cells.size=i.size:=by omega
 have K4:k+i.size<=vs.size:=by omega
 have lU:=sx (P:=P) i1 g2 (o:=k) (v:=a.eval x) QT uU K4
 rw[<- hv] at lU
 have hFs:Fs id=f1 b:=g4
 have:=h.R2 [] (by simp) (by simp) id (by simp) _ (.box bt (lm cells k xs)) ao (f1 b) (w.setRow b (vs.toList.take k++(a.eval x).cells.toList++vs.toList.drop (k+i.size)).toArray) (setRow_size ..) rfl rfl rfl
  (fun b' pJ h0=>setRow_other w b _ (by rintro rfl;rw[hFs] at h0;simp at h0)) (fun b'=>by rw[hFs];omega) trivial
  (fun M=>⟨b,cap,_,ty,hρ,setRow_heap w b vs _ ty _ g2,by
    have hgo: ∀E':Env,qZ (C.env w ρ S.hp S.nx Fs) E'->bj E' (lm cells k xs) (vs.toList.take k++(a.eval x).cells.toList++vs.toList.drop (k+i.size)):=fun E' M=>by
     rw[Cy xs cells k h2,mL,List.append_assoc]
     exact bj.append ((g3.take k).mono M) (bj.append (UW.mono M) ((g3.drop _).mono M))
    exact hgo _ M,rfl⟩)
 exact Out.stored ho lU this
theorem sy (T:mW P tt) (h:bb C S a w ρ Fs) {o:Oper} {t:Nat} {p x:Operand} (ho:o.op= .store t p x) {id e ver i f:Nat} {r:Row} (hp:St.rd C.N S.sl p= .one (.l (.q_ id i f))) (ao:S.hp id=some (.row e ver r)) (hs:dT tt t=true) (hf:f<r.size)
 (c:Cell) (r':Row) (u6 e':Nat) (BX:r'.cells=r.cells.set (i*r.size+f) c) (hsc: ∃u,r.cells[i*r.size+f]? =some (.sc u)) (hv:fv w (C.ZL w (ar S.nx Fs)) c (a.eval x) fz) (lP:(a.eval x).oneCell' =true) (hlen:r'.len=r.len) (t_:r'.size=r.size)
 (hl: ∀w',xQ w w' (ρ id) (.row e ver r) (.row e' u6 r')) {nx:Nat} {rl rc:List Nat}: ∃w' ρ' Fs' u,Out P C S o ⟨.l .undef,dJ []++[(id,some (.row e' u6 r'))],nx,rl,rc⟩ a w w' ρ' Fs' u:=by
 obtain ⟨gr,uU⟩:=iv h hp
 obtain ⟨r1,e1,hi,b,cap,hρ,NA⟩:=uU _ ao
 cases e1
 simp only[Cx.env] at hρ
 obtain ⟨arr,ty,F,g1,g2,g3,g4,g5,g6⟩:=pW h.mem ao hρ (by omega)
 obtain ⟨ti,t1,t2⟩:=wz T hs
 have EO:i*r.size+f<r.cells.length:=by
  rw[Row.eG]
  have:=GA (n:=r.size) hi
  omega
 obtain ⟨u,hu⟩:=hsc
 obtain ⟨v0,F1,F2,k1,k2,k3,k4⟩:=g4.get hu
 have ZI:i*r.size+f<arr.size:=by simpa using (List.getElem?_eq_some_iff.1 k1).1
 obtain ⟨_,Oe⟩:=k2
 subst Oe
 rw[jy] at k3
 have sQ:=k4 c (a.eval x) fz hv
 rw[jy,<- k3] at sQ
 have lU:=Cz (P:=P) t1 t2 g1 lP ZI
 rw[<- NA] at lU
 refine Out.stored ho lU (bb.GG h [] (by simp) (by simp) (by simp) ao hρ g1 e' u6 r' F ?_ (fun b'=>by rw[g5];simp;omega) (by rw[g5];simp) (by omega) (by rw[t_];simpa using g3) (hl _))
 rw[BX]
 simp only[List.toList_toArray]
 exact sQ.mono (fun b hb=>⟨.inl hb,rfl⟩) (fun b _=>rfl)
theorem zn (T:mW P tt) (h:bb C S a w ρ Fs) {o:Oper} {t:Nat} {p x:Operand} (ho:o.op= .store t p x) {id b cap off:Nat} {root:aw} (NA:a.eval p= .pointer (some ⟨b,off,none⟩)) (ao:S.hp id=some root) (hρ:ρ id=some (b,cap)) {arr:Array Value} {ty:TypeId} {F:FP} (g1:w.heap[b]? =some (.cells arr ty (0,0))) (g5:Fs id=dh (f1 b) F) (g6:F b=0)
 {ks:List Nat} (u_:lu S.hp ks) (GH:id∉ks) {A B D B':List Cell} (oZ:aj w (C.ZL w (ar S.nx Fs)) (A++(B++D)) arr.toList F) (hA:A.length=off) (hB:B'.length=B.length)
 {ti:TypeInfo} (t1:P.info? t=some ti) (t2:ti.size=B.length) (Yi:(a.eval x).cells.size=B.length) (lP: ∀u∈(a.eval x).cells.toList,u.oneCell' =true) {Fv:FP} (hv:aj w (Zu C w S.nx Fs ks Fv) B' (a.eval x).cells.toList Fv) (hFv: ∀b,Fv b<=dH Fs ks b)
 (own:Bool) (r':Row) (u6 e':Nat) (hct:own=true->r'.cells=A++(B' ++D)) (Y8:own=false->r'.cells=(A++(B' ++D)).map Cell.fL) (hlen:r'.len<=cap) (t_:cap*r'.size<=arr.size)
 (hl: ∀w',xQ w w' (ρ id) root (.row e' u6 r')) {nx:Nat} {rl rc:List Nat}: ∃w' ρ' Fs' u,Out P C S o ⟨.l .undef,dJ ks++[(id,some (.row e' u6 r'))],nx,rl,rc⟩ a w w' ρ' Fs' u:=by
 obtain ⟨FA,F2,h1,h2,Oe⟩:=aj.split oZ
 obtain ⟨FB,FD,h3,h4,N5⟩:=aj.split h2
 have mC:=dA h.mem ao
 have ZJ: ∀k∈ks,k<S.nx:=u_.lt h.mem (Sub.refl _)
 have yy: ∀b',Fs id b' +dH Fs ks b' <=1:=fun b'=>Nat.le_trans (q9 Fs b' S.nx u_.1 ZJ mC GH) (h.mem.one b')
 have UX:(A++(B++D)).length<=arr.toList.length:=oZ.length
 simp only[List.length_append,Array.length_toList] at UX
 have lU:=sx (P:=P) t1 g1 (o:=off) (v:=a.eval x) (by rw[Yi,t2]) lP (by omega)
 rw[<- NA] at lU
 have hz: ∀G:FP,(∀b',G b' <=Fs id b' +dH Fs ks b')-> ∀b',C.ZL w (ar S.nx Fs) b'->Zt C w S.nx Fs id ks b G b':=fun G _ b' hb=> .inl hb
 have R9: ∀b',F b' +f1 b b' =Fs id b':=fun b'=>by rw[g5];simp;omega
 let G:FP:=dh FA (dh Fv FD)
 have hG: ∀b',G b' +f1 b b' <=Fs id b' +dH Fs ks b':=fun b'=>by
  have:=R9 b'
  have:=hFv b'
  rw[Oe,N5] at*
  simp[G] at*
  omega
 have hGb:G b=0:=by
  have:=hG b
  have:=yy b
  simp at*
  omega
 have hkb:dH Fs ks b=0:=by
  have:=yy b
  have:=R9 b
  simp at*
  omega
 have hZu: ∀b',Zu C w S.nx Fs ks Fv b'->Zt C w S.nx Fs id ks b G b':=fun b' hb=>by
  rcases hb with hb| ⟨k1,k2⟩
  ·exact .inl hb
  ·have:=yy b'
   have:=R9 b'
   refine .inr ⟨by omega,?_,by rintro rfl;omega⟩
   have e1:F b' =0:=by omega
   rw[Oe,N5] at e1
   simp at e1
   simp[G];omega
 have sQ:aj w (Zt C w S.nx Fs id ks b G) (A++(B' ++D)) (arr.toList.take off++((a.eval x).cells.toList++arr.toList.drop (off+ti.size))) G:=by
  have ha:aj w (Zt C w S.nx Fs id ks b G) A (arr.toList.take off) FA:=by rw[<- hA];exact h1.mono (fun b hb=>⟨.inl hb,rfl⟩) (fun b _=>rfl)
  have hd:aj w (Zt C w S.nx Fs id ks b G) D (arr.toList.drop (off+ti.size)) FD:=by
   rw[List.drop_drop,hA] at h4
   rw[t2]
   exact h4.mono (fun b hb=>⟨.inl hb,rfl⟩) (fun b _=>rfl)
  have pJ:aj w (Zt C w S.nx Fs id ks b G) B' (a.eval x).cells.toList Fv:=hv.mono (fun b hb=>⟨hZu b hb,rfl⟩) (fun b _=>rfl)
  exact aj.append ha (by rw[List.length_take,Array.length_toList];omega) (aj.append pJ (by rw[Array.length_toList];omega) hd)
 have ZK: ∃F',aj w (Zt C w S.nx Fs id ks b F') r'.cells (arr.toList.take off++((a.eval x).cells.toList++arr.toList.drop (off+ti.size))) F' /\ ∀b',F' b' +f1 b b' <=Fs id b' +dH Fs ks b':=by
  cases own with
  |true=>rw[hct rfl];exact ⟨G,sQ,hG⟩
  |false=>
   rw[Y8 rfl]
   refine ⟨fz,sQ.fL (fun b' hb=> ?_) (fun b' hb=> .inr ⟨?_,rfl,?_⟩),fun b'=> ?_⟩
   ·rcases hb with hb| ⟨k1,_,k3⟩
    ·exact .inl hb
    ·exact .inr ⟨k1,rfl,k3⟩
   ·have:=hG b';omega
   ·rintro rfl;omega
   ·have:=hG b';simp;omega
 obtain ⟨F',k1,k2⟩:=ZK
 rw[List.append_assoc] at lU
 refine Out.stored ho lU (bb.GG h ks u_.1 (fun k hk=>by obtain ⟨e,v,r,hh⟩:=u_.2 k hk;rw[hh];simp) GH ao hρ g1 e' u6 r' F' ?_ k2 (by have:=R9 b;simp at this;omega) hlen ?_ (hl _))
 ·simpa using k1
 ·have e1:(arr.toList.take off++((a.eval x).cells.toList++arr.toList.drop (off+ti.size))).length=arr.size:=by
   simp only[List.length_append,List.length_take,List.length_drop,Array.length_toList,Yi,t2]
   omega
  rw[List.size_toArray,e1]
  exact t_
end
section
variable {P:Program} {tt:TT} {C:Cx} {S:St} {a:Act} {w:World} {ρ:Place} {Fs:Nat->FP} {n:Nat}
theorem wA (T:mW P tt) {t:Nat} {e:TE} (h:tt t=some e): ∃i,P.info? t=some i/\i.size=e.size:=by
 obtain ⟨i,i1,i2,_⟩:=(T t e h).Cn
 exact ⟨i,i1,i2⟩
theorem LN {r:Row} (h:r.deep=false) (f:Nat):r.kZ f=false:=by
 cases hs:r.kZ f with
 |false=>rfl
 |true=>rw[zj hs] at h;cases h
theorem UY {α:Type} (l:List α) (i:Nat) (h:i<l.length):l=l.take i++([l[i]]++l.drop (i+1)):=by
 rw[List.singleton_append,List.getElem_cons_drop,List.take_append_drop]
theorem zo {α:Type} (l:List α) (i:Nat) (h:i<l.length):(l.take i).length=i:=by simp;omega
theorem oU {α:Type} (l:List α) (i:Nat) (y:α) (h:i<l.length):l.set i y=l.take i++(y::l.drop (i+1)):=by
 rw[List.set_eq_take_append_cons_drop,if_pos h]
theorem CA (T:mW P tt) (h:bb C S a w ρ Fs) {o:Oper} {t:Nat} {p x:Operand} (ho:o.op= .store t p x) {id i:Nat} (hp:St.rd C.N S.sl p= .one (.l (.q_ id i 0))) {root:aw} (ao:S.hp id=some root) {own:Bool} {l:List (List Int)} (hr:root.row? =some (.rows own l)) (hs:dT tt t=true)
 {c:Cell} (UZ:gY w (C.ZL w (ar S.nx Fs)) (ρ id) ((Row.rows own l).cells.set i c) l.length 1 (Fs id))
 {y:LV} (hx:St.rd C.N S.sl x= .one (.l y)) {o':Bool} {z:List Int} {ks:List Nat} (he:qD S.hp y=some (o',z,ks)) (GH:id∉ks) (e' u6:Nat)
 (hl: ∀w',xQ w w' (ρ id) root (.row e' u6 (.rows (own&&o') (l.set i z)))) {nx:Nat} {rl rc:List Nat}: ∃w' ρ' Fs' u,Out P C S o ⟨.l .undef,dJ ks++[(id,some (.row e' u6 (.rows (own&&o') (l.set i z))))],nx,rl,rc⟩ a w w' ρ' Fs' u:=by
 obtain ⟨gr,uU⟩:=iv h hp
 obtain ⟨r1,e1,hi,b,cap,hρ,NA⟩:=uU _ ao
 rw[hr] at e1;cases e1
 simp only[Cx.env,Row.len,Row.size,Nat.mul_one,Nat.add_zero] at hρ hi NA
 obtain ⟨F1,k1,k2,k3,k4,k5⟩:=sw h.mem (Sub.refl _) he (iv h hx)
 rcases UZ with ⟨_,h0,_⟩| ⟨b',pF,arr,ty,F,g1,g2,g3,g4,g5,g6⟩
 ·omega
 rw[hρ] at g1;cases g1
 have g7:F b=0:=by
  have t1:=j9 Fs b (dA h.mem ao)
  have t2:=h.mem.one b
  rw[g6] at t1
  simp at t1
  omega
 obtain ⟨ti,t1,t2⟩:=wz T hs
 have ui:(Row.rows own l).cells.length=l.length:=by simp[Row.cells]
 have Qt:=oU (Row.rows own l).cells i c (by omega)
 rw[Qt] at g5
 have lP:=oT k5
 refine zn T h ho NA ao hρ g2 g6 g7 k3 GH (A:=(Row.rows own l).cells.take i) (B:=[c]) (D:=(Row.rows own l).cells.drop (i+1)) (B':=[.sl o' z]) g5 (zo _ _ (by omega)) rfl t1 (by rw[t2];rfl) (by rw[lP];rfl) (fun u hu=>by rw[lP] at hu;simp at hu;subst hu;exact k5) (by rw[lP];exact Cv k1) k2 (own&&o') _ u6 e'
  (fun hh=> ?_) (fun _=> ?_) (by simp only[Row.len,List.length_set];exact g3) (by simpa[Row.size] using g4) hl
 ·obtain ⟨rfl,rfl⟩:=aE hh
  show (l.set i z).map _=_
  rw[oU l i z hi]
  simp[Row.cells,List.map_take,List.map_drop]
 ·show (l.set i z).map _=_
  rw[oU l i z hi]
  rename_i hf
  simp[Row.cells,List.map_take,List.map_drop,Cell.fL,Function.comp_def,hf]
theorem IW (T:mW P tt) (h:bb C S a w ρ Fs) {o:Oper} {t:Nat} {p x:Operand} (ho:o.op= .store t p x) {id ver i f j e:Nat} {l:List (List Int)} {z:Int} (hp:St.rd C.N S.sl p= .one (.l (.zd id ver i f j))) (ao:S.hp id=some (.row e ver (.rows true l))) (hs:dT tt t=true) (hx:St.rd C.N S.sl x= .one (.l (.i .i64 z))) {nx:Nat} {rl rc:List Nat}:
 ∃w' ρ' Fs' u,Out P C S o ⟨.l .undef,[(id,some (.row e ver (.rows true (l.set i ((l.getD i []).set j z)))))],nx,rl,rc⟩ a w w' ρ' Fs' u:=by
 obtain ⟨gr,uU⟩:=iv h hp
 obtain ⟨_,_,Ig⟩:=uU _ ao
 obtain ⟨k1,k2,k3,A0,n0,R_,k4,NA⟩:=Ig e _ rfl
 have hv:a.eval x= .int .i64 z:=iv h hx
 simp only[Row.kZ] at k1
 have GI:=eq_of_beq k1
 subst GI
 simp only[Row.len] at k2
 have MD:l.getD i [] =l[i]:=by simp[k2]
 simp only[eB,MD] at k3
 simp only[Row.size,Nat.mul_one,Nat.add_zero,Cx.env] at k4
 cases hρ:ρ id with
 |none=>rw[hρ] at k4;cases k4
 |some q=>
  obtain ⟨b,cap⟩:=q
  rw[hρ] at k4
  obtain ⟨arr,ty,F,g1,g2,g3,g4,g5,g6⟩:=pW h.mem ao hρ (by simp only[Row.len];omega)
  simp only[cellAt] at k4
  rw[bO g1] at k4
  have ui:(Row.rows true l).cells.length=l.length:=by simp[Row.cells]
  have oZ:=UY (Row.rows true l).cells i (by omega)
  have XQ:(Row.rows true l).cells[i]'(by omega)= .sl true l[i]:=by simp[Row.cells]
  rw[XQ] at oZ
  have Xk:=g4.length
  simp only[Array.length_toList] at Xk
  have has:=UY arr.toList i (by simp;omega)
  have Vt:=g4
  rw[oZ] at Vt
  obtain ⟨FA,F2,s1,s2,s3⟩:=aj.split Vt
  obtain ⟨FB,FD,s4,s5,s6⟩:=aj.split s2
  have Xl:((Row.rows true l).cells.take i).length=i:=zo _ _ (by omega)
  rw[Xl] at s1 s4 s5
  have TA:arr.toList[i]'(by simp;omega)= .slice (some A0) n0 R_:=by
   have:arr.toList[i]? =some (.slice (some A0) n0 R_):=by simpa using k4
   exact (List.getElem?_eq_some_iff.1 this).2
  have Xm:arr.toList.drop i= .slice (some A0) n0 R_::arr.toList.drop (i+1):=by
   rw[<- TA,List.getElem_cons_drop]
  rw[Xm] at s4 s5
  simp only[List.length_singleton,List.take_succ_cons,List.take_zero,List.drop_succ_cons,List.drop_zero] at s4 s5
  obtain ⟨G1,G2,r1,r2,r3⟩:=s4
  have hG2:G2=fz:=r2
  subst hG2
  rw[cp] at r3
  subst r3
  rcases r1 with ⟨_,P_,_⟩| ⟨b2,yp,u7,Od,q1,q2,q3,q4,q5,q6⟩
  ·rw[P_] at k3;simp at k3
  simp only[Value.slice.injEq,Option.some.injEq] at q1
  obtain ⟨rfl,rfl,rfl⟩:=q1
  obtain ⟨ti,t1,t2⟩:=wz T hs
  rw[ef,Nat.zero_add] at NA
  have lU:=Cz (P:=P) t1 t2 q2 (o:=j) (v:=a.eval x) (by rw[hv];rfl) (by omega)
  rw[<- NA] at lU
  have U0: ∀b',F b' =FA b' +(f1 b2 b' +FD b'):=fun b'=>by rw[s3,s6,q6];simp
  have lP: ∀b',Fs id b' <=1:=fun b'=>Nat.le_trans (j9 Fs b' (dA h.mem ao)) (h.mem.one b')
  have AK:Fs id b2=1:=by
   have h1:=lP b2
   have h2:=U0 b2
   have h3:Fs id b2=f1 b b2+F b2:=by rw[g5];rfl
   simp at h2
   omega
  have lG:b≠b2:=by
   rintro rfl
   have h2:=U0 b
   simp at h2
   omega
  have Vg:FA b2=0/\FD b2=0:=by
   have h2:=U0 b2
   have h3:Fs id b2=f1 b b2+F b2:=by rw[g5];rfl
   simp at h2
   omega
  have Xn: ∀i' f',(eB (.rows true (l.set i ((l.getD i []).set j z))) i' f').length=(eB (.rows true l) i' f').length:=fun i' f'=>by
   simp only[eB,List.getD_eq_getElem?_getD,List.getElem?_set]
   by_cases ei:i=i'
   ·subst ei;simp[k2]
   ·simp[ei]
  have:=h.R2 [] (by simp) (by simp) id (by simp) _ (.row e ver (.rows true (l.set i ((l.getD i []).set j z)))) ao (Fs id) (w.setRow b2 (u7.toList.set j (a.eval x)).toArray) (setRow_size ..) rfl rfl rfl
   (fun b' pJ h0=>setRow_other w b2 _ (by rintro rfl;omega)) (fun b'=>by simp[dH]) ⟨by simp[Row.len],rfl,Nat.le_refl _,fun _=>rfl,fun _ _=>⟨Xn,fun b' pF hq=>by rw[hρ] at hq;cases hq;exact setRow_other w b2 _ lG⟩⟩
   (fun M=>by
     have Tz: ∀ {cs:List Cell} {vs:List Value} {G:FP},aj w (C.ZL w (ar S.nx Fs)) cs vs G->G b2=0->aj (w.setRow b2 (u7.toList.set j (a.eval x)).toArray) (C.ZL (w.setRow b2 (u7.toList.set j (a.eval x)).toArray) (ar S.nx (gC (dX Fs []) id (Fs id)))) cs vs G:=fun hc hG=>
      hc.mono (fun b' pJ=>M.zl b' pJ) (fun b' pJ=>setRow_other w b2 _ (by rintro rfl;omega))
     refine .inr ⟨b,cap,arr,ty,F,hρ,by rw[show (C.env (w.setRow b2 (u7.toList.set j (a.eval x)).toArray) ρ (fV S.hp (dJ []++[(id,some (.row e ver (.rows true (l.set i ((l.getD i []).set j z)))))])) S.nx (gC (dX Fs []) id (Fs id))).w=w.setRow b2 (u7.toList.set j (a.eval x)).toArray from rfl,setRow_other w b2 _ lG];exact g1,by simp only[Row.len,List.length_set];exact g2,g3,?_,g5⟩
     have ZM:(Row.rows true (l.set i ((l.getD i []).set j z))).cells=(Row.rows true l).cells.take i++([.sl true (l[i].set j z)]++(Row.rows true l).cells.drop (i+1)):=by
      show (l.set i _).map _=_
      rw[oU l i _ k2,MD]
      simp[Row.cells,List.map_take,List.map_drop]
     rw[ZM,has,TA]
     have SL:F=dh FA (dh (f1 b2) FD):=by rw[s3,s6,q6]
     rw[SL]
     refine aj.append (Tz s1 Vg.1) (by rw[Xl];simp;omega) (aj.append (F:=f1 b2) ?_ rfl (Tz s5 Vg.2))
     refine ⟨f1 b2,fz,.inr ⟨b2,R_,(u7.toList.set j (a.eval x)).toArray,Od,by simp,setRow_heap w b2 u7 _ Od _ q2,by simp;exact q3,by simp;exact q4,fun j' n' Jf=> ?_,rfl⟩,rfl,(cp _).symm⟩
     rw[List.getElem?_set] at Jf
     simp only[List.getElem?_toArray,List.getElem?_set]
     by_cases ej:j=j'
     ·subst ej
      rw[if_pos rfl] at Jf ⊢
      have ZI:j<u7.toList.length:=by simp;omega
      simp only[k3,if_true,Option.some.injEq] at Jf
      subst Jf
      simp[ZI,hv]
      omega
     ·rw[if_neg ej] at Jf ⊢
      simpa using q5 j' n' Jf)
  exact Out.stored ho lU this
theorem Dp (T:mW P tt) (h:bb C S a w ρ Fs) {o:Oper} {t:Nat} {p x:Operand} (ho:o.op= .store t p x) {E:iy} (he:oJ (R:=iy) tt S.hp n t (St.rd C.N S.sl p) (St.rd C.N S.sl x) some=some E): ∃w' ρ' Fs' u,Out P C S o E a w w' ρ' Fs' u:=by
 unfold oJ at he
 split at he
 ·rename_i id k hp
  split at he
  ·rename_i bt cells xs ao A5
   obtain ⟨h1,he⟩:=ak he
   obtain ⟨h2,he⟩:=ak he
   cases he
   obtain ⟨h1,h3⟩:=aE h1
   rw[KH xs cells k (of_decide_eq_true h2)]
   exact IV T h ho hp ao A5 (eq_of_beq h1) (by simpa[Nat.blt_eq] using h3) (of_decide_eq_true h2)
  ·cases he
 ·rename_i id i f hp
  split at he
  ·rename_i te G6
   split at he
   ·rename_i bt ver r ao
    obtain ⟨hc,he⟩:=ak he
    split at he
    ·rename_i r' ks bump jn
     cases oF:ks.elem id with
     |true=>rw[oF] at he;cases he
     |false=>
      rw[oF] at he
      cases he
      have GH:id∉ks:=fun hh=>by rw[List.elem_iff.2 hh] at oF;cases oF
      obtain ⟨gr,uU⟩:=iv h hp
      obtain ⟨r1,e1,hi,b,cap,hρ,NA⟩:=uU _ ao
      cases e1
      simp only[Cx.env] at hρ
      have Qu:eg tt t=false->dT tt t=true/\f<r.size:=fun hs=>by
       rw[hs] at hc
       obtain ⟨h1,h2⟩:=aE hc
       exact ⟨h1,by simpa[Nat.blt_eq] using h2⟩
      have Qv:eg tt t=true->te.size=r.size/\f=0/\r.qC=true:=fun hs=>by
       rw[hs] at hc
       obtain ⟨h1,h2⟩:=aE hc
       obtain ⟨h3,h4⟩:=aE h1
       exact ⟨eq_of_beq h3,eq_of_beq h4,h2⟩
      cases r with
      |ints k l=>
       have Ra:eg tt t=false:=by
        cases hq:eg tt t with
        |false=>rfl
        |true=>have:=(Qv hq).2.2;cases this
       obtain ⟨hs,hf⟩:=Qu Ra
       simp only[Row.size] at hf
       have GI:f=0:=by omega
       subst GI
       simp only[Row.len] at hi
       simp only[lR] at jn
       split at jn
       ·rename_i k' z hx
        obtain ⟨hk,jn⟩:=ak jn
        have hk:=of_decide_eq_true hk
        subst hk
        simp only[Option.some.injEq,Prod.mk.injEq] at jn
        obtain ⟨rfl,rfl,rfl⟩:=jn
        have hv:a.eval x= .int k z:=iv h hx
        exact sy T h ho hp ao hs (by simp[Row.size]) (.sc (.int k z)) (.ints k (l.set i z)) ver bt (by simp[Row.cells,Row.size,List.map_set]) ⟨.int k l[i],by simp[Row.cells,Row.size,hi]⟩ ⟨hv,rfl⟩ (by rw[hv];rfl) (by simp[Row.len]) rfl (fun w'=>oh (by simp[Row.len]) rfl (Nat.le_refl _) (fun _=>rfl) (fun _=>rfl))
       ·cases jn
      |du l=>
       have Ra:eg tt t=false:=by
        cases hq:eg tt t with
        |false=>rfl
        |true=>have:=(Qv hq).2.2;cases this
       obtain ⟨hs,hf⟩:=Qu Ra
       simp only[Row.size] at hf
       have GI:f=0:=by omega
       subst GI
       simp only[Row.len] at hi
       simp only[lR] at jn
       split at jn
       ·rename_i z hx
        simp only[Option.some.injEq,Prod.mk.injEq] at jn
        obtain ⟨rfl,rfl,rfl⟩:=jn
        have hv:a.eval x= .bool z:=iv h hx
        exact sy T h ho hp ao hs (by simp[Row.size]) (.sc (.bool z)) (.du (l.set i z)) ver bt (by simp[Row.cells,Row.size,List.map_set]) ⟨.bool l[i],by simp[Row.cells,Row.size,hi]⟩ ⟨hv,rfl⟩ (by rw[hv];rfl) (by simp[Row.len]) rfl (fun w'=>oh (by simp[Row.len]) rfl (Nat.le_refl _) (fun _=>rfl) (fun _=>rfl))
       ·cases jn
      |strs l=>
       have Ra:eg tt t=false:=by
        cases hq:eg tt t with
        |false=>rfl
        |true=>have:=(Qv hq).2.2;cases this
       obtain ⟨hs,hf⟩:=Qu Ra
       simp only[Row.size] at hf
       have GI:f=0:=by omega
       subst GI
       simp only[Row.len] at hi
       simp only[lR] at jn
       split at jn
       ·rename_i z hx
        simp only[Option.some.injEq,Prod.mk.injEq] at jn
        obtain ⟨rfl,rfl,rfl⟩:=jn
        have hv:a.eval x= .string z:=iv h hx
        exact sy T h ho hp ao hs (by simp[Row.size]) (.sc (.string z)) (.strs (l.set i z)) ver bt (by simp[Row.cells,Row.size,List.map_set]) ⟨.string l[i],by simp[Row.cells,Row.size,hi]⟩ ⟨hv,rfl⟩ (by rw[hv];rfl) (by simp[Row.len]) rfl (fun w'=>oh (by simp[Row.len]) rfl (Nat.le_refl _) (fun _=>rfl) (fun _=>rfl))
       ·cases jn
      |rows own l=>
       have Ra:eg tt t=false:=by
        cases hq:eg tt t with
        |false=>rfl
        |true=>have:=(Qv hq).2.2;cases this
       obtain ⟨hs,hf⟩:=Qu Ra
       simp only[Row.size] at hf
       have GI:f=0:=by omega
       subst GI
       simp only[Row.len] at hi
       simp only[lR] at jn
       split at jn
       ·rename_i y hx
        split at jn
        ·rename_i o' z ks' U1
         simp only[Option.some.injEq,Prod.mk.injEq] at jn
         obtain ⟨rfl,rfl,rfl⟩:=jn
         have Nh:=h.mem.roots id _ ao
         simp only[jj,Cx.env] at Nh
         have sT:(Row.rows own l).cells.set i (.sl own l[i])=(Row.rows own l).cells:=by
          have:(Row.rows own l).cells[i]? =some (.sl own l[i]):=by simp[Row.cells,hi]
          apply List.ext_getElem?
          intro j
          rw[List.getElem?_set]
          by_cases e:i=j
          ·subst e;rw[if_pos rfl,this,if_pos (List.getElem?_eq_some_iff.1 this).1]
          ·rw[if_neg e]
         exact CA T h ho hp ao rfl hs (c:= .sl own l[i]) (by rw[sT];exact Nh) hx U1 GH bt (ver+1) (fun w'=>oh (by simp[Row.len]) rfl (Nat.le_succ _) (fun _=>rfl) (fun hh=>by omega))
        ·cases jn
       ·cases jn
      |dw sg own l=>
       simp only[Row.len] at hi
       have Qt:l=l.take i++([l[i]]++l.drop (i+1)):=UY l i hi
       have hA:((l.take i).flatMap fun r=>bD own r 0 sg).length=i*sg.length:=by
        rw[px _ sg.length (fun r=>c_ ..),zo l i hi]
       simp only[lR] at jn
       split at jn
       ·rename_i xs hx
        obtain ⟨Ky,jn⟩:=ak jn
        split at jn
        ·rename_i o' z ks' U1
         simp only[Option.some.injEq,Prod.mk.injEq] at jn
         obtain ⟨rfl,rfl,rfl⟩:=jn
         obtain ⟨mL,GI,_⟩:=Qv Ky
         subst GI
         simp only[Row.size] at mL
         obtain ⟨arr,ty,F,g1,g2,g3,g4,g5,g6⟩:=pW h.mem ao hρ (by simp only[Row.len];omega)
         have hv:gy (C.env w ρ S.hp S.nx Fs) (.one (.agg xs)) (a.eval x):=by have:=h.rd x;rwa [hx] at this
         obtain ⟨us,Xj,hrel⟩:=hv
         obtain ⟨Fv,v1,v2,v3,v4,v5⟩:=vx h.mem sg _ xs us o' z ks' (Sub.refl _) U1 hrel
         obtain ⟨ti,t1,t2⟩:=wA T G6
         have oZ:(Row.dw sg own l).cells=((l.take i).flatMap fun r=>bD own r 0 sg)++(bD own l[i] 0 sg++((l.drop (i+1)).flatMap fun r=>bD own r 0 sg)):=by
          refine (congrArg (List.flatMap fun r=>bD own r 0 sg) Qt).trans ?_
          simp only[List.flatMap_append,List.flatMap_cons,List.flatMap_nil,List.append_nil]
         rw[oZ] at g4
         have U2:(a.eval x).cells.toList=us:=by rw[Xj];simp[Value.cells]
         have RX:(a.eval x).cells.size=sg.length:=by rw[<- Array.length_toList,U2,v4]
         exact zn T h ho NA ao hρ g1 g5 g6 v3 GH (A:=(l.take i).flatMap fun r=>bD own r 0 sg) (B:=bD own l[i] 0 sg) (D:=(l.drop (i+1)).flatMap fun r=>bD own r 0 sg) (B':=bD o' z 0 sg) g4 (by rw[hA];rfl) (by rw[c_,c_]) t1 (by rw[t2,mL,c_]) (by rw[RX,c_]) (by rw[U2];exact v5) (by rw[U2];exact v1) v2 (own&&o') (.dw sg (own&&o') (l.set i z)) (ver+1) bt
          (fun hh=>by
            obtain ⟨rfl,rfl⟩:=aE hh
            show (l.set i z).flatMap _=_
            rw[oU l i z hi]
            simp)
          (fun hh=>by
            rw[hh]
            show (l.set i z).flatMap _=_
            rw[oU l i z hi]
            simp[List.map_flatMap,lx])
          (by simp only[Row.len,List.length_set];exact g2) g3 (fun w'=>oh (by simp[Row.len]) rfl (Nat.le_succ _) (fun _=>rfl) (fun hh=>by omega))
        ·cases jn
       ·rename_i z hx
        cases Ky:eg tt t with
        |true=>rw[Ky] at jn;cases jn
        |false=>
         rw[Ky] at jn
         simp only[cond_false] at jn
         obtain ⟨hs,hf⟩:=Qu Ky
         simp only[Row.size] at hf
         split at jn
         ·rename_i WZ
          simp only[Option.some.injEq,Prod.mk.injEq] at jn
          obtain ⟨rfl,rfl,rfl⟩:=jn
          have hv:a.eval x= .int .i64 z:=iv h hx
          have Yb:l[i]? =some l[i]:=List.getElem?_eq_getElem hi
          have MD:l.getD i [] =l[i]:=by simp[hi]
          refine sy T h ho hp ao hs hf (.sc (.int .i64 z)) (.dw sg own (l.set i (uQ sg (l.getD i []) f (.int z)))) (ver+1) bt ?_ ?_ ⟨hv,rfl⟩ (by rw[hv];rfl) (by simp[Row.len]) rfl (fun w'=>oh (by simp[Row.len]) rfl (Nat.le_succ _) (fun _=>rfl) (fun hh=>by omega))
          ·simp only[Row.cells,Row.size]
           refine tO (fun r=>bD own r 0 sg) sg.length (fun r=>c_ ..) f hf _ _ l i l[i] Yb ?_
           rw[MD]
           exact vo own sg l[i] f (.int z) _ ⟨false,WZ,rfl⟩
          ·have:=qV sg own l i f hf
           rw[Yb,WZ] at this
           exact ⟨_,this⟩
         ·cases jn
       ·cases jn
    ·cases he
   ·rename_i bt ver l i' f' ao
    replace he:=ak he
    obtain ⟨hc,he⟩:=he
    obtain ⟨GI,hs⟩:=aE hc
    have GI:=eq_of_beq GI
    replace he:=fp he
    obtain ⟨ZN,he⟩:=he
    have ZN:=eq_of_beq ZN
    subst GI ZN
    split at he
    ·rename_i y hx
     split at he
     ·rename_i z ks oF
      cases GJ:ks.elem id with
      |true=>rw[GJ] at he;cases he
      |false=>
       rw[GJ] at he
       cases he
       have GH:id∉ks:=fun hh=>by rw[List.elem_iff.2 hh] at GJ;cases GJ
       have Nh:=h.mem.roots id _ ao
       obtain ⟨h1,h2,h3⟩:=Nh
       simp only[Row.size] at h2
       have GI:f' =0:=by omega
       subst GI
       simp only[Row.size,Nat.mul_one,Nat.add_zero,Cx.env] at h3
       exact CA T h ho hp ao rfl hs (c:= .free) h3 hx oF GH bt (ver+1) (fun w'=>⟨by simp[Row.len],rfl,Nat.lt_succ_self _⟩)
     ·cases he
    ·cases he
   ·cases he
  ·cases he
 ·rename_i id m hp
  split at he
  ·rename_i k e sz bs hq
   split at he
   ·rename_i bt ver r xs r0 ao hx G7
    replace he:=ak he
    obtain ⟨hc,he⟩:=he
    obtain ⟨hc,c9⟩:=aE hc
    obtain ⟨hc,c8⟩:=aE hc
    obtain ⟨hc,c7⟩:=aE hc
    obtain ⟨hc,c6⟩:=aE hc
    obtain ⟨hc,c5⟩:=aE hc
    obtain ⟨hc,c4⟩:=aE hc
    obtain ⟨c2,c3⟩:=aE hc
    have c2:=eq_of_beq c2
    have c3:=eq_of_beq c3
    have c4:=eq_of_beq c4
    have c6:=eq_of_beq c6
    have c8:=eq_of_beq c8
    have c9:0<k:=by simpa[Nat.blt_eq] using c9
    have c5:r0.deep=false:=by simpa using c5
    have c7:r.deep=false:=by simpa using c7
    split at he
    ·rename_i r' oj
     cases he
     obtain ⟨gr,uU⟩:=iv h hp
     obtain ⟨r1,e1,N7,b,cap,hρ,NA⟩:=uU _ ao
     cases e1
     simp only[Cx.env] at hρ
     obtain ⟨arr,ty,F,g1,g2,g3,g4,g5,g6⟩:=pW h.mem ao hρ (by omega)
     unfold Qe at oj
     split at oj
     ·rename_i r2 hr2
      simp only[Option.some.injEq] at oj
      subst oj
      have hv:gy (C.env w ρ S.hp S.nx Fs) (.one (.agg xs)) (a.eval x):=by have:=h.rd x;rwa [hx] at this
      obtain ⟨us,Xj,hrel⟩:=hv
      have Xo: ∀(xs:List LV) (us:List Value),bj (C.env w ρ S.hp S.nx Fs) xs us->gD (C.env w ρ S.hp S.nx Fs) (xs.map fun x=> .l x) us:=by
       intro xs
       induction xs with
       |nil=>intro us hh;cases us<;>exact hh
       |cons y ys ih=>intro us hh;cases us with
        |nil=>exact hh
        |cons u us=>exact ⟨hh.1,ih us hh.2⟩
      have No:Sub (fun _=>none) S.hp:=fun j r hj=>by cases hj
      obtain ⟨Fv,v1,v2,v3,v4,v5,v6,v7,v8,v9,v10⟩:=Al h.mem _ us _ r0 r2 [] No (ky G7) hr2 (Xo xs us hrel)
      have ZH:r0.qC=false:=by cases r0<;>first|rfl| (simp[Row.deep] at c5;done)
      have lP: ∀u∈us,u.cells= #[u]:=fun u hu=>oT (v10 ZH u hu)
      have Wm:flat us=us:=by
       have: ∀l:List Value,(∀u∈l,u.cells= #[u])->flat l=l:=by
        intro l
        induction l with
        |nil=>intro _;rfl
        |cons u l ih=>intro hl;rw[mG,hl u (by simp),ih (fun q hq=>hl q (by simp[hq]))];rfl
       exact this us lP
      rw[Wm] at v1 v8
      have hdd:r2.deep=false/\r2.size=1:=⟨by rw[v9];exact c5,by rw[v5];exact c4⟩
      obtain ⟨ti,t1,t2⟩:=wA T hq
      have acS:ti.size=k:=by rw[t2,<- c8];simp[bz,hq]
      have U2:(a.eval x).cells.toList=us:=by rw[Xj];simp[Value.cells]
      have hul:us.length=k:=by rw[v7,List.length_map,c2]
      have acU:r.cells.length=k:=by rw[Row.eG,c6,N7,c3,Nat.mul_one]
      have acV:r2.cells.length=k:=by rw[Row.eG,hdd.2,v4,List.length_map,c2,Nat.mul_one]
      have RX:(a.eval x).cells.size=k:=by rw[<- Array.length_toList,U2,hul]
      exact zn T h ho NA ao hρ g1 g5 g6 (lu.nil _) (by simp) (A:=[]) (B:=r.cells) (D:=[]) (B':=r2.cells) (ks:=[]) (by simpa using g4) rfl (by omega) t1 (by omega) (by omega) (by rw[U2];exact v8) (by rw[U2];exact v1) v2 true r2 (ver+1) bt (fun _=>by simp) (fun hh=>by cases hh) (by rw[v4,List.length_map];omega) (by rw[hdd.2];rw[c6] at g3;exact g3)
       (fun w'=>oh (by rw[v4,List.length_map];omega) (by rw[hdd.2,c6]) (Nat.le_succ _) (fun f=>by rw[LN c7,LN hdd.1]) (fun hh=>by omega))
     ·cases oj
    ·cases he
   ·cases he
  ·cases he
 ·rename_i id ver i f j hp
  split at he
  ·rename_i bt v' r z ao hx
   replace he:=ak he
   obtain ⟨hc,he⟩:=he
   obtain ⟨h1,h2⟩:=aE hc
   have h1:=eq_of_beq h1
   subst h1
   split at he
   ·rename_i r' oj
    cases he
    cases r with
    |rows own l=>
     cases own with
     |false=>cases oj
     |true=>
      simp only[ID,Option.some.injEq] at oj
      subst oj
      exact IW T h ho hp ao h2 hx
    |_=>cases oj
   ·cases he
  ·cases he
 ·cases he
end
section
variable {P:Program} {tt:TT} {C:Cx} {S:St} {a:Act} {w:World} {ρ:Place} {Fs:Nat->FP} {n:Nat}
def Zx (C:Cx) (w:World) (nx:Nat) (Fs:Nat->FP) (ks:List Nat) (X:Nat) (F:FP):Zs:=fun b'=>C.ZL w (ar nx Fs) b' \/(1<=dH Fs ks b' /\F b' =0/\b' ≠X)
theorem Ao {ks:List Nat} {X:Nat} {cs ct cf:List Cell} {vs:List Value} {F:FP} (h:aj w (C.ZL w (ar S.nx Fs)) cs vs F) (hF: ∀b,F b<=dH Fs ks b) (hX:F X=0) (o:Bool) (h1:o=true->ct=cs) (h2:o=false->cf=cs.map Cell.fL): ∃F',aj w (Zx C w S.nx Fs ks X F') (if o then ct else cf) vs F' /\(∀b,F' b<=dH Fs ks b)/\F' X=0:=by
 cases o with
 |true=>rw[h1 rfl];exact ⟨F,h.mono (fun b hb=>⟨.inl hb,rfl⟩) (fun b _=>rfl),hF,hX⟩
 |false=>
  rw[h2 rfl]
  refine ⟨fz,h.fL (fun b hb=> .inl hb) (fun b' hb=> .inr ⟨Nat.le_trans hb (hF b'),rfl,?_⟩),fun b=>by simp,rfl⟩
  rintro rfl;omega
theorem bb.Qw (h:bb C S a w ρ Fs) (hg:S.hp n=some .eW) (ks:List Nat) (u_:ks.Nodup) (lC: ∀k∈ks,∃r,S.hp k=some r/\r.real) (X cap:Nat) (arr:Array Value) (ty:TypeId) (e:Nat) (r:Row) (F:FP) (w':World)
 (hX:(X=w.heap.size/\w'.heap.size=w.heap.size+1)\/(1<=dH Fs ks X/\w'.heap.size=w.heap.size)) (rn: ∀b,b<w.heap.size->b≠X->w'.heap[b]? =w.heap[b]?) (jz:w'.heap[X]? =some (.cells arr ty (0,0))) (Nx:w'.os=w.os) (Ny:w'.tape=w.tape) (zk:w'.output=w.output)
 (hc:aj w (Zx C w S.nx Fs ks X F) r.cells arr.toList F) (hF: ∀b,F b<=dH Fs ks b) (Yj:F X=0) (h1:r.len<=cap) (h2:cap*r.size<=arr.size):
 bb C ⟨S.sl,fV S.hp (dJ ks++[(n,some (.row e 0 r))]),S.nx⟩ a w' (iQ ρ n (some (X,cap))) (gC (dX Fs ks) n (dh (f1 X) F)):=by
 have hk: ∀k∈ks,k<S.nx:=fun k h'=>by
  obtain ⟨r,k1,_⟩:=lC k h'
  exact dA h.mem k1
 have own: ∀b,1<=dH Fs ks b->b<w.heap.size/\(C.w0.heap.size<=b\/1<=C.F0 b):=fun b hb=>h.mem.qw b (Nat.le_trans hb (lj Fs b S.nx u_ hk))
 refine h.make hg ks u_ lC (.row e 0 r) (some (X,cap)) _ w' (by rcases hX with ⟨_,h⟩| ⟨_,h⟩<;>omega) Nx Ny zk (fun b hb h0=>rn b hb ?_) (fun b=> ?_) (fun M=> ?_)
 ·rintro rfl
  rcases hX with ⟨h,_⟩| ⟨h,_⟩<;>omega
 ·have:=hF b
  by_cases e:b=X
  ·subst e
   rcases hX with ⟨k1,k2⟩| ⟨k1,k2⟩
   ·rw[if_pos (by omega)];simp;omega
   ·simp;omega
  ·simp[zU,e];omega
 ·refine .inr ⟨X,cap,arr,ty,F,fi ..,jz,h1,h2,hc.mono (fun b hb=> ?_) (fun b hb=> ?_),rfl⟩
  ·rcases hb with hb| ⟨sG,AK,Jh⟩
   ·exact M.zl b hb
   ·obtain ⟨o1,o2⟩:=own b sG
    refine ⟨.inr (.inr ⟨o2,by show b<w'.heap.size;rcases hX with ⟨_,h⟩| ⟨_,h⟩<;>omega,?_⟩),rn b o1 Jh⟩
    have g1:=fN (dX Fs ks) (dh (f1 X) F) b (dA h.mem hg)
    have g2:=ll Fs b S.nx ks u_ hk
    have g3:=h.mem.one b
    have g4:f1 X b=0:=by rw[zU,if_neg Jh]
    simp[g4] at g1
    omega
  ·refine rn b (own b (Nat.le_trans hb (hF b))).1 ?_
   rintro rfl;omega
theorem bb.KI (h:bb C S a w ρ Fs) (hg:S.hp n=some .eW) (ks:List Nat) (u_:ks.Nodup) (lC: ∀k∈ks,∃r,S.hp k=some r/\r.real) (e:Nat) (r:Row) (hl:r.len=0) (w':World) (hw:w'.heap=w.heap) (Nx:w'.os=w.os) (Ny:w'.tape=w.tape) (zk:w'.output=w.output):
 bb C ⟨S.sl,fV S.hp (dJ ks++[(n,some (.row e 0 r))]),S.nx⟩ a w' (iQ ρ n none) (gC (dX Fs ks) n fz):=
 h.make hg ks u_ lC (.row e 0 r) none _ w' (by rw[hw];exact Nat.le_refl _) Nx Ny zk (fun b hb _=>by rw[hw]) (fun b=>by simp) (fun M=> .inl ⟨fi ..,hl,rfl⟩)
def Cell.ok:Cell->Prop
 | .sc v=>v.oneCell' =true
 | .sl _ _=>True
 | .free=>False
theorem Qx (r:Row): ∀c∈r.cells,c.ok:=by
 intro c hc
 cases r with
 |ints k l=>simp only[Row.cells,List.mem_map] at hc;obtain ⟨x,_,rfl⟩:=hc;rfl
 |du l=>simp only[Row.cells,List.mem_map] at hc;obtain ⟨x,_,rfl⟩:=hc;rfl
 |strs l=>simp only[Row.cells,List.mem_map] at hc;obtain ⟨x,_,rfl⟩:=hc;rfl
 |rows o l=>simp only[Row.cells,List.mem_map] at hc;obtain ⟨x,_,rfl⟩:=hc;trivial
 |dw sg o l=>
  simp only[Row.cells,List.mem_flatMap] at hc
  obtain ⟨x,_,hc⟩:=hc
  obtain ⟨j,hj⟩:=List.getElem?_of_mem hc
  rw[ic] at hj
  cases hs:sg[j]? with
  |none=>rw[hs] at hj;cases hj
  |some b=>rw[hs] at hj;cases b<;>(simp at hj;subst hj)<;>first|rfl|trivial
theorem IX {w:World} {Z:Zs} {c:Cell} {v:Value} {F:FP} (hc:c.ok) (h:fv w Z c v F):v.oneCell' =true:=by
 cases c with
 |sc u=>obtain ⟨rfl,_⟩:=h;exact hc
 |sl o l=>obtain ⟨A,cap,hv,_⟩:=Cs h;rw[hv];rfl
 |free=>exact hc.elim
theorem uW {w:World} {Z:Zs}: ∀ {cs:List Cell} {vs:List Value} {F:FP},(∀c∈cs,c.ok)->aj w Z cs vs F->vs.length<=cs.length-> ∀u∈vs,u.oneCell' =true
 | [],[],_,_,_,_,u,hu=>by cases hu
 | [],v::vs,_,_,_,hl,u,hu=>by simp at hl
 |c::cs,v::vs,F,hc,⟨F1,F2,h1,h2,hF⟩,hl,u,hu=>by
  rcases List.mem_cons.1 hu with rfl|hu
  ·exact IX (hc c (by simp)) h1
  ·exact uW (fun c' Hf=>hc c' (by simp[Hf])) h2 (by simpa using hl) u hu
theorem xC {w:World} {Z:Zs}: ∀ {cs:List Cell} {vs:List Value} {F:FP},(∀c∈cs,(∃v,c= .sc v)\/ ∃l,c= .sl false l)->aj w Z cs vs F->F=fz
 | [],_,_,_,h=>h
 |c::cs,v::vs,F,hc,⟨F1,F2,h1,h2,hF⟩=>by
  have e2:=xC (fun c' Hf=>hc c' (by simp[Hf])) h2
  have e1:F1=fz:=by
   rcases hc c (by simp) with ⟨u,rfl⟩| ⟨l,rfl⟩
   ·exact h1.2
   ·exact h1.1
  rw[hF,e1,e2,cp]
theorem Ap {w:World} {Z Z':Zs}: ∀ {cs:List Cell} {vs:List Value} {F:FP},(∀c∈cs,∃v,c= .sc v)->aj w Z cs vs F->aj w Z' cs vs F
 | [],_,_,_,h=>h
 |c::cs,v::vs,F,hc,⟨F1,F2,h1,h2,hF⟩=>by
  obtain ⟨u,rfl⟩:=hc c (by simp)
  exact ⟨F1,F2,h1,Ap (fun c' Hf=>hc c' (by simp[Hf])) h2,hF⟩
def Row.loose:Row->Bool
 | .rows true _=>false
 | .dw _ true _=>false
 |_=>true
theorem Aq {r:Row} (h:r.loose=true): ∀c∈r.cells,(∃v,c= .sc v)\/ ∃l,c= .sl false l:=by
 intro c hc
 cases r with
 |ints k l=>simp only[Row.cells,List.mem_map] at hc;obtain ⟨x,_,rfl⟩:=hc;exact .inl ⟨_,rfl⟩
 |du l=>simp only[Row.cells,List.mem_map] at hc;obtain ⟨x,_,rfl⟩:=hc;exact .inl ⟨_,rfl⟩
 |strs l=>simp only[Row.cells,List.mem_map] at hc;obtain ⟨x,_,rfl⟩:=hc;exact .inl ⟨_,rfl⟩
 |rows o l=>cases o with
  |true=>cases h
  |false=>simp only[Row.cells,List.mem_map] at hc;obtain ⟨x,_,rfl⟩:=hc;exact .inr ⟨_,rfl⟩
 |dw sg o l=>cases o with
  |true=>cases h
  |false=>
   simp only[Row.cells,List.mem_flatMap] at hc
   obtain ⟨x,_,hc⟩:=hc
   obtain ⟨j,hj⟩:=List.getElem?_of_mem hc
   rw[ic] at hj
   cases hs:sg[j]? with
   |none=>rw[hs] at hj;cases hj
   |some b=>rw[hs] at hj;cases b<;>(simp at hj;subst hj)<;>first|exact .inl ⟨_,rfl⟩|exact .inr ⟨_,rfl⟩
theorem LO (m:iM C S.hp S.nx w ρ Fs) {id e ver:Nat} {r:Row} (ao:S.hp id=some (.row e ver r)) {lo hi:Nat} (h1:lo<=hi) (h2:hi<=r.len) {tx e':TypeId} (hk:P.underlying tx=some (.slice e')):
 ∃news F,Src P r.size tx (lD (ρ id) r.size lo hi) (hi-lo) news w/\aj w (C.ZL w (ar S.nx Fs)) ((r.take hi).drop lo).cells news F/\ ∀b,F b<=Fs id b:=by
 rcases m.roots id _ ao with ⟨g1,g2,g3⟩| ⟨b,cap,arr,ty,F',g1,g2,g3,g4,g5,g6⟩
 ·simp only[Cx.env] at g1
  have e1:lo=0:=by omega
  have e2:hi=0:=by omega
  subst e1 e2
  refine ⟨[],fz,by rw[g1];exact Src.ofNil w hk 0,?_,fun b=>by simp⟩
  rw[yb (by rw[pn,take_len];omega)]
  rfl
 ·simp only[Cx.env] at g1 g2
  obtain ⟨F1,t1,t2⟩:=g5.take (hi*r.size)
  obtain ⟨F2,t3,t4⟩:=t1.drop (lo*r.size)
  have ui:((r.take hi).drop lo).cells=(r.cells.take (hi*r.size)).drop (lo*r.size):=by rw[Cq,rX,take_size]
  rw[<- ui] at t3
  have Xk:r.cells.length<=arr.size:=by have:=g5.length;simpa using this
  have N7:r.cells.length=r.len*r.size:=Row.eG r
  have hm1:hi*r.size<=r.len*r.size:=Nat.mul_le_mul_right _ h2
  have Vh:lo*r.size<=hi*r.size:=Nat.mul_le_mul_right _ h1
  have S1:((arr.toList.take (hi*r.size)).drop (lo*r.size)).length=(hi-lo)*r.size:=by
   rw[Nat.sub_mul];simp;omega
  refine ⟨_,F2,?_,t3,fun b=> ?_⟩
  ·rw[g1]
   simp only[lD]
   refine Src.ofSlice w hk _ _ _ _ S1 (fun j u hj=> ?_) (uW (Qx _) t3 (by rw[S1,Row.eG,pn,take_len,EE,take_size];exact Nat.mul_le_mul_right _ (by omega)))
   rw[List.getElem?_drop,List.getElem?_take] at hj
   split at hj
   ·rename_i EO
    split
    ·rename_i hc
     exfalso
     have:hi=lo:=by omega
     subst this
     omega
    ·rw[ef,bO g2]
     simpa using hj
   ·cases hj
  ·have:=t2 b;have:=t4 b;rw[g6];simp;omega
theorem Qy (r:Row):(r.take r.len).drop 0=r:=by
 cases r<;>simp[Row.take,Row.drop,Row.len]
theorem AX (q:Option (Nat×Nat)) (s n:Nat):lD q s 0 n=hdr q n:=by
 cases q with
 |none=>rfl
 |some q=>obtain ⟨b,cap⟩:=q;simp only[lD,hdr,Nat.zero_mul,Nat.sub_zero];split<;>rfl
theorem Sa {Z:Zs} {r:Row} {v:Value} (h:fw w Z r v) {tx e':TypeId} (hk:P.underlying tx=some (.slice e')): ∃news,Src P r.size tx v r.len news w/\aj w Z r.cells news fz:=by
 obtain ⟨A,cap,h1,h2,h3⟩:=h
 subst h1
 rcases Nat.eq_zero_or_pos r.len with h0|h0
 ·refine ⟨[],?_,by rw[yb h0];rfl⟩
  rw[h0]
  cases A with
  |none=>exact Src.ofNil w hk cap
  |some ad=>exact Src.ofSlice w hk ad 0 cap [] (by simp) (by simp) (by simp)
 ·obtain ⟨ad,rfl,hz,vs,g1,g2⟩:=h3 (by omega)
  have hl:=g2.length
  have g3:=g2.shrink
  have S1:(vs.take r.cells.length).length=r.cells.length:=by simp;omega
  refine ⟨vs.take r.cells.length,Src.ofSlice w hk ad _ cap _ (by rw[S1,Row.eG]) (fun j u hj=> ?_) (uW (Qx _) g3 (by omega)),g3⟩
  rw[List.getElem?_take] at hj
  split at hj
  ·rw[g1 j ‹_›];exact hj
  ·cases hj
theorem Ar (m:iM C S.hp S.nx w ρ Fs) {r0:Row} {x:LV} {y:Row} {ks rc:List Nat} (he:nn S.hp r0 x=some (y,ks,rc)) (h0:r0.len=0) {tx:TypeId} (ZO:(∃s,x= .s s)\/ ∃e',P.underlying tx=some (.slice e')) (y7: ∀s,x= .s s->P.underlying tx=some .string) {v:Value} (hv:eS (C.env w ρ S.hp S.nx Fs) x v):
 ∃news F,Src P y.size tx v y.len news w/\aj w (C.ZL w (ar S.nx Fs)) y.cells news F/\(∀b,F b<=dH Fs ks b)/\lu S.hp ks/\ ∀k∈ks,k∈rc:=by
 have xh:(∀s,x≠ .s s)-> ∃e',P.underlying tx=some (.slice e'):=fun hn=>by
  rcases ZO with ⟨s,h⟩|h
  ·exact absurd h (hn s)
  ·exact h
 unfold nn at he
 split at he
 ·cases he
  obtain ⟨e',hk⟩:=xh (by simp)
  have hv:v= .slice none 0 0:=hv
  rw[hv,h0,yb h0]
  exact ⟨[],fz,Src.ofNil w hk 0,rfl,fun b=>by simp,lu.nil _,by simp⟩
 ·rename_i id
  obtain ⟨e',hk⟩:=xh (by simp)
  split at he
  ·rename_i e ver r ao
   obtain ⟨_,hx⟩:=hv
   obtain ⟨r',e1,e2⟩:=hx _ ao
   cases e1
   obtain ⟨news,F,s1,s2,s3⟩:=LO (P:=P) m ao (Nat.zero_le _) (Nat.le_refl r.len) hk
   rw[AX,Nat.sub_zero] at s1
   rw[Qy] at s2
   simp only[Cx.env] at e2
   rw[<- e2] at s1
   have big:y=r->ks=[id]->rc=[id]-> ∃news F,Src P y.size tx v y.len news w/\aj w (C.ZL w (ar S.nx Fs)) y.cells news F/\(∀b,F b<=dH Fs ks b)/\lu S.hp ks/\ ∀k∈ks,k∈rc:=fun hy u_ SY=>by
    subst hy u_ SY
    exact ⟨news,F,s1,s2,fun b=>by have:=s3 b;simp[dH];exact this,⟨by simp,fun k hk=>by simp at hk;subst hk;exact ⟨_,_,_,ao⟩⟩,fun k hk=>hk⟩
   split at he
   ·cases he;exact big rfl rfl rfl
   ·cases he;exact big rfl rfl rfl
   ·rename_i jX sH
    cases he
    have AW:y.loose=true:=by
     cases y with
     |rows o l=>cases o<;>first|rfl|exact absurd rfl (jX _)
     |dw sg o l=>cases o<;>first|rfl|exact absurd rfl (sH _ _)
     |_=>rfl
    have hF:=xC (Aq AW) s2
    subst hF
    exact ⟨news,fz,s1,s2,fun b=>by simp,lu.nil _,by simp⟩
  ·cases he
 ·rename_i id lo hi
  obtain ⟨e',hk⟩:=xh (by simp)
  split at he
  ·rename_i e ver r ao
   obtain ⟨_,hx⟩:=hv
   obtain ⟨r',e1,l1,l2,e2⟩:=hx _ ao
   cases e1
   obtain ⟨news,F,s1,s2,s3⟩:=LO (P:=P) m ao l1 l2 hk
   simp only[Cx.env] at e2
   rw[<- e2] at s1
   have hlen:((r.take hi).drop lo).len=hi-lo:=by rw[pn,take_len];omega
   have mL:((r.take hi).drop lo).size=r.size:=by rw[EE,take_size]
   split at he
   ·cases he
   ·cases he
   ·rename_i jX sH
    cases he
    have AW:((r.take hi).drop lo).loose=true:=by
     cases r with
     |rows o l=>cases o<;>first|rfl|exact absurd rfl (jX _)
     |dw sg o l=>cases o<;>first|rfl|exact absurd rfl (sH _ _)
     |_=>rfl
    have hF:=xC (Aq AW) s2
    subst hF
    rw[hlen,mL]
    exact ⟨news,fz,s1,s2,fun b=>by simp,lu.nil _,by simp⟩
  ·cases he
 ·rename_i s
  cases he
  have hv:v= .string s:=hv
  rw[hv]
  refine ⟨byteCells s,fz,?_,?_,fun b=>by simp,lu.nil _,by simp⟩
  ·have:=Src.ofString (P:=P) w (y7 s rfl) s
   have hl:(Row.ints .u8 (s.data.toList.map fun b=>(b.toNat:Int))).len=s.size:=by simp[Row.len]<;>rfl
   rw[hl]
   exact this
  ·simp only[Row.cells,byteCells,List.map_map]
   generalize s.data.toList=l
   induction l with
   |nil=>rfl
   |cons b l ih=>exact ⟨fz,fz,⟨rfl,rfl⟩,ih,(cp _).symm⟩
 ·rename_i x' jX sH vI Hb
  obtain ⟨e',hk⟩:=xh (fun s hs=>Hb s hs)
  split at he
  ·rename_i r Oc ES
   cases he
   have Vj:=nV m ES hv
   obtain ⟨news,s1,s2⟩:=Sa (P:=P) Vj hk
   cases x with
   |val p r'=>
    simp only[ib,Option.some.injEq,Prod.mk.injEq] at ES
    obtain ⟨rfl,rfl⟩:=ES
    exact ⟨news,fz,s1,s2.mono (fun b hb=>⟨(by rcases hb with hb| ⟨k,hk,_⟩<;>first|exact hb| (cases hk;done)),rfl⟩) (fun b _=>rfl),fun b=>by simp,lu.nil _,by simp⟩
   |inner id ver i f=>
    have: ∃l,y= .ints .i64 l:=by
     simp only[ib] at ES
     split at ES
     ·obtain ⟨_,ES⟩:=ak ES;cases ES;exact ⟨_,rfl⟩
     ·obtain ⟨_,ES⟩:=ak ES;cases ES;exact ⟨_,rfl⟩
     ·cases ES
    obtain ⟨l,rfl⟩:=this
    exact ⟨news,fz,s1,Ap (fun c hc=>by simp only[Row.cells,List.mem_map] at hc;obtain ⟨x,_,rfl⟩:=hc;exact ⟨_,rfl⟩) s2,fun b=>by simp,lu.nil _,by simp⟩
   |own id=>exact absurd rfl (sH id)
   |sub id lo hi=>exact absurd rfl (vI id lo hi)
   |_=>simp[ib] at ES
  ·cases he
theorem NB {base y r:Row} (h:base.Df y=some r):r.len=base.len+y.len/\r.size=base.size/\y.size=base.size/\ ∃o:Bool,(o=true->r.cells=base.cells++y.cells)/\(o=false->r.cells=(base.cells++y.cells).map Cell.fL):=by
 cases base<;>cases y<;>simp only[Row.Df] at h<;>try (cases h;done)
 ·replace h:=ak h
  obtain ⟨hk,h⟩:=h
  have:=of_decide_eq_true hk
  subst this
  cases h
  exact ⟨by simp[Row.len],rfl,rfl,true,fun _=>by simp[Row.cells],fun h=>by cases h⟩
 ·cases h
  exact ⟨by simp[Row.len],rfl,rfl,true,fun _=>by simp[Row.cells],fun h=>by cases h⟩
 ·cases h
  exact ⟨by simp[Row.len],rfl,rfl,true,fun _=>by simp[Row.cells],fun h=>by cases h⟩
 ·rename_i o l o' l'
  cases h
  refine ⟨by simp[Row.len],rfl,rfl,o&&o',fun hh=> ?_,fun hh=> ?_⟩
  ·obtain ⟨rfl,rfl⟩:=aE hh;simp[Row.cells]
  ·simp[Row.cells,Cell.fL,Function.comp_def,hh]
 ·rename_i sg o l SQ o' l'
  replace h:=ak h
  obtain ⟨hk,h⟩:=h
  have:=eq_of_beq hk
  subst this
  cases h
  refine ⟨by simp[Row.len],rfl,rfl,o&&o',fun hh=> ?_,fun hh=> ?_⟩
  ·obtain ⟨rfl,rfl⟩:=aE hh;simp[Row.cells]
  ·rw[hh];simp[Row.cells,List.map_flatMap,lx]
theorem GK {w:World} {b o:Nat} {arr:Array Value} {ty:TypeId} (hb:w.heap[b]? =some (.cells arr ty (0,0))) {vs:List Value} (lP: ∀v∈vs,v.oneCell' =true) (Ge:o+vs.length<=arr.size) (P:Program):w.setCells b o vs=w.setRow b (arr.toList.take o++vs++arr.toList.drop (o+vs.length)).toArray:=by
 have h1:=run_storeCells_at P b o ty vs 0 arr w hb (by simpa using Ge) lP
 have h2:=run_storeCells_cells (P:=P) b o vs 0 w (fun j hj=>by rw[bO hb];simp;omega) (fun j hj=>by simp[World.frozen?,hb]) lP
 simp only[Nat.add_zero] at h1 h2
 rw[h1] at h2
 injection h2 with _ h3
 exact h3.symm
structure KJ (C:Cx) (S:St) (w:World) (Fs:Nat->FP) (base:Row) (sv:Value) (kb:List Nat):Prop where
 is:(sv= .slice none 0 0/\base.len=0)\/ ∃X cap arr ty Fb,sv= .slice (some ⟨X,0,none⟩) base.len cap/\w.heap[X]? =some (.cells arr ty (0,0))/\base.len<=cap/\cap*base.size<=arr.size/\aj w (C.ZL w (ar S.nx Fs)) base.cells arr.toList Fb/\ ∀b,Fb b+f1 X b<=dH Fs kb b
theorem As (T:mW P tt) (h:bb C S a w ρ Fs) (hg:S.hp n=some .eW) {t e tx ty:TypeId} {i:TypeInfo} {z:Value} (ht:P.underlying t=some (.slice e)) (hi:P.info? e=some i) (hz:i.zero=some z) (S0:z.cells.size=i.size) (FF:0<i.size) (VA:0<i.bytes)
 {base y r:Row} (NC:base.Df y=some r) (LP:base.size=i.size) (S2:(base.len+y.len)*i.bytes<=140737488355328) {sv xv:Value} {news:List Value} {Fy:FP} (src:Src P y.size tx xv y.len news w) (hy:aj w (C.ZL w (ar S.nx Fs)) y.cells news Fy) {ks kb:List Nat} (ZP: ∀b,Fy b<=dH Fs ks b) (KK:lu S.hp (ks++kb)) (hb:KJ C S w Fs base sv kb) (e':Nat):
 ∃w' q F',(Builtin.append_ #[t,tx] ty #[sv,xv]).run P w= .ok (hdr q r.len) w' /\bb C ⟨S.sl,fV S.hp (dJ (ks++kb)++[(n,some (.row e' 0 r))]),S.nx⟩ a w' (iQ ρ n q) (gC (dX Fs (ks++kb)) n F'):=by
 obtain ⟨a1,a2,a3,o,a4,a5⟩:=NB NC
 have RG:y.size=i.size:=by omega
 rw[RG] at src
 have hk:=KK.lt h.mem (Sub.refl _)
 have lC:=KK.live (Sub.refl _)
 have yy: ∀b,dH Fs ks b+dH Fs kb b<=1:=fun b=>by
  have:=lj Fs b S.nx KK.1 hk
  have:=h.mem.one b
  rw[eT] at*
  omega
 have hold: ∀b,1<=dH Fs (ks++kb) b->b<w.heap.size:=fun b hb=>(h.mem.qw b (Nat.le_trans hb (lj Fs b S.nx KK.1 hk))).1
 have UU:base.len+y.len<=140737488355328:=Nat.le_trans (Nat.le_mul_of_pos_right _ VA) S2
 have S1:news.length=y.len*i.size:=src.newsLen
 have S3: ∀(bs:Option Addr) (sc:Nat) (olds:List Value) (Fo:FP),sv= .slice bs base.len sc->sc<base.len+y.len->(Builtin.firstCells i.size base.len (.slice bs base.len sc)).run P w.drew= .ok olds.toArray w.drew->olds.length=base.len*i.size->aj w (C.ZL w (ar S.nx Fs)) base.cells olds Fo->(∀b,Fo b<=dH Fs kb b)->
  ∃w' q F',(Builtin.append_ #[t,tx] ty #[sv,xv]).run P w= .ok (hdr q r.len) w' /\bb C ⟨S.sl,fV S.hp (dJ (ks++kb)++[(n,some (.row e' 0 r))]),S.nx⟩ a w' (iQ ρ n q) (gC (dX Fs (ks++kb)) n F'):=by
  intro bs sc olds Fo Sb hsc hf S4 Xp hFo
  have lU:=run_append_grow_src (P:=P) w t tx ty e i z ht hi hz bs base.len sc olds hf xv y.len news src hsc (by omega) (growslice_fits hsc S2)
  have Z6:=grownCap_ge w (base.len+y.len) sc e
  have Qz:=aj.append Xp (by rw[S4,Row.eG,LP]) hy
  have hF: ∀b,dh Fo Fy b<=dH Fs (ks++kb) b:=fun b=>by
   have:=hFo b;have:=ZP b;rw[eT];simp;omega
  have Yj:dh Fo Fy w.heap.size=0:=by
   rcases Nat.eq_zero_or_pos (dh Fo Fy w.heap.size) with h0|h0
   ·exact h0
   ·have:=hold _ (Nat.le_trans h0 (hF _));omega
  obtain ⟨F',s1,s2,s3⟩:=Ao (ks:=ks++kb) (X:=w.heap.size) Qz hF Yj o (ct:=r.cells) (cf:=r.cells) a4 a5
  have mL:((olds++news).toArray++Builtin.zeroCells z.cells (grownCap w (base.len+y.len) sc e-(base.len+y.len))).size=grownCap w (base.len+y.len) sc e*i.size:=by
   have e1:(Builtin.zeroCells z.cells (grownCap w (base.len+y.len) sc e-(base.len+y.len))).size=(grownCap w (base.len+y.len) sc e-(base.len+y.len))*i.size:=by rw[<- S0];simp[Builtin.zeroCells]
   rw[Array.size_append,e1,List.size_toArray,List.length_append,S4,S1,<- Nat.add_mul,<- Nat.add_mul]
   congr 1
   omega
  refine ⟨_,some (w.heap.size,grownCap w (base.len+y.len) sc e),_,?_,bb.Qw h hg (ks++kb) KK.1 lC w.heap.size (grownCap w (base.len+y.len) sc e) _ e e' r F' (w.drew.alloc (.cells ((olds++news).toArray++Builtin.zeroCells z.cells (grownCap w (base.len+y.len) sc e-(base.len+y.len))) e)) (.inl ⟨rfl,pz w.drew _⟩) (fun b hb _=>xR w.drew _ hb) (xS w.drew _) rfl rfl rfl ?_ s2 s3 (by rw[a1];exact Z6) (by rw[a2,LP,mL];exact Nat.le_refl _)⟩
  ·rw[Sb,lU,a1];rfl
  ·have e2:(if o=true then r.cells else r.cells)=r.cells:=by cases o<;>rfl
   rw[e2] at s1
   rw[Array.toList_append]
   exact s1.more _
 rcases hb.is with ⟨Sb,Jp⟩| ⟨X,cap,arr,bty,Fb,Sb,hX,wQ,t_,hcb,RH⟩
 ·by_cases hn:y.len=0
  ·have lU:=run_append_nothing (P:=P) w t tx ty e i ht hi none 0 0 (Nat.le_refl _) xv (by
    have:=src
    rw[hn] at this
    have hnn:news=[]:=List.eq_nil_of_length_eq_zero (by rw[S1,hn,Nat.zero_mul])
    rw[hnn] at this
    exact this)
   refine ⟨w,none,fz,by rw[Sb,lU];rfl,bb.KI h hg (ks++kb) KK.1 lC e' r (by omega) w rfl rfl rfl rfl⟩
  ·refine S3 none 0 [] fz (by rw[Sb,Jp]) (by omega) (by rw[Jp];exact run_firstCells_none ..) (by rw[Jp];simp) (by rw[yb Jp];rfl) (fun b=>by simp)
 ·have ui:base.cells.length=base.len*i.size:=by rw[Row.eG,LP]
  have hlen:base.len*i.size<=arr.size:=by
   rw[LP] at t_
   exact Nat.le_trans (Nat.mul_le_mul_right _ wQ) t_
  have Vx:(arr.toList.take (base.len*i.size)).length=base.len*i.size:=by simp;omega
  have Xp:=hcb.shrink
  rw[ui] at Xp
  by_cases hr:base.len+y.len<=cap
  ·have Ge:base.len*i.size+news.length<=arr.size:=by
    rw[S1,<- Nat.add_mul]
    rw[LP] at t_
    exact Nat.le_trans (Nat.mul_le_mul_right _ hr) t_
   have lU:=run_append_room_src (P:=P) w t tx ty e i ht hi X 0 base.len cap xv y.len news src hr (fun j hj=>by rw[bO hX];simp;omega) (fun j hj=>by simp[World.frozen?,hX])
   rw[Nat.zero_add,GK hX src.one Ge P] at lU
   have Qz:=aj.append Xp (by rw[Vx,ui]) hy
   have hF: ∀b,dh Fb Fy b<=dH Fs (ks++kb) b:=fun b=>by
    have:=RH b;have:=ZP b;rw[eT];simp;omega
   have hkX:1<=dH Fs kb X:=by have:=RH X;simp at this;omega
   have Yj:dh Fb Fy X=0:=by
    have h1:=RH X;have h2:=ZP X;have h3:=yy X
    simp at h1
    simp;omega
   obtain ⟨F',s1,s2,s3⟩:=Ao (ks:=ks++kb) (X:=X) Qz hF Yj o (ct:=r.cells) (cf:=r.cells) a4 a5
   refine ⟨_,some (X,cap),_,by rw[Sb,lU,a1];rfl,bb.Qw h hg (ks++kb) KK.1 lC X cap _ bty e' r F' (w.setRow X (arr.toList.take (base.len*i.size)++news++arr.toList.drop (base.len*i.size+news.length)).toArray) (.inr ⟨by rw[eT];omega,setRow_size ..⟩) (fun b _ lG=>setRow_other w X _ lG) (setRow_heap w X arr _ bty _ hX) rfl rfl rfl ?_ s2 s3 (by omega) (by
    rw[a2,LP,List.size_toArray]
    rw[LP] at t_
    simp only[List.length_append,List.length_take,List.length_drop,Array.length_toList]
    omega)⟩
   have e2:(if o=true then r.cells else r.cells)=r.cells:=by cases o<;>rfl
   rw[e2] at s1
   exact s1.more _
  ·refine S3 (some ⟨X,0,none⟩) cap (arr.toList.take (base.len*i.size)) Fb Sb (by omega) (run_firstCells_some (P:=P) w.drew i.size base.len ⟨X,0,none⟩ base.len cap _ Vx (fun j v hj=> ?_)) Vx Xp (fun b=>by have:=RH b;omega)
   have Vy:j<base.len*i.size:=by rw[<- Vx];exact (List.getElem?_eq_some_iff.1 hj).1
   rw[ef,Nat.zero_add]
   have:w.drew.cell? ⟨X,j,none⟩=w.cell? ⟨X,j,none⟩:=rfl
   rw[this,bO hX]
   rw[List.getElem?_take,if_pos Vy] at hj
   simpa using hj
theorem Dq (ks ks':List Nat):dJ (ks++ks')=dJ ks++dJ ks':=by simp[dJ]
theorem CB (m:iM C S.hp S.nx w ρ Fs) {id e ver:Nat} {r:Row} (ao:S.hp id=some (.row e ver r)) {hi:Nat} (Ej:hi<=r.len):KJ C S w Fs (r.take hi) (hdr (ρ id) hi) [id]:=by
 rcases m.roots id _ ao with ⟨g1,g2,g3⟩| ⟨b,cap,arr,ty,F',g1,g2,g3,g4,g5,g6⟩
 ·simp only[Cx.env] at g1
  exact ⟨.inl ⟨by rw[g1];rfl,by rw[take_len];omega⟩⟩
 ·simp only[Cx.env] at g1 g2
  obtain ⟨F1,t1,t2⟩:=g5.take (hi*r.size)
  rw[<- rX] at t1
  have hl:(r.take hi).len=hi:=by rw[take_len];omega
  refine ⟨.inr ⟨b,cap,arr,ty,F1,by rw[g1,hl];rfl,g2,by omega,by rw[take_size];exact g4,?_,fun b'=> ?_⟩⟩
  ·have:arr.toList=arr.toList.take (hi*r.size)++arr.toList.drop (hi*r.size):=(List.take_append_drop ..).symm
   rw[this]
   exact t1.more _
  ·have:=t2 b';simp only[dH];rw[g6];simp;omega
theorem qW (r:Row):r.take r.len=r:=by
 cases r<;>simp[Row.take,Row.len]
theorem vz {o:Oper} {c:Call} {f:Tmp} {s x:Operand} {t tx:TypeId} (ho:o.op= .call c) (hc:c.callee= .builtin .append) (gU:c.args.toList=[s,x]) (y7:c.argTypes.toList=[t,tx]) {v:Value} {w':World} (hr:(Builtin.append_ #[t,tx] o.type #[a.eval s,a.eval x]).run P w= .ok v w'):(execOp a.eval o).run P w= .ok (.value v) w':=by
 have e1:c.args= #[s,x]:=by apply Array.ext';simpa using gU
 have e2:c.argTypes= #[t,tx]:=by apply Array.ext';simpa using y7
 simp[execOp,ho,resolve,hc,e1,e2,invoke,builtin,hr,Result.andThen]
theorem bb.Sc (h:bb C S a w ρ Fs) (hg:S.hp n=some .eW) {id e ver i:Nat} {l:List (List Int)} (ao:S.hp id=some (.row e ver (.rows true l))) (hi:i<l.length) {v:Value} (hv:cellAt w (ρ id) i=some v) (e':Nat):
 ∃q Fs',bb C ⟨S.sl,fV S.hp [(id,some (.hole e ver (.rows true l) i 0)),(n,some (.row e' 0 (.ints .i64 l[i])))],S.nx⟩ a w (iQ ρ n q) Fs' /\v=hdr q l[i].length:=by
 have lG:id≠n:=by rintro rfl;rw[ao] at hg;cases hg
 have mC:=dA h.mem ao
 have Iv:=dA h.mem hg
 have Vi:Fs n=fz:=h.mem.roots n _ hg
 cases hρ:ρ id with
 |none=>rw[hρ] at hv;cases hv
 |some q=>
  obtain ⟨b,cap⟩:=q
  rw[hρ] at hv
  obtain ⟨arr,ty,F,g1,g2,g3,g4,g5,g6⟩:=pW h.mem ao hρ (by simp only[Row.len];omega)
  simp only[cellAt] at hv
  rw[bO g1] at hv
  have hc:(Row.rows true l).cells[i]? =some (.sl true l[i]):=by simp[Row.cells,hi]
  obtain ⟨v',F1,F2,k1,k2,k3,k4⟩:=g4.get hc
  have Az:arr.toList[i]? =some v:=by simpa using hv
  rw[Az] at k1;cases k1
  have B7:=k4 .free v fz rfl
  have sT:arr.toList.set i v=arr.toList:=by
   apply List.ext_getElem?
   intro j
   rw[List.getElem?_set]
   by_cases e:i=j
   ·subst e;rw[if_pos rfl,if_pos (List.getElem?_eq_some_iff.1 Az).1,Az]
   ·rw[if_neg e]
  rw[sT,jy] at B7
  have ou: ∀j,fV S.hp [(id,some (.hole e ver (.rows true l) i 0)),(n,some (.row e' 0 (.ints .i64 l[i])))] j=if j=n then some (.row e' 0 (.ints .i64 l[i])) else if j=id then some (.hole e ver (.rows true l) i 0) else S.hp j:=fun j=>by
   rw[show [(id,some (aw.hole e ver (.rows true l) i 0)),(n,some (.row e' 0 (.ints .i64 l[i])))] =[(id,some (aw.hole e ver (.rows true l) i 0))]++[(n,some (.row e' 0 (.ints .i64 l[i])))] from rfl,ch,gA,gA]
  have PZ: ∃q,v=hdr q l[i].length/\ ∀(E':Env),E'.w=w->E'.ρ n=q->jj E' n (.row e' 0 (.ints .i64 l[i])) F1:=by
   rcases k2 with ⟨p1,p2,p3⟩| ⟨b2,yp,u7,Od,q1,q2,q3,q4,q5,q6⟩
   ·refine ⟨none,by rw[p1,p2];rfl,fun E' Q7 hq=> .inl ⟨hq,by rw[p2];rfl,p3⟩⟩
   ·refine ⟨some (b2,yp),by rw[q1];rfl,fun E' Q7 hq=> .inr ⟨b2,yp,u7,Od,fz,hq,by rw[Q7];exact q2,by simpa[Row.len] using q3,by simpa[Row.size] using q4,?_,by rw[cp];exact q6⟩⟩
    refine aj.J8 fun j c hj=> ?_
    simp only[Row.cells,List.getElem?_map] at hj
    cases Ax:l[i][j]? with
    |none=>rw[Ax] at hj;cases hj
    |some z=>
     rw[Ax] at hj
     cases hj
     exact ⟨_,by simpa using q5 j z Ax,rfl,rfl⟩
  obtain ⟨q,P1,Nh⟩:=PZ
  have jY: ∀b',ar S.nx (gC (gC Fs id (dh (f1 b) F2)) n F1) b' =ar S.nx Fs b':=fun b'=>by
   have e1:=fN (gC Fs id (dh (f1 b) F2)) F1 b' Iv
   have e2:=fN Fs (dh (f1 b) F2) b' mC
   rw[dQ _ _ (Ne.symm lG),Vi] at e1
   rw[g5,k3] at e2
   simp at e1 e2
   omega
  refine ⟨q,gC (gC Fs id (dh (f1 b) F2)) n F1,?_,P1⟩
  refine h.gen _ _ w _ _ (fun _=>False) (Nat.le_refl _) rfl rfl rfl (fun _ _ _=>rfl) (fun _ h=>h.elim) (Nat.le_refl _) (fun j hj u9=>oa _ _ (by rintro rfl;exact u9 _ hg)) (fun j hj=> ?_) (fun j hj=> .inl ⟨by rw[ou,if_neg (by omega),if_neg (by omega)];exact h.mem.fresh j hj,by rw[dQ _ _ (by omega),dQ _ _ (by omega)];exact h.mem.dead j (h.mem.fresh j hj)⟩) (fun b'=>by rw[jY];exact h.mem.one b') (fun b' pJ=> .inl (by rw[jY] at pJ;exact pJ))
  by_cases e1:j=n
  ·subst e1
   exact .mn .eW _ hg (by rw[ou,if_pos rfl]) trivial (fun M=>by rw[iC];exact Nh _ rfl (fi ..))
  ·by_cases e2:j=id
   ·subst e2
    refine .mn _ (.hole e ver (.rows true l) i 0) ao (by rw[ou,if_neg e1,if_pos rfl]) ⟨rfl,rfl,Nat.le_refl _⟩ (fun M=> ?_)
    rw[dQ _ _ e1,iC]
    refine ⟨by simpa[Row.len] using hi,by simp[Row.size],.inr ⟨b,cap,arr,ty,F2,by show iQ ρ n q j=_;rw[oa _ _ e1];exact hρ,g1,g2,g3,?_,rfl⟩⟩
    simp only[Row.size,Nat.mul_one,Nat.add_zero]
    exact B7.mono (fun b hb=>M.zl b hb) (fun b _=>rfl)
   ·exact .same (by rw[ou,if_neg e1,if_neg e2]) (by rw[dQ _ _ e1,dQ _ _ e2]) (fun _ _ h=>h)
theorem At {hp hp':Nat->Option aw} {r0:Row} {x:LV} {y:Row} {ks rc:List Nat} (he:nn hp r0 x=some (y,ks,rc)) (hh: ∀j∈rc,hp' j=hp j):nn hp' r0 x=some (y,ks,rc):=by
 cases x with
 |own id=>
  simp only[nn] at he ⊢
  have:id∈rc:=by
   split at he
   ·split at he<;>cases he<;>simp
   ·cases he
  rw[hh id this];exact he
 |sub id lo hi=>
  simp only[nn] at he ⊢
  have:id∈rc:=by
   split at he
   ·split at he<;>cases he;simp
   ·cases he
  rw[hh id this];exact he
 |inner id ver i f=>
  simp only[nn,ib] at he ⊢
  have:id∈rc:=by
   split at he
   ·rename_i r Oc hq
    cases he
    split at hq
    ·obtain ⟨_,hq⟩:=ak hq;cases hq;simp
    ·obtain ⟨_,hq⟩:=ak hq;cases hq;simp
    ·cases hq
   ·cases he
  rw[hh id this];exact he
 |_=>exact he
theorem CC {hp:Nat->Option aw} {r0:Row} {x:LV} {y:Row} {ks rc:List Nat} (he:nn hp r0 x=some (y,ks,rc)): ∀j∈rc,∃e v r,hp j=some (.row e v r):=by
 cases x with
 |own id=>
  simp only[nn] at he
  split at he
  ·rename_i e v r ao
   split at he<;>cases he<;>(intro j hj;simp at hj;subst hj;exact ⟨_,_,_,ao⟩)
  ·cases he
 |sub id lo hi=>
  simp only[nn] at he
  split at he
  ·rename_i e v r ao
   split at he<;>cases he;(intro j hj;simp at hj;subst hj;exact ⟨_,_,_,ao⟩)
  ·cases he
 |inner id ver i f=>
  simp only[nn,ib] at he
  split at he
  ·rename_i r Oc hq
   cases he
   split at hq
   ·rename_i ao;obtain ⟨_,hq⟩:=ak hq;cases hq;intro j hj;simp at hj;subst hj;exact ⟨_,_,_,ao⟩
   ·rename_i ao;obtain ⟨_,hq⟩:=ak hq;cases hq;intro j hj;simp at hj;subst hj;exact ⟨_,_,_,ao⟩
   ·cases hq
  ·cases he
 |val p r=>simp only[nn,ib,Option.some.injEq,Prod.mk.injEq] at he;obtain ⟨_,_,rfl⟩:=he;simp
 |nil=>simp only[nn,Option.some.injEq,Prod.mk.injEq] at he;obtain ⟨_,_,rfl⟩:=he;simp
 |s x=>simp only[nn,Option.some.injEq,Prod.mk.injEq] at he;obtain ⟨_,_,rfl⟩:=he;simp
 |_=>simp[nn,ib] at he
theorem QA (T:mW P tt) {r0:Row} {x:LV} {tx:Nat} (h:(match x with| .s _=>(match tt tx with|some ⟨.str,_,_⟩=>r0.size==1|_=>false)|_=>(kB tt tx).isSome)=true):((∃s,x= .s s)\/ ∃e',P.underlying tx=some (.slice e'))/\(∀s,x= .s s->P.underlying tx=some .string):=by
 split at h
 ·rename_i s
  refine ⟨.inl ⟨s,rfl⟩,fun _ _=> ?_⟩
  split at h
  ·rename_i sz bs hq;exact (T tx _ hq).desc
  ·cases h
 ·rename_i hn
  obtain ⟨e',he⟩:=Option.isSome_iff_exists.1 h
  exact ⟨.inr ⟨e',lc T he⟩,fun s hs=>absurd hs (hn s)⟩
theorem CD (T:mW P tt) (h:bb C S a w ρ Fs) {o:Oper} {c:Call} {t tx:Nat} {s x:Operand} (ho:o.op= .call c) (hc:c.callee= .builtin .append) (gU:c.args.toList=[s,x]) (y7:c.argTypes.toList=[t,tx]) {E:iy} (he:ng (R:=iy) tt S.hp n t tx (St.rd C.N S.sl s) (St.rd C.N S.sl x) some=some E) (hg: ∀k,n<=k->k<E.nx->S.hp k=some .eW): ∃w' ρ' Fs' u,Out P C S o E a w w' ρ' Fs' u:=by
 unfold ng at he
 split at he
 ·rename_i e sv xv oF hs hx
  split at he
  ·rename_i r0 G7
   split at he
   ·rename_i y ks rc U3
    replace he:=ak he
    obtain ⟨ZO,he⟩:=he
    obtain ⟨tx1,tx2⟩:=QA T ZO
    obtain ⟨te,q1,q2,q3,q4⟩:=nZ T G7
    obtain ⟨i,z,z1,z2,z3,z4,z5,z6⟩:=mr T q1 q3
    have xh:=lc T oF
    have S0:z.cells.size=i.size:=by
     have:=congrArg List.length z3
     simp only[Array.length_toList,List.length_map] at this
     omega
    have VA:0<i.bytes:=by rw[z5];exact (T e te q1).some.2
    have hbb:bytesOf tt e=i.bytes:=by simp[bytesOf,q1,z5]
    obtain ⟨news,Fy,y1,y2,y3,y4,y5⟩:=Ar (P:=P) h.mem U3 (ky G7) tx1 tx2 (iv h hx)
    have fin: ∀(base:Row) (kb:List Nat) (E:iy),qE (R:=iy) tt e r0 base y ks (dJ kb) n (rc++kb) some=some E->lu S.hp (ks++kb)->KJ C S w Fs base (a.eval s) kb->(∀k,n<=k->k<E.nx->S.hp k=some .eW)-> ∃w' ρ' Fs' u,Out P C S o E a w w' ρ' Fs' u:=by
     intro base kb E he Xq Xr hg
     unfold qE at he
     split at he
     ·rename_i r NC
      replace he:=ak he
      obtain ⟨LP,he⟩:=he
      have LP:=eq_of_beq LP
      replace he:=fp he
      obtain ⟨S5,he⟩:=he
      have S5:=of_decide_eq_true S5
      cases he
      have U4:=hg n (Nat.le_refl _) (Nat.lt_succ_self _)
      obtain ⟨w',q,F',k1,k2⟩:=As T h U4 xh z1 z2 S0 (by omega) VA NC (by omega) (by rw[<- hbb];exact S5) y1 y2 (ty:=o.type) y3 Xq Xr e
      refine ⟨w',iQ ρ n q,gC (dX Fs (ks++kb)) n F',hdr q r.len,.inl (vz (f:=0) ho hc gU y7 k1),?_,?_⟩
      ·rw[Dq] at k2;exact k2
      ·refine ⟨dA h.mem U4,fun root hr=> ?_⟩
       simp only[Cx.env] at hr ⊢
       have:fV S.hp (dJ ks++dJ kb++[(n,some (.row e 0 r))]) n=some (.row e 0 r):=by rw[ch,gA,if_pos rfl]
       rw[this] at hr
       cases hr
       exact ⟨r,rfl,by rw[fi]⟩
     ·cases he
    have LQ: ∀id e' ver r,S.hp id=some (.row e' ver r)->rc.elem id=false->lu S.hp (ks++[id]):=fun id e' ver r ao oF=>by
     refine ⟨List.nodup_append.2 ⟨y4.1,by simp,fun a ha b hb=> ?_⟩,fun k hk=> ?_⟩
     ·simp at hb
      subst hb
      rintro rfl
      rw[List.elem_iff.2 (y5 a ha)] at oF;cases oF
     ·rcases List.mem_append.1 hk with hk|hk
      ·exact y4.2 k hk
      ·simp at hk;subst hk;exact ⟨_,_,_,ao⟩
    split at he
    ·exact fin r0 [] E (by simpa[dJ] using he) (by simpa using y4) ⟨.inl ⟨iv h hs,ky G7⟩⟩ hg
    ·rename_i id
     split at he
     ·rename_i e' ver r ao
      cases oF:rc.elem id with
      |true=>rw[oF] at he;cases he
      |false=>
       rw[oF] at he
       simp only[cond_false] at he
       obtain ⟨_,uU⟩:=iv h hs
       obtain ⟨r',e1,e2⟩:=uU _ ao
       cases e1
       refine fin r [id] E (by simpa[dJ] using he) (LQ id _ _ _ ao oF) ?_ hg
       have:=CB h.mem ao (Nat.le_refl _)
       rw[qW] at this
       rw[e2]
       exact this
     ·cases he
    ·rename_i id lo hi
     split at he
     ·rename_i e' ver r ao
      cases oF:rc.elem id with
      |true=>rw[oF] at he;cases he
      |false=>
       rw[oF] at he
       simp only[cond_false] at he
       replace he:=ak he
       obtain ⟨AW,he⟩:=he
       have AW:=eq_of_beq AW
       subst AW
       obtain ⟨_,uU⟩:=iv h hs
       obtain ⟨r',e1,_,l2,e2⟩:=uU _ ao
       cases e1
       refine fin (r.take hi) [id] E (by simpa[dJ] using he) (LQ id _ _ _ ao oF) ?_ hg
       have:=CB h.mem ao l2
       rw[e2,AX]
       exact this
     ·cases he
    ·rename_i id ver i' f
     split at he
     ·rename_i bt v l ao
      cases GJ:rc.elem id with
      |true=>rw[GJ] at he;cases he
      |false=>
       rw[GJ] at he
       simp only[cond_false] at he
       replace he:=ak he
       obtain ⟨hv,he⟩:=he
       have hv:=eq_of_beq hv
       subst hv
       unfold qE at he
       split at he
       ·rename_i r NC
        replace he:=ak he
        obtain ⟨LP,he⟩:=he
        have LP:=eq_of_beq LP
        replace he:=fp he
        obtain ⟨S5,he⟩:=he
        have S5:=of_decide_eq_true S5
        cases he
        have U4:=hg n (Nat.le_refl _) (by simp only[];omega)
        have Sd:=hg (n+1) (Nat.le_succ _) (by simp only[];omega)
        obtain ⟨_,uU⟩:=iv h hs
        obtain ⟨_,_,Ig⟩:=uU _ ao
        obtain ⟨m1,m2,m4⟩:=Ig bt _ rfl
        simp only[Row.kZ] at m1
        have GI:=eq_of_beq m1
        subst GI
        simp only[Row.len] at m2
        simp only[Row.size,Nat.mul_one,Nat.add_zero,Cx.env] at m4
        obtain ⟨q,Fs',h1,P1⟩:=h.Sc U4 ao m2 m4 e
        have lG:id≠n:=by rintro rfl;rw[ao] at U4;cases U4
        have ZQ:id≠n+1:=by rintro rfl;rw[ao] at Sd;cases Sd
        have ou: ∀j,fV S.hp [(id,some (.hole bt v (.rows true l) i' 0)),(n,some (.row e 0 (.ints .i64 l[i'])))] j=if j=n then some (.row e 0 (.ints .i64 l[i'])) else if j=id then some (.hole bt v (.rows true l) i' 0) else S.hp j:=fun j=>by
         rw[show [(id,some (aw.hole bt v (.rows true l) i' 0)),(n,some (.row e 0 (.ints .i64 l[i'])))] =[(id,some (aw.hole bt v (.rows true l) i' 0))]++[(n,some (.row e 0 (.ints .i64 l[i'])))] from rfl,ch,gA,gA]
        have SY: ∀j∈rc,j≠id/\j≠n:=fun j hj=>by
         refine ⟨?_,?_⟩
         ·rintro rfl;rw[List.elem_iff.2 hj] at GJ;cases GJ
         ·rintro rfl
          obtain ⟨_,_,_,hl⟩:=CC U3 j hj
          rw[U4] at hl;cases hl
        have Xs:=At U3 (hp':=fV S.hp [(id,some (.hole bt v (.rows true l) i' 0)),(n,some (.row e 0 (.ints .i64 l[i'])))]) (fun j hj=>by rw[ou,if_neg (SY j hj).2,if_neg (SY j hj).1])
        have UW:eS (C.env w (iQ ρ n q) (fV S.hp [(id,some (.hole bt v (.rows true l) i' 0)),(n,some (.row e 0 (.ints .i64 l[i'])))]) S.nx Fs') xv (a.eval x):=by
         have:=h1.rd x
         rw[hx] at this
         exact this
        obtain ⟨aaQ,Fy1,w1,w2,w3,w4,w5⟩:=Ar (P:=P) h1.mem Xs (ky G7) tx1 tx2 UW
        have QB:fV S.hp [(id,some (.hole bt v (.rows true l) i' 0)),(n,some (.row e 0 (.ints .i64 l[i'])))] n=some (.row e 0 (.ints .i64 l[i'])):=by rw[ou,if_pos rfl]
        have MD:l.getD i' [] =l[i']:=by simp[m2]
        rw[MD] at NC LP S5
        have Xt:lu (fV S.hp [(id,some (.hole bt v (.rows true l) i' 0)),(n,some (.row e 0 (.ints .i64 l[i'])))]) (ks++[n]):=by
         refine ⟨List.nodup_append.2 ⟨w4.1,by simp,fun a ha b hb=> ?_⟩,fun k hk=> ?_⟩
         ·simp at hb
          subst hb
          exact (SY a (w5 a ha)).2
         ·rcases List.mem_append.1 hk with hk|hk
          ·exact w4.2 k hk
          ·simp at hk;subst hk;exact ⟨_,_,_,QB⟩
        have sG:=CB h1.mem QB (Nat.le_refl (Row.ints .i64 l[i']).len)
        rw[qW,fi] at sG
        have Sb:a.eval s=hdr q (Row.ints .i64 l[i']).len:=P1
        rw[<- Sb] at sG
        have Z8:fV S.hp [(id,some (.hole bt v (.rows true l) i' 0)),(n,some (.row e 0 (.ints .i64 l[i'])))] (n+1)=some .eW:=by rw[ou,if_neg (by omega),if_neg (Ne.symm ZQ)];exact Sd
        obtain ⟨w',q',F',k1,k2⟩:=As T h1 Z8 xh z1 z2 S0 (by omega) VA NC (by omega) (by rw[<- hbb];exact S5) w1 w2 (ty:=o.type) w3 Xt sG e
        have ZR:fV (fV S.hp [(id,some (.hole bt v (.rows true l) i' 0)),(n,some (.row e 0 (.ints .i64 l[i'])))]) (dJ (ks++[n])++[(n+1,some (.row e 0 r))])=fV S.hp (dJ ks++[(id,some (.hole bt v (.rows true l) i' 0)),(n,none)]++[(n+1,some (.row e 0 r))]):=by
         funext j
         rw[ch,gA,ob,kC,ou,ch,gA,ch,show [(id,some (aw.hole bt v (.rows true l) i' 0)),(n,none)] =[(id,some (aw.hole bt v (.rows true l) i' 0))]++[(n,none)] from rfl,ch,gA,gA,ob,kC]
         by_cases j1:j=n+1
         ·simp[j1]
         ·by_cases j2:j=n
          ·simp[j2]
          ·by_cases j3:j=id
           ·subst j3
            have:j∉ks:=fun hh=>(SY j (w5 j hh)).1 rfl
            simp[j1,j2,this]
           ·simp[j1,j2,j3]
        rw[ZR] at k2
        refine ⟨w',iQ (iQ ρ n q) (n+1) q',gC (dX Fs' (ks++[n])) (n+1) F',hdr q' r.len,.inl (vz (f:=0) ho hc gU y7 k1),k2,?_⟩
        refine ⟨dA h.mem Sd,fun root hr=> ?_⟩
        simp only[Cx.env] at hr ⊢
        have:fV S.hp (dJ ks++[(id,some (.hole bt v (.rows true l) i' 0)),(n,none)]++[(n+1,some (.row e 0 r))]) (n+1)=some (.row e 0 r):=by rw[ch,gA,if_pos rfl]
        rw[this] at hr
        cases hr
        exact ⟨r,rfl,by rw[fi]⟩
       ·cases he
     ·cases he
    ·cases he
   ·cases he
  ·cases he
 ·cases he
end
section
variable {P:Program} {tt:TT} {C:Cx} {S:St} {a:Act} {w:World} {ρ:Place} {Fs:Nat->FP} {n:Nat}
theorem ud {o:Oper} {c:Call} {s x:Operand} {t tx:TypeId} (ho:o.op= .call c) (hc:c.callee= .builtin .copy) (gU:c.args.toList=[s,x]) (y7:c.argTypes.toList=[t,tx]) {v:Value} {w':World} (hr:(Builtin.copy_ #[t,tx] o.type #[a.eval s,a.eval x]).run P w= .ok v w'):(execOp a.eval o).run P w= .ok (.value v) w':=by
 have e1:c.args= #[s,x]:=by apply Array.ext';simpa using gU
 have e2:c.argTypes= #[t,tx]:=by apply Array.ext';simpa using y7
 simp[execOp,ho,resolve,hc,e1,e2,invoke,builtin,hr,Result.andThen]
theorem bb.QC (h:bb C S a w ρ Fs) {id:Nat} {root:aw} (G7:S.hp id=some root) {b cap:Nat} (hρ:ρ id=some (b,cap)) {arr arr':Array Value} {ty:TypeId} (hb:w.heap[b]? =some (.cells arr ty (0,0))) (e ver:Nat) (r:Row) (i f:Nat) (hi:i<r.len) (hf:f<r.size) (F:FP)
 (hc:aj w (C.ZL w (ar S.nx Fs)) (r.cells.set (i*r.size+f) .free) arr'.toList F) (hF: ∀b',F b' +f1 b b' <=Fs id b') (h1:r.len<=cap) (h2:cap*r.size<=arr'.size) (hl:xQ w (w.setRow b arr') (ρ id) root (.hole e ver r i f)):
 bb C ⟨S.sl,fV S.hp [(id,some (.hole e ver r i f))],S.nx⟩ a (w.setRow b arr') ρ (gC (dX Fs []) id (dh (f1 b) F)):=by
 have mC:=dA h.mem G7
 have RH:F b=0:=by
  have:=hF b
  have:=j9 Fs b mC
  have:=h.mem.one b
  simp at*
  omega
 have ME:1<=Fs id b:=by have:=hF b;simp at this;omega
 have:=h.R2 [] (by simp) (by simp) id (by simp) root (.hole e ver r i f) G7 (dh (f1 b) F) (w.setRow b arr') (setRow_size ..) rfl rfl rfl (fun b' pJ h0=>setRow_other w b arr' (by rintro rfl;omega)) (fun b'=>by have:=hF b';simp;omega) hl (fun M=>
  ⟨hi,hf,.inr ⟨b,cap,arr',ty,F,hρ,setRow_heap w b arr arr' ty _ hb,h1,h2,hc.mono (fun b' pJ=>M.zl b' pJ) (fun b' pJ=>setRow_other w b arr' (by rintro rfl;omega)),rfl⟩⟩)
 exact this
theorem ND (hp:Nat->Option aw) {id:Nat} {root:aw} (h:hp id=some root):fV hp [(id,some root)] =hp:=by
 funext j
 rw[gA]
 by_cases e:j=id
 ·subst e;rw[if_pos rfl,h]
 ·rw[if_neg e]
theorem GL (T:mW P tt) (h:bb C S a w ρ Fs) {o:Oper} {c:Call} {t tx:Nat} {s x:Operand} (ho:o.op= .call c) (hc:c.callee= .builtin .copy) (gU:c.args.toList=[s,x]) (y7:c.argTypes.toList=[t,tx]) {E:iy} (he:sk (R:=iy) tt S.hp n t (St.rd C.N S.sl s) (St.rd C.N S.sl x) some=some E): ∃w' ρ' Fs' u,Out P C S o E a w w' ρ' Fs' u:=by
 unfold sk at he
 replace he:=ak he
 obtain ⟨Yk,he⟩:=he
 have oF: ∃e,kB tt t=some e/\bz tt e=1:=by
  cases hq:kB tt t with
  |none=>rw[hq] at Yk;cases Yk
  |some e=>rw[hq] at Yk;exact ⟨e,rfl,eq_of_beq Yk⟩
 obtain ⟨e,oF,mL⟩:=oF
 have G6: ∃te,tt e=some te:=by
  cases hq:tt e with
  |none=>simp[bz,hq] at mL
  |some te=>exact ⟨te,rfl⟩
 obtain ⟨te,G6⟩:=G6
 obtain ⟨ti,t1,t2⟩:=wA T G6
 have QT:(P.info? e).map (·.size)=some 1:=by
  rw[t1];simp only[Option.map_some,Option.some.injEq]
  rw[t2];simpa[bz,G6] using mL
 have hu:=lc T oF
 split at he
 ·rename_i id lo hi Ye jk tN hs hx
  obtain ⟨gr,UW⟩:=iv h hs
  obtain ⟨acY,uU⟩:=iv h hx
  split at he
  ·rename_i bt ver k l ao
   replace he:=ak he
   obtain ⟨hid,he⟩:=he
   have hid:=eq_of_beq hid
   subst hid
   cases he
   obtain ⟨r1,e1,a1,a2,a3⟩:=UW _ ao
   cases e1
   obtain ⟨r2,e2,b1,b2,b3⟩:=uU _ ao
   cases e2
   simp only[Row.len] at a2 b2
   simp only[Row.size,Cx.env] at a3 b3
   by_cases hm:min (tN-jk) (hi-lo)=0
   ·
    have ZS:l.take lo++(((l.take tN).drop jk).take (hi-lo)++l.drop (lo+min (tN-jk) (hi-lo)))=l:=by
     have:((l.take tN).drop jk).take (hi-lo)=[]:=by
      apply List.eq_nil_of_length_eq_zero
      simp only[List.length_take,List.length_drop]
      omega
     rw[this,hm,List.nil_append,Nat.add_zero,List.take_append_drop]
    have ER: ∃d dc,a.eval s= .slice d (hi-lo) dc:=by
     rw[a3]
     cases hρ:ρ id with
     |none=>
      have:=h.mem.roots id _ ao
      rcases this with ⟨_,g2,_⟩| ⟨b,cap,arr,ty,F',g1,_⟩
      ·simp only[Row.len] at g2
       have:hi-lo=0:=by omega
       rw[this];exact ⟨_,_,rfl⟩
      ·simp only[Cx.env] at g1;rw[hρ] at g1;cases g1
     |some q=>exact ⟨_,_,rfl⟩
    have KZ: ∃d dc,a.eval x= .slice d (tN-jk) dc:=by
     rw[b3]
     cases hρ:ρ id with
     |none=>
      have:=h.mem.roots id _ ao
      rcases this with ⟨_,g2,_⟩| ⟨b,cap,arr,ty,F',g1,_⟩
      ·simp only[Row.len] at g2
       have:tN-jk=0:=by omega
       rw[this];exact ⟨_,_,rfl⟩
      ·simp only[Cx.env] at g1;rw[hρ] at g1;cases g1
     |some q=>exact ⟨_,_,rfl⟩
    obtain ⟨d,dc,ER⟩:=ER
    obtain ⟨d',dc',KZ⟩:=KZ
    have lU:=run_copy_none (P:=P) w t tx o.type e d d' (hi-lo) dc (tN-jk) dc' hu QT hm
    rw[<- ER,<- KZ] at lU
    rw[ZS,hm]
    refine ⟨w,ρ,Fs,goInt 0,.inl (ud ho hc gU y7 lU),by rw[ND S.hp ao];exact h,rfl⟩
   ·have FF:0<l.length:=by omega
    obtain ⟨b,cap,hρ,_⟩:=ld h.mem ao rfl (by simpa[Row.len] using FF)
    obtain ⟨arr,ty,F,g1,g2,g3,g4,g5,g6⟩:=pW h.mem ao hρ (by simpa[Row.len] using FF)
    simp only[Row.len] at g2
    simp only[Row.size,Nat.mul_one] at g3
    have hFz:F=fz:=wu (fun c hc=>by simp only[Row.cells,List.mem_map] at hc;obtain ⟨x,_,rfl⟩:=hc;exact ⟨_,rfl⟩) g4
    rw[hρ] at a3 b3
    simp only[lD,Nat.mul_one] at a3 b3
    rw[if_neg (by omega)] at a3 b3
    have Nz: ∀j,j<l.length->arr.toList[j]? =some (.int k (l.getD j 0)):=fun j hj=>by
     obtain ⟨v,F1,F2,q1,q2,_⟩:=g4.get (j:=j) (c:= .sc (.int k l[j])) (by simp[Row.cells,hj])
     obtain ⟨rfl,_⟩:=q2
     rw[q1];simp[hj]
    have hmm:min (tN-jk) (hi-lo)=((l.drop jk).take (min (tN-jk) (hi-lo))).length:=by simp;omega
    have Qt:((l.take tN).drop jk).take (hi-lo)=(l.drop jk).take (min (tN-jk) (hi-lo)):=by
     rw[List.drop_take,List.take_take,Nat.min_comm]
    let m:=min (tN-jk) (hi-lo)
    let cs:List Value:=((l.drop jk).take m).map (Value.int k)
    have ui:cs.length=m:=by simp[cs,m];omega
    have lU:=run_copy_row (P:=P) w t tx o.type e b lo (hi-lo) (cap-lo) ⟨b,jk,none⟩ (tN-jk) (cap-jk) arr ty cs hu QT g1 (by rw[ui]) (fun j v hj=>by
     rw[ef,bO g1]
     simp only[cs,List.getElem?_map] at hj
     cases Ax:((l.drop jk).take m)[j]? with
     |none=>rw[Ax] at hj;cases hj
     |some z=>
      rw[Ax] at hj
      cases hj
      rw[List.getElem?_take] at Ax
      split at Ax
      ·rw[List.getElem?_drop] at Ax
       have hb:=(List.getElem?_eq_some_iff.1 Ax).1
       have:=Nz (jk+j) hb
       rw[List.getD_eq_getElem?_getD,Ax] at this
       simpa using this
      ·cases Ax) (by rw[ui];simp only[m];omega) (fun v hv=>by simp only[cs,List.mem_map] at hv;obtain ⟨z,_,rfl⟩:=hv;rfl)
    rw[<- a3,<- b3] at lU
    have sQ:aj w (C.ZL w (ar S.nx Fs)) (Row.ints k (l.take lo++(((l.take tN).drop jk).take (hi-lo)++l.drop (lo+min (tN-jk) (hi-lo))))).cells (arr.toList.take lo++cs++arr.toList.drop (lo+cs.length)) fz:=by
     rw[Qt,ui]
     refine aj.J8 fun j c hj=> ?_
     simp only[Row.cells,List.map_append,List.append_assoc] at hj
     rw[List.append_assoc]
     have Zw:arr.toList.length=arr.size:=by simp
     by_cases j1:j<lo
     ·rw[List.getElem?_append_left (by simp;omega)] at hj ⊢
      rw[List.getElem?_map,List.getElem?_take,if_pos j1] at hj
      rw[List.getElem?_take,if_pos j1,Nz j (by omega)]
      have:l[j]? =some l[j]:=List.getElem?_eq_getElem (by omega)
      rw[this] at hj
      cases hj
      exact ⟨_,rfl,by simp[show j<l.length by omega],rfl⟩
     ·rw[List.getElem?_append_right (by simp;omega)] at hj ⊢
      have el:(List.map (fun n=>Cell.sc (.int k n)) (l.take lo)).length=lo:=by simp;omega
      have el2:(arr.toList.take lo).length=lo:=by simp;omega
      rw[el] at hj
      rw[el2]
      by_cases j2:j-lo<m
      ·have e1:(List.map (fun n=>Cell.sc (.int k n)) (List.take (min (tN-jk) (hi-lo)) (List.drop jk l))).length=m:=by simp[m];omega
       rw[List.getElem?_append_left (by omega)] at hj ⊢
       rw[List.getElem?_map] at hj
       simp only[cs,List.getElem?_map,m]
       cases hq:(List.take (min (tN-jk) (hi-lo)) (List.drop jk l))[j-lo]? with
       |none=>rw[hq] at hj;cases hj
       |some z=>rw[hq] at hj;cases hj;exact ⟨_,rfl,rfl,rfl⟩
      ·have e1:(List.map (fun n=>Cell.sc (.int k n)) (List.take (min (tN-jk) (hi-lo)) (List.drop jk l))).length=m:=by simp[m];omega
       rw[List.getElem?_append_right (by omega)] at hj ⊢
       rw[e1,List.getElem?_map,List.getElem?_drop] at hj
       rw[ui,List.getElem?_drop]
       have e2:lo+min (tN-jk) (hi-lo)+(j-lo-m)=j:=by simp only[m];simp only[m] at j2;omega
       have e3:lo+m+(j-lo-m)=j:=by omega
       rw[e2] at hj
       rw[e3]
       cases hq:l[j]? with
       |none=>rw[hq] at hj;cases hj
       |some z=>
        rw[hq] at hj
        cases hj
        have hb:=(List.getElem?_eq_some_iff.1 hq).1
        have:=Nz j hb
        rw[List.getD_eq_getElem?_getD,hq] at this
        exact ⟨_,this,rfl,rfl⟩
    have hlen:(l.take lo++(((l.take tN).drop jk).take (hi-lo)++l.drop (lo+min (tN-jk) (hi-lo)))).length=l.length:=by
     simp only[List.length_append,List.length_take,List.length_drop]
     omega
    have hrel:=bb.GG h [] (by simp) (by simp) (by simp) ao hρ g1 bt ver (.ints k (l.take lo++(((l.take tN).drop jk).take (hi-lo)++l.drop (lo+min (tN-jk) (hi-lo))))) fz (arr':=(arr.toList.take lo++cs++arr.toList.drop (lo+cs.length)).toArray) (by
     simp only[List.toList_toArray]
     exact sQ.mono (fun b hb=>⟨.inl hb,rfl⟩) (fun b _=>rfl)) (fun b'=>by rw[g5];simp;omega) (by rw[g5];simp) (by simp only[Row.len];omega) (by
     simp only[Row.size,List.size_toArray,List.length_append,List.length_take,List.length_drop,Array.length_toList,ui,m]
     omega) (oh (by simp only[Row.len];exact hlen) rfl (Nat.le_refl _) (fun _=>rfl) (fun _=>rfl))
    refine ⟨_,ρ,_,goInt cs.length,.inl (ud ho hc gU y7 lU),hrel,?_⟩
    rw[ui]
    rfl
  ·rename_i bt ver l ao
   replace he:=ak he
   obtain ⟨hid,he⟩:=he
   have hid:=eq_of_beq hid
   subst hid
   replace he:=fp he
   obtain ⟨AA,he⟩:=he
   cases he
   obtain ⟨AA,c4⟩:=aE AA
   obtain ⟨AA,c3⟩:=aE AA
   obtain ⟨c1,c2⟩:=aE AA
   have c1:=eq_of_beq c1
   have c2:=eq_of_beq c2
   have c3:=eq_of_beq c3
   have c4:=of_decide_eq_true c4
   subst c1 c2 c3
   obtain ⟨r1,e1,a1,a2,a3⟩:=UW _ ao
   cases e1
   obtain ⟨r2,e2,b1,b2,b3⟩:=uU _ ao
   cases e2
   simp only[Row.size,Cx.env] at a3 b3
   have FF:0<(Row.rows true l).len:=by simp only[Row.len];omega
   obtain ⟨b,cap,hρ,_⟩:=ld h.mem ao rfl FF
   obtain ⟨arr,ty,F,g1,g2,g3,g4,g5,g6⟩:=pW h.mem ao hρ FF
   simp only[Row.len] at g2
   simp only[Row.size,Nat.mul_one] at g3
   rw[hρ] at a3 b3
   simp only[lD,Nat.mul_one] at a3 b3
   rw[if_neg (by omega)] at b3
   have Zw:arr.toList.length=arr.size:=by simp
   let A:=(l.take jk).map (Cell.sl true)
   let M:=((l.drop jk).dropLast).map (Cell.sl true)
   have Xu: ∃z,l.drop jk=(l.drop jk).dropLast++[z]:=by
    have lG:l.drop jk≠[]:=by intro hh;have:=congrArg List.length hh;simp at this;omega
    exact ⟨(l.drop jk).getLast lG,(List.dropLast_concat_getLast lG).symm⟩
   obtain ⟨z,hz⟩:=Xu
   have Xl:A.length=jk:=by simp[A];omega
   have Yl:M.length=l.length-jk-1:=by simp[M]
   have oZ:(Row.rows true l).cells=A++(M++[.sl true z]):=by
    show l.map _=_
    conv=>lhs;rw[<- List.take_append_drop jk l,hz]
    simp[A,M]
   rw[oZ] at g4
   obtain ⟨FA,F2,s1,s2,s3⟩:=aj.split g4
   obtain ⟨FM,FL,s4,s5,s6⟩:=aj.split s2
   rw[Xl] at s1 s4
   let V:List Value:=(arr.toList.drop jk).take M.length
   have ZT:V.length=M.length:=by simp[V,Yl];omega
   have Xv: ∀v∈V,v.oneCell' =true:=uW (fun c hc=>by simp only[M,List.mem_map] at hc;obtain ⟨_,_,rfl⟩:=hc;trivial) s4 (by omega)
   have Xw: ∃w',(Builtin.copy_ #[t,tx] o.type #[a.eval s,a.eval x]).run P w= .ok (goInt V.length) w' /\w' =w.setRow b (arr.toList.take (jk+1)++V++arr.toList.drop (jk+1+V.length)).toArray:=by
    by_cases hm:V.length=0
    ·have ZU:Nat.min (l.length-jk) (l.length-(jk+1))=0:=by
      have:Nat.min (l.length-jk) (l.length-(jk+1))=min (l.length-jk) (l.length-(jk+1)):=rfl
      omega
     rw[a3,b3]
     refine ⟨w,by rw[hm];exact run_copy_none (P:=P) w t tx o.type e _ _ _ _ _ _ hu QT ZU,?_⟩
     have Z7:V=[]:=List.eq_nil_of_length_eq_zero hm
     rw[Z7]
     simp only[List.append_nil,List.length_nil,Nat.add_zero,List.take_append_drop,Array.toArray_toList]
     exact (setRow_self w b arr ty (0,0) g1).symm
    ·rw[if_neg (by omega)] at a3
     have lU:=run_copy_row (P:=P) w t tx o.type e b (jk+1) (l.length-(jk+1)) (cap-(jk+1)) ⟨b,jk,none⟩ (l.length-jk) (cap-jk) arr ty V hu QT g1 (by
      have:Nat.min (l.length-jk) (l.length-(jk+1))=min (l.length-jk) (l.length-(jk+1)):=rfl
      rw[ZT,Yl,this];omega) (fun j v hj=>by
      rw[ef,bO g1]
      simp only[V] at hj
      rw[List.getElem?_take] at hj
      split at hj
      ·rw[List.getElem?_drop] at hj;simpa using hj
      ·cases hj) (by rw[ZT,Yl];omega) Xv
     rw[<- a3,<- b3] at lU
     exact ⟨_,lU,rfl⟩
   obtain ⟨w',lU,Q7⟩:=Xw
   have TV:jk<(l.take jk++[]::(l.drop jk).dropLast).length:=by simp;omega
   have hlen:(l.take jk++[]::(l.drop jk).dropLast).length=l.length:=by simp;omega
   have B7:(Row.rows true (l.take jk++[]::(l.drop jk).dropLast)).cells.set (jk*1+0) .free=A++(.free::M):=by
    show ((l.take jk++[]::(l.drop jk).dropLast).map _).set _ _=_
    rw[List.map_append,List.set_append_right _ _ (by simp;omega)]
    have:jk*1+0-(List.map (fun x=>Cell.sl true x) (l.take jk)).length=0:=by simp;omega
    rw[this]
    rfl
   have Xx:arr.toList.take (jk+1)++V++arr.toList.drop (jk+1+V.length)=arr.toList.take jk++(arr.toList[jk]'(by omega)::(V++arr.toList.drop (jk+1+V.length))):=by
    rw[List.append_assoc,List.take_succ_eq_append_getElem (by omega)]
    simp
   have hrel:=bb.QC h ao hρ g1 bt (ver+1) (.rows true (l.take jk++[]::(l.drop jk).dropLast)) jk 0 TV (by simp[Row.size]) (dh FA FM) (arr':=(arr.toList.take (jk+1)++V++arr.toList.drop (jk+1+V.length)).toArray) (by
    simp only[Row.size,List.toList_toArray]
    rw[B7,Xx]
    exact aj.append s1 (by rw[Xl];simp;omega) ⟨fz,FM,rfl,s4.more _,(jy FM).symm⟩)
    (fun b'=>by rw[g5,s3,s6];simp;omega) (by simp only[Row.len];omega) (by
      simp only[Row.size,List.size_toArray,List.length_append,List.length_take,List.length_drop,Array.length_toList]
      omega) ⟨by simp only[Row.len];exact hlen,rfl,Nat.le_succ _⟩
   refine ⟨w',ρ,_,goInt V.length,.inl (ud ho hc gU y7 lU),by rw[Q7];exact hrel,?_⟩
   show goInt V.length=_
   rw[ZT,Yl,Nat.sub_sub]
   rfl
  ·cases he
 ·cases he
end
section
variable {P:Program} {tt:TT} {C:Cx} {S:St} {a:Act} {w:World} {ρ:Place} {Fs:Nat->FP} {n:Nat}
theorem KL {t:Nat} {E:iy} (he:p_ (R:=iy) tt n t some=some E):E.nx=n+1:=by
 unfold p_ at he
 split at he
 ·cases he;rfl
 ·split at he
  ·replace he:=ak he;obtain ⟨_,he⟩:=he;cases he;rfl
  ·cases he
 ·replace he:=ak he;obtain ⟨_,he⟩:=he;cases he;rfl
 ·cases he
theorem QD {hp:Nat->Option aw} {t:Nat} {x:AV} {E:iy} (he:tV (R:=iy) tt hp n t x some=some E):E.nx=n+1:=by
 unfold tV at he
 split at he
 ·cases he
 ·split at he
  ·cases he;rfl
  ·cases he
 ·cases he
theorem CE {t:Nat} {l c:Operand} {x:AV} {E:iy} (he:kj (R:=iy) tt n t l c x some=some E):E.nx=n+1:=by
 unfold kj at he
 replace he:=ak he
 obtain ⟨_,he⟩:=he
 split at he
 ·split at he
  ·obtain ⟨_,_,_,he⟩:=lT he
   replace he:=fp he
   obtain ⟨_,he⟩:=he
   cases he;rfl
  ·cases he
 ·cases he
theorem AF {hp:Nat->Option aw} {t len:Nat} {ps:List (Nat×AV)} {E:iy} (he:gN (R:=iy) tt hp n t len ps some=some E):E.nx=n+1:=by
 unfold gN at he
 split at he
 ·split at he
  ·replace he:=ak he
   obtain ⟨_,he⟩:=he
   split at he
   ·cases he;rfl
   ·cases he
  ·cases he
 ·cases he
theorem qc {o:Oper} {c:Call} {b:Builtin} (ho:o.op= .call c) (hc:c.callee= .builtin b) {v:Value} {w':World} (hr: ∀CF,(builtin b c.argTypes o.type CF (c.args.map a.eval)).run P w= .ok (.value v) w'):(execOp a.eval o).run P w= .ok (.value v) w':=by
 simp only[execOp,ho,resolve,hc]
 simp[invoke]
 exact hr _
theorem NE (T:mW P tt) (h:bb C S a w ρ Fs) {o:Oper} {c:Call} {t:Nat} {x:Operand} {s:ByteArray} (ho:o.op= .call c) (hc:c.callee= .builtin .len) (gU:c.args.toList=[x]) (y7:c.argTypes.toList=[t]) (hx:St.rd C.N S.sl x= .one (.l (.s s))) {sz bs:Nat} (hq:tt t=some ⟨.str,sz,bs⟩): ∃u,Out P C S o ⟨.l (.i .i64 s.size),[],n,[],[]⟩ a w w ρ Fs u:=by
 have hv:a.eval x= .string s:=iv h hx
 have e1:c.args= #[x]:=by apply Array.ext';simpa using gU
 have e2:c.argTypes= #[t]:=by apply Array.ext';simpa using y7
 refine ⟨_,Out.pure h rfl (qc (b:= .len) ho hc fun CF=> ?_) rfl⟩
 rw[e1,e2]
 have:=run_len_string (P:=P) w t o.type s (T t _ hq).desc
 simp[builtin,hv,this,goInt]
theorem QE (T:mW P tt) (h:bb C S a w ρ Fs) {o:Oper} {c:Call} {t e k:Nat} {x:Operand} {y:LV} {rl rc:List Nat} (ho:o.op= .call c) (hc:c.callee= .builtin .len) (gU:c.args.toList=[x]) (y7:c.argTypes.toList=[t]) (hx:St.rd C.N S.sl x= .one (.l y)) (hq:kB tt t=some e) (hl:lenOf S.hp y=some (k,rl,rc)): ∃u,Out P C S o ⟨.l (.i .i64 k),[],n,rl,rc⟩ a w w ρ Fs u:=by
 obtain ⟨A,cap,hv⟩:=IM h.mem hl (iv h hx)
 have e1:c.args= #[x]:=by apply Array.ext';simpa using gU
 have e2:c.argTypes= #[t]:=by apply Array.ext';simpa using y7
 refine ⟨_,Out.pure h rfl (qc (b:= .len) ho hc fun CF=> ?_) rfl⟩
 rw[e1,e2]
 have hu:=lc T hq
 have:=run_len_slice (P:=P) w t o.type A k cap (by rw[hu];simp[Program.elem,hu])
 simp[builtin,hv,this,goInt]
theorem IY (h:bb C S a w ρ Fs) {o:Oper} {c:Call} {x y:Operand} {k:IntKind} {u v:Int} (ho:o.op= .call c) (hc:c.callee= .builtin .min) (gU:c.args.toList=[x,y]) (hx:St.rd C.N S.sl x= .one (.l (.i k u))) (hy:St.rd C.N S.sl y= .one (.l (.i k v))): ∃r,Out P C S o ⟨.l (.i k (if v<u then v else u)),[],n,[],[]⟩ a w w ρ Fs r:=by
 have hu:a.eval x= .int k u:=iv h hx
 have hv:a.eval y= .int k v:=iv h hy
 have e1:c.args= #[x,y]:=by apply Array.ext';simpa using gU
 refine ⟨_,Out.pure h rfl (qc (b:= .min) ho hc fun CF=> ?_) rfl⟩
 rw[e1]
 have:=run_min_int2 (P:=P) w c.argTypes o.type k k u v
 simp[builtin,hu,hv,this]
theorem IZ (h:bb C S a w ρ Fs) {o:Oper} {c:Call} {x y:Operand} {k:IntKind} {u v:Int} (ho:o.op= .call c) (hc:c.callee= .builtin .max) (gU:c.args.toList=[x,y]) (hx:St.rd C.N S.sl x= .one (.l (.i k u))) (hy:St.rd C.N S.sl y= .one (.l (.i k v))): ∃r,Out P C S o ⟨.l (.i k (if v>u then v else u)),[],n,[],[]⟩ a w w ρ Fs r:=by
 have hu:a.eval x= .int k u:=iv h hx
 have hv:a.eval y= .int k v:=iv h hy
 have e1:c.args= #[x,y]:=by apply Array.ext';simpa using gU
 refine ⟨_,Out.pure h rfl (qc (b:= .max) ho hc fun CF=> ?_) rfl⟩
 rw[e1]
 have:=run_max_int2 (P:=P) w c.argTypes o.type k k u v
 simp[builtin,hu,hv,this]
theorem mq.get {E:Env}: ∀ {xs:List A1} {vs:List Value},mq E xs vs-> ∀ {j:Nat} {x:A1},xs[j]? =some x-> ∃v,vs[j]? =some v/\xK E x v
 |x::xs,v::vs,h,0,y,hy=>by simp at hy;subst hy;exact ⟨v,rfl,h.1⟩
 |x::xs,v::vs,h,j+1,y,hy=>by simpa using mq.get h.2 (j:=j) (by simpa using hy)
def B9:Op->Bool
 | .call c=>(match c.callee with| .builtin _=>false|_=>true)
 |_=>false
theorem Se {α β:Type} {f:α->β} {l:List α} {x y:β} (h:l.map f=[x,y]): ∃u v,l=[u,v]/\f u=x/\f v=y:=by
 cases l with
 |nil=>cases h
 |cons u l=>cases l with
  |nil=>simp at h
  |cons v l=>cases l with
   |nil=>simp at h;exact ⟨u,v,rfl,h.1,h.2⟩
   |cons _ _=>simp at h
theorem Xy {α β:Type} {f:α->β} {l:List α} {x:β} (h:l.map f=[x]): ∃u,l=[u]/\f u=x:=by
 cases l with
 |nil=>cases h
 |cons u l=>cases l with
  |nil=>simp at h;exact ⟨u,rfl,h⟩
  |cons _ _=>simp at h
theorem AG {G:gV iy} (T:mW P G.tt) (h:bb C S a w ρ Fs) {o:Oper} {c:Call} {b:Builtin} (ho:o.op= .call c) (hc:c.callee= .builtin b) {E:iy} (he:lr G S.hp n b c.argTypes.toList (c.args.toList.map (St.rd C.N S.sl)) some=some E) (hg: ∀k,n<=k->k<E.nx->S.hp k=some .eW): ∃w' ρ' Fs' u,Out P C S o E a w w' ρ' Fs' u:=by
 generalize A5:c.args.toList.map (St.rd C.N S.sl)=xs at he
 generalize y7:c.argTypes.toList=ts at he
 unfold lr at he
 split at he
 ·rename_i s t
  obtain ⟨x,e1,e2⟩:=Xy A5
  split at he
  ·rename_i sz bs hq
   cases he
   exact ⟨_,_,_,NE T h ho hc e1 y7 e2 hq⟩
  ·cases he
 ·rename_i y t hn
  obtain ⟨x,e1,e2⟩:=Xy A5
  split at he
  ·rename_i k rl rc e' hq hl
   cases he
   exact ⟨_,_,_,QE T h ho hc e1 y7 e2 hq hl⟩
  ·cases he
 ·rename_i s x t tx
  obtain ⟨u,v,e1,e2,e3⟩:=Se A5
  subst e2 e3
  exact CD T h ho hc e1 y7 he hg
 ·rename_i d s t tx
  obtain ⟨u,v,e1,e2,e3⟩:=Se A5
  subst e2 e3
  exact GL T h ho hc e1 y7 he
 ·rename_i k x k' y
  obtain ⟨u,v,e1,e2,e3⟩:=Se A5
  replace he:=ak he
  obtain ⟨hk,he⟩:=he
  have:=of_decide_eq_true hk
  subst this
  cases he
  exact ⟨_,_,_,IY h ho hc e1 e2 e3⟩
 ·rename_i k x k' y
  obtain ⟨u,v,e1,e2,e3⟩:=Se A5
  replace he:=ak he
  obtain ⟨hk,he⟩:=he
  have:=of_decide_eq_true hk
  subst this
  cases he
  exact ⟨_,_,_,IZ h ho hc e1 e2 e3⟩
 ·cases he
theorem yc {R:Type} (p:Bool) (v:LV) (K:LV->Option R):ay p (K v)=(ay p (some v)).bind K:=by cases p<;>rfl
theorem wB {R:Type} (op:BinOp) (x y:LV) (K:LV->Option R):binOp op x y K=(binOp op x y some).bind K:=by
 unfold binOp
 split
 ·exact yc _ _ _
 ·exact yc _ _ _
 ·rename_i k a k' b _ _
  cases decide (k=k') with
  |false=>rfl
  |true=>
   simp only[cond_true]
   split<;>first|rfl|exact yc _ _ _
 all_goals first|rfl|exact yc _ _ _
theorem zp {R:Type} (op:UnOp) (x:LV) (K:LV->Option R):unOp op x K=(unOp op x some).bind K:=by
 unfold unOp
 split<;>rfl
theorem mH {m:Nat} {v:AV} {E:iy} (h:mM m v some=some E):E=⟨v,[],m,[],[]⟩:=by cases h;rfl
theorem Kk {G:gV iy} (T:mW P G.tt) (hN:G.nt=C.N) (h:bb C S a w ρ Fs) {o:Oper} (hf:B9 o.op=false) {E:iy} (he:jA G o.op S.sl S.hp n some=some E) (hg: ∀k,n<=k->k<E.nx->S.hp k=some .eW): ∃w' ρ' Fs' u,Out P C S o E a w w' ρ' Fs' u:=by
 have one:(∃u,Out P C S o E a w w ρ Fs u)-> ∃w' ρ' Fs' u,Out P C S o E a w w' ρ' Fs' u:=fun ⟨u,hu⟩=>⟨_,_,_,u,hu⟩
 have gn:E.nx=n+1->S.hp n=some .eW:=fun hh=>hg n (Nat.le_refl _) (by omega)
 cases ho:o.op with
 |move x=>
  rw[ho] at he
  simp only[jA,hN] at he
  cases mH he
  exact one ⟨_,Out.pure h rfl (run_move (.inl ho) w) (h.rd x)⟩
 |assign x=>
  rw[ho] at he
  simp only[jA,hN] at he
  cases mH he
  exact one ⟨_,Out.pure h rfl (run_move (.inr ho) w) (h.rd x)⟩
 |pick c x y=>
  rw[ho] at he
  simp only[jA,hN] at he
  split at he
  ·rename_i b hc
   have hv:a.eval c= .bool b:=iv h hc
   cases b with
   |true=>cases mH he;exact one ⟨_,Out.pure h rfl (IG ho hv w) (h.rd x)⟩
   |false=>cases mH he;exact one ⟨_,Out.pure h rfl (IG ho hv w) (h.rd y)⟩
  ·cases he
 |alloc t=>
  rw[ho] at he
  simp only[jA,hN] at he
  exact Dm T h ho he (gn (KL he))
 |box t x=>
  rw[ho] at he
  simp only[jA,hN] at he
  exact IQ T h ho he (gn (QD he))
 |build t ps=>
  rw[ho] at he
  simp only[jA,hN] at he
  exact one (Dn T h ho he)
 |buildSlice t len ps=>
  rw[ho] at he
  simp only[jA,hN] at he
  exact wy T h ho he (gn (AF he))
 |load t p=>
  rw[ho] at he
  simp only[jA,hN] at he
  exact one (GB T h ho he)
 |store t p x=>
  rw[ho] at he
  simp only[jA,hN] at he
  exact Dp T h ho he
 |nilCheck x=>
  rw[ho] at he
  simp only[jA,hN] at he
  split at he
  ·rename_i id k hx
   have hr:=iv h hx
   obtain ⟨gr,u9,b,cap,hρ,hv⟩:=hr
   cases mH he
   exact one ⟨_,Out.pure h rfl (Gx ho hv w) (by have:=h.rd x;rw[hx,hv] at this;exact this)⟩
  ·cases he
 |binOp op t x y u=>
  rw[ho] at he
  simp only[jA,hN] at he
  split at he
  ·rename_i x' y' hx hy
   replace he:=ak he
   obtain ⟨AA,he⟩:=he
   obtain ⟨h1,h2⟩:=aE AA
   rw[wB] at he
   obtain ⟨z,hz,he⟩:=Option.bind_eq_some_iff.1 he
   cases mH he
   obtain ⟨r,r1,r2⟩:=IJ (P:=P) T hz t x y h1 (C.env w ρ S.hp S.nx Fs) (a.eval x) (a.eval y) (iv h hx) (iv h hy) (fun hh=>by
    subst hh
    cases y with
    |const c=>exact ⟨c,rfl⟩
    |_=>cases h2) w
   exact one ⟨r,Out.pure h rfl (Nv ho r2) r1⟩
  ·cases he
 |unOp op t x=>
  rw[ho] at he
  simp only[jA,hN] at he
  split at he
  ·rename_i x' hx
   rw[zp] at he
   obtain ⟨z,hz,he⟩:=Option.bind_eq_some_iff.1 he
   cases mH he
   obtain ⟨r,r1,r2⟩:=Kx (P:=P) hz (C.env w ρ S.hp S.nx Fs) (a.eval x) (iv h hx) w
   exact one ⟨r,Out.pure h rfl (Qm ho r2) r1⟩
  ·cases he
 |convert s d x=>
  rw[ho] at he
  simp only[jA,hN] at he
  exact one (AD T h ho he)
 |makeSlice t l c=>
  rw[ho] at he
  simp only[jA,hN] at he
  exact ya T h ho he (gn (CE he))
 |slice t x lo hi mx=>
  rw[ho] at he
  simp only[jA,hN] at he
  cases mx with
  |none=>exact one (Dk T h ho he)
  |some m=>cases he
 |fieldAddr t x f=>
  rw[ho] at he
  simp only[jA,hN] at he
  exact one (xV T h ho he)
 |indexAddr t x i=>
  rw[ho] at he
  simp only[jA,hN] at he
  exact one (xU T h ho he)
 |index t x i=>
  rw[ho] at he
  simp only[jA,hN] at he
  exact one (Dl T h ho he)
 |extract x j=>
  rw[ho] at he
  simp only[jA,hN] at he
  split at he
  ·rename_i xs hx
   split at he
   ·rename_i y hy
    cases mH he
    have hr:=h.rd x
    rw[hx] at hr
    obtain ⟨vs,hv,hrel⟩:=hr
    obtain ⟨v,k1,k2⟩:=hrel.get hy
    exact one ⟨v,Out.pure h rfl (II ho hv (by simpa using k1) w) k2⟩
   ·cases he
  ·cases he
 |call c=>
  rw[ho] at he hf
  simp only[jA,hN] at he
  simp only[B9] at hf
  split at he
  ·rename_i b hc
   exact AG T h ho hc he hg
  ·rename_i f hc;rw[hc] at hf;cases hf
  ·cases he
 |_=>rw[ho] at he;cases he
end
section
variable {R:Type} {tt:TT} {hp:Nat->Option aw} {n:Nat} (K:iy->Option R)
theorem bo {A B:Type} (p:Bool) (x:Option A) (F:A->Option B):(bif p then x else none).bind F=bif p then x.bind F else none:=by cases p<;>rfl
theorem jg {A B:Type} (p:Bool) (x:Option A) (F:A->Option B):(bif p then none else x).bind F=bif p then none else x.bind F:=by cases p<;>rfl
theorem fc {A B:Type} (p:Bool) (x:Option A) (F:A->Option B):(ay p x).bind F=ay p (x.bind F):=by cases p<;>rfl
theorem kc {A B:Type} (x:AV) (G:Int->Option A) (F:A->Option B):(Kr x G).bind F=Kr x fun i=>(G i).bind F:=by
 unfold Kr;split<;>rfl
theorem mI {A B:Type} (x:Option AV) (d:Int) (G:Int->Option A) (F:A->Option B):(Cl x d G).bind F=Cl x d fun i=>(G i).bind F:=by
 unfold Cl;split
 ·rfl
 ·exact kc _ _ _
theorem oV (v:AV):(mM n v some).bind K=mM n v K:=rfl
theorem GM (t:Nat):p_ tt n t K=(p_ tt n t some).bind K:=by
 unfold p_
 repeat' (first|rfl|split| (simp only[bo,jg,fc,kc,mI,oV,Option.bind_some];done)|simp only[bo,jg,fc,kc,mI,oV,Option.bind_some])
theorem KM (t:Nat) (x:AV):tV tt hp n t x K=(tV tt hp n t x some).bind K:=by
 unfold tV
 repeat' (first|rfl|split| (simp only[bo,jg,fc,kc,mI,oV,Option.bind_some];done)|simp only[bo,jg,fc,kc,mI,oV,Option.bind_some])
theorem GN (t:Nat) (ps:List (Nat×AV)):oI tt hp n t ps K=(oI tt hp n t ps some).bind K:=by
 unfold oI
 repeat' (first|rfl|split| (simp only[bo,jg,fc,kc,mI,oV,Option.bind_some];done)|simp only[bo,jg,fc,kc,mI,oV,Option.bind_some])
theorem yd (t len:Nat) (ps:List (Nat×AV)):gN tt hp n t len ps K=(gN tt hp n t len ps some).bind K:=by
 unfold gN
 split
 ·split
  ·simp only[bo]
   congr 1
   split<;>rfl
  ·rfl
 ·rfl
theorem I0 (t:Nat) (p:AV):sj tt hp n t p K=(sj tt hp n t p some).bind K:=by
 unfold sj
 split
 ·split
  ·cases eg tt t
   ·simp only[cond_false,bo]
    congr 1
    split<;>rfl
   ·simp only[cond_true,bo];rfl
  ·rfl
 ·split
  ·simp only[bo];rfl
  ·rfl
 ·simp only[bo];rfl
 ·split
  ·simp only[bo];rfl
  ·rfl
 ·rfl
theorem zq (t:Nat) (x ix:AV):jB tt hp n t x ix K=(jB tt hp n t x ix some).bind K:=by
 unfold jB
 rw[kc]
 congr 1
 funext i
 split
 ·split
  ·simp only[bo,fc];rfl
  ·rfl
 ·split
  ·simp only[bo,fc];rfl
  ·rfl
 ·simp only[bo,fc];rfl
 ·split
  ·simp only[bo,fc];rfl
  ·rfl
 ·split
  ·simp only[bo,fc];rfl
  ·rfl
 ·rfl
theorem zr (t:Nat) (x:AV) (f:Nat):jC tt hp n t x f K=(jC tt hp n t x f some).bind K:=by
 unfold jC
 repeat' (first|rfl|split)
theorem GO (t:Nat) (x ix:AV):uR tt n t x ix K=(uR tt n t x ix some).bind K:=by
 unfold uR
 split
 ·split
  ·simp only[kc,fc];rfl
  ·rfl
 ·rfl
theorem CG (s d:Nat) (x:AV):ln tt hp n s d x K=(ln tt hp n s d x some).bind K:=by
 unfold ln
 simp only[bo]
 congr 1
 split
 ·split<;>rfl
 ·split<;>rfl
 ·split
  ·split<;>rfl
  ·rfl
 ·rfl
theorem zt (t:Nat) (l c:Operand) (x:AV):kj tt n t l c x K=(kj tt n t l c x some).bind K:=by
 unfold kj
 simp only[bo]
 congr 1
 split
 ·split
  ·simp only[kc,fc];rfl
  ·rfl
 ·rfl
theorem qd (e:Nat) (r0 base y:Row) (ks:List Nat) (up:List (Nat×Option aw)) (rc:List Nat):qE tt e r0 base y ks up n rc K=(qE tt e r0 base y ks up n rc some).bind K:=by
 unfold qE
 split
 ·simp only[bo,fc];rfl
 ·rfl
theorem Dr (t tx:Nat) (s x:AV):ng tt hp n t tx s x K=(ng tt hp n t tx s x some).bind K:=by
 unfold ng
 split
 ·split
  ·split
   ·simp only[bo]
    congr 1
    split
    ·exact qd K ..
    ·split
     ·simp only[jg];congr 1;exact qd K ..
     ·rfl
    ·split
     ·simp only[jg,bo];congr 2;exact qd K ..
     ·rfl
    ·split
     ·simp only[jg,bo];congr 2;exact qd K ..
     ·rfl
    ·rfl
   ·rfl
  ·rfl
 ·rfl
theorem I1 (t:Nat) (d s:AV):sk tt hp n t d s K=(sk tt hp n t d s some).bind K:=by
 unfold sk
 simp only[bo]
 congr 1
 split
 ·split
  ·simp only[bo];rfl
  ·simp only[bo,fc];rfl
  ·rfl
 ·rfl
theorem GQ (t:Nat) (x:AV) (lo hi:Option AV):oK tt hp n t x lo hi K=(oK tt hp n t x lo hi some).bind K:=by
 unfold oK
 split
 ·split
  ·simp only[mI,fc];rfl
  ·rfl
 ·split
  ·simp only[bo]
   congr 1
   split
   ·rfl
   ·simp only[mI,fc];rfl
  ·rfl
 ·simp only[bo]
  congr 1
  split
  ·rfl
  ·simp only[kc,fc];rfl
  ·simp only[kc,fc];rfl
  ·simp only[kc,fc];rfl
 ·rfl
theorem GR (t:Nat) (p x:AV):oJ tt hp n t p x K=(oJ tt hp n t p x some).bind K:=by
 unfold oJ
 split
 ·split
  ·simp only[bo];rfl
  ·rfl
 ·split
  ·split
   ·simp only[bo]
    congr 1
    split
    ·simp only[jg];rfl
    ·rfl
   ·simp only[bo,fc]
    congr 2
    split
    ·split
     ·simp only[jg];rfl
     ·rfl
    ·rfl
   ·rfl
  ·rfl
 ·split
  ·split
   ·simp only[bo]
    congr 1
    split<;>rfl
   ·rfl
  ·rfl
 ·split
  ·simp only[bo]
   congr 1
   split<;>rfl
  ·rfl
 ·rfl
def gV.G5 {R:Type} (G:gV R):gV iy:=⟨G.tt,fun _ _ _=>none,G.sig,G.nt⟩
theorem CH (G:gV R) (b:Builtin) (ts:List Nat) (xs:List AV):lr G hp n b ts xs K=(lr G.G5 hp n b ts xs some).bind K:=by
 unfold lr
 split
 ·simp only[gV.G5];split<;>rfl
 ·simp only[gV.G5];split<;>rfl
 ·exact Dr K ..
 ·exact I1 K ..
 ·simp only[bo];rfl
 ·simp only[bo];rfl
 ·rfl
theorem Nk (G:gV R) (o:Op) (sl:Nat->AV) (hf:B9 o=false):jA G o sl hp n K=(jA G.G5 o sl hp n some).bind K:=by
 cases o with
 |move x=>rfl
 |assign x=>rfl
 |pick c x y=>
  simp only[jA,gV.G5]
  split
  ·split<;>rfl
  ·rfl
 |alloc t=>exact GM K t
 |box t x=>exact KM K t _
 |build t ps=>exact GN K t _
 |buildSlice t len ps=>exact yd K t len _
 |load t p=>exact I0 K t _
 |store t p x=>exact GR K t _ _
 |nilCheck x=>simp only[jA,gV.G5];split<;>rfl
 |binOp op t x y u=>
  simp only[jA,gV.G5]
  split
  ·simp only[bo]
   congr 1
   rw[wB,wB (R:=iy)]
   cases binOp op _ _ some<;>rfl
  ·rfl
 |unOp op t x=>
  simp only[jA,gV.G5]
  split
  ·rw[zp,zp (R:=iy)]
   cases unOp op _ some<;>rfl
  ·rfl
 |convert s d x=>exact CG K s d _
 |makeSlice t l c=>exact zt K t l c _
 |slice t x lo hi mx=>
  cases mx with
  |none=>exact GQ K t _ _ _
  |some m=>rfl
 |fieldAddr t x f=>exact zr K t _ f
 |indexAddr t x i=>exact zq K t _ _
 |index t x i=>exact GO K t _ _
 |extract x j=>
  simp only[jA,gV.G5]
  split
  ·split<;>rfl
  ·rfl
 |call c=>
  simp only[jA,gV.G5]
  simp only[B9] at hf
  split
  ·exact CH K ..
  ·rename_i f hc;rw[hc] at hf;cases hf
  ·rfl
 |_=>rfl
theorem mJ {hp':Nat->Option aw} (hs:Sub hp hp') {id:Nat} {r:Row} (h:kE hp id=some r):kE hp' id=some r:=by
 unfold kE at h ⊢
 split at h
 ·rename_i hq;rw[hs _ _ hq];exact h
 ·rename_i hq;rw[hs _ _ hq];exact h
 ·cases h
theorem Ad {hp':Nat->Option aw} (hs:Sub hp hp') {x:LV} {r:Row×List Nat} (h:ib hp x=some r):ib hp' x=some r:=by
 cases x with
 |val p r=>exact h
 |own id=>
  simp only[ib] at h ⊢
  split at h
  ·rename_i hq;rw[hs _ _ hq];exact h
  ·cases h
 |sub id lo hi=>
  simp only[ib] at h ⊢
  split at h
  ·rename_i hq;rw[hs _ _ hq];exact h
  ·cases h
 |inner id ver i f=>
  simp only[ib] at h ⊢
  split at h
  ·rename_i hq;rw[hs _ _ hq];exact h
  ·rename_i hq;rw[hs _ _ hq];exact h
  ·cases h
 |_=>cases h
theorem EJ {hp':Nat->Option aw} (hs:Sub hp hp') {x:LV} {r:Nat×List Nat×List Nat} (h:lenOf hp x=some r):lenOf hp' x=some r:=by
 cases x with
 |val p r=>exact h
 |nil=>exact h
 |own id=>
  simp only[lenOf] at h ⊢
  split at h
  ·rename_i hq;rw[mJ hs hq];exact h
  ·cases h
 |sub id lo hi=>
  simp only[lenOf] at h ⊢
  split at h
  ·rename_i hq;rw[mJ hs hq];exact h
  ·cases h
 |inner id ver i f=>
  simp only[lenOf] at h ⊢
  split at h
  ·rename_i hq;rw[hs _ _ hq];exact h
  ·rename_i hq;rw[hs _ _ hq];exact h
  ·cases h
 |_=>cases h
theorem ye {hp':Nat->Option aw} (hs:Sub hp hp') {x:LV} (h:storable hp x=true):storable hp' x=true:=by
 have row: ∀id,(kE hp id).isSome=true->(kE hp' id).isSome=true:=fun id hh=>by
  obtain ⟨r,hr⟩:=Option.isSome_iff_exists.1 hh
  rw[mJ hs hr];rfl
 cases x with
 |own id=>exact row id h
 |sub id lo hi=>exact row id h
 |q_ id i f=>exact row id h
 |arr id n=>exact row id h
 |inner id ver i f=>
  simp only[storable] at h ⊢
  split at h
  ·rename_i hq;rw[hs _ _ hq];exact h
  ·cases h
 |zd id ver i f j=>
  simp only[storable] at h ⊢
  split at h
  ·rename_i hq;rw[hs _ _ hq];exact h
  ·cases h
 |_=>exact h
theorem sA {hp':Nat->Option aw} (hs:Sub hp hp') {x:AV} {xs:List LV} (h:nf hp x=some xs):nf hp' x=some xs:=by
 unfold nf at h ⊢
 split
 ·obtain ⟨h1,h2⟩:=ak h
  rw[ye hs h1];exact h2
 ·obtain ⟨h1,h2⟩:=ak h
  have:List.all _ (storable hp')=true:=List.all_eq_true.2 fun y hy=>ye hs (List.all_eq_true.1 h1 y hy)
  rw[this];exact h2
 ·exact h
theorem CI {hp':Nat->Option aw} (hs:Sub hp hp') (ks:List Nat):Sub (kill hp ks) (kill hp' ks):=fun j r h=>by
 obtain ⟨h1,h2⟩:=uS h
 rw[kC,if_neg h1];exact hs j r h2
theorem sB {hp':Nat->Option aw} (hs:Sub hp hp') {x:LV} {r:Bool×List Int×List Nat} (h:qD hp x=some r):qD hp' x=some r:=by
 unfold qD at h ⊢
 split at h
 ·exact h
 ·exact h
 ·split at h
  ·rename_i hq;simp only[hs _ _ hq];exact h
  ·cases h
 ·split at h
  ·rename_i hq;simp only[hs _ _ hq];exact h
  ·cases h
 ·cases h
end
section
variable {tt:TT} {hp hp':Nat->Option aw} {n:Nat}
theorem qe: ∀(sg:List Bool) (xs:List LV) {hp hp':Nat->Option aw} (hs:Sub hp hp') {r:Bool×List gR×List Nat},ig hp sg xs=some r->ig hp' sg xs=some r
 | [],[],_,_,_,_,h=>h
 | [],_::_,_,_,_,_,h=>by simp[ig] at h
 |false::sg,[],_,_,_,_,h=>by simp[ig] at h
 |true::sg,[],_,_,_,_,h=>by simp[ig] at h
 |false::sg,x::xs,hp,hp',hs,r,h=>by
  cases x with
  |i k z=>
   cases k with
   |i64=>
    simp only[ig] at h ⊢
    split at h
    ·rename_i hq;rw[qe sg xs hs hq];exact h
    ·cases h
   |_=>simp[ig] at h
  |_=>simp[ig] at h
 |true::sg,x::xs,hp,hp',hs,r,h=>by
  simp only[ig] at h ⊢
  split at h
  ·rename_i hq
   rw[sB hs hq]
   split at h
   ·rename_i Jk;simp only[qe sg xs (CI hs _) Jk];exact h
   ·cases h
  ·cases h
theorem oW: ∀(xs:List AV) {hp hp':Nat->Option aw} (hs:Sub hp hp') (r0:Row) {r:Row×List Nat},rowOf hp r0 xs=some r->rowOf hp' r0 xs=some r
 | [],_,_,_,r0,_,h=>by cases r0<;>simpa[rowOf] using h
 |x::xs,hp,hp',hs,r0,r,h=>by
  unfold rowOf at h ⊢
  split at h
  ·rename_i Cw;cases Cw
  ·rename_i k _ k' z VB Cw
   cases Cw
   by_cases hk:k=k'
   ·subst hk
    simp only[decide_true,cond_true] at h ⊢
    split at h
    ·rename_i hq;rw[oW xs hs _ hq];exact h
    ·cases h
   ·simp[hk] at h
  ·rename_i Cw
   cases Cw
   split at h
   ·rename_i hq;rw[oW xs hs _ hq];exact h
   ·cases h
  ·rename_i Cw
   cases Cw
   split at h
   ·rename_i hq;rw[oW xs hs _ hq];exact h
   ·cases h
  ·rename_i Cw
   cases Cw
   split at h
   ·rename_i hq
    rw[sB hs hq]
    split at h
    ·rename_i Jk;simp only[oW xs (CI hs _) _ Jk];exact h
    ·cases h
   ·cases h
  ·rename_i Cw
   cases Cw
   split at h
   ·rename_i hq
    rw[qe _ _ hs hq]
    split at h
    ·rename_i Jk;simp only[oW xs (CI hs _) _ Jk];exact h
    ·cases h
   ·cases h
  ·cases h
theorem vA (hs:Sub hp hp') (fs:List (Nat×Nat)): ∀(ps:List (Nat×AV)) (zero:List LV) {xs:List LV},mE tt hp fs zero ps=some xs->mE tt hp' fs zero ps=some xs
 | [],zero,xs,h=>h
 | (i,x)::ps,zero,xs,h=>by
   simp only[mE] at h ⊢
   split at h
   ·rename_i h1 h2
    simp only[h1,sA hs h2]
    split at h
    ·rename_i h3
     try simp only[h3]
     obtain ⟨h4,h5⟩:=ak h
     rw[h4]
     exact vA hs fs ps _ h5
    ·cases h
   ·cases h
theorem GU (hs:Sub hp hp') (ag:Bool) (i f:Nat) (x:AV) (r:Row) {y:Row×List Nat×Bool} (h:lR hp ag i f x r=some y):lR hp' ag i f x r=some y:=by
 cases r with
 |ints k l=>exact h
 |du l=>exact h
 |strs l=>exact h
 |rows o l=>
  simp only[lR] at h ⊢
  split at h
  ·split at h
   ·rename_i hq;simp only[sB hs hq];exact h
   ·cases h
  ·cases h
 |dw sg o l=>
  simp only[lR] at h ⊢
  split at h
  ·obtain ⟨h1,h2⟩:=ak h
   subst h1
   simp only[cond_true]
   split at h2
   ·rename_i hq;rw[qe _ _ hs hq];exact h2
   ·cases h2
  ·exact h
  ·cases h
theorem NF (hs:Sub hp hp') {r0:Row} {x:LV} {y:Row×List Nat×List Nat} (h:nn hp r0 x=some y):nn hp' r0 x=some y:=by
 obtain ⟨y,ks,rc⟩:=y
 refine At h fun j hj=> ?_
 obtain ⟨e,v,r,hl⟩:=CC h j hj
 rw[hl,hs _ _ hl]
theorem NG (hs:Sub hp hp') {t:Nat} {x:AV} {E:iy} (h:tV tt hp n t x some=some E):tV tt hp' n t x some=some E:=by
 unfold tV at h ⊢
 split at h
 ·cases h
 ·rename_i hn hq
  split at h
  ·rename_i h1
   rw[sA hs h1]
   first
    |exact h
    | (split<;>simp_all)
  ·cases h
 ·cases h
theorem I2 (hs:Sub hp hp') {t:Nat} {ps:List (Nat×AV)} {E:iy} (h:oI tt hp n t ps some=some E):oI tt hp' n t ps some=some E:=by
 unfold oI at h ⊢
 split at h
 ·rename_i hq
  try simp only[hq]
  split at h
  ·rename_i h1;rw[vA hs _ _ _ h1];exact h
  ·cases h
 ·rename_i hq
  try simp only[hq]
  exact h
 ·cases h
theorem zu (hs:Sub hp hp') {t len:Nat} {ps:List (Nat×AV)} {E:iy} (h:gN tt hp n t len ps some=some E):gN tt hp' n t len ps some=some E:=by
 unfold gN at h ⊢
 split at h
 ·rename_i hq
  try simp only[hq]
  split at h
  ·rename_i h1 h2
   try simp only[h1,h2]
   obtain ⟨h3,h4⟩:=ak h
   rw[h3]
   simp only[cond_true]
   split at h4
   ·rename_i h5;rw[oW _ hs _ h5];exact h4
   ·cases h4
  ·cases h
 ·cases h
theorem KN (hs:Sub hp hp') {t:Nat} {p:AV} {E:iy} (h:sj tt hp n t p some=some E):sj tt hp' n t p some=some E:=by
 unfold sj at h ⊢
 split at h
 ·split at h
  ·rename_i h1;simp only[hs _ _ h1];exact h
  ·cases h
 ·split at h
  ·rename_i h1;simp only[hs _ _ h1];exact h
  ·cases h
 ·exact h
 ·split at h
  ·rename_i h1;simp only[hs _ _ h1];exact h
  ·cases h
 ·cases h
theorem I3 (hs:Sub hp hp') {t:Nat} {p x:AV} {E:iy} (h:oJ tt hp n t p x some=some E):oJ tt hp' n t p x some=some E:=by
 unfold oJ at h ⊢
 split at h
 ·split at h
  ·rename_i h1 h2;simp only[hs _ _ h1,sA hs h2];exact h
  ·cases h
 ·split at h
  ·rename_i hq
   try simp only[hq]
   split at h
   ·rename_i h1
    simp only[hs _ _ h1]
    obtain ⟨h2,h3⟩:=ak h
    rw[h2]
    simp only[cond_true]
    split at h3
    ·rename_i h4;simp only[GU hs _ _ _ _ _ h4];exact h3
    ·cases h3
   ·rename_i h1
    simp only[hs _ _ h1]
    obtain ⟨h2,h3⟩:=ak h
    rw[h2]
    simp only[cond_true]
    obtain ⟨h4,h5⟩:=fp h3
    rw[h4]
    simp only[ay,cond_true]
    split at h5
    ·split at h5
     ·rename_i h6;simp only[sB hs h6];exact h5
     ·cases h5
    ·cases h5
   ·cases h
  ·cases h
 ·split at h
  ·rename_i hq
   try simp only[hq]
   split at h
   ·rename_i h1 h3
    simp only[hs _ _ h1,h3]
    exact h
   ·cases h
  ·cases h
 ·split at h
  ·rename_i h1
   simp only[hs _ _ h1]
   exact h
  ·cases h
 ·cases h
theorem U5 {x:AV} {F F':Int->Option iy} {E:iy} (h:Kr x F=some E) (hh: ∀i,F i=some E->F' i=some E):Kr x F' =some E:=by
 obtain ⟨k,i,rfl,h⟩:=lT h
 exact hh i h
theorem AH (hs:Sub hp hp') {t:Nat} {x ix:AV} {E:iy} (h:jB tt hp n t x ix some=some E):jB tt hp' n t x ix some=some E:=by
 unfold jB at h ⊢
 refine U5 h fun i h=> ?_
 split at h
 ·split at h
  ·rename_i h1;simp only[mJ hs h1];exact h
  ·cases h
 ·split at h
  ·rename_i h1;simp only[mJ hs h1];exact h
  ·cases h
 ·exact h
 ·split at h
  ·rename_i h1;simp only[EJ hs h1];exact h
  ·cases h
 ·split at h
  ·rename_i h1 h2;simp only[h1,mJ hs h2];exact h
  ·cases h
 ·cases h
theorem AI (hs:Sub hp hp') {t f:Nat} {x:AV} {E:iy} (h:jC tt hp n t x f some=some E):jC tt hp' n t x f some=some E:=by
 unfold jC at h ⊢
 split at h
 ·rename_i hq
  try simp only[hq]
  split at h
  ·rename_i Jk
   try simp only[Jk]
   split at h
   ·exact h
   ·split at h
    ·rename_i h1;simp only[mJ hs h1];exact h
    ·cases h
   ·exact h
   ·cases h
  ·cases h
 ·cases h
theorem I4 (hs:Sub hp hp') {t:Nat} {x:AV} {lo hi:Option AV} {E:iy} (h:oK tt hp n t x lo hi some=some E):oK tt hp' n t x lo hi some=some E:=by
 unfold oK at h ⊢
 split at h
 ·exact h
 ·split at h
  ·rename_i h1;simp only[mJ hs h1];exact h
  ·cases h
 ·exact h
 ·cases h
theorem Ds (hs:Sub hp hp') {s d:Nat} {x:AV} {E:iy} (h:ln tt hp n s d x some=some E):ln tt hp' n s d x some=some E:=by
 unfold ln at h ⊢
 obtain ⟨h1,h⟩:=ak h
 rw[h1]
 simp only[cond_true]
 split at h
 ·exact h
 ·exact h
 ·split at h
  ·rename_i h2 h3
   simp only[h2,Ad hs h3]
   exact h
  ·cases h
 ·cases h
theorem GV (hs:Sub hp hp') {t tx:Nat} {s x:AV} {E:iy} (h:ng tt hp n t tx s x some=some E):ng tt hp' n t tx s x some=some E:=by
 unfold ng at h ⊢
 split at h
 ·rename_i hq
  try simp only[hq]
  split at h
  ·rename_i Jk
   try simp only[Jk]
   split at h
   ·rename_i h1
    rw[NF hs h1]
    simp only[]
    obtain ⟨h2,h3⟩:=ak h
    rw[h2]
    simp only[cond_true]
    split at h3
    ·exact h3
    ·split at h3
     ·rename_i h4;simp only[hs _ _ h4];exact h3
     ·cases h3
    ·split at h3
     ·rename_i h4;simp only[hs _ _ h4];exact h3
     ·cases h3
    ·split at h3
     ·rename_i h4;simp only[hs _ _ h4];exact h3
     ·cases h3
    ·cases h3
   ·cases h
  ·cases h
 ·cases h
theorem KO (hs:Sub hp hp') {t:Nat} {d s:AV} {E:iy} (h:sk tt hp n t d s some=some E):sk tt hp' n t d s some=some E:=by
 unfold sk at h ⊢
 obtain ⟨h1,h⟩:=ak h
 rw[h1]
 simp only[cond_true]
 split at h
 ·split at h
  ·rename_i h2;simp only[hs _ _ h2];exact h
  ·rename_i h2;simp only[hs _ _ h2];exact h
  ·cases h
 ·cases h
theorem Dt {G:gV iy} (hs:Sub hp hp') {b:Builtin} {ts:List Nat} {xs:List AV} {E:iy} (h:lr G hp n b ts xs some=some E):lr G hp' n b ts xs some=some E:=by
 unfold lr at h ⊢
 split at h
 ·exact h
 ·split at h
  ·rename_i h1 h2;simp only[h1,EJ hs h2];exact h
  ·cases h
 ·exact GV hs h
 ·exact KO hs h
 ·exact h
 ·exact h
 ·cases h
theorem P4 {G:gV iy} (hs:Sub hp hp') {o:Op} {sl:Nat->AV} (hf:B9 o=false) {E:iy} (h:jA G o sl hp n some=some E):jA G o sl hp' n some=some E:=by
 cases o with
 |move x=>exact h
 |assign x=>exact h
 |pick c x y=>exact h
 |alloc t=>exact h
 |box t x=>exact NG hs h
 |build t ps=>exact I2 hs h
 |buildSlice t len ps=>exact zu hs h
 |load t p=>exact KN hs h
 |store t p x=>exact I3 hs h
 |nilCheck x=>exact h
 |binOp op t x y u=>exact h
 |unOp op t x=>exact h
 |convert s d x=>exact Ds hs h
 |makeSlice t l c=>exact h
 |slice t x lo hi mx=>
  cases mx with
  |none=>exact I4 hs h
  |some m=>exact h
 |fieldAddr t x f=>exact AI hs h
 |indexAddr t x i=>exact AH hs h
 |index t x i=>exact h
 |extract x j=>exact h
 |call c=>
  simp only[jA] at h ⊢
  simp only[B9] at hf
  split at h
  ·exact Dt hs h
  ·rename_i f hc;rw[hc] at hf;cases hf
  ·exact h
 |_=>exact h
end
end Go.Proofs.YtbmmhdmljajcfaaGreatDoor.V
