/- The abstract evaluator and its soundness: part VOpP. Conditions: as each section says. -/
import Derived.Test.YtbmmhdmljajcfaaGreatDoorVOpH
import Derived.Deep.Upon
set_option linter.unusedVariables false
set_option linter.unusedSimpArgs false
namespace Go.Proofs.YtbmmhdmljajcfaaGreatDoor.V
open Go
section
variable {P:Program} {tt:TT} {C:Cx} {S:St} {a:Act} {w:World} {ρ:Place} {Fs:Nat->FP} {n:Nat}
theorem zG (env:Operand->Value) (nt:Nat) (sl:Nat->AV): ∀(ps:List (Nat×Operand)) (i:Nat) (xs:List AV),BI i (ps.map fun p=>(p.1,St.rd nt sl p.2))=some xs->xs=ps.map (fun p=>St.rd nt sl p.2)/\(ps.map fun p=>(p.1,env p.2))=((ps.map fun p=>env p.2).zipIdx i).map (fun x=>(x.2,x.1))
 | [],i,xs,h=>by simp only[List.map_nil,BI,af] at h;subst h;exact ⟨rfl,rfl⟩
 |p::ps,i,xs,h=>by
  simp only[bM,BI] at h
  obtain ⟨h1,h⟩:=aH h
  have h1:=aE h1
  split at h
  ·rename_i ys hq
   simp only[af] at h
   subst h
   obtain ⟨g1,g2⟩:=zG env nt sl ps (i+1) ys hq
   subst g1
   refine ⟨rfl,?_⟩
   simp only[bM,List.zipIdx_cons,g2,h1]
  ·cases h
theorem PM (h:cn C S a w ρ Fs): ∀ps:List (Nat×Operand),jI (C.env w ρ S.hp S.nx Fs) (ps.map fun p=>St.rd C.N S.sl p.2) (ps.map fun p=>a.eval p.2)
 | []=>trivial
 |p::ps=>⟨h.rd p.2,PM h ps⟩
theorem np {e:Nat} {r:Row} (h:eT tt e=some r):r.len=0:=by
 unfold eT at h
 split at h
 all_goals first
  | (obtain ⟨_,h⟩:=aH h;cases h;rfl)
  | (cases h;rfl)
  |cases h
theorem Eh (w:World) (t e:TypeId) (len:Nat) (parts:Array (Nat×Value)) (vs:List Value) (ie:TypeInfo) (z:Value) (hu:P.underlying t=some (.slice e)) (hie:P.info? e=some ie) (hz:ie.zero=some z) (Yx:len*ie.size<=16777216) (hs:0<ie.size)
 (hp:parts.toList=(vs.zipIdx 0).map (fun x=>(x.2,x.1))) (hl:vs.length=len) (hv: ∀v∈vs,v.cells.size=ie.size):
 (Instr.buildSlice t len parts).run P w= .ok (.slice (some ⟨w.heap.size,0,none⟩) len len) (w.alloc (.cells (flat vs).toArray e)):=by
 by_cases h0:len=0
 ·subst h0
  have VL:vs=[]:=bG hl
  subst VL
  have hp':parts.toList=[]:=by simpa using hp
  have Tw:parts= #[]:=by apply Array.ext';simpa using hp'
  subst Tw
  simp[Instr.buildSlice,run_underlying hu,sizeOf,typeInfo,hie,newRow,Instr.fill,flat]
  congr 2
  apply Array.ext'
  simp
 ·refine run_buildSlice w t e len parts _ ie z hu hie hz (by omega) (by have:=Nat.mul_pos (Nat.pos_of_ne_zero h0) hs;omega) ?_
  rw[hp]
  exact Great.fill_whole hs vs _ hv (by simp[hl])
theorem Ao (T:qc P tt) (h:cn C S a w ρ Fs) {o:Oper} {t len:Nat} {ps:Array (Nat×Operand)} (ho:o.op= .buildSlice t len ps) {E:kG} (he:jS (R:=kG) tt S.hp n t len (ps.toList.map fun p=>(p.1,St.rd C.N S.sl p.2)) some=some E) (hg:S.hp n=some .gW): ∃w' ρ' Fs' u,Out P C S o E a w w' ρ' Fs' u:=by
 unfold jS at he
 split at he
 ·rename_i e rK
  split at he
  ·rename_i r0 xs K1 EB
   obtain ⟨hc,he⟩:=aH he
   obtain ⟨hl,NE⟩:=ba hc
   have hl:=aE hl
   have NE:=bD NE
   split at he
   ·rename_i r ks hr
    cases he
    obtain ⟨g1,g2⟩:=zG a.eval C.N S.sl ps.toList 0 xs EB
    have hrel:=PM h ps.toList
    rw[<- g1] at hrel
    obtain ⟨F,k1,k2,k3,k4,k5,k6,k7,k8,_,_⟩:=DQ h.mem xs _ S.hp r0 r ks (Sub.refl _) (np K1) hr hrel
    obtain ⟨te,q1,q2,q3,q4⟩:=qS T K1
    obtain ⟨i,z,z1,z2,z3,z4,z5,z6⟩:=pu T q1 q3
    have ZP:(flat (ps.toList.map fun p=>a.eval p.2)).length=len*r0.size:=by
     have: ∀l:List Value,(∀v∈l,v.cells.size=r0.size)->(flat l).length=l.length*r0.size:=by
      intro l
      induction l with
      |nil=>intro _;simp[flat]
      |cons v l ih=>
       intro hv
       rw[pJ,au,ih (fun u hu=>hv u (by simp[hu])),bC,hv v (by simp),ab,Nat.succ_mul]
       omega
     rw[this _ k6,k7,hl]
    refine ⟨_,_,_,.slice (some ⟨w.heap.size,0,none⟩) len len,.inl ?_,cn.newRow h hg ks k3.1 (k3.live (Sub.refl _)) e r (flat (ps.toList.map fun p=>a.eval p.2)).toArray e len F (by simpa using k1) k2 (by omega) (by rw[k5];simp only[List.size_toArray];omega) (w.alloc (.cells (flat (ps.toList.map fun p=>a.eval p.2)).toArray e)) rfl rfl rfl rfl,?_⟩
    ·simp only[execOp,ho]
     refine sY (Eh w t e len _ _ i z (oo T rK) z1 z2 (by rw[z4,q2];exact NE) (by omega) ?_ (by rw[k7,hl]) (fun v hv=>by rw[k6 v hv,z4,q2]))
     rw[Array.toList_map,g2]
    ·have:=PL (C:=C) (w':=w.alloc (.cells (flat (ps.toList.map fun p=>a.eval p.2)).toArray e)) (ρ':=k_ ρ n (some (w.heap.size,len))) (hp':=jh S.hp (fi ks++[(n,some (.row e 0 r))])) (nx:=S.nx) (Fs':=jH (fD Fs ks) n (ez (f1 w.heap.size) F)) (eR h.mem hg) (h_ ..) (e:=e) (v:=0) (r:=r) (by rw[dn,jG,aS rfl])
     rw[k4,hl] at this
     exact this
   ·cases he
  ·cases he
 ·cases he
theorem wu {t:TypeId} {i:TypeInfo} (hi:P.info? t=some i) {w:World} {b o:Nat} {arr:Array Value} {ty:TypeId} (hb:w.heap[b]? =some (.cells arr ty (0,0))) {v:Value} (hs:v.cells.size=i.size) (o9: ∀u∈v.cells.toList,u.oneCell' =true) (Kk:o+i.size<=arr.size):
 (Instr.storeAt t (.pointer (some ⟨b,o,none⟩)) v).run P w= .ok () (w.setRow b (arr.toList.take o++v.cells.toList++arr.toList.drop (o+i.size)).toArray):=by
 unfold Instr.storeAt
 rw[fy (x:=(⟨b,o,none⟩:Addr)) (w':=w) rfl]
 unfold storeVar
 rw[fy (pI hi)]
 have:=run_storeCells_at P b o ty v.cells.toList 0 arr w hb (by simp[hs];exact Kk) o9
 simp only[Nat.add_zero,bC,hs] at this
 simp[hs,this]
theorem setRow_other (w:World) (g:Nat) (cs:Array Value) {b:Nat} (h:b≠g):(w.setRow g cs).heap[b]? =w.heap[b]? :=by
 simp[World.setRow,Array.getElem?_modify,Ne.symm h]
theorem setRow_size (w:World) (g:Nat) (cs:Array Value):(w.setRow g cs).heap.size=w.heap.size:=by simp[World.setRow]
def Zt (C:Cx) (w:World) (nx:Nat) (Fs:Nat->FP) (id:Nat) (ks:List Nat) (b:Nat) (F:FP):Zs:=fun b'=>C.ZL w (aR nx Fs) b' \/(1<=Fs id b' +fh Fs ks b' /\F b' =0/\b' ≠b)
theorem cn.KH (h:cn C S a w ρ Fs) (ks:List Nat) (yU:ks.Nodup) (oL: ∀k∈ks,S.hp k≠none) {id:Nat} (hid:id∉ks) {root:aQ} (K1:S.hp id=some root) {b cap:Nat} (hρ:ρ id=some (b,cap)) {arr arr':Array Value} {ty:TypeId} (hb:w.heap[b]? =some (.cells arr ty (0,0))) (e ver:Nat) (r:Row) (F:FP)
 (hc:aG w (Zt C w S.nx Fs id ks b F) r.cells arr'.toList F) (hF: ∀b',F b' +f1 b b' <=Fs id b' +fh Fs ks b') (P4:1<=Fs id b) (h1:r.len<=cap) (h2:cap*r.size<=arr'.size) (hl:BM w (w.setRow b arr') (ρ id) root (.row e ver r)):
 cn C ⟨S.sl,jh S.hp (fi ks++[(id,some (.row e ver r))]),S.nx⟩ a (w.setRow b arr') ρ (jH (fD Fs ks) id (ez (f1 b) F)):=by
 have hk: ∀k∈ks,k<S.nx:=fun k h'=>by
  cases e:S.hp k with
  |none=>exact absurd e (oL k h')
  |some r=>exact eR h.mem e
 have pF:=eR h.mem K1
 have Co: ∀b',Fs id b' +fh Fs ks b' <=aR S.nx Fs b':=fun b'=>vb Fs b' S.nx yU hk pF hid
 have Vw:F b=0:=by
  have:=hF b
  have:=Co b
  have:=h.mem.one b
  simp at*
  omega
 refine h.VP ks yU oL id hid root _ K1 _ (w.setRow b arr') (setRow_size ..) rfl rfl rfl (fun b' tq h0=>setRow_other w b arr' (by rintro rfl;omega)) (fun b'=>by have:=hF b';simp;omega) hl (fun M=> ?_)
 refine .inr ⟨b,cap,arr',ty,F,hρ,setRow_heap w b arr arr' ty _ hb,h1,h2,hc.mono (fun b' tq=> ?_) (fun b' tq=>setRow_other w b arr' (by rintro rfl;omega)),rfl⟩
 rcases tq with tq| ⟨g1,g2,g3⟩
 ·exact M.zl b' tq
 ·obtain ⟨o1,o2⟩:=h.mem.uj b' (bx g1 (Co b'))
  refine ⟨.inr (.inr ⟨o2,by show b' <(w.setRow b arr').heap.size;rw[setRow_size];exact o1,?_⟩),setRow_other w b arr' g3⟩
  have k1:=iT (fD Fs ks) (ez (f1 b) F) b' pF
  have k2:=oD Fs b' S.nx ks yU hk
  have k3:fD Fs ks id=Fs id:=by simp[fD,hid]
  have k4:=h.mem.one b'
  have k5:f1 b b' =0:=by rw[Dv,aD g3]
  rw[k3] at k1
  simp[k5] at k1
  omega
theorem cw.append {E:Env}: ∀ {xs ys:List LV} {us vs:List Value},cw E xs us->cw E ys vs->cw E (xs++ys) (us++vs)
 | [],_,[],_,_,h=>h
 |x::xs,_,u::us,_,h,h'=>⟨h.1,cw.append h.2 h'⟩
theorem DR: ∀(xs A B D:List LV),B.length=xs.length->oE (A++(B++D)) A.length xs=A++(xs++D)
 | [],A,B,D,h=>by have:B=[]:=bG h
                  subst this;rfl
 |x::xs,A,[],D,h=>by simp at h
 |x::xs,A,y::B,D,h=>by
  have e:(A++((y::B)++D)).set A.length x=(A++[x])++(B++D):=by
   rw[List.set_append_right _ _ (ai _)]
   simp
  have e2:A.length+1=(A++[x]).length:=by simp
  rw[oE,e,e2,DR xs (A++[x]) B D (by simpa using h)]
  simp
theorem Gr (xs zs:List LV) (k:Nat) (h:k+xs.length<=zs.length):oE zs k xs=zs.take k++(xs++zs.drop (k+xs.length)):=by
 have e:zs=zs.take k++((zs.drop k).take xs.length++zs.drop (k+xs.length)):=by
  rw[<- List.drop_drop,b_,b_]
 have hk:(zs.take k).length=k:=by simp;omega
 have:=DR xs (zs.take k) ((zs.drop k).take xs.length) (zs.drop (k+xs.length)) (by simp;omega)
 rw[<- e,hk] at this
 exact this
theorem OE (xs zs:List LV) (k:Nat) (h:k+xs.length<=zs.length):Kt zs k xs=oE zs k xs:=by
 unfold Kt
 cases hc:(Nat.beq k 0&&Nat.beq xs.length zs.length) with
 |false=>rfl
 |true=>
  rw[ay] at hc
  have h1:=Nat.eq_of_beq_eq_true hc.1
  have h2:=Nat.eq_of_beq_eq_true hc.2
  subst h1
  rw[Gr xs zs 0 h,h2]
  simp
end
section
variable {P:Program} {tt:TT} {C:Cx} {S:St} {a:Act} {w:World} {ρ:Place} {Fs:Nat->FP} {n:Nat}
theorem VV {α:Type} (l:List α) (o:Nat) (v:α) (h:o<l.length):l.take o++[v]++l.drop (o+1)=l.set o v:=by
 rw[List.set_eq_take_append_cons_drop,aS h];simp
theorem Gt {t:TypeId} {i:TypeInfo} (hi:P.info? t=some i) (h1:i.size=1) {w:World} {b o:Nat} {arr:Array Value} {ty:TypeId} (hb:w.heap[b]? =some (.cells arr ty (0,0))) {v:Value} (o9:v.oneCell' =true) (Kk:o<arr.size):
 (Instr.storeAt t (.pointer (some ⟨b,o,none⟩)) v).run P w= .ok () (w.setRow b (arr.toList.set o v).toArray):=by
 have hc:=rZ o9
 have:=wu hi hb (v:=v) (by rw[hc,h1];rfl) (fun u hu=>by rw[hc] at hu;simp at hu;subst hu;exact o9) (o:=o) (by omega)
 rw[this,hc,h1]
 congr 3
 exact VV arr.toList o v (by simpa using Kk)
theorem Ap (T:qc P tt) {t:Nat} (h:fA tt t=true): ∃i,P.info? t=some i/\i.size=1:=by
 have hl:=kF h
 unfold fA at h
 split at h
 all_goals try (cases h;done)
 all_goals
  rename_i hq
  obtain ⟨i,z,z1,_,_,z4,_,z6⟩:=pu T hq (by simp)
  exact ⟨i,z1,by rw[z4,z6,hl];rfl⟩
theorem Out.stored {o:Oper} {t:Nat} {p x:Operand} (ho:o.op= .store t p x) {w':World} {up:List (Nat×Option aQ)} {nx:Nat} {rl rc:List Nat} {ρ':Place} {Fs':Nat->FP} (hr:(Instr.storeAt t (a.eval p) (a.eval x)).run P w= .ok () w') (hs:cn C ⟨S.sl,jh S.hp up,S.nx⟩ a w' ρ' Fs'): ∃w' ρ' Fs' u,Out P C S o ⟨.l .undef,up,nx,rl,rc⟩ a w w' ρ' Fs' u:=
 ⟨w',ρ',Fs',undef,.inr ⟨by simp only[execOp,ho];exact aaH hr,rfl⟩,hs,rfl⟩
theorem tJ (m:kU C S.hp S.nx w ρ Fs) {id e ver:Nat} {r:Row} (h:S.hp id=some (.row e ver r)) {b cap:Nat} (hρ:ρ id=some (b,cap)) (hl:0<r.len): ∃arr ty F,w.heap[b]? =some (.cells arr ty (0,0))/\r.len<=cap/\cap*r.size<=arr.size/\aG w (C.ZL w (aR S.nx Fs)) r.cells arr.toList F/\Fs id=ez (f1 b) F/\F b=0:=by
 rcases m.roots id _ h with ⟨_,h2,_⟩| ⟨b',th,arr,ty,F,h1,h2,h3,h4,h5,h6⟩
 ·omega
 ·simp only[Cx.env] at h1 h2
  rw[hρ] at h1;cases h1
  have t1:=mP Fs b (eR m h)
  have t2:=m.one b
  rw[h6] at t1
  simp at t1
  exact ⟨arr,ty,F,h2,h3,h4,h5,h6,by omega⟩
theorem xO {α β:Type} (g:α->List β) (n:Nat) (h: ∀x,(g x).length=n) (f:Nat) (hf:f<n) (c:β) (y:α): ∀(l:List α) (i:Nat) (x:α),l[i]? =some x->g y=(g x).set f c->(l.set i y).flatMap g=(l.flatMap g).set (i*n+f) c
 | [],i,x,hx,_=>by simp at hx
 |z::l,0,x,hx,hy=>by
  simp at hx;subst hx
  simp only[List.set_cons_zero,List.flatMap_cons,Nat.zero_mul,Nat.zero_add,hy]
  rw[List.set_append_left _ _ (by rw[h];exact hf)]
 |z::l,i+1,x,hx,hy=>by
  have e:(i+1)*n+f=n+(i*n+f):=by rw[Nat.succ_mul];omega
  simp only[List.set_cons_succ,List.flatMap_cons,e]
  rw[xO g n h f hf c y l i x (by simpa using hx) hy,List.set_append_right _ _ (by rw[h];omega),h,Nat.add_sub_cancel_left]
theorem DS (sg:List Bool) (r:List iQ) (f:Nat) (x:iQ) (g:Nat):(yC sg r f x)[g]? =(sg[g]?).map fun b=>if g=f then x else if b then .ints (gl r g) else .int (gi r g):=by
 unfold yC
 rw[List.getElem?_map,List.getElem?_zipIdx]
 cases sg[g]? with
 |none=>rfl
 |some b=>
  simp only[Option.map_some,Nat.zero_add]
  by_cases e:g=f
  ·simp[e]
  ·simp[e,cond_eq_ite,cG]
theorem zw (o:Bool) (sg:List Bool) (r:List iQ) (f:Nat) (x:iQ) (c:Cell) (hc: ∃b,sg[f]? =some b/\c=if b then .sl o (match x with| .ints l=>l|_=>[]) else .sc (.int .i64 (match x with| .int n=>n|_=>0))):cR o (yC sg r f x) 0 sg=(cR o r 0 sg).set f c:=by
 obtain ⟨b,hb,hc⟩:=hc
 have hf:f<sg.length:=(List.getElem?_eq_some_iff.1 hb).1
 apply List.ext_getElem?
 intro j
 rw[kw,List.getElem?_set,kw]
 simp only[Nat.zero_add,dV]
 by_cases e:f=j
 ·subst e
  rw[aS rfl,aS hf,hb]
  simp only[Option.map_some,gi,gl,DS,hb,if_true]
  rw[hc]
  cases b<;>cases x<;>rfl
 ·rw[aD e]
  cases hj:sg[j]? with
  |none=>rfl
  |some b'=>
   have e': ¬j=f:=fun h=>e h.symm
   cases b'<;>simp[gi,gl,DS,hj,e']
theorem aG.split {w:World} {Z:Zs}: ∀ {cs ds:List Cell} {vs:List Value} {F:FP},aG w Z (cs++ds) vs F-> ∃F1 F2,aG w Z cs (vs.take cs.length) F1/\aG w Z ds (vs.drop cs.length) F2/\F=ez F1 F2
 | [],ds,vs,F,h=>⟨fz,F,rfl,by simpa using h,(lU F).symm⟩
 |c::cs,ds,v::vs,F,⟨F1,F2,h1,h2,hF⟩=>by
  obtain ⟨G1,G2,g1,g2,g3⟩:=aG.split h2
  exact ⟨ez F1 G1,G2,⟨F1,G1,h1,by simpa using g1,rfl⟩,by simpa using g2,by rw[hF,g3,vX]⟩
theorem rh {w w':World} {q:Option (Nat×Nat)} {e v e' v':Nat} {r r':Row} (hl:r'.len=r.len) (hs:r'.size=r.size) (hv:v<=v') (Bb: ∀f,r'.oh f=r.oh f) (hd:v' =v->r.deep=false):BM w w' q (.row e v r) (.row e' v' r'):=
 ⟨hl,hs,hv,Bb,fun h1 h2=>by rw[hd h1] at h2;cases h2⟩
theorem MJ (T:qc P tt) (h:cn C S a w ρ Fs) {o:Oper} {t:Nat} {p x:Operand} (ho:o.op= .store t p x) {id k bt:Nat} {cells xs:List LV} (hp:St.rd C.N S.sl p= .one (.l (.je id k))) (aJ:S.hp id=some (.box bt cells)) (EB:qj S.hp (St.rd C.N S.sl x)=some xs) (h1:xs.length=cJ tt t) (Y1:0<xs.length) (h2:k+xs.length<=cells.length) {nx:Nat} {rl rc:List Nat}:
 ∃w' ρ' Fs' u,Out P C S o ⟨.l .undef,[(id,some (.box bt (oE cells k xs)))],nx,rl,rc⟩ a w w' ρ' Fs' u:=by
 obtain ⟨iS,yT,b,cap,hρ,hv⟩:=kE h hp
 obtain ⟨b',th,vs,ty,g1,g2,g3,g4⟩:=h.mem.roots id _ aJ
 simp only[Cx.env] at hρ g1 g2
 rw[hρ] at g1;cases g1
 obtain ⟨Yy,yF⟩:=ta h.mem EB (h.rd x)
 have hxl:=Yy.length
 have yd:=g3.length
 simp only[bC] at hxl yd
 have K0: ∃e,tt t=some e:=by
  cases hq:tt t with
  |none=>exact absurd h1 (by simp only[cJ,hq];exact Nat.ne_of_gt Y1)
  |some e=>exact ⟨e,rfl⟩
 obtain ⟨e,hq⟩:=K0
 obtain ⟨i,i1,i2,_⟩:=(T t e hq).Gg
 have oX:i.size=xs.length:=by rw[i2,h1];simp[cJ,hq]
 have UE:(a.eval x).cells.size=i.size:=by omega
 have M8:k+i.size<=vs.size:=by omega
 have pc:=wu (P:=P) i1 g2 (o:=k) (v:=a.eval x) UE yF M8
 rw[<- hv] at pc
 have hFs:Fs id=f1 b:=g4
 have:=h.VP [] (by simp) (by simp) id (by simp) _ (.box bt (oE cells k xs)) aJ (f1 b) (w.setRow b (vs.toList.take k++(a.eval x).cells.toList++vs.toList.drop (k+i.size)).toArray) (setRow_size ..) rfl rfl rfl
  (fun b' tq h0=>setRow_other w b _ (by rintro rfl;rw[hFs] at h0;simp at h0)) (fun b'=>by rw[hFs];omega) trivial
  (fun M=>⟨b,cap,_,ty,hρ,setRow_heap w b vs _ ty _ g2,by
    have hgo: ∀E':Env,u7 (C.env w ρ S.hp S.nx Fs) E'->cw E' (oE cells k xs) (vs.toList.take k++(a.eval x).cells.toList++vs.toList.drop (k+i.size)):=fun E' M=>by
     rw[Gr xs cells k h2,oX,bp]
     exact cw.append ((g3.take k).mono M) (cw.append (Yy.mono M) ((g3.drop _).mono M))
    exact hgo _ M,rfl⟩)
 exact Out.stored ho pc this
theorem wv (T:qc P tt) (h:cn C S a w ρ Fs) {o:Oper} {t:Nat} {p x:Operand} (ho:o.op= .store t p x) {id e ver i f:Nat} {r:Row} (hp:St.rd C.N S.sl p= .one (.l (.vc id i f))) (aJ:S.hp id=some (.row e ver r)) (hs:fA tt t=true) (hf:f<r.size)
 (c:Cell) (r':Row) (yR e':Nat) (OD:r'.cells=r.cells.set (i*r.size+f) c) (hsc: ∃u,r.cells[i*r.size+f]? =some (.sc u)) (hv:ik w (C.ZL w (aR S.nx Fs)) c (a.eval x) fz) (o9:(a.eval x).oneCell' =true) (hlen:r'.len=r.len) (xY:r'.size=r.size)
 (hl: ∀w',BM w w' (ρ id) (.row e ver r) (.row e' yR r')) {nx:Nat} {rl rc:List Nat}: ∃w' ρ' Fs' u,Out P C S o ⟨.l .undef,fi []++[(id,some (.row e' yR r'))],nx,rl,rc⟩ a w w' ρ' Fs' u:=by
 obtain ⟨iS,yF⟩:=kE h hp
 obtain ⟨r1,e1,hi,b,cap,hρ,Q0⟩:=yF _ aJ
 cases e1
 simp only[Cx.env] at hρ
 obtain ⟨arr,ty,F,g1,g2,g3,g4,g5,g6⟩:=tJ h.mem aJ hρ (by omega)
 obtain ⟨ti,t1,t2⟩:=Ap T hs
 have Jk:i*r.size+f<r.cells.length:=by
  rw[Row.gm]
  have:=KC (n:=r.size) hi
  omega
 obtain ⟨u,hu⟩:=hsc
 obtain ⟨v0,F1,F2,k1,k2,k3,k4⟩:=g4.get hu
 have hjs:i*r.size+f<arr.size:=by simpa using (List.getElem?_eq_some_iff.1 k1).1
 obtain ⟨_,RI⟩:=k2
 subst RI
 rw[lU] at k3
 have wO:=k4 c (a.eval x) fz hv
 rw[lU,<- k3] at wO
 have pc:=Gt (P:=P) t1 t2 g1 o9 hjs
 rw[<- Q0] at pc
 refine Out.stored ho pc (cn.KH h [] (by simp) (by simp) (by simp) aJ hρ g1 e' yR r' F ?_ (fun b'=>by rw[g5];simp;omega) (by rw[g5];simp) (by omega) (by rw[xY];simpa using g3) (hl _))
 rw[OD]
 simp only[List.toList_toArray]
 exact wO.mono (fun b hb=>⟨.inl hb,rfl⟩) (fun b _=>rfl)
theorem CW (T:qc P tt) (h:cn C S a w ρ Fs) {o:Oper} {t:Nat} {p x:Operand} (ho:o.op= .store t p x) {id b cap off:Nat} {root:aQ} (Q0:a.eval p= .pointer (some ⟨b,off,none⟩)) (aJ:S.hp id=some root) (hρ:ρ id=some (b,cap)) {arr:Array Value} {ty:TypeId} {F:FP} (g1:w.heap[b]? =some (.cells arr ty (0,0))) (g5:Fs id=ez (f1 b) F) (g6:F b=0)
 {ks:List Nat} (yU:oH S.hp ks) (KI:id∉ks) {A B D B':List Cell} (sf:aG w (C.ZL w (aR S.nx Fs)) (A++(B++D)) arr.toList F) (hA:A.length=off) (hB:B'.length=B.length)
 {ti:TypeInfo} (t1:P.info? t=some ti) (t2:ti.size=B.length) (Vf:(a.eval x).cells.size=B.length) (o9: ∀u∈(a.eval x).cells.toList,u.oneCell' =true) {Fv:FP} (hv:aG w (Zu C w S.nx Fs ks Fv) B' (a.eval x).cells.toList Fv) (hFv: ∀b,Fv b<=fh Fs ks b)
 (own:Bool) (r':Row) (yR e':Nat) (hct:own=true->r'.cells=A++(B' ++D)) (hcf:own=false->r'.cells=(A++(B' ++D)).map Cell.jw) (hlen:r'.len<=cap) (xY:cap*r'.size<=arr.size)
 (hl: ∀w',BM w w' (ρ id) root (.row e' yR r')) {nx:Nat} {rl rc:List Nat}: ∃w' ρ' Fs' u,Out P C S o ⟨.l .undef,fi ks++[(id,some (.row e' yR r'))],nx,rl,rc⟩ a w w' ρ' Fs' u:=by
 obtain ⟨FA,F2,h1,h2,RI⟩:=aG.split sf
 obtain ⟨FB,FD,h3,h4,Rz⟩:=aG.split h2
 have pF:=eR h.mem aJ
 have ac_: ∀k∈ks,k<S.nx:=yU.lt h.mem (Sub.refl _)
 have Co: ∀b',Fs id b' +fh Fs ks b' <=1:=fun b'=>bx (vb Fs b' S.nx yU.1 ac_ pF KI) (h.mem.one b')
 have Yz:(A++(B++D)).length<=arr.toList.length:=sf.length
 simp only[au,bC] at Yz
 have pc:=wu (P:=P) t1 g1 (o:=off) (v:=a.eval x) (by rw[Vf,t2]) o9 (by omega)
 rw[<- Q0] at pc
 have hz: ∀G:FP,(∀b',G b' <=Fs id b' +fh Fs ks b')-> ∀b',C.ZL w (aR S.nx Fs) b'->Zt C w S.nx Fs id ks b G b':=fun G _ b' hb=> .inl hb
 have VW: ∀b',F b' +f1 b b' =Fs id b':=fun b'=>by rw[g5];simp;omega
 let G:FP:=ez FA (ez Fv FD)
 have hG: ∀b',G b' +f1 b b' <=Fs id b' +fh Fs ks b':=fun b'=>by
  have:=VW b'
  have:=hFv b'
  rw[RI,Rz] at*
  simp[G] at*
  omega
 have hGb:G b=0:=by
  have:=hG b
  have:=Co b
  simp at*
  omega
 have hkb:fh Fs ks b=0:=by
  have:=Co b
  have:=VW b
  simp at*
  omega
 have hZu: ∀b',Zu C w S.nx Fs ks Fv b'->Zt C w S.nx Fs id ks b G b':=fun b' hb=>by
  rcases hb with hb| ⟨k1,k2⟩
  ·exact .inl hb
  ·have:=Co b'
   have:=VW b'
   refine .inr ⟨by omega,?_,by rintro rfl;omega⟩
   have e1:F b' =0:=by omega
   rw[RI,Rz] at e1
   simp at e1
   simp[G];omega
 have wO:aG w (Zt C w S.nx Fs id ks b G) (A++(B' ++D)) (arr.toList.take off++((a.eval x).cells.toList++arr.toList.drop (off+ti.size))) G:=by
  have ha:aG w (Zt C w S.nx Fs id ks b G) A (arr.toList.take off) FA:=by rw[<- hA];exact h1.mono (fun b hb=>⟨.inl hb,rfl⟩) (fun b _=>rfl)
  have hd:aG w (Zt C w S.nx Fs id ks b G) D (arr.toList.drop (off+ti.size)) FD:=by
   rw[List.drop_drop,hA] at h4
   rw[t2]
   exact h4.mono (fun b hb=>⟨.inl hb,rfl⟩) (fun b _=>rfl)
  have tq:aG w (Zt C w S.nx Fs id ks b G) B' (a.eval x).cells.toList Fv:=hv.mono (fun b hb=>⟨hZu b hb,rfl⟩) (fun b _=>rfl)
  exact aG.append ha (by rw[aP,bC];omega) (aG.append tq (by rw[bC];omega) hd)
 have ada: ∃F',aG w (Zt C w S.nx Fs id ks b F') r'.cells (arr.toList.take off++((a.eval x).cells.toList++arr.toList.drop (off+ti.size))) F' /\ ∀b',F' b' +f1 b b' <=Fs id b' +fh Fs ks b':=by
  cases own with
  |true=>rw[hct rfl];exact ⟨G,wO,hG⟩
  |false=>
   rw[hcf rfl]
   refine ⟨fz,wO.jw (fun b' hb=> ?_) (fun b' hb=> .inr ⟨?_,rfl,?_⟩),fun b'=> ?_⟩
   ·rcases hb with hb| ⟨k1,_,k3⟩
    ·exact .inl hb
    ·exact .inr ⟨k1,rfl,k3⟩
   ·have:=hG b';omega
   ·rintro rfl;omega
   ·have:=hG b';simp;omega
 obtain ⟨F',k1,k2⟩:=ada
 rw[bp] at pc
 refine Out.stored ho pc (cn.KH h ks yU.1 (fun k hk=>by obtain ⟨e,v,r,hh⟩:=yU.2 k hk;rw[hh];simp) KI aJ hρ g1 e' yR r' F' ?_ k2 (by have:=VW b;simp at this;omega) hlen ?_ (hl _))
 ·simpa using k1
 ·have e1:(arr.toList.take off++((a.eval x).cells.toList++arr.toList.drop (off+ti.size))).length=arr.size:=by
   simp only[au,aP,cO,bC,Vf,t2]
   omega
  rw[List.size_toArray,e1]
  exact xY
end
section
variable {P:Program} {tt:TT} {C:Cx} {S:St} {a:Act} {w:World} {ρ:Place} {Fs:Nat->FP} {n:Nat}
theorem Aq (T:qc P tt) {t:Nat} {e:TE} (h:tt t=some e): ∃i,P.info? t=some i/\i.size=e.size:=by
 obtain ⟨i,i1,i2,_⟩:=(T t e h).Gg
 exact ⟨i,i1,i2⟩
theorem PN {r:Row} (h:r.deep=false) (f:Nat):r.oh f=false:=by
 cases hs:r.oh f with
 |false=>rfl
 |true=>rw[CT hs] at h;cases h
theorem YA {α:Type} (l:List α) (i:Nat) (h:i<l.length):l=l.take i++([l[i]]++l.drop (i+1)):=by
 rw[List.singleton_append,List.getElem_cons_drop,b_]
theorem CX {α:Type} (l:List α) (i:Nat) (h:i<l.length):(l.take i).length=i:=by simp;omega
theorem r_ {α:Type} (l:List α) (i:Nat) (y:α) (h:i<l.length):l.set i y=l.take i++(y::l.drop (i+1)):=by
 rw[List.set_eq_take_append_cons_drop,aS h]
theorem Gu (T:qc P tt) (h:cn C S a w ρ Fs) {o:Oper} {t:Nat} {p x:Operand} (ho:o.op= .store t p x) {id i:Nat} (hp:St.rd C.N S.sl p= .one (.l (.vc id i 0))) {root:aQ} (aJ:S.hp id=some root) {own:Bool} {l:LL} (hr:root.row? =some (.rows own l)) (hs:fA tt t=true)
 {c:Cell} (YB:kh w (C.ZL w (aR S.nx Fs)) (ρ id) ((Row.rows own l).cells.set i c) l.length 1 (Fs id))
 {y:LV} (hx:St.rd C.N S.sl x= .one (.l y)) {o':Bool} {z:LI} {ks:List Nat} (he:uu S.hp y=some (o',z,ks)) (KI:id∉ks) (e' yR:Nat)
 (hl: ∀w',BM w w' (ρ id) root (.row e' yR (.rows (own&&o') (l.set i z)))) {nx:Nat} {rl rc:List Nat}: ∃w' ρ' Fs' u,Out P C S o ⟨.l .undef,fi ks++[(id,some (.row e' yR (.rows (own&&o') (l.set i z))))],nx,rl,rc⟩ a w w' ρ' Fs' u:=by
 obtain ⟨iS,yF⟩:=kE h hp
 obtain ⟨r1,e1,hi,b,cap,hρ,Q0⟩:=yF _ aJ
 rw[hr] at e1;cases e1
 simp only[Cx.env,Row.len,Row.size,Nat.mul_one,Nat.add_zero] at hρ hi Q0
 obtain ⟨F1,k1,k2,k3,k4,k5⟩:=wq h.mem (Sub.refl _) he (kE h hx)
 rcases YB with ⟨_,h0,_⟩| ⟨b',th,arr,ty,F,g1,g2,g3,g4,g5,g6⟩
 ·omega
 rw[hρ] at g1;cases g1
 have g7:F b=0:=by
  have t1:=mP Fs b (eR h.mem aJ)
  have t2:=h.mem.one b
  rw[g6] at t1
  simp at t1
  omega
 obtain ⟨ti,t1,t2⟩:=Ap T hs
 have yd:(Row.rows own l).cells.length=l.length:=by simp[Row.cells]
 have TU:=r_ (Row.rows own l).cells i c (by omega)
 rw[TU] at g5
 have o9:=rZ k5
 refine CW T h ho Q0 aJ hρ g2 g6 g7 k3 KI (A:=(Row.rows own l).cells.take i) (B:=[c]) (D:=(Row.rows own l).cells.drop (i+1)) (B':=[.sl o' z]) g5 (CX _ _ (by omega)) rfl t1 (by rw[t2];rfl) (by rw[o9];rfl) (fun u hu=>by rw[o9] at hu;simp at hu;subst hu;exact k5) (by rw[o9];exact Gp k1) k2 (own&&o') _ yR e'
  (fun hh=> ?_) (fun _=> ?_) (by simp only[Row.len,fg];exact g3) (by simpa[Row.size] using g4) hl
 ·obtain ⟨rfl,rfl⟩:=ba hh
  show (l.set i z).map _=_
  rw[r_ l i z hi]
  simp[Row.cells,List.map_take,List.map_drop]
 ·show (l.set i z).map _=_
  rw[r_ l i z hi]
  rename_i hf
  simp[Row.cells,List.map_take,List.map_drop,Cell.jw,Function.comp_def,hf]
theorem MK (T:qc P tt) (h:cn C S a w ρ Fs) {o:Oper} {t:Nat} {p x:Operand} (ho:o.op= .store t p x) {id ver i f j e:Nat} {l:LL} {z:Int} (hp:St.rd C.N S.sl p= .one (.l (.CO id ver i f j))) (aJ:S.hp id=some (.row e ver (.rows true l))) (hs:fA tt t=true) (hx:St.rd C.N S.sl x= .one (.l (.i .i64 z))) {nx:Nat} {rl rc:List Nat}:
 ∃w' ρ' Fs' u,Out P C S o ⟨.l .undef,[(id,some (.row e ver (.rows true (l.set i ((l.getD i []).set j z)))))],nx,rl,rc⟩ a w w' ρ' Fs' u:=by
 obtain ⟨iS,yF⟩:=kE h hp
 obtain ⟨_,_,L8⟩:=yF _ aJ
 obtain ⟨k1,k2,k3,A0,n0,VX,k4,Q0⟩:=L8 e _ rfl
 have hv:a.eval x= .int .i64 z:=kE h hx
 simp only[Row.oh] at k1
 have KJ:=aE k1
 subst KJ
 simp only[Row.len] at k2
 have M7:l.getD i [] =l[i]:=by simp[k2]
 simp only[gj,M7] at k3
 simp only[Row.size,Nat.mul_one,Nat.add_zero,Cx.env] at k4
 cases hρ:ρ id with
 |none=>rw[hρ] at k4;cases k4
 |some q=>
  obtain ⟨b,cap⟩:=q
  rw[hρ] at k4
  obtain ⟨arr,ty,F,g1,g2,g3,g4,g5,g6⟩:=tJ h.mem aJ hρ (by simp only[Row.len];omega)
  simp only[cellAt] at k4
  rw[cY g1] at k4
  have yd:(Row.rows true l).cells.length=l.length:=by simp[Row.cells]
  have sf:=YA (Row.rows true l).cells i (by omega)
  have hci:(Row.rows true l).cells[i]'(by omega)= .sl true l[i]:=by simp[Row.cells]
  rw[hci] at sf
  have aaN:=g4.length
  simp only[bC] at aaN
  have has:=YA arr.toList i (by simp;omega)
  have Y8:=g4
  rw[sf] at Y8
  obtain ⟨FA,F2,s1,s2,s3⟩:=aG.split Y8
  obtain ⟨FB,FD,s4,s5,s6⟩:=aG.split s2
  have hAl:((Row.rows true l).cells.take i).length=i:=CX _ _ (by omega)
  rw[hAl] at s1 s4 s5
  have Xp:arr.toList[i]'(by simp;omega)= .slice (some A0) n0 VX:=by
   have:arr.toList[i]? =some (.slice (some A0) n0 VX):=by simpa using k4
   exact (List.getElem?_eq_some_iff.1 this).2
  have aaP:arr.toList.drop i= .slice (some A0) n0 VX::arr.toList.drop (i+1):=by
   rw[<- Xp,List.getElem_cons_drop]
  rw[aaP] at s4 s5
  simp only[cz,List.take_succ_cons,List.take_zero,List.drop_succ_cons,ah] at s4 s5
  obtain ⟨G1,G2,r1,r2,r3⟩:=s4
  have hG2:G2=fz:=r2
  subst hG2
  rw[dw] at r3
  subst r3
  rcases r1 with ⟨_,Tw,_⟩| ⟨b2,Cc,yS,RH,q1,q2,q3,q4,q5,q6⟩
  ·rw[Tw] at k3;simp at k3
  simp only[Value.slice.injEq,af] at q1
  obtain ⟨rfl,rfl,rfl⟩:=q1
  obtain ⟨ti,t1,t2⟩:=Ap T hs
  rw[fS,Nat.zero_add] at Q0
  have pc:=Gt (P:=P) t1 t2 q2 (o:=j) (v:=a.eval x) (by rw[hv];rfl) (by omega)
  rw[<- Q0] at pc
  have YC: ∀b',F b' =FA b' +(f1 b2 b' +FD b'):=fun b'=>by rw[s3,s6,q6];simp
  have o9: ∀b',Fs id b' <=1:=fun b'=>bx (mP Fs b' (eR h.mem aJ)) (h.mem.one b')
  have Cd:Fs id b2=1:=by
   have h1:=o9 b2
   have h2:=YC b2
   have h3:Fs id b2=f1 b b2+F b2:=by rw[g5];rfl
   simp at h2
   omega
  have nL:b≠b2:=by
   rintro rfl
   have h2:=YC b
   simp at h2
   omega
  have YV:FA b2=0/\FD b2=0:=by
   have h2:=YC b2
   have h3:Fs id b2=f1 b b2+F b2:=by rw[g5];rfl
   simp at h2
   omega
  have aaQ: ∀i' f',(gj (.rows true (l.set i ((l.getD i []).set j z))) i' f').length=(gj (.rows true l) i' f').length:=fun i' f'=>by
   simp only[gj,aL,List.getElem?_set]
   by_cases ei:i=i'
   ·subst ei;simp[k2]
   ·simp[ei]
  have:=h.VP [] (by simp) (by simp) id (by simp) _ (.row e ver (.rows true (l.set i ((l.getD i []).set j z)))) aJ (Fs id) (w.setRow b2 (yS.toList.set j (a.eval x)).toArray) (setRow_size ..) rfl rfl rfl
   (fun b' tq h0=>setRow_other w b2 _ (by rintro rfl;omega)) (fun b'=>by simp[fh]) ⟨by simp[Row.len],rfl,ai _,fun _=>rfl,fun _ _=>⟨aaQ,fun b' th hq=>by rw[hρ] at hq;cases hq;exact setRow_other w b2 _ nL⟩⟩
   (fun M=>by
     have Xo: ∀ {cs:List Cell} {vs:List Value} {G:FP},aG w (C.ZL w (aR S.nx Fs)) cs vs G->G b2=0->aG (w.setRow b2 (yS.toList.set j (a.eval x)).toArray) (C.ZL (w.setRow b2 (yS.toList.set j (a.eval x)).toArray) (aR S.nx (jH (fD Fs []) id (Fs id)))) cs vs G:=fun hc hG=>
      hc.mono (fun b' tq=>M.zl b' tq) (fun b' tq=>setRow_other w b2 _ (by rintro rfl;omega))
     refine .inr ⟨b,cap,arr,ty,F,hρ,by rw[show (C.env (w.setRow b2 (yS.toList.set j (a.eval x)).toArray) ρ (jh S.hp (fi []++[(id,some (.row e ver (.rows true (l.set i ((l.getD i []).set j z)))))])) S.nx (jH (fD Fs []) id (Fs id))).w=w.setRow b2 (yS.toList.set j (a.eval x)).toArray from rfl,setRow_other w b2 _ nL];exact g1,by simp only[Row.len,fg];exact g2,g3,?_,g5⟩
     have adb:(Row.rows true (l.set i ((l.getD i []).set j z))).cells=(Row.rows true l).cells.take i++([.sl true (l[i].set j z)]++(Row.rows true l).cells.drop (i+1)):=by
      show (l.set i _).map _=_
      rw[r_ l i _ k2,M7]
      simp[Row.cells,List.map_take,List.map_drop]
     rw[adb,has,Xp]
     have Wu:F=ez FA (ez (f1 b2) FD):=by rw[s3,s6,q6]
     rw[Wu]
     refine aG.append (Xo s1 YV.1) (by rw[hAl];simp;omega) (aG.append (F:=f1 b2) ?_ rfl (Xo s5 YV.2))
     refine ⟨f1 b2,fz,.inr ⟨b2,VX,(yS.toList.set j (a.eval x)).toArray,RH,by simp,setRow_heap w b2 yS _ RH _ q2,by simp;exact q3,by simp;exact q4,fun j' n' M3=> ?_,rfl⟩,rfl,(dw _).symm⟩
     rw[List.getElem?_set] at M3
     simp only[List.getElem?_toArray,List.getElem?_set]
     by_cases ej:j=j'
     ·subst ej
      rw[aS rfl] at M3 ⊢
      have hjs:j<yS.toList.length:=by simp;omega
      simp only[k3,if_true,af] at M3
      subst M3
      simp[hjs,hv]
      omega
     ·rw[aD ej] at M3 ⊢
      simpa using q5 j' n' M3)
  exact Out.stored ho pc this
theorem HW (T:qc P tt) (h:cn C S a w ρ Fs) {o:Oper} {t:Nat} {p x:Operand} (ho:o.op= .store t p x) {E:kG} (he:rO (R:=kG) tt S.hp n t (St.rd C.N S.sl p) (St.rd C.N S.sl x) some=some E): ∃w' ρ' Fs' u,Out P C S o E a w w' ρ' Fs' u:=by
 unfold rO at he
 split at he
 ·rename_i id k hp
  split at he
  ·rename_i bt cells xs aJ EB
   obtain ⟨h1,he⟩:=aH he
   obtain ⟨h2,he⟩:=aH he
   cases he
   obtain ⟨h1,h3⟩:=ba h1
   rw[OE xs cells k (ao h2)]
   exact MJ T h ho hp aJ EB (aE h1) (by simpa[Nat.blt_eq] using h3) (ao h2)
  ·cases he
 ·rename_i id i f hp
  split at he
  ·rename_i te K0
   split at he
   ·rename_i bt ver r aJ
    obtain ⟨hc,he⟩:=aH he
    split at he
    ·rename_i r' ks bump lN
     cases rK:ks.elem id with
     |true=>rw[rK] at he;cases he
     |false=>
      rw[rK] at he
      cases he
      have KI:id∉ks:=fun hh=>by rw[List.elem_iff.2 hh] at rK;cases rK
      obtain ⟨iS,yF⟩:=kE h hp
      obtain ⟨r1,e1,hi,b,cap,hρ,Q0⟩:=yF _ aJ
      cases e1
      simp only[Cx.env] at hρ
      have TV:fT tt t=false->fA tt t=true/\f<r.size:=fun hs=>by
       rw[hs] at hc
       obtain ⟨h1,h2⟩:=ba hc
       exact ⟨h1,by simpa[Nat.blt_eq] using h2⟩
      have TW:fT tt t=true->te.size=r.size/\f=0/\r.ur=true:=fun hs=>by
       rw[hs] at hc
       obtain ⟨h1,h2⟩:=ba hc
       obtain ⟨h3,h4⟩:=ba h1
       exact ⟨aE h3,aE h4,h2⟩
      cases r with
      |ints k l=>
       have U9:fT tt t=false:=by
        cases hq:fT tt t with
        |false=>rfl
        |true=>have:=(TW hq).2.2;cases this
       obtain ⟨hs,hf⟩:=TV U9
       simp only[Row.size] at hf
       have KJ:f=0:=by omega
       subst KJ
       simp only[Row.len] at hi
       simp only[pa] at lN
       split at lN
       ·rename_i k' z hx
        obtain ⟨hk,lN⟩:=aH lN
        have hk:=ao hk
        subst hk
        simp only[af,aA] at lN
        obtain ⟨rfl,rfl,rfl⟩:=lN
        have hv:a.eval x= .int k z:=kE h hx
        exact wv T h ho hp aJ hs (by simp[Row.size]) (.sc (.int k z)) (.ints k (l.set i z)) ver bt (by simp[Row.cells,Row.size,List.map_set]) ⟨.int k l[i],by simp[Row.cells,Row.size,hi]⟩ ⟨hv,rfl⟩ (by rw[hv];rfl) (by simp[Row.len]) rfl (fun w'=>rh (by simp[Row.len]) rfl (ai _) (fun _=>rfl) (fun _=>rfl))
       ·cases lN
      |eQ l=>
       have U9:fT tt t=false:=by
        cases hq:fT tt t with
        |false=>rfl
        |true=>have:=(TW hq).2.2;cases this
       obtain ⟨hs,hf⟩:=TV U9
       simp only[Row.size] at hf
       have KJ:f=0:=by omega
       subst KJ
       simp only[Row.len] at hi
       simp only[pa] at lN
       split at lN
       ·rename_i z hx
        simp only[af,aA] at lN
        obtain ⟨rfl,rfl,rfl⟩:=lN
        have hv:a.eval x= .bool z:=kE h hx
        exact wv T h ho hp aJ hs (by simp[Row.size]) (.sc (.bool z)) (.eQ (l.set i z)) ver bt (by simp[Row.cells,Row.size,List.map_set]) ⟨.bool l[i],by simp[Row.cells,Row.size,hi]⟩ ⟨hv,rfl⟩ (by rw[hv];rfl) (by simp[Row.len]) rfl (fun w'=>rh (by simp[Row.len]) rfl (ai _) (fun _=>rfl) (fun _=>rfl))
       ·cases lN
      |strs l=>
       have U9:fT tt t=false:=by
        cases hq:fT tt t with
        |false=>rfl
        |true=>have:=(TW hq).2.2;cases this
       obtain ⟨hs,hf⟩:=TV U9
       simp only[Row.size] at hf
       have KJ:f=0:=by omega
       subst KJ
       simp only[Row.len] at hi
       simp only[pa] at lN
       split at lN
       ·rename_i z hx
        simp only[af,aA] at lN
        obtain ⟨rfl,rfl,rfl⟩:=lN
        have hv:a.eval x= .string z:=kE h hx
        exact wv T h ho hp aJ hs (by simp[Row.size]) (.sc (.string z)) (.strs (l.set i z)) ver bt (by simp[Row.cells,Row.size,List.map_set]) ⟨.string l[i],by simp[Row.cells,Row.size,hi]⟩ ⟨hv,rfl⟩ (by rw[hv];rfl) (by simp[Row.len]) rfl (fun w'=>rh (by simp[Row.len]) rfl (ai _) (fun _=>rfl) (fun _=>rfl))
       ·cases lN
      |rows own l=>
       have U9:fT tt t=false:=by
        cases hq:fT tt t with
        |false=>rfl
        |true=>have:=(TW hq).2.2;cases this
       obtain ⟨hs,hf⟩:=TV U9
       simp only[Row.size] at hf
       have KJ:f=0:=by omega
       subst KJ
       simp only[Row.len] at hi
       simp only[pa] at lN
       split at lN
       ·rename_i y hx
        split at lN
        ·rename_i o' z ks' YD
         simp only[af,aA] at lN
         obtain ⟨rfl,rfl,rfl⟩:=lN
         have QJ:=h.mem.roots id _ aJ
         simp only[lJ,Cx.env] at QJ
         have wT:(Row.rows own l).cells.set i (.sl own l[i])=(Row.rows own l).cells:=by
          have:(Row.rows own l).cells[i]? =some (.sl own l[i]):=by simp[Row.cells,hi]
          apply List.ext_getElem?
          intro j
          rw[List.getElem?_set]
          by_cases e:i=j
          ·subst e;rw[aS rfl,this,aS (List.getElem?_eq_some_iff.1 this).1]
          ·rw[aD e]
         exact Gu T h ho hp aJ rfl hs (c:= .sl own l[i]) (by rw[wT];exact QJ) hx YD KI bt (ver+1) (fun w'=>rh (by simp[Row.len]) rfl (Nat.le_succ _) (fun _=>rfl) (fun hh=>by omega))
        ·cases lN
       ·cases lN
      |ek sg own l=>
       simp only[Row.len] at hi
       have TU:l=l.take i++([l[i]]++l.drop (i+1)):=YA l i hi
       have hA:((l.take i).flatMap fun r=>cR own r 0 sg).length=i*sg.length:=by
        rw[sX _ sg.length (fun r=>dV ..),CX l i hi]
       simp only[pa] at lN
       split at lN
       ·rename_i xs hx
        obtain ⟨Ou,lN⟩:=aH lN
        split at lN
        ·rename_i o' z ks' YD
         simp only[af,aA] at lN
         obtain ⟨rfl,rfl,rfl⟩:=lN
         obtain ⟨oX,KJ,_⟩:=TW Ou
         subst KJ
         simp only[Row.size] at oX
         obtain ⟨arr,ty,F,g1,g2,g3,g4,g5,g6⟩:=tJ h.mem aJ hρ (by simp only[Row.len];omega)
         have hv:jC (C.env w ρ S.hp S.nx Fs) (.one (.agg xs)) (a.eval x):=by have:=h.rd x;rwa [hx] at this
         obtain ⟨us,hus,hrel⟩:=hv
         obtain ⟨Fv,v1,v2,v3,v4,v5⟩:=zF h.mem sg _ xs us o' z ks' (Sub.refl _) YD hrel
         obtain ⟨ti,t1,t2⟩:=Aq T K0
         have sf:(Row.ek sg own l).cells=((l.take i).flatMap fun r=>cR own r 0 sg)++(cR own l[i] 0 sg++((l.drop (i+1)).flatMap fun r=>cR own r 0 sg)):=by
          refine (congrArg (List.flatMap fun r=>cR own r 0 sg) TU).trans ?_
          simp only[List.flatMap_append,List.flatMap_cons,List.flatMap_nil,cm]
         rw[sf] at g4
         have YE:(a.eval x).cells.toList=us:=by rw[hus];simp[Value.cells]
         have VL:(a.eval x).cells.size=sg.length:=by rw[<- bC,YE,v4]
         exact CW T h ho Q0 aJ hρ g1 g5 g6 v3 KI (A:=(l.take i).flatMap fun r=>cR own r 0 sg) (B:=cR own l[i] 0 sg) (D:=(l.drop (i+1)).flatMap fun r=>cR own r 0 sg) (B':=cR o' z 0 sg) g4 (by rw[hA];rfl) (by rw[dV,dV]) t1 (by rw[t2,oX,dV]) (by rw[VL,dV]) (by rw[YE];exact v5) (by rw[YE];exact v1) v2 (own&&o') (.ek sg (own&&o') (l.set i z)) (ver+1) bt
          (fun hh=>by
            obtain ⟨rfl,rfl⟩:=ba hh
            show (l.set i z).flatMap _=_
            rw[r_ l i z hi]
            simp)
          (fun hh=>by
            rw[hh]
            show (l.set i z).flatMap _=_
            rw[r_ l i z hi]
            simp[List.map_flatMap,oI])
          (by simp only[Row.len,fg];exact g2) g3 (fun w'=>rh (by simp[Row.len]) rfl (Nat.le_succ _) (fun _=>rfl) (fun hh=>by omega))
        ·cases lN
       ·rename_i z hx
        cases Ou:fT tt t with
        |true=>rw[Ou] at lN;cases lN
        |false=>
         rw[Ou] at lN
         simp only[an] at lN
         obtain ⟨hs,hf⟩:=TV Ou
         simp only[Row.size] at hf
         split at lN
         ·rename_i hsg
          simp only[af,aA] at lN
          obtain ⟨rfl,rfl,rfl⟩:=lN
          have hv:a.eval x= .int .i64 z:=kE h hx
          have hli:l[i]? =some l[i]:=aw hi
          have M7:l.getD i [] =l[i]:=by simp[hi]
          refine wv T h ho hp aJ hs hf (.sc (.int .i64 z)) (.ek sg own (l.set i (yC sg (l.getD i []) f (.int z)))) (ver+1) bt ?_ ?_ ⟨hv,rfl⟩ (by rw[hv];rfl) (by simp[Row.len]) rfl (fun w'=>rh (by simp[Row.len]) rfl (Nat.le_succ _) (fun _=>rfl) (fun hh=>by omega))
          ·simp only[Row.cells,Row.size]
           refine xO (fun r=>cR own r 0 sg) sg.length (fun r=>dV ..) f hf _ _ l i l[i] hli ?_
           rw[M7]
           exact zw own sg l[i] f (.int z) _ ⟨false,hsg,rfl⟩
          ·have:=u2 sg own l i f hf
           rw[hli,hsg] at this
           exact ⟨_,this⟩
         ·cases lN
       ·cases lN
    ·cases he
   ·rename_i bt ver l i' f' aJ
    replace he:=aH he
    obtain ⟨hc,he⟩:=he
    obtain ⟨KJ,hs⟩:=ba hc
    have KJ:=aE KJ
    replace he:=ij he
    obtain ⟨hii,he⟩:=he
    have hii:=aE hii
    subst KJ hii
    split at he
    ·rename_i y hx
     split at he
     ·rename_i z ks rK
      cases KK:ks.elem id with
      |true=>rw[KK] at he;cases he
      |false=>
       rw[KK] at he
       cases he
       have KI:id∉ks:=fun hh=>by rw[List.elem_iff.2 hh] at KK;cases KK
       have QJ:=h.mem.roots id _ aJ
       obtain ⟨h1,h2,h3⟩:=QJ
       simp only[Row.size] at h2
       have KJ:f' =0:=by omega
       subst KJ
       simp only[Row.size,Nat.mul_one,Nat.add_zero,Cx.env] at h3
       exact Gu T h ho hp aJ rfl hs (c:= .free) h3 hx rK KI bt (ver+1) (fun w'=>⟨by simp[Row.len],rfl,Nat.lt_succ_self _⟩)
     ·cases he
    ·cases he
   ·cases he
  ·cases he
 ·rename_i id m hp
  split at he
  ·rename_i k e sz bs hq
   split at he
   ·rename_i bt ver r xs r0 aJ hx K1
    replace he:=aH he
    obtain ⟨hc,he⟩:=he
    obtain ⟨hc,c9⟩:=ba hc
    obtain ⟨hc,c8⟩:=ba hc
    obtain ⟨hc,c7⟩:=ba hc
    obtain ⟨hc,c6⟩:=ba hc
    obtain ⟨hc,c5⟩:=ba hc
    obtain ⟨hc,c4⟩:=ba hc
    obtain ⟨c2,c3⟩:=ba hc
    have c2:=aE c2
    have c3:=aE c3
    have c4:=aE c4
    have c6:=aE c6
    have c8:=aE c8
    have c9:0<k:=by simpa[Nat.blt_eq] using c9
    have c5:r0.deep=false:=by simpa using c5
    have c7:r.deep=false:=by simpa using c7
    split at he
    ·rename_i r' ru
     cases he
     obtain ⟨iS,yF⟩:=kE h hp
     obtain ⟨r1,e1,Qa,b,cap,hρ,Q0⟩:=yF _ aJ
     cases e1
     simp only[Cx.env] at hρ
     obtain ⟨arr,ty,F,g1,g2,g3,g4,g5,g6⟩:=tJ h.mem aJ hρ (by omega)
     unfold TC at ru
     split at ru
     ·rename_i r2 ZW
      simp only[af] at ru
      subst ru
      have hv:jC (C.env w ρ S.hp S.nx Fs) (.one (.agg xs)) (a.eval x):=by have:=h.rd x;rwa [hx] at this
      obtain ⟨us,hus,hrel⟩:=hv
      have aaR: ∀(xs:List LV) (us:List Value),cw (C.env w ρ S.hp S.nx Fs) xs us->jI (C.env w ρ S.hp S.nx Fs) (xs.map fun x=> .l x) us:=by
       intro xs
       induction xs with
       |nil=>intro us hh;cases us<;>exact hh
       |cons y ys ih=>intro us hh;cases us with
        |nil=>exact hh
        |cons u us=>exact ⟨hh.1,ih us hh.2⟩
      have QP:Sub (fun _=>none) S.hp:=fun j r hj=>by cases hj
      obtain ⟨Fv,v1,v2,v3,v4,v5,v6,v7,v8,v9,v10⟩:=DQ h.mem _ us _ r0 r2 [] QP (np K1) ZW (aaR xs us hrel)
      have hir:r0.ur=false:=by cases r0<;>first|rfl| (simp[Row.deep] at c5;done)
      have o9: ∀u∈us,u.cells= #[u]:=fun u hu=>rZ (v10 hir u hu)
      have ZP:flat us=us:=by
       have: ∀l:List Value,(∀u∈l,u.cells= #[u])->flat l=l:=by
        intro l
        induction l with
        |nil=>intro _;rfl
        |cons u l ih=>intro hl;rw[pJ,hl u (by simp),ih (fun q hq=>hl q (by simp[hq]))];rfl
       exact this us o9
      rw[ZP] at v1 v8
      have hdd:r2.deep=false/\r2.size=1:=⟨by rw[v9];exact c5,by rw[v5];exact c4⟩
      obtain ⟨ti,t1,t2⟩:=Aq T hq
      have ahx:ti.size=k:=by rw[t2,<- c8];simp[cJ,hq]
      have YE:(a.eval x).cells.toList=us:=by rw[hus];simp[Value.cells]
      have Wn:us.length=k:=by rw[v7,ca,c2]
      have ahy:r.cells.length=k:=by rw[Row.gm,c6,Qa,c3,Nat.mul_one]
      have ahz:r2.cells.length=k:=by rw[Row.gm,hdd.2,v4,ca,c2,Nat.mul_one]
      have VL:(a.eval x).cells.size=k:=by rw[<- bC,YE,Wn]
      exact CW T h ho Q0 aJ hρ g1 g5 g6 (oH.nil _) (by simp) (A:=[]) (B:=r.cells) (D:=[]) (B':=r2.cells) (ks:=[]) (by simpa using g4) rfl (by omega) t1 (by omega) (by omega) (by rw[YE];exact v8) (by rw[YE];exact v1) v2 true r2 (ver+1) bt (fun _=>by simp) (fun hh=>by cases hh) (by rw[v4,ca];omega) (by rw[hdd.2];rw[c6] at g3;exact g3)
       (fun w'=>rh (by rw[v4,ca];omega) (by rw[hdd.2,c6]) (Nat.le_succ _) (fun f=>by rw[PN c7,PN hdd.1]) (fun hh=>by omega))
     ·cases ru
    ·cases he
   ·cases he
  ·cases he
 ·rename_i id ver i f j hp
  split at he
  ·rename_i bt v' r z aJ hx
   replace he:=aH he
   obtain ⟨hc,he⟩:=he
   obtain ⟨h1,h2⟩:=ba hc
   have h1:=aE h1
   subst h1
   split at he
   ·rename_i r' ru
    cases he
    cases r with
    |rows own l=>
     cases own with
     |false=>cases ru
     |true=>
      simp only[Mt,af] at ru
      subst ru
      exact MK T h ho hp aJ h2 hx
    |_=>cases ru
   ·cases he
  ·cases he
 ·cases he
end
section
variable {P:Program} {tt:TT} {C:Cx} {S:St} {a:Act} {w:World} {ρ:Place} {Fs:Nat->FP} {n:Nat}
def Zx (C:Cx) (w:World) (nx:Nat) (Fs:Nat->FP) (ks:List Nat) (X:Nat) (F:FP):Zs:=fun b'=>C.ZL w (aR nx Fs) b' \/(1<=fh Fs ks b' /\F b' =0/\b' ≠X)
theorem DT {ks:List Nat} {X:Nat} {cs ct cf:List Cell} {vs:List Value} {F:FP} (h:aG w (C.ZL w (aR S.nx Fs)) cs vs F) (hF: ∀b,F b<=fh Fs ks b) (hX:F X=0) (o:Bool) (h1:o=true->ct=cs) (h2:o=false->cf=cs.map Cell.jw): ∃F',aG w (Zx C w S.nx Fs ks X F') (if o then ct else cf) vs F' /\(∀b,F' b<=fh Fs ks b)/\F' X=0:=by
 cases o with
 |true=>rw[h1 rfl];exact ⟨F,h.mono (fun b hb=>⟨.inl hb,rfl⟩) (fun b _=>rfl),hF,hX⟩
 |false=>
  rw[h2 rfl]
  refine ⟨fz,h.jw (fun b hb=> .inl hb) (fun b' hb=> .inr ⟨bx hb (hF b'),rfl,?_⟩),fun b=>by simp,rfl⟩
  rintro rfl;omega
theorem cn.TX (h:cn C S a w ρ Fs) (hg:S.hp n=some .gW) (ks:List Nat) (yU:ks.Nodup) (oL: ∀k∈ks,∃r,S.hp k=some r/\r.real) (X cap:Nat) (arr:Array Value) (ty:TypeId) (e:Nat) (r:Row) (F:FP) (w':World)
 (hX:(X=w.heap.size/\w'.heap.size=w.heap.size+1)\/(1<=fh Fs ks X/\w'.heap.size=w.heap.size)) (vj: ∀b,b<w.heap.size->b≠X->w'.heap[b]? =w.heap[b]?) (lV:w'.heap[X]? =some (.cells arr ty (0,0))) (QX:w'.os=w.os) (QY:w'.tape=w.tape) (CU:w'.output=w.output)
 (hc:aG w (Zx C w S.nx Fs ks X F) r.cells arr.toList F) (hF: ∀b,F b<=fh Fs ks b) (hFX:F X=0) (h1:r.len<=cap) (h2:cap*r.size<=arr.size):
 cn C ⟨S.sl,jh S.hp (fi ks++[(n,some (.row e 0 r))]),S.nx⟩ a w' (k_ ρ n (some (X,cap))) (jH (fD Fs ks) n (ez (f1 X) F)):=by
 have hk: ∀k∈ks,k<S.nx:=fun k h'=>by
  obtain ⟨r,k1,_⟩:=oL k h'
  exact eR h.mem k1
 have own: ∀b,1<=fh Fs ks b->b<w.heap.size/\(C.w0.heap.size<=b\/1<=C.F0 b):=fun b hb=>h.mem.uj b (bx hb (oC Fs b S.nx yU hk))
 refine h.make hg ks yU oL (.row e 0 r) (some (X,cap)) _ w' (by rcases hX with ⟨_,h⟩| ⟨_,h⟩<;>omega) QX QY CU (fun b hb h0=>vj b hb ?_) (fun b=> ?_) (fun M=> ?_)
 ·rintro rfl
  rcases hX with ⟨h,_⟩| ⟨h,_⟩<;>omega
 ·have:=hF b
  by_cases e:b=X
  ·subst e
   rcases hX with ⟨k1,k2⟩| ⟨k1,k2⟩
   ·rw[aS (by omega)];simp;omega
   ·simp;omega
  ·simp[Dv,e];omega
 ·refine .inr ⟨X,cap,arr,ty,F,h_ ..,lV,h1,h2,hc.mono (fun b hb=> ?_) (fun b hb=> ?_),rfl⟩
  ·rcases hb with hb| ⟨wD,Cd,M5⟩
   ·exact M.zl b hb
   ·obtain ⟨o1,o2⟩:=own b wD
    refine ⟨.inr (.inr ⟨o2,by show b<w'.heap.size;rcases hX with ⟨_,h⟩| ⟨_,h⟩<;>omega,?_⟩),vj b o1 M5⟩
    have g1:=iT (fD Fs ks) (ez (f1 X) F) b (eR h.mem hg)
    have g2:=oD Fs b S.nx ks yU hk
    have g3:=h.mem.one b
    have g4:f1 X b=0:=by rw[Dv,aD M5]
    simp[g4] at g1
    omega
  ·refine vj b (own b (bx hb (hF b))).1 ?_
   rintro rfl;omega
theorem cn.OF (h:cn C S a w ρ Fs) (hg:S.hp n=some .gW) (ks:List Nat) (yU:ks.Nodup) (oL: ∀k∈ks,∃r,S.hp k=some r/\r.real) (e:Nat) (r:Row) (hl:r.len=0) (w':World) (hw:w'.heap=w.heap) (QX:w'.os=w.os) (QY:w'.tape=w.tape) (CU:w'.output=w.output):
 cn C ⟨S.sl,jh S.hp (fi ks++[(n,some (.row e 0 r))]),S.nx⟩ a w' (k_ ρ n none) (jH (fD Fs ks) n fz):=
 h.make hg ks yU oL (.row e 0 r) none _ w' (by rw[hw];exact ai _) QX QY CU (fun b hb _=>by rw[hw]) (fun b=>by simp) (fun M=> .inl ⟨h_ ..,hl,rfl⟩)
def Cell.ok:Cell->Prop
 | .sc v=>v.oneCell' =true
 | .sl _ _=>True
 | .free=>False
theorem TY (r:Row): ∀c∈r.cells,c.ok:=by
 intro c hc
 cases r with
 |ints k l=>simp only[Row.cells,du] at hc;obtain ⟨x,_,rfl⟩:=hc;rfl
 |eQ l=>simp only[Row.cells,du] at hc;obtain ⟨x,_,rfl⟩:=hc;rfl
 |strs l=>simp only[Row.cells,du] at hc;obtain ⟨x,_,rfl⟩:=hc;rfl
 |rows o l=>simp only[Row.cells,du] at hc;obtain ⟨x,_,rfl⟩:=hc;trivial
 |ek sg o l=>
  simp only[Row.cells,List.mem_flatMap] at hc
  obtain ⟨x,_,hc⟩:=hc
  obtain ⟨j,hj⟩:=List.getElem?_of_mem hc
  rw[kw] at hj
  cases hs:sg[j]? with
  |none=>rw[hs] at hj;cases hj
  |some b=>rw[hs] at hj;cases b<;>(simp at hj;subst hj)<;>first|rfl|trivial
theorem ML {w:World} {Z:Zs} {c:Cell} {v:Value} {F:FP} (hc:c.ok) (h:ik w Z c v F):v.oneCell' =true:=by
 cases c with
 |sc u=>obtain ⟨rfl,_⟩:=h;exact hc
 |sl o l=>obtain ⟨A,cap,hv,_⟩:=Gl h;rw[hv];rfl
 |free=>exact hc.elim
theorem yH {w:World} {Z:Zs}: ∀ {cs:List Cell} {vs:List Value} {F:FP},(∀c∈cs,c.ok)->aG w Z cs vs F->vs.length<=cs.length-> ∀u∈vs,u.oneCell' =true
 | [],[],_,_,_,_,u,hu=>by cases hu
 | [],v::vs,_,_,_,hl,u,hu=>by simp at hl
 |c::cs,v::vs,F,hc,⟨F1,F2,h1,h2,hF⟩,hl,u,hu=>by
  rcases List.mem_cons.1 hu with rfl|hu
  ·exact ML (hc c (by simp)) h1
  ·exact yH (fun c' K8=>hc c' (by simp[K8])) h2 (by simpa using hl) u hu
theorem By {w:World} {Z:Zs}: ∀ {cs:List Cell} {vs:List Value} {F:FP},(∀c∈cs,(∃v,c= .sc v)\/ ∃l,c= .sl false l)->aG w Z cs vs F->F=fz
 | [],_,_,_,h=>h
 |c::cs,v::vs,F,hc,⟨F1,F2,h1,h2,hF⟩=>by
  have e2:=By (fun c' K8=>hc c' (by simp[K8])) h2
  have e1:F1=fz:=by
   rcases hc c (by simp) with ⟨u,rfl⟩| ⟨l,rfl⟩
   ·exact h1.2
   ·exact h1.1
  rw[hF,e1,e2,dw]
theorem DU {w:World} {Z Z':Zs}: ∀ {cs:List Cell} {vs:List Value} {F:FP},(∀c∈cs,∃v,c= .sc v)->aG w Z cs vs F->aG w Z' cs vs F
 | [],_,_,_,h=>h
 |c::cs,v::vs,F,hc,⟨F1,F2,h1,h2,hF⟩=>by
  obtain ⟨u,rfl⟩:=hc c (by simp)
  exact ⟨F1,F2,h1,DU (fun c' K8=>hc c' (by simp[K8])) h2,hF⟩
def Row.loose:Row->Bool
 | .rows true _=>false
 | .ek _ true _=>false
 |_=>true
theorem DW {r:Row} (h:r.loose=true): ∀c∈r.cells,(∃v,c= .sc v)\/ ∃l,c= .sl false l:=by
 intro c hc
 cases r with
 |ints k l=>simp only[Row.cells,du] at hc;obtain ⟨x,_,rfl⟩:=hc;exact .inl ⟨_,rfl⟩
 |eQ l=>simp only[Row.cells,du] at hc;obtain ⟨x,_,rfl⟩:=hc;exact .inl ⟨_,rfl⟩
 |strs l=>simp only[Row.cells,du] at hc;obtain ⟨x,_,rfl⟩:=hc;exact .inl ⟨_,rfl⟩
 |rows o l=>cases o with
  |true=>cases h
  |false=>simp only[Row.cells,du] at hc;obtain ⟨x,_,rfl⟩:=hc;exact .inr ⟨_,rfl⟩
 |ek sg o l=>cases o with
  |true=>cases h
  |false=>
   simp only[Row.cells,List.mem_flatMap] at hc
   obtain ⟨x,_,hc⟩:=hc
   obtain ⟨j,hj⟩:=List.getElem?_of_mem hc
   rw[kw] at hj
   cases hs:sg[j]? with
   |none=>rw[hs] at hj;cases hj
   |some b=>rw[hs] at hj;cases b<;>(simp at hj;subst hj)<;>first|exact .inl ⟨_,rfl⟩|exact .inr ⟨_,rfl⟩
theorem PO (m:kU C S.hp S.nx w ρ Fs) {id e ver:Nat} {r:Row} (aJ:S.hp id=some (.row e ver r)) {lo hi:Nat} (h1:lo<=hi) (h2:hi<=r.len) {tx e':TypeId} (hk:P.underlying tx=some (.slice e')):
 ∃news F,Src P r.size tx (oN (ρ id) r.size lo hi) (hi-lo) news w/\aG w (C.ZL w (aR S.nx Fs)) ((r.take hi).drop lo).cells news F/\ ∀b,F b<=Fs id b:=by
 rcases m.roots id _ aJ with ⟨g1,g2,g3⟩| ⟨b,cap,arr,ty,F',g1,g2,g3,g4,g5,g6⟩
 ·simp only[Cx.env] at g1
  have e1:lo=0:=by omega
  have e2:hi=0:=by omega
  subst e1 e2
  refine ⟨[],fz,by rw[g1];exact Src.ofNil w hk 0,?_,fun b=>by simp⟩
  rw[BZ (by rw[sO,take_len];omega)]
  rfl
 ·simp only[Cx.env] at g1 g2
  obtain ⟨F1,t1,t2⟩:=g5.take (hi*r.size)
  obtain ⟨F2,t3,t4⟩:=t1.drop (lo*r.size)
  have yd:((r.take hi).drop lo).cells=(r.cells.take (hi*r.size)).drop (lo*r.size):=by rw[Gi,vV,take_size]
  rw[<- yd] at t3
  have aaN:r.cells.length<=arr.size:=by have:=g5.length;simpa using this
  have Qa:r.cells.length=r.len*r.size:=Row.gm r
  have hm1:hi*r.size<=r.len*r.size:=Nat.mul_le_mul_right _ h2
  have Uw:lo*r.size<=hi*r.size:=Nat.mul_le_mul_right _ h1
  have WK:((arr.toList.take (hi*r.size)).drop (lo*r.size)).length=(hi-lo)*r.size:=by
   rw[Nat.sub_mul];simp;omega
  refine ⟨_,F2,?_,t3,fun b=> ?_⟩
  ·rw[g1]
   simp only[oN]
   refine Src.ofSlice w hk _ _ _ _ WK (fun j u hj=> ?_) (yH (TY _) t3 (by rw[WK,Row.gm,sO,take_len,I8,take_size];exact Nat.mul_le_mul_right _ (by omega)))
   rw[List.getElem?_drop,List.getElem?_take] at hj
   split at hj
   ·rename_i Jk
    split
    ·rename_i hc
     exfalso
     have:hi=lo:=by omega
     subst this
     omega
    ·rw[fS,cY g2]
     simpa using hj
   ·cases hj
  ·have:=t2 b;have:=t4 b;rw[g6];simp;omega
theorem TZ (r:Row):(r.take r.len).drop 0=r:=by
 cases r<;>simp[Row.take,Row.drop,Row.len]
theorem Ey (q:Option (Nat×Nat)) (s n:Nat):oN q s 0 n=hdr q n:=by
 cases q with
 |none=>rfl
 |some q=>obtain ⟨b,cap⟩:=q;simp only[oN,hdr,Nat.zero_mul,Nat.sub_zero];split<;>rfl
theorem VY {Z:Zs} {r:Row} {v:Value} (h:iq w Z r v) {tx e':TypeId} (hk:P.underlying tx=some (.slice e')): ∃news,Src P r.size tx v r.len news w/\aG w Z r.cells news fz:=by
 obtain ⟨A,cap,h1,h2,h3⟩:=h
 subst h1
 rcases bf r.len with h0|h0
 ·refine ⟨[],?_,by rw[BZ h0];rfl⟩
  rw[h0]
  cases A with
  |none=>exact Src.ofNil w hk cap
  |some ad=>exact Src.ofSlice w hk ad 0 cap [] (by simp) (by simp) (by simp)
 ·obtain ⟨ad,rfl,hz,vs,g1,g2⟩:=h3 (by omega)
  have hl:=g2.length
  have g3:=g2.shrink
  have WK:(vs.take r.cells.length).length=r.cells.length:=by simp;omega
  refine ⟨vs.take r.cells.length,Src.ofSlice w hk ad _ cap _ (by rw[WK,Row.gm]) (fun j u hj=> ?_) (yH (TY _) g3 (by omega)),g3⟩
  rw[List.getElem?_take] at hj
  split at hj
  ·rw[g1 j ‹_›];exact hj
  ·cases hj
theorem DX (m:kU C S.hp S.nx w ρ Fs) {r0:Row} {x:LV} {y:Row} {ks rc:List Nat} (he:qv S.hp r0 x=some (y,ks,rc)) (h0:r0.len=0) {tx:TypeId} (htx:(∃s,x= .s s)\/ ∃e',P.underlying tx=some (.slice e')) (CG: ∀s,x= .s s->P.underlying tx=some .string) {v:Value} (hv:gJ (C.env w ρ S.hp S.nx Fs) x v):
 ∃news F,Src P y.size tx v y.len news w/\aG w (C.ZL w (aR S.nx Fs)) y.cells news F/\(∀b,F b<=fh Fs ks b)/\oH S.hp ks/\ ∀k∈ks,k∈rc:=by
 have Bb:(∀s,x≠ .s s)-> ∃e',P.underlying tx=some (.slice e'):=fun hn=>by
  rcases htx with ⟨s,h⟩|h
  ·exact absurd h (hn s)
  ·exact h
 unfold qv at he
 split at he
 ·cases he
  obtain ⟨e',hk⟩:=Bb (by simp)
  have hv:v= .slice none 0 0:=hv
  rw[hv,h0,BZ h0]
  exact ⟨[],fz,Src.ofNil w hk 0,rfl,fun b=>by simp,oH.nil _,by simp⟩
 ·rename_i id
  obtain ⟨e',hk⟩:=Bb (by simp)
  split at he
  ·rename_i e ver r aJ
   obtain ⟨_,hx⟩:=hv
   obtain ⟨r',e1,e2⟩:=hx _ aJ
   cases e1
   obtain ⟨news,F,s1,s2,s3⟩:=PO (P:=P) m aJ (Nat.zero_le _) (ai r.len) hk
   rw[Ey,Nat.sub_zero] at s1
   rw[TZ] at s2
   simp only[Cx.env] at e2
   rw[<- e2] at s1
   have big:y=r->ks=[id]->rc=[id]-> ∃news F,Src P y.size tx v y.len news w/\aG w (C.ZL w (aR S.nx Fs)) y.cells news F/\(∀b,F b<=fh Fs ks b)/\oH S.hp ks/\ ∀k∈ks,k∈rc:=fun hy yU WH=>by
    subst hy yU WH
    exact ⟨news,F,s1,s2,fun b=>by have:=s3 b;simp[fh];exact this,⟨by simp,fun k hk=>by simp at hk;subst hk;exact ⟨_,_,_,aJ⟩⟩,fun k hk=>hk⟩
   split at he
   ·cases he;exact big rfl rfl rfl
   ·cases he;exact big rfl rfl rfl
   ·rename_i mG wE
    cases he
    have Ex:y.loose=true:=by
     cases y with
     |rows o l=>cases o<;>first|rfl|exact absurd rfl (mG _)
     |ek sg o l=>cases o<;>first|rfl|exact absurd rfl (wE _ _)
     |_=>rfl
    have hF:=By (DW Ex) s2
    subst hF
    exact ⟨news,fz,s1,s2,fun b=>by simp,oH.nil _,by simp⟩
  ·cases he
 ·rename_i id lo hi
  obtain ⟨e',hk⟩:=Bb (by simp)
  split at he
  ·rename_i e ver r aJ
   obtain ⟨_,hx⟩:=hv
   obtain ⟨r',e1,l1,l2,e2⟩:=hx _ aJ
   cases e1
   obtain ⟨news,F,s1,s2,s3⟩:=PO (P:=P) m aJ l1 l2 hk
   simp only[Cx.env] at e2
   rw[<- e2] at s1
   have hlen:((r.take hi).drop lo).len=hi-lo:=by rw[sO,take_len];omega
   have oX:((r.take hi).drop lo).size=r.size:=by rw[I8,take_size]
   split at he
   ·cases he
   ·cases he
   ·rename_i mG wE
    cases he
    have Ex:((r.take hi).drop lo).loose=true:=by
     cases r with
     |rows o l=>cases o<;>first|rfl|exact absurd rfl (mG _)
     |ek sg o l=>cases o<;>first|rfl|exact absurd rfl (wE _ _)
     |_=>rfl
    have hF:=By (DW Ex) s2
    subst hF
    rw[hlen,oX]
    exact ⟨news,fz,s1,s2,fun b=>by simp,oH.nil _,by simp⟩
  ·cases he
 ·rename_i s
  cases he
  have hv:v= .string s:=hv
  rw[hv]
  refine ⟨byteCells s,fz,?_,?_,fun b=>by simp,oH.nil _,by simp⟩
  ·have:=Src.ofString (P:=P) w (CG s rfl) s
   have hl:(Row.ints .u8 (s.data.toList.map fun b=>(b.toNat:Int))).len=s.size:=by simp[Row.len]<;>rfl
   rw[hl]
   exact this
  ·simp only[Row.cells,byteCells,List.map_map]
   generalize s.data.toList=l
   induction l with
   |nil=>rfl
   |cons b l ih=>exact ⟨fz,fz,⟨rfl,rfl⟩,ih,(dw _).symm⟩
 ·rename_i x' mG wE zP K5
  obtain ⟨e',hk⟩:=Bb (fun s hs=>K5 s hs)
  split at he
  ·rename_i r RG Jn
   cases he
   have Y0:=qO m Jn hv
   obtain ⟨news,s1,s2⟩:=VY (P:=P) Y0 hk
   cases x with
   |val p r'=>
    simp only[ku,af,aA] at Jn
    obtain ⟨rfl,rfl⟩:=Jn
    exact ⟨news,fz,s1,s2.mono (fun b hb=>⟨(by rcases hb with hb| ⟨k,hk,_⟩<;>first|exact hb| (cases hk;done)),rfl⟩) (fun b _=>rfl),fun b=>by simp,oH.nil _,by simp⟩
   |inner id ver i f=>
    have: ∃l,y= .ints .i64 l:=by
     simp only[ku] at Jn
     split at Jn
     ·obtain ⟨_,Jn⟩:=aH Jn;cases Jn;exact ⟨_,rfl⟩
     ·obtain ⟨_,Jn⟩:=aH Jn;cases Jn;exact ⟨_,rfl⟩
     ·cases Jn
    obtain ⟨l,rfl⟩:=this
    exact ⟨news,fz,s1,DU (fun c hc=>by simp only[Row.cells,du] at hc;obtain ⟨x,_,rfl⟩:=hc;exact ⟨_,rfl⟩) s2,fun b=>by simp,oH.nil _,by simp⟩
   |own id=>exact absurd rfl (wE id)
   |sub id lo hi=>exact absurd rfl (zP id lo hi)
   |_=>simp[ku] at Jn
  ·cases he
theorem Q1 {base y r:Row} (h:base.HN y=some r):r.len=base.len+y.len/\r.size=base.size/\y.size=base.size/\ ∃o:Bool,(o=true->r.cells=base.cells++y.cells)/\(o=false->r.cells=(base.cells++y.cells).map Cell.jw):=by
 cases base<;>cases y<;>simp only[Row.HN] at h<;>try (cases h;done)
 ·replace h:=aH h
  obtain ⟨hk,h⟩:=h
  have:=ao hk
  subst this
  cases h
  exact ⟨by simp[Row.len],rfl,rfl,true,fun _=>by simp[Row.cells],fun h=>by cases h⟩
 ·cases h
  exact ⟨by simp[Row.len],rfl,rfl,true,fun _=>by simp[Row.cells],fun h=>by cases h⟩
 ·cases h
  exact ⟨by simp[Row.len],rfl,rfl,true,fun _=>by simp[Row.cells],fun h=>by cases h⟩
 ·rename_i o l o' l'
  cases h
  refine ⟨by simp[Row.len],rfl,rfl,o&&o',fun hh=> ?_,fun hh=> ?_⟩
  ·obtain ⟨rfl,rfl⟩:=ba hh;simp[Row.cells]
  ·simp[Row.cells,Cell.jw,Function.comp_def,hh]
 ·rename_i sg o l Wz o' l'
  replace h:=aH h
  obtain ⟨hk,h⟩:=h
  have:=aE hk
  subst this
  cases h
  refine ⟨by simp[Row.len],rfl,rfl,o&&o',fun hh=> ?_,fun hh=> ?_⟩
  ·obtain ⟨rfl,rfl⟩:=ba hh;simp[Row.cells]
  ·rw[hh];simp[Row.cells,List.map_flatMap,oI]
theorem KL {w:World} {b o:Nat} {arr:Array Value} {ty:TypeId} (hb:w.heap[b]? =some (.cells arr ty (0,0))) {vs:List Value} (o9: ∀v∈vs,v.oneCell' =true) (Kk:o+vs.length<=arr.size) (P:Program):w.setCells b o vs=w.setRow b (arr.toList.take o++vs++arr.toList.drop (o+vs.length)).toArray:=by
 have h1:=run_storeCells_at P b o ty vs 0 arr w hb (by simpa using Kk) o9
 have h2:=run_storeCells_cells (P:=P) b o vs 0 w (fun j hj=>by rw[cY hb];simp;omega) (fun j hj=>by simp[World.frozen?,hb]) o9
 simp only[Nat.add_zero] at h1 h2
 rw[h1] at h2
 injection h2 with _ h3
 exact h3.symm
structure OG (C:Cx) (S:St) (w:World) (Fs:Nat->FP) (base:Row) (sv:Value) (kb:List Nat):Prop where
 is:(sv= .slice none 0 0/\base.len=0)\/ ∃X cap arr ty Fb,sv= .slice (some ⟨X,0,none⟩) base.len cap/\w.heap[X]? =some (.cells arr ty (0,0))/\base.len<=cap/\cap*base.size<=arr.size/\aG w (C.ZL w (aR S.nx Fs)) base.cells arr.toList Fb/\ ∀b,Fb b+f1 X b<=fh Fs kb b
theorem DY (T:qc P tt) (h:cn C S a w ρ Fs) (hg:S.hp n=some .gW) {t e tx ty:TypeId} {i:TypeInfo} {z:Value} (ht:P.underlying t=some (.slice e)) (hi:P.info? e=some i) (hz:i.zero=some z) (WJ:z.cells.size=i.size) (D9:0<i.size) (Ze:0<i.bytes)
 {base y r:Row} (Q2:base.HN y=some r) (PP:base.size=i.size) (WL:(base.len+y.len)*i.bytes<=140737488355328) {sv xv:Value} {news:List Value} {Fy:FP} (src:Src P y.size tx xv y.len news w) (hy:aG w (C.ZL w (aR S.nx Fs)) y.cells news Fy) {ks kb:List Nat} (hFy: ∀b,Fy b<=fh Fs ks b) (OH:oH S.hp (ks++kb)) (hb:OG C S w Fs base sv kb) (e':Nat):
 ∃w' q F',(Builtin.append_ #[t,tx] ty #[sv,xv]).run P w= .ok (hdr q r.len) w' /\cn C ⟨S.sl,jh S.hp (fi (ks++kb)++[(n,some (.row e' 0 r))]),S.nx⟩ a w' (k_ ρ n q) (jH (fD Fs (ks++kb)) n F'):=by
 obtain ⟨a1,a2,a3,o,a4,a5⟩:=Q1 Q2
 have Vv:y.size=i.size:=by omega
 rw[Vv] at src
 have hk:=OH.lt h.mem (Sub.refl _)
 have oL:=OH.live (Sub.refl _)
 have Co: ∀b,fh Fs ks b+fh Fs kb b<=1:=fun b=>by
  have:=oC Fs b S.nx OH.1 hk
  have:=h.mem.one b
  rw[gK] at*
  omega
 have hold: ∀b,1<=fh Fs (ks++kb) b->b<w.heap.size:=fun b hb=>(h.mem.uj b (bx hb (oC Fs b S.nx OH.1 hk))).1
 have Yx:base.len+y.len<=140737488355328:=bx (Nat.le_mul_of_pos_right _ Ze) WL
 have WK:news.length=y.len*i.size:=src.newsLen
 have WM: ∀(bs:Option Addr) (sc:Nat) (olds:List Value) (Fo:FP),sv= .slice bs base.len sc->sc<base.len+y.len->(Builtin.firstCells i.size base.len (.slice bs base.len sc)).run P w.drew= .ok olds.toArray w.drew->olds.length=base.len*i.size->aG w (C.ZL w (aR S.nx Fs)) base.cells olds Fo->(∀b,Fo b<=fh Fs kb b)->
  ∃w' q F',(Builtin.append_ #[t,tx] ty #[sv,xv]).run P w= .ok (hdr q r.len) w' /\cn C ⟨S.sl,jh S.hp (fi (ks++kb)++[(n,some (.row e' 0 r))]),S.nx⟩ a w' (k_ ρ n q) (jH (fD Fs (ks++kb)) n F'):=by
  intro bs sc olds Fo VZ hsc hf WN hco hFo
  have pc:=run_append_grow_src (P:=P) w t tx ty e i z ht hi hz bs base.len sc olds hf xv y.len news src hsc (by omega) (growslice_fits hsc WL)
  have hge:=grownCap_ge w (base.len+y.len) sc e
  have T0:=aG.append hco (by rw[WN,Row.gm,PP]) hy
  have hF: ∀b,ez Fo Fy b<=fh Fs (ks++kb) b:=fun b=>by
   have:=hFo b;have:=hFy b;rw[gK];simp;omega
  have hFX:ez Fo Fy w.heap.size=0:=by
   rcases bf (ez Fo Fy w.heap.size) with h0|h0
   ·exact h0
   ·have:=hold _ (bx h0 (hF _));omega
  obtain ⟨F',s1,s2,s3⟩:=DT (ks:=ks++kb) (X:=w.heap.size) T0 hF hFX o (ct:=r.cells) (cf:=r.cells) a4 a5
  have oX:((olds++news).toArray++Builtin.zeroCells z.cells (grownCap w (base.len+y.len) sc e-(base.len+y.len))).size=grownCap w (base.len+y.len) sc e*i.size:=by
   have e1:(Builtin.zeroCells z.cells (grownCap w (base.len+y.len) sc e-(base.len+y.len))).size=(grownCap w (base.len+y.len) sc e-(base.len+y.len))*i.size:=by rw[<- WJ];simp[Builtin.zeroCells]
   rw[Array.size_append,e1,List.size_toArray,au,WN,WK,<- Nat.add_mul,<- Nat.add_mul]
   congr 1
   omega
  refine ⟨_,some (w.heap.size,grownCap w (base.len+y.len) sc e),_,?_,cn.TX h hg (ks++kb) OH.1 oL w.heap.size (grownCap w (base.len+y.len) sc e) _ e e' r F' (w.drew.alloc (.cells ((olds++news).toArray++Builtin.zeroCells z.cells (grownCap w (base.len+y.len) sc e-(base.len+y.len))) e)) (.inl ⟨rfl,sZ w.drew _⟩) (fun b hb _=>BN w.drew _ hb) (BO w.drew _) rfl rfl rfl ?_ s2 s3 (by rw[a1];exact hge) (by rw[a2,PP,oX];exact ai _)⟩
  ·rw[VZ,pc,a1];rfl
  ·have e2:(if o=true then r.cells else r.cells)=r.cells:=by cases o<;>rfl
   rw[e2] at s1
   rw[Array.toList_append]
   exact s1.more _
 rcases hb.is with ⟨VZ,K4⟩| ⟨X,cap,arr,bty,Fb,VZ,hX,D7,xY,hcb,Vw⟩
 ·by_cases hn:y.len=0
  ·have pc:=run_append_nothing (P:=P) w t tx ty e i ht hi none 0 0 (ai _) xv (by
    have:=src
    rw[hn] at this
    have hnn:news=[]:=bG (by rw[WK,hn,Nat.zero_mul])
    rw[hnn] at this
    exact this)
   refine ⟨w,none,fz,by rw[VZ,pc];rfl,cn.OF h hg (ks++kb) OH.1 oL e' r (by omega) w rfl rfl rfl rfl⟩
  ·refine WM none 0 [] fz (by rw[VZ,K4]) (by omega) (by rw[K4];exact run_firstCells_none ..) (by rw[K4];simp) (by rw[BZ K4];rfl) (fun b=>by simp)
 ·have yd:base.cells.length=base.len*i.size:=by rw[Row.gm,PP]
  have hlen:base.len*i.size<=arr.size:=by
   rw[PP] at xY
   exact bx (Nat.mul_le_mul_right _ D7) xY
  have Zb:(arr.toList.take (base.len*i.size)).length=base.len*i.size:=by simp;omega
  have hco:=hcb.shrink
  rw[yd] at hco
  by_cases hr:base.len+y.len<=cap
  ·have Kk:base.len*i.size+news.length<=arr.size:=by
    rw[WK,<- Nat.add_mul]
    rw[PP] at xY
    exact bx (Nat.mul_le_mul_right _ hr) xY
   have pc:=run_append_room_src (P:=P) w t tx ty e i ht hi X 0 base.len cap xv y.len news src hr (fun j hj=>by rw[cY hX];simp;omega) (fun j hj=>by simp[World.frozen?,hX])
   rw[Nat.zero_add,KL hX src.one Kk P] at pc
   have T0:=aG.append hco (by rw[Zb,yd]) hy
   have hF: ∀b,ez Fb Fy b<=fh Fs (ks++kb) b:=fun b=>by
    have:=Vw b;have:=hFy b;rw[gK];simp;omega
   have hkX:1<=fh Fs kb X:=by have:=Vw X;simp at this;omega
   have hFX:ez Fb Fy X=0:=by
    have h1:=Vw X;have h2:=hFy X;have h3:=Co X
    simp at h1
    simp;omega
   obtain ⟨F',s1,s2,s3⟩:=DT (ks:=ks++kb) (X:=X) T0 hF hFX o (ct:=r.cells) (cf:=r.cells) a4 a5
   refine ⟨_,some (X,cap),_,by rw[VZ,pc,a1];rfl,cn.TX h hg (ks++kb) OH.1 oL X cap _ bty e' r F' (w.setRow X (arr.toList.take (base.len*i.size)++news++arr.toList.drop (base.len*i.size+news.length)).toArray) (.inr ⟨by rw[gK];omega,setRow_size ..⟩) (fun b _ nL=>setRow_other w X _ nL) (setRow_heap w X arr _ bty _ hX) rfl rfl rfl ?_ s2 s3 (by omega) (by
    rw[a2,PP,List.size_toArray]
    rw[PP] at xY
    simp only[au,aP,cO,bC]
    omega)⟩
   have e2:(if o=true then r.cells else r.cells)=r.cells:=by cases o<;>rfl
   rw[e2] at s1
   exact s1.more _
  ·refine WM (some ⟨X,0,none⟩) cap (arr.toList.take (base.len*i.size)) Fb VZ (by omega) (run_firstCells_some (P:=P) w.drew i.size base.len ⟨X,0,none⟩ base.len cap _ Zb (fun j v hj=> ?_)) Zb hco (fun b=>by have:=Vw b;omega)
   have Zc:j<base.len*i.size:=by rw[<- Zb];exact (List.getElem?_eq_some_iff.1 hj).1
   rw[fS,Nat.zero_add]
   have:w.drew.cell? ⟨X,j,none⟩=w.cell? ⟨X,j,none⟩:=rfl
   rw[this,cY hX]
   rw[List.getElem?_take,aS Zc] at hj
   simpa using hj
theorem HX (ks ks':List Nat):fi (ks++ks')=fi ks++fi ks':=by simp[fi]
theorem Gv (m:kU C S.hp S.nx w ρ Fs) {id e ver:Nat} {r:Row} (aJ:S.hp id=some (.row e ver r)) {hi:Nat} (IN:hi<=r.len):OG C S w Fs (r.take hi) (hdr (ρ id) hi) [id]:=by
 rcases m.roots id _ aJ with ⟨g1,g2,g3⟩| ⟨b,cap,arr,ty,F',g1,g2,g3,g4,g5,g6⟩
 ·simp only[Cx.env] at g1
  exact ⟨.inl ⟨by rw[g1];rfl,by rw[take_len];omega⟩⟩
 ·simp only[Cx.env] at g1 g2
  obtain ⟨F1,t1,t2⟩:=g5.take (hi*r.size)
  rw[<- vV] at t1
  have hl:(r.take hi).len=hi:=by rw[take_len];omega
  refine ⟨.inr ⟨b,cap,arr,ty,F1,by rw[g1,hl];rfl,g2,by omega,by rw[take_size];exact g4,?_,fun b'=> ?_⟩⟩
  ·have:arr.toList=arr.toList.take (hi*r.size)++arr.toList.drop (hi*r.size):=(b_ ..).symm
   rw[this]
   exact t1.more _
  ·have:=t2 b';simp only[fh];rw[g6];simp;omega
theorem u3 (r:Row):r.take r.len=r:=by
 cases r<;>simp[Row.take,Row.len]
theorem zH {o:Oper} {c:Call} {f:Tmp} {s x:Operand} {t tx:TypeId} (ho:o.op= .call c) (hc:c.callee= .builtin .append) (jX:c.args.toList=[s,x]) (CG:c.argTypes.toList=[t,tx]) {v:Value} {w':World} (hr:(Builtin.append_ #[t,tx] o.type #[a.eval s,a.eval x]).run P w= .ok v w'):(execOp a.eval o).run P w= .ok (.value v) w':=by
 have e1:c.args= #[s,x]:=by apply Array.ext';simpa using jX
 have e2:c.argTypes= #[t,tx]:=by apply Array.ext';simpa using CG
 simp[execOp,ho,resolve,hc,e1,e2,invoke,builtin,hr,Result.andThen]
theorem cn.V0 (h:cn C S a w ρ Fs) (hg:S.hp n=some .gW) {id e ver i:Nat} {l:LL} (aJ:S.hp id=some (.row e ver (.rows true l))) (hi:i<l.length) {v:Value} (hv:cellAt w (ρ id) i=some v) (e':Nat):
 ∃q Fs',cn C ⟨S.sl,jh S.hp [(id,some (.hole e ver (.rows true l) i 0)),(n,some (.row e' 0 (.ints .i64 l[i])))],S.nx⟩ a w (k_ ρ n q) Fs' /\v=hdr q l[i].length:=by
 have nL:id≠n:=by rintro rfl;rw[aJ] at hg;cases hg
 have pF:=eR h.mem aJ
 have Ml:=eR h.mem hg
 have YZ:Fs n=fz:=h.mem.roots n _ hg
 cases hρ:ρ id with
 |none=>rw[hρ] at hv;cases hv
 |some q=>
  obtain ⟨b,cap⟩:=q
  rw[hρ] at hv
  obtain ⟨arr,ty,F,g1,g2,g3,g4,g5,g6⟩:=tJ h.mem aJ hρ (by simp only[Row.len];omega)
  simp only[cellAt] at hv
  rw[cY g1] at hv
  have hc:(Row.rows true l).cells[i]? =some (.sl true l[i]):=by simp[Row.cells,hi]
  obtain ⟨v',F1,F2,k1,k2,k3,k4⟩:=g4.get hc
  have Ed:arr.toList[i]? =some v:=by simpa using hv
  rw[Ed] at k1;cases k1
  have FW:=k4 .free v fz rfl
  have wT:arr.toList.set i v=arr.toList:=by
   apply List.ext_getElem?
   intro j
   rw[List.getElem?_set]
   by_cases e:i=j
   ·subst e;rw[aS rfl,aS (List.getElem?_eq_some_iff.1 Ed).1,Ed]
   ·rw[aD e]
  rw[wT,lU] at FW
  have rF: ∀j,jh S.hp [(id,some (.hole e ver (.rows true l) i 0)),(n,some (.row e' 0 (.ints .i64 l[i])))] j=if j=n then some (.row e' 0 (.ints .i64 l[i])) else if j=id then some (.hole e ver (.rows true l) i 0) else S.hp j:=fun j=>by
   rw[show [(id,some (aQ.hole e ver (.rows true l) i 0)),(n,some (.row e' 0 (.ints .i64 l[i])))] =[(id,some (aQ.hole e ver (.rows true l) i 0))]++[(n,some (.row e' 0 (.ints .i64 l[i])))] from rfl,dn,jG,jG]
  have Tm: ∃q,v=hdr q l[i].length/\ ∀(E':Env),E'.w=w->E'.ρ n=q->lJ E' n (.row e' 0 (.ints .i64 l[i])) F1:=by
   rcases k2 with ⟨p1,p2,p3⟩| ⟨b2,Cc,yS,RH,q1,q2,q3,q4,q5,q6⟩
   ·refine ⟨none,by rw[p1,p2];rfl,fun E' U3 hq=> .inl ⟨hq,by rw[p2];rfl,p3⟩⟩
   ·refine ⟨some (b2,Cc),by rw[q1];rfl,fun E' U3 hq=> .inr ⟨b2,Cc,yS,RH,fz,hq,by rw[U3];exact q2,by simpa[Row.len] using q3,by simpa[Row.size] using q4,?_,by rw[dw];exact q6⟩⟩
    refine aG.N1 fun j c hj=> ?_
    simp only[Row.cells,List.getElem?_map] at hj
    cases Eb:l[i][j]? with
    |none=>rw[Eb] at hj;cases hj
    |some z=>
     rw[Eb] at hj
     cases hj
     exact ⟨_,by simpa using q5 j z Eb,rfl,rfl⟩
  obtain ⟨q,Tn,QJ⟩:=Tm
  have mH: ∀b',aR S.nx (jH (jH Fs id (ez (f1 b) F2)) n F1) b' =aR S.nx Fs b':=fun b'=>by
   have e1:=iT (jH Fs id (ez (f1 b) F2)) F1 b' Ml
   have e2:=iT Fs (ez (f1 b) F2) b' pF
   rw[fq _ _ (Ne.symm nL),YZ] at e1
   rw[g5,k3] at e2
   simp at e1 e2
   omega
  refine ⟨q,jH (jH Fs id (ez (f1 b) F2)) n F1,?_,Tn⟩
  refine h.gen _ _ w _ _ (fun _=>False) (ai _) rfl rfl rfl (fun _ _ _=>rfl) (fun _ h=>h.elim) (ai _) (fun j hj yT=>aat _ _ (by rintro rfl;exact yT _ hg)) (fun j hj=> ?_) (fun j hj=> .inl ⟨by rw[rF,aD (by omega),aD (by omega)];exact h.mem.fresh j hj,by rw[fq _ _ (by omega),fq _ _ (by omega)];exact h.mem.dead j (h.mem.fresh j hj)⟩) (fun b'=>by rw[mH];exact h.mem.one b') (fun b' tq=> .inl (by rw[mH] at tq;exact tq))
  by_cases e1:j=n
  ·subst e1
   exact .pr .gW _ hg (by rw[rF,aS rfl]) trivial (fun M=>by rw[kK];exact QJ _ rfl (h_ ..))
  ·by_cases e2:j=id
   ·subst e2
    refine .pr _ (.hole e ver (.rows true l) i 0) aJ (by rw[rF,aD e1,aS rfl]) ⟨rfl,rfl,ai _⟩ (fun M=> ?_)
    rw[fq _ _ e1,kK]
    refine ⟨by simpa[Row.len] using hi,by simp[Row.size],.inr ⟨b,cap,arr,ty,F2,by show k_ ρ n q j=_;rw[aat _ _ e1];exact hρ,g1,g2,g3,?_,rfl⟩⟩
    simp only[Row.size,Nat.mul_one,Nat.add_zero]
    exact FW.mono (fun b hb=>M.zl b hb) (fun b _=>rfl)
   ·exact .same (by rw[rF,aD e1,aD e2]) (by rw[fq _ _ e1,fq _ _ e2]) (fun _ _ h=>h)
theorem DZ {hp hp':Nat->Option aQ} {r0:Row} {x:LV} {y:Row} {ks rc:List Nat} (he:qv hp r0 x=some (y,ks,rc)) (hh: ∀j∈rc,hp' j=hp j):qv hp' r0 x=some (y,ks,rc):=by
 cases x with
 |own id=>
  simp only[qv] at he ⊢
  have:id∈rc:=by
   split at he
   ·split at he<;>cases he<;>simp
   ·cases he
  rw[hh id this];exact he
 |sub id lo hi=>
  simp only[qv] at he ⊢
  have:id∈rc:=by
   split at he
   ·split at he<;>cases he;simp
   ·cases he
  rw[hh id this];exact he
 |inner id ver i f=>
  simp only[qv,ku] at he ⊢
  have:id∈rc:=by
   split at he
   ·rename_i r RG hq
    cases he
    split at hq
    ·obtain ⟨_,hq⟩:=aH hq;cases hq;simp
    ·obtain ⟨_,hq⟩:=aH hq;cases hq;simp
    ·cases hq
   ·cases he
  rw[hh id this];exact he
 |_=>exact he
theorem Gw {hp:Nat->Option aQ} {r0:Row} {x:LV} {y:Row} {ks rc:List Nat} (he:qv hp r0 x=some (y,ks,rc)): ∀j∈rc,∃e v r,hp j=some (.row e v r):=by
 cases x with
 |own id=>
  simp only[qv] at he
  split at he
  ·rename_i e v r aJ
   split at he<;>cases he<;>(intro j hj;simp at hj;subst hj;exact ⟨_,_,_,aJ⟩)
  ·cases he
 |sub id lo hi=>
  simp only[qv] at he
  split at he
  ·rename_i e v r aJ
   split at he<;>cases he;(intro j hj;simp at hj;subst hj;exact ⟨_,_,_,aJ⟩)
  ·cases he
 |inner id ver i f=>
  simp only[qv,ku] at he
  split at he
  ·rename_i r RG hq
   cases he
   split at hq
   ·rename_i aJ;obtain ⟨_,hq⟩:=aH hq;cases hq;intro j hj;simp at hj;subst hj;exact ⟨_,_,_,aJ⟩
   ·rename_i aJ;obtain ⟨_,hq⟩:=aH hq;cases hq;intro j hj;simp at hj;subst hj;exact ⟨_,_,_,aJ⟩
   ·cases hq
  ·cases he
 |val p r=>simp only[qv,ku,af,aA] at he;obtain ⟨_,_,rfl⟩:=he;simp
 |nil=>simp only[qv,af,aA] at he;obtain ⟨_,_,rfl⟩:=he;simp
 |s x=>simp only[qv,af,aA] at he;obtain ⟨_,_,rfl⟩:=he;simp
 |_=>simp[qv,ku] at he
theorem T1 (T:qc P tt) {r0:Row} {x:LV} {tx:Nat} (h:(match x with| .s _=>(match tt tx with|some ⟨.str,_,_⟩=>r0.size==1|_=>false)|_=>(nu tt tx).isSome)=true):((∃s,x= .s s)\/ ∃e',P.underlying tx=some (.slice e'))/\(∀s,x= .s s->P.underlying tx=some .string):=by
 split at h
 ·rename_i s
  refine ⟨.inl ⟨s,rfl⟩,fun _ _=> ?_⟩
  split at h
  ·rename_i sz bs hq;exact (T tx _ hq).desc
  ·cases h
 ·rename_i hn
  obtain ⟨e',he⟩:=Option.isSome_iff_exists.1 h
  exact ⟨.inr ⟨e',oo T he⟩,fun s hs=>absurd hs (hn s)⟩
theorem Gx (T:qc P tt) (h:cn C S a w ρ Fs) {o:Oper} {c:Call} {t tx:Nat} {s x:Operand} (ho:o.op= .call c) (hc:c.callee= .builtin .append) (jX:c.args.toList=[s,x]) (CG:c.argTypes.toList=[t,tx]) {E:kG} (he:qk (R:=kG) tt S.hp n t tx (St.rd C.N S.sl s) (St.rd C.N S.sl x) some=some E) (hg: ∀k,n<=k->k<E.nx->S.hp k=some .gW): ∃w' ρ' Fs' u,Out P C S o E a w w' ρ' Fs' u:=by
 unfold qk at he
 split at he
 ·rename_i e sv xv rK hs hx
  split at he
  ·rename_i r0 K1
   split at he
   ·rename_i y ks rc YF
    replace he:=aH he
    obtain ⟨htx,he⟩:=he
    obtain ⟨tx1,tx2⟩:=T1 T htx
    obtain ⟨te,q1,q2,q3,q4⟩:=qS T K1
    obtain ⟨i,z,z1,z2,z3,z4,z5,z6⟩:=pu T q1 q3
    have Bb:=oo T rK
    have WJ:z.cells.size=i.size:=by
     have:=congrArg List.length z3
     simp only[bC,ca] at this
     omega
    have Ze:0<i.bytes:=by rw[z5];exact (T e te q1).some.2
    have hbb:bytesOf tt e=i.bytes:=by simp[bytesOf,q1,z5]
    obtain ⟨news,Fy,y1,y2,y3,y4,y5⟩:=DX (P:=P) h.mem YF (np K1) tx1 tx2 (kE h hx)
    have fin: ∀(base:Row) (kb:List Nat) (E:kG),uv (R:=kG) tt e r0 base y ks (fi kb) n (rc++kb) some=some E->oH S.hp (ks++kb)->OG C S w Fs base (a.eval s) kb->(∀k,n<=k->k<E.nx->S.hp k=some .gW)-> ∃w' ρ' Fs' u,Out P C S o E a w w' ρ' Fs' u:=by
     intro base kb E he aaT aaU hg
     unfold uv at he
     split at he
     ·rename_i r Q2
      replace he:=aH he
      obtain ⟨PP,he⟩:=he
      have PP:=aE PP
      replace he:=ij he
      obtain ⟨WO,he⟩:=he
      have WO:=ao WO
      cases he
      have YG:=hg n (ai _) (Nat.lt_succ_self _)
      obtain ⟨w',q,F',k1,k2⟩:=DY T h YG Bb z1 z2 WJ (by omega) Ze Q2 (by omega) (by rw[<- hbb];exact WO) y1 y2 (ty:=o.type) y3 aaT aaU e
      refine ⟨w',k_ ρ n q,jH (fD Fs (ks++kb)) n F',hdr q r.len,.inl (zH (f:=0) ho hc jX CG k1),?_,?_⟩
      ·rw[HX] at k2;exact k2
      ·refine ⟨eR h.mem YG,fun root hr=> ?_⟩
       simp only[Cx.env] at hr ⊢
       have:jh S.hp (fi ks++fi kb++[(n,some (.row e 0 r))]) n=some (.row e 0 r):=by rw[dn,jG,aS rfl]
       rw[this] at hr
       cases hr
       exact ⟨r,rfl,by rw[h_]⟩
     ·cases he
    have PQ: ∀id e' ver r,S.hp id=some (.row e' ver r)->rc.elem id=false->oH S.hp (ks++[id]):=fun id e' ver r aJ rK=>by
     refine ⟨List.nodup_append.2 ⟨y4.1,by simp,fun a ha b hb=> ?_⟩,fun k hk=> ?_⟩
     ·simp at hb
      subst hb
      rintro rfl
      rw[List.elem_iff.2 (y5 a ha)] at rK;cases rK
     ·rcases List.mem_append.1 hk with hk|hk
      ·exact y4.2 k hk
      ·simp at hk;subst hk;exact ⟨_,_,_,aJ⟩
    split at he
    ·exact fin r0 [] E (by simpa[fi] using he) (by simpa using y4) ⟨.inl ⟨kE h hs,np K1⟩⟩ hg
    ·rename_i id
     split at he
     ·rename_i e' ver r aJ
      cases rK:rc.elem id with
      |true=>rw[rK] at he;cases he
      |false=>
       rw[rK] at he
       simp only[an] at he
       obtain ⟨_,yF⟩:=kE h hs
       obtain ⟨r',e1,e2⟩:=yF _ aJ
       cases e1
       refine fin r [id] E (by simpa[fi] using he) (PQ id _ _ _ aJ rK) ?_ hg
       have:=Gv h.mem aJ (ai _)
       rw[u3] at this
       rw[e2]
       exact this
     ·cases he
    ·rename_i id lo hi
     split at he
     ·rename_i e' ver r aJ
      cases rK:rc.elem id with
      |true=>rw[rK] at he;cases he
      |false=>
       rw[rK] at he
       simp only[an] at he
       replace he:=aH he
       obtain ⟨Ex,he⟩:=he
       have Ex:=aE Ex
       subst Ex
       obtain ⟨_,yF⟩:=kE h hs
       obtain ⟨r',e1,_,l2,e2⟩:=yF _ aJ
       cases e1
       refine fin (r.take hi) [id] E (by simpa[fi] using he) (PQ id _ _ _ aJ rK) ?_ hg
       have:=Gv h.mem aJ l2
       rw[e2,Ey]
       exact this
     ·cases he
    ·rename_i id ver i' f
     split at he
     ·rename_i bt v l aJ
      cases KK:rc.elem id with
      |true=>rw[KK] at he;cases he
      |false=>
       rw[KK] at he
       simp only[an] at he
       replace he:=aH he
       obtain ⟨hv,he⟩:=he
       have hv:=aE hv
       subst hv
       unfold uv at he
       split at he
       ·rename_i r Q2
        replace he:=aH he
        obtain ⟨PP,he⟩:=he
        have PP:=aE PP
        replace he:=ij he
        obtain ⟨WO,he⟩:=he
        have WO:=ao WO
        cases he
        have YG:=hg n (ai _) (by simp only[];omega)
        have V1:=hg (n+1) (Nat.le_succ _) (by simp only[];omega)
        obtain ⟨_,yF⟩:=kE h hs
        obtain ⟨_,_,L8⟩:=yF _ aJ
        obtain ⟨m1,m2,m4⟩:=L8 bt _ rfl
        simp only[Row.oh] at m1
        have KJ:=aE m1
        subst KJ
        simp only[Row.len] at m2
        simp only[Row.size,Nat.mul_one,Nat.add_zero,Cx.env] at m4
        obtain ⟨q,Fs',h1,Tn⟩:=h.V0 YG aJ m2 m4 e
        have nL:id≠n:=by rintro rfl;rw[aJ] at YG;cases YG
        have adh:id≠n+1:=by rintro rfl;rw[aJ] at V1;cases V1
        have rF: ∀j,jh S.hp [(id,some (.hole bt v (.rows true l) i' 0)),(n,some (.row e 0 (.ints .i64 l[i'])))] j=if j=n then some (.row e 0 (.ints .i64 l[i'])) else if j=id then some (.hole bt v (.rows true l) i' 0) else S.hp j:=fun j=>by
         rw[show [(id,some (aQ.hole bt v (.rows true l) i' 0)),(n,some (.row e 0 (.ints .i64 l[i'])))] =[(id,some (aQ.hole bt v (.rows true l) i' 0))]++[(n,some (.row e 0 (.ints .i64 l[i'])))] from rfl,dn,jG,jG]
        have WH: ∀j∈rc,j≠id/\j≠n:=fun j hj=>by
         refine ⟨?_,?_⟩
         ·rintro rfl;rw[List.elem_iff.2 hj] at KK;cases KK
         ·rintro rfl
          obtain ⟨_,_,_,hl⟩:=Gw YF j hj
          rw[YG] at hl;cases hl
        have aaV:=DZ YF (hp':=jh S.hp [(id,some (.hole bt v (.rows true l) i' 0)),(n,some (.row e 0 (.ints .i64 l[i'])))]) (fun j hj=>by rw[rF,aD (WH j hj).2,aD (WH j hj).1])
        have Yy:gJ (C.env w (k_ ρ n q) (jh S.hp [(id,some (.hole bt v (.rows true l) i' 0)),(n,some (.row e 0 (.ints .i64 l[i'])))]) S.nx Fs') xv (a.eval x):=by
         have:=h1.rd x
         rw[hx] at this
         exact this
        obtain ⟨aeE,Fy1,w1,w2,w3,w4,w5⟩:=DX (P:=P) h1.mem aaV (np K1) tx1 tx2 Yy
        have T2:jh S.hp [(id,some (.hole bt v (.rows true l) i' 0)),(n,some (.row e 0 (.ints .i64 l[i'])))] n=some (.row e 0 (.ints .i64 l[i'])):=by rw[rF,aS rfl]
        have M7:l.getD i' [] =l[i']:=by simp[m2]
        rw[M7] at Q2 PP WO
        have aaW:oH (jh S.hp [(id,some (.hole bt v (.rows true l) i' 0)),(n,some (.row e 0 (.ints .i64 l[i'])))]) (ks++[n]):=by
         refine ⟨List.nodup_append.2 ⟨w4.1,by simp,fun a ha b hb=> ?_⟩,fun k hk=> ?_⟩
         ·simp at hb
          subst hb
          exact (WH a (w5 a ha)).2
         ·rcases List.mem_append.1 hk with hk|hk
          ·exact w4.2 k hk
          ·simp at hk;subst hk;exact ⟨_,_,_,T2⟩
        have wD:=Gv h1.mem T2 (ai (Row.ints .i64 l[i']).len)
        rw[u3,h_] at wD
        have VZ:a.eval s=hdr q (Row.ints .i64 l[i']).len:=Tn
        rw[<- VZ] at wD
        have hg1:jh S.hp [(id,some (.hole bt v (.rows true l) i' 0)),(n,some (.row e 0 (.ints .i64 l[i'])))] (n+1)=some .gW:=by rw[rF,aD (by omega),aD (Ne.symm adh)];exact V1
        obtain ⟨w',q',F',k1,k2⟩:=DY T h1 hg1 Bb z1 z2 WJ (by omega) Ze Q2 (by omega) (by rw[<- hbb];exact WO) w1 w2 (ty:=o.type) w3 aaW wD e
        have adi:jh (jh S.hp [(id,some (.hole bt v (.rows true l) i' 0)),(n,some (.row e 0 (.ints .i64 l[i'])))]) (fi (ks++[n])++[(n+1,some (.row e 0 r))])=jh S.hp (fi ks++[(id,some (.hole bt v (.rows true l) i' 0)),(n,none)]++[(n+1,some (.row e 0 r))]):=by
         funext j
         rw[dn,jG,q_,nv,rF,dn,jG,dn,show [(id,some (aQ.hole bt v (.rows true l) i' 0)),(n,none)] =[(id,some (aQ.hole bt v (.rows true l) i' 0))]++[(n,none)] from rfl,dn,jG,jG,q_,nv]
         by_cases j1:j=n+1
         ·simp[j1]
         ·by_cases j2:j=n
          ·simp[j2]
          ·by_cases j3:j=id
           ·subst j3
            have:j∉ks:=fun hh=>(WH j (w5 j hh)).1 rfl
            simp[j1,j2,this]
           ·simp[j1,j2,j3]
        rw[adi] at k2
        refine ⟨w',k_ (k_ ρ n q) (n+1) q',jH (fD Fs' (ks++[n])) (n+1) F',hdr q' r.len,.inl (zH (f:=0) ho hc jX CG k1),k2,?_⟩
        refine ⟨eR h.mem V1,fun root hr=> ?_⟩
        simp only[Cx.env] at hr ⊢
        have:jh S.hp (fi ks++[(id,some (.hole bt v (.rows true l) i' 0)),(n,none)]++[(n+1,some (.row e 0 r))]) (n+1)=some (.row e 0 r):=by rw[dn,jG,aS rfl]
        rw[this] at hr
        cases hr
        exact ⟨r,rfl,by rw[h_]⟩
       ·cases he
     ·cases he
    ·cases he
   ·cases he
  ·cases he
 ·cases he
end
section
variable {P:Program} {tt:TT} {C:Cx} {S:St} {a:Act} {w:World} {ρ:Place} {Fs:Nat->FP} {n:Nat}
theorem xZ {o:Oper} {c:Call} {s x:Operand} {t tx:TypeId} (ho:o.op= .call c) (hc:c.callee= .builtin .copy) (jX:c.args.toList=[s,x]) (CG:c.argTypes.toList=[t,tx]) {v:Value} {w':World} (hr:(Builtin.copy_ #[t,tx] o.type #[a.eval s,a.eval x]).run P w= .ok v w'):(execOp a.eval o).run P w= .ok (.value v) w':=by
 have e1:c.args= #[s,x]:=by apply Array.ext';simpa using jX
 have e2:c.argTypes= #[t,tx]:=by apply Array.ext';simpa using CG
 simp[execOp,ho,resolve,hc,e1,e2,invoke,builtin,hr,Result.andThen]
theorem cn.T3 (h:cn C S a w ρ Fs) {id:Nat} {root:aQ} (K1:S.hp id=some root) {b cap:Nat} (hρ:ρ id=some (b,cap)) {arr arr':Array Value} {ty:TypeId} (hb:w.heap[b]? =some (.cells arr ty (0,0))) (e ver:Nat) (r:Row) (i f:Nat) (hi:i<r.len) (hf:f<r.size) (F:FP)
 (hc:aG w (C.ZL w (aR S.nx Fs)) (r.cells.set (i*r.size+f) .free) arr'.toList F) (hF: ∀b',F b' +f1 b b' <=Fs id b') (h1:r.len<=cap) (h2:cap*r.size<=arr'.size) (hl:BM w (w.setRow b arr') (ρ id) root (.hole e ver r i f)):
 cn C ⟨S.sl,jh S.hp [(id,some (.hole e ver r i f))],S.nx⟩ a (w.setRow b arr') ρ (jH (fD Fs []) id (ez (f1 b) F)):=by
 have pF:=eR h.mem K1
 have Vw:F b=0:=by
  have:=hF b
  have:=mP Fs b pF
  have:=h.mem.one b
  simp at*
  omega
 have P4:1<=Fs id b:=by have:=hF b;simp at this;omega
 have:=h.VP [] (by simp) (by simp) id (by simp) root (.hole e ver r i f) K1 (ez (f1 b) F) (w.setRow b arr') (setRow_size ..) rfl rfl rfl (fun b' tq h0=>setRow_other w b arr' (by rintro rfl;omega)) (fun b'=>by have:=hF b';simp;omega) hl (fun M=>
  ⟨hi,hf,.inr ⟨b,cap,arr',ty,F,hρ,setRow_heap w b arr arr' ty _ hb,h1,h2,hc.mono (fun b' tq=>M.zl b' tq) (fun b' tq=>setRow_other w b arr' (by rintro rfl;omega)),rfl⟩⟩)
 exact this
theorem Q3 (hp:Nat->Option aQ) {id:Nat} {root:aQ} (h:hp id=some root):jh hp [(id,some root)] =hp:=by
 funext j
 rw[jG]
 by_cases e:j=id
 ·subst e;rw[aS rfl,h]
 ·rw[aD e]
theorem KM (T:qc P tt) (h:cn C S a w ρ Fs) {o:Oper} {c:Call} {t tx:Nat} {s x:Operand} (ho:o.op= .call c) (hc:c.callee= .builtin .copy) (jX:c.args.toList=[s,x]) (CG:c.argTypes.toList=[t,tx]) {E:kG} (he:wj (R:=kG) tt S.hp n t (St.rd C.N S.sl s) (St.rd C.N S.sl x) some=some E): ∃w' ρ' Fs' u,Out P C S o E a w w' ρ' Fs' u:=by
 unfold wj at he
 replace he:=aH he
 obtain ⟨hty,he⟩:=he
 have rK: ∃e,nu tt t=some e/\cJ tt e=1:=by
  cases hq:nu tt t with
  |none=>rw[hq] at hty;cases hty
  |some e=>rw[hq] at hty;exact ⟨e,rfl,aE hty⟩
 obtain ⟨e,rK,oX⟩:=rK
 have K0: ∃te,tt e=some te:=by
  cases hq:tt e with
  |none=>simp[cJ,hq] at oX
  |some te=>exact ⟨te,rfl⟩
 obtain ⟨te,K0⟩:=K0
 obtain ⟨ti,t1,t2⟩:=Aq T K0
 have UE:(P.info? e).map (·.size)=some 1:=by
  rw[t1];simp only[Option.map_some,af]
  rw[t2];simpa[cJ,K0] using oX
 have hu:=oo T rK
 split at he
 ·rename_i id lo hi id' lK xN hs hx
  obtain ⟨iS,Yy⟩:=kE h hs
  obtain ⟨ahC,yF⟩:=kE h hx
  split at he
  ·rename_i bt ver k l aJ
   replace he:=aH he
   obtain ⟨hid,he⟩:=he
   have hid:=aE hid
   subst hid
   cases he
   obtain ⟨r1,e1,a1,a2,a3⟩:=Yy _ aJ
   cases e1
   obtain ⟨r2,e2,b1,b2,b3⟩:=yF _ aJ
   cases e2
   simp only[Row.len] at a2 b2
   simp only[Row.size,Cx.env] at a3 b3
   by_cases hm:min (xN-lK) (hi-lo)=0
   ·
    have adj:l.take lo++(((l.take xN).drop lK).take (hi-lo)++l.drop (lo+min (xN-lK) (hi-lo)))=l:=by
     have:((l.take xN).drop lK).take (hi-lo)=[]:=by
      apply bG
      simp only[aP,cO]
      omega
     rw[this,hm,aM,Nat.add_zero,b_]
    have Jm: ∃d dc,a.eval s= .slice d (hi-lo) dc:=by
     rw[a3]
     cases hρ:ρ id with
     |none=>
      have:=h.mem.roots id _ aJ
      rcases this with ⟨_,g2,_⟩| ⟨b,cap,arr,ty,F',g1,_⟩
      ·simp only[Row.len] at g2
       have:hi-lo=0:=by omega
       rw[this];exact ⟨_,_,rfl⟩
      ·simp only[Cx.env] at g1;rw[hρ] at g1;cases g1
     |some q=>exact ⟨_,_,rfl⟩
    have zc: ∃d dc,a.eval x= .slice d (xN-lK) dc:=by
     rw[b3]
     cases hρ:ρ id with
     |none=>
      have:=h.mem.roots id _ aJ
      rcases this with ⟨_,g2,_⟩| ⟨b,cap,arr,ty,F',g1,_⟩
      ·simp only[Row.len] at g2
       have:xN-lK=0:=by omega
       rw[this];exact ⟨_,_,rfl⟩
      ·simp only[Cx.env] at g1;rw[hρ] at g1;cases g1
     |some q=>exact ⟨_,_,rfl⟩
    obtain ⟨d,dc,Jm⟩:=Jm
    obtain ⟨d',dc',zc⟩:=zc
    have pc:=run_copy_none (P:=P) w t tx o.type e d d' (hi-lo) dc (xN-lK) dc' hu UE hm
    rw[<- Jm,<- zc] at pc
    rw[adj,hm]
    refine ⟨w,ρ,Fs,goInt 0,.inl (xZ ho hc jX CG pc),by rw[Q3 S.hp aJ];exact h,rfl⟩
   ·have D9:0<l.length:=by omega
    obtain ⟨b,cap,hρ,_⟩:=oq h.mem aJ rfl (by simpa[Row.len] using D9)
    obtain ⟨arr,ty,F,g1,g2,g3,g4,g5,g6⟩:=tJ h.mem aJ hρ (by simpa[Row.len] using D9)
    simp only[Row.len] at g2
    simp only[Row.size,Nat.mul_one] at g3
    have hFz:F=fz:=Al (fun c hc=>by simp only[Row.cells,du] at hc;obtain ⟨x,_,rfl⟩:=hc;exact ⟨_,rfl⟩) g4
    rw[hρ] at a3 b3
    simp only[oN,Nat.mul_one] at a3 b3
    rw[aD (by omega)] at a3 b3
    have QZ: ∀j,j<l.length->arr.toList[j]? =some (.int k (l.getD j 0)):=fun j hj=>by
     obtain ⟨v,F1,F2,q1,q2,_⟩:=g4.get (j:=j) (c:= .sc (.int k l[j])) (by simp[Row.cells,hj])
     obtain ⟨rfl,_⟩:=q2
     rw[q1];simp[hj]
    have hmm:min (xN-lK) (hi-lo)=((l.drop lK).take (min (xN-lK) (hi-lo))).length:=by simp;omega
    have TU:((l.take xN).drop lK).take (hi-lo)=(l.drop lK).take (min (xN-lK) (hi-lo)):=by
     rw[List.drop_take,List.take_take,Nat.min_comm]
    let m:=min (xN-lK) (hi-lo)
    let cs:List Value:=((l.drop lK).take m).map (Value.int k)
    have yd:cs.length=m:=by simp[cs,m];omega
    have pc:=run_copy_row (P:=P) w t tx o.type e b lo (hi-lo) (cap-lo) ⟨b,lK,none⟩ (xN-lK) (cap-lK) arr ty cs hu UE g1 (by rw[yd]) (fun j v hj=>by
     rw[fS,cY g1]
     simp only[cs,List.getElem?_map] at hj
     cases Eb:((l.drop lK).take m)[j]? with
     |none=>rw[Eb] at hj;cases hj
     |some z=>
      rw[Eb] at hj
      cases hj
      rw[List.getElem?_take] at Eb
      split at Eb
      ·rw[List.getElem?_drop] at Eb
       have hb:=(List.getElem?_eq_some_iff.1 Eb).1
       have:=QZ (lK+j) hb
       rw[aL,Eb] at this
       simpa using this
      ·cases Eb) (by rw[yd];simp only[m];omega) (fun v hv=>by simp only[cs,du] at hv;obtain ⟨z,_,rfl⟩:=hv;rfl)
    rw[<- a3,<- b3] at pc
    have wO:aG w (C.ZL w (aR S.nx Fs)) (Row.ints k (l.take lo++(((l.take xN).drop lK).take (hi-lo)++l.drop (lo+min (xN-lK) (hi-lo))))).cells (arr.toList.take lo++cs++arr.toList.drop (lo+cs.length)) fz:=by
     rw[TU,yd]
     refine aG.N1 fun j c hj=> ?_
     simp only[Row.cells,List.map_append,bp] at hj
     rw[bp]
     have hal:arr.toList.length=arr.size:=by simp
     by_cases j1:j<lo
     ·rw[List.getElem?_append_left (by simp;omega)] at hj ⊢
      rw[List.getElem?_map,List.getElem?_take,aS j1] at hj
      rw[List.getElem?_take,aS j1,QZ j (by omega)]
      have:l[j]? =some l[j]:=aw (by omega)
      rw[this] at hj
      cases hj
      exact ⟨_,rfl,by simp[show j<l.length by omega],rfl⟩
     ·rw[List.getElem?_append_right (by simp;omega)] at hj ⊢
      have el:(List.map (fun n=>Cell.sc (.int k n)) (l.take lo)).length=lo:=by simp;omega
      have el2:(arr.toList.take lo).length=lo:=by simp;omega
      rw[el] at hj
      rw[el2]
      by_cases j2:j-lo<m
      ·have e1:(List.map (fun n=>Cell.sc (.int k n)) (List.take (min (xN-lK) (hi-lo)) (List.drop lK l))).length=m:=by simp[m];omega
       rw[List.getElem?_append_left (by omega)] at hj ⊢
       rw[List.getElem?_map] at hj
       simp only[cs,List.getElem?_map,m]
       cases hq:(List.take (min (xN-lK) (hi-lo)) (List.drop lK l))[j-lo]? with
       |none=>rw[hq] at hj;cases hj
       |some z=>rw[hq] at hj;cases hj;exact ⟨_,rfl,rfl,rfl⟩
      ·have e1:(List.map (fun n=>Cell.sc (.int k n)) (List.take (min (xN-lK) (hi-lo)) (List.drop lK l))).length=m:=by simp[m];omega
       rw[List.getElem?_append_right (by omega)] at hj ⊢
       rw[e1,List.getElem?_map,List.getElem?_drop] at hj
       rw[yd,List.getElem?_drop]
       have e2:lo+min (xN-lK) (hi-lo)+(j-lo-m)=j:=by simp only[m];simp only[m] at j2;omega
       have e3:lo+m+(j-lo-m)=j:=by omega
       rw[e2] at hj
       rw[e3]
       cases hq:l[j]? with
       |none=>rw[hq] at hj;cases hj
       |some z=>
        rw[hq] at hj
        cases hj
        have hb:=(List.getElem?_eq_some_iff.1 hq).1
        have:=QZ j hb
        rw[aL,hq] at this
        exact ⟨_,this,rfl,rfl⟩
    have hlen:(l.take lo++(((l.take xN).drop lK).take (hi-lo)++l.drop (lo+min (xN-lK) (hi-lo)))).length=l.length:=by
     simp only[au,aP,cO]
     omega
    have hrel:=cn.KH h [] (by simp) (by simp) (by simp) aJ hρ g1 bt ver (.ints k (l.take lo++(((l.take xN).drop lK).take (hi-lo)++l.drop (lo+min (xN-lK) (hi-lo))))) fz (arr':=(arr.toList.take lo++cs++arr.toList.drop (lo+cs.length)).toArray) (by
     simp only[List.toList_toArray]
     exact wO.mono (fun b hb=>⟨.inl hb,rfl⟩) (fun b _=>rfl)) (fun b'=>by rw[g5];simp;omega) (by rw[g5];simp) (by simp only[Row.len];omega) (by
     simp only[Row.size,List.size_toArray,au,aP,cO,bC,yd,m]
     omega) (rh (by simp only[Row.len];exact hlen) rfl (ai _) (fun _=>rfl) (fun _=>rfl))
    refine ⟨_,ρ,_,goInt cs.length,.inl (xZ ho hc jX CG pc),hrel,?_⟩
    rw[yd]
    rfl
  ·rename_i bt ver l aJ
   replace he:=aH he
   obtain ⟨hid,he⟩:=he
   have hid:=aE hid
   subst hid
   replace he:=ij he
   obtain ⟨Ee,he⟩:=he
   cases he
   obtain ⟨Ee,c4⟩:=ba Ee
   obtain ⟨Ee,c3⟩:=ba Ee
   obtain ⟨c1,c2⟩:=ba Ee
   have c1:=aE c1
   have c2:=aE c2
   have c3:=aE c3
   have c4:=ao c4
   subst c1 c2 c3
   obtain ⟨r1,e1,a1,a2,a3⟩:=Yy _ aJ
   cases e1
   obtain ⟨r2,e2,b1,b2,b3⟩:=yF _ aJ
   cases e2
   simp only[Row.size,Cx.env] at a3 b3
   have D9:0<(Row.rows true l).len:=by simp only[Row.len];omega
   obtain ⟨b,cap,hρ,_⟩:=oq h.mem aJ rfl D9
   obtain ⟨arr,ty,F,g1,g2,g3,g4,g5,g6⟩:=tJ h.mem aJ hρ D9
   simp only[Row.len] at g2
   simp only[Row.size,Nat.mul_one] at g3
   rw[hρ] at a3 b3
   simp only[oN,Nat.mul_one] at a3 b3
   rw[aD (by omega)] at b3
   have hal:arr.toList.length=arr.size:=by simp
   let A:=(l.take lK).map (Cell.sl true)
   let M:=((l.drop lK).dropLast).map (Cell.sl true)
   have aaX: ∃z,l.drop lK=(l.drop lK).dropLast++[z]:=by
    have nL:l.drop lK≠[]:=by intro hh;have:=congrArg List.length hh;simp at this;omega
    exact ⟨(l.drop lK).getLast nL,(List.dropLast_concat_getLast nL).symm⟩
   obtain ⟨z,hz⟩:=aaX
   have hAl:A.length=lK:=by simp[A];omega
   have hMl:M.length=l.length-lK-1:=by simp[M]
   have sf:(Row.rows true l).cells=A++(M++[.sl true z]):=by
    show l.map _=_
    conv=>lhs;rw[<- b_ lK l,hz]
    simp[A,M]
   rw[sf] at g4
   obtain ⟨FA,F2,s1,s2,s3⟩:=aG.split g4
   obtain ⟨FM,FL,s4,s5,s6⟩:=aG.split s2
   rw[hAl] at s1 s4
   let V:List Value:=(arr.toList.drop lK).take M.length
   have hVl:V.length=M.length:=by simp[V,hMl];omega
   have aaY: ∀v∈V,v.oneCell' =true:=yH (fun c hc=>by simp only[M,du] at hc;obtain ⟨_,_,rfl⟩:=hc;trivial) s4 (by omega)
   have aaZ: ∃w',(Builtin.copy_ #[t,tx] o.type #[a.eval s,a.eval x]).run P w= .ok (goInt V.length) w' /\w' =w.setRow b (arr.toList.take (lK+1)++V++arr.toList.drop (lK+1+V.length)).toArray:=by
    by_cases hm:V.length=0
    ·have adl:Nat.min (l.length-lK) (l.length-(lK+1))=0:=by
      have:Nat.min (l.length-lK) (l.length-(lK+1))=min (l.length-lK) (l.length-(lK+1)):=rfl
      omega
     rw[a3,b3]
     refine ⟨w,by rw[hm];exact run_copy_none (P:=P) w t tx o.type e _ _ _ _ _ _ hu UE adl,?_⟩
     have hv0:V=[]:=bG hm
     rw[hv0]
     simp only[cm,List.length_nil,Nat.add_zero,b_,Array.toArray_toList]
     exact (setRow_self w b arr ty (0,0) g1).symm
    ·rw[aD (by omega)] at a3
     have pc:=run_copy_row (P:=P) w t tx o.type e b (lK+1) (l.length-(lK+1)) (cap-(lK+1)) ⟨b,lK,none⟩ (l.length-lK) (cap-lK) arr ty V hu UE g1 (by
      have:Nat.min (l.length-lK) (l.length-(lK+1))=min (l.length-lK) (l.length-(lK+1)):=rfl
      rw[hVl,hMl,this];omega) (fun j v hj=>by
      rw[fS,cY g1]
      simp only[V] at hj
      rw[List.getElem?_take] at hj
      split at hj
      ·rw[List.getElem?_drop] at hj;simpa using hj
      ·cases hj) (by rw[hVl,hMl];omega) aaY
     rw[<- a3,<- b3] at pc
     exact ⟨_,pc,rfl⟩
   obtain ⟨w',pc,U3⟩:=aaZ
   have D8:lK<(l.take lK++[]::(l.drop lK).dropLast).length:=by simp;omega
   have hlen:(l.take lK++[]::(l.drop lK).dropLast).length=l.length:=by simp;omega
   have FW:(Row.rows true (l.take lK++[]::(l.drop lK).dropLast)).cells.set (lK*1+0) .free=A++(.free::M):=by
    show ((l.take lK++[]::(l.drop lK).dropLast).map _).set _ _=_
    rw[List.map_append,List.set_append_right _ _ (by simp;omega)]
    have:lK*1+0-(List.map (fun x=>Cell.sl true x) (l.take lK)).length=0:=by simp;omega
    rw[this]
    rfl
   have aa0:arr.toList.take (lK+1)++V++arr.toList.drop (lK+1+V.length)=arr.toList.take lK++(arr.toList[lK]'(by omega)::(V++arr.toList.drop (lK+1+V.length))):=by
    rw[bp,be (by omega)]
    simp
   have hrel:=cn.T3 h aJ hρ g1 bt (ver+1) (.rows true (l.take lK++[]::(l.drop lK).dropLast)) lK 0 D8 (by simp[Row.size]) (ez FA FM) (arr':=(arr.toList.take (lK+1)++V++arr.toList.drop (lK+1+V.length)).toArray) (by
    simp only[Row.size,List.toList_toArray]
    rw[FW,aa0]
    exact aG.append s1 (by rw[hAl];simp;omega) ⟨fz,FM,rfl,s4.more _,(lU FM).symm⟩)
    (fun b'=>by rw[g5,s3,s6];simp;omega) (by simp only[Row.len];omega) (by
      simp only[Row.size,List.size_toArray,au,aP,cO,bC]
      omega) ⟨by simp only[Row.len];exact hlen,rfl,Nat.le_succ _⟩
   refine ⟨w',ρ,_,goInt V.length,.inl (xZ ho hc jX CG pc),by rw[U3];exact hrel,?_⟩
   show goInt V.length=_
   rw[hVl,hMl,Nat.sub_sub]
   rfl
  ·cases he
 ·cases he
end
section
variable {P:Program} {tt:TT} {C:Cx} {S:St} {a:Act} {w:World} {ρ:Place} {Fs:Nat->FP} {n:Nat}
theorem OI {t:Nat} {E:kG} (he:tN (R:=kG) tt n t some=some E):E.nx=n+1:=by
 unfold tN at he
 split at he
 ·cases he;rfl
 ·split at he
  ·replace he:=aH he;obtain ⟨_,he⟩:=he;cases he;rfl
  ·cases he
 ·replace he:=aH he;obtain ⟨_,he⟩:=he;cases he;rfl
 ·cases he
theorem T4 {hp:Nat->Option aQ} {t:Nat} {x:AV} {E:kG} (he:xU (R:=kG) tt hp n t x some=some E):E.nx=n+1:=by
 unfold xU at he
 split at he
 ·cases he
 ·split at he
  ·cases he;rfl
  ·cases he
 ·cases he
theorem Gy {t:Nat} {l c:Operand} {x:AV} {E:kG} (he:mZ (R:=kG) tt n t l c x some=some E):E.nx=n+1:=by
 unfold mZ at he
 replace he:=aH he
 obtain ⟨_,he⟩:=he
 split at he
 ·split at he
  ·obtain ⟨_,_,_,he⟩:=pb he
   replace he:=ij he
   obtain ⟨_,he⟩:=he
   cases he;rfl
  ·cases he
 ·cases he
theorem Ei {hp:Nat->Option aQ} {t len:Nat} {ps:List (Nat×AV)} {E:kG} (he:jS (R:=kG) tt hp n t len ps some=some E):E.nx=n+1:=by
 unfold jS at he
 split at he
 ·split at he
  ·replace he:=aH he
   obtain ⟨_,he⟩:=he
   split at he
   ·cases he;rfl
   ·cases he
  ·cases he
 ·cases he
theorem tQ {o:Oper} {c:Call} {b:Builtin} (ho:o.op= .call c) (hc:c.callee= .builtin b) {v:Value} {w':World} (hr: ∀Gz,(builtin b c.argTypes o.type Gz (c.args.map a.eval)).run P w= .ok (.value v) w'):(execOp a.eval o).run P w= .ok (.value v) w':=by
 simp only[execOp,ho,resolve,hc]
 simp[invoke]
 exact hr _
theorem Q4 (T:qc P tt) (h:cn C S a w ρ Fs) {o:Oper} {c:Call} {t:Nat} {x:Operand} {s:BA} (ho:o.op= .call c) (hc:c.callee= .builtin .len) (jX:c.args.toList=[x]) (CG:c.argTypes.toList=[t]) (hx:St.rd C.N S.sl x= .one (.l (.s s))) {sz bs:Nat} (hq:tt t=some ⟨.str,sz,bs⟩): ∃u,Out P C S o ⟨.l (.i .i64 s.size),[],n,[],[]⟩ a w w ρ Fs u:=by
 have hv:a.eval x= .string s:=kE h hx
 have e1:c.args= #[x]:=by apply Array.ext';simpa using jX
 have e2:c.argTypes= #[t]:=by apply Array.ext';simpa using CG
 refine ⟨_,Out.pure h rfl (tQ (b:= .len) ho hc fun Gz=> ?_) rfl⟩
 rw[e1,e2]
 have:=run_len_string (P:=P) w t o.type s (T t _ hq).desc
 simp[builtin,hv,this,goInt]
theorem T5 (T:qc P tt) (h:cn C S a w ρ Fs) {o:Oper} {c:Call} {t e k:Nat} {x:Operand} {y:LV} {rl rc:List Nat} (ho:o.op= .call c) (hc:c.callee= .builtin .len) (jX:c.args.toList=[x]) (CG:c.argTypes.toList=[t]) (hx:St.rd C.N S.sl x= .one (.l y)) (hq:nu tt t=some e) (hl:lenOf S.hp y=some (k,rl,rc)): ∃u,Out P C S o ⟨.l (.i .i64 k),[],n,rl,rc⟩ a w w ρ Fs u:=by
 obtain ⟨A,cap,hv⟩:=MB h.mem hl (kE h hx)
 have e1:c.args= #[x]:=by apply Array.ext';simpa using jX
 have e2:c.argTypes= #[t]:=by apply Array.ext';simpa using CG
 refine ⟨_,Out.pure h rfl (tQ (b:= .len) ho hc fun Gz=> ?_) rfl⟩
 rw[e1,e2]
 have hu:=oo T hq
 have:=run_len_slice (P:=P) w t o.type A k cap (by rw[hu];simp[Program.elem,hu])
 simp[builtin,hv,this,goInt]
theorem MM (h:cn C S a w ρ Fs) {o:Oper} {c:Call} {x y:Operand} {k:IntKind} {u v:Int} (ho:o.op= .call c) (hc:c.callee= .builtin .min) (jX:c.args.toList=[x,y]) (hx:St.rd C.N S.sl x= .one (.l (.i k u))) (hy:St.rd C.N S.sl y= .one (.l (.i k v))): ∃r,Out P C S o ⟨.l (.i k (if v<u then v else u)),[],n,[],[]⟩ a w w ρ Fs r:=by
 have hu:a.eval x= .int k u:=kE h hx
 have hv:a.eval y= .int k v:=kE h hy
 have e1:c.args= #[x,y]:=by apply Array.ext';simpa using jX
 refine ⟨_,Out.pure h rfl (tQ (b:= .min) ho hc fun Gz=> ?_) rfl⟩
 rw[e1]
 have:=run_min_int2 (P:=P) w c.argTypes o.type k k u v
 simp[builtin,hu,hv,this]
theorem MN (h:cn C S a w ρ Fs) {o:Oper} {c:Call} {x y:Operand} {k:IntKind} {u v:Int} (ho:o.op= .call c) (hc:c.callee= .builtin .max) (jX:c.args.toList=[x,y]) (hx:St.rd C.N S.sl x= .one (.l (.i k u))) (hy:St.rd C.N S.sl y= .one (.l (.i k v))): ∃r,Out P C S o ⟨.l (.i k (if v>u then v else u)),[],n,[],[]⟩ a w w ρ Fs r:=by
 have hu:a.eval x= .int k u:=kE h hx
 have hv:a.eval y= .int k v:=kE h hy
 have e1:c.args= #[x,y]:=by apply Array.ext';simpa using jX
 refine ⟨_,Out.pure h rfl (tQ (b:= .max) ho hc fun Gz=> ?_) rfl⟩
 rw[e1]
 have:=run_max_int2 (P:=P) w c.argTypes o.type k k u v
 simp[builtin,hu,hv,this]
theorem pt.get {E:Env}: ∀ {xs:List A1} {vs:List Value},pt E xs vs-> ∀ {j:Nat} {x:A1},xs[j]? =some x-> ∃v,vs[j]? =some v/\BG E x v
 |x::xs,v::vs,h,0,y,hy=>by simp at hy;subst hy;exact ⟨v,rfl,h.1⟩
 |x::xs,v::vs,h,j+1,y,hy=>by simpa using pt.get h.2 (j:=j) (by simpa using hy)
def FY:Op->Bool
 | .call c=>(match c.callee with| .builtin _=>false|_=>true)
 |_=>false
theorem V2 {α β:Type} {f:α->β} {l:List α} {x y:β} (h:l.map f=[x,y]): ∃u v,l=[u,v]/\f u=x/\f v=y:=by
 cases l with
 |nil=>cases h
 |cons u l=>cases l with
  |nil=>simp at h
  |cons v l=>cases l with
   |nil=>simp at h;exact ⟨u,v,rfl,h.1,h.2⟩
   |cons _ _=>simp at h
theorem aa1 {α β:Type} {f:α->β} {l:List α} {x:β} (h:l.map f=[x]): ∃u,l=[u]/\f u=x:=by
 cases l with
 |nil=>cases h
 |cons u l=>cases l with
  |nil=>simp at h;exact ⟨u,rfl,h⟩
  |cons _ _=>simp at h
theorem Ej {G:jZ kG} (T:qc P G.tt) (h:cn C S a w ρ Fs) {o:Oper} {c:Call} {b:Builtin} (ho:o.op= .call c) (hc:c.callee= .builtin b) {E:kG} (he:oG G S.hp n b c.argTypes.toList (c.args.toList.map (St.rd C.N S.sl)) some=some E) (hg: ∀k,n<=k->k<E.nx->S.hp k=some .gW): ∃w' ρ' Fs' u,Out P C S o E a w w' ρ' Fs' u:=by
 generalize EB:c.args.toList.map (St.rd C.N S.sl)=xs at he
 generalize CG:c.argTypes.toList=ts at he
 unfold oG at he
 split at he
 ·rename_i s t
  obtain ⟨x,e1,e2⟩:=aa1 EB
  split at he
  ·rename_i sz bs hq
   cases he
   exact ⟨_,_,_,Q4 T h ho hc e1 CG e2 hq⟩
  ·cases he
 ·rename_i y t hn
  obtain ⟨x,e1,e2⟩:=aa1 EB
  split at he
  ·rename_i k rl rc e' hq hl
   cases he
   exact ⟨_,_,_,T5 T h ho hc e1 CG e2 hq hl⟩
  ·cases he
 ·rename_i s x t tx
  obtain ⟨u,v,e1,e2,e3⟩:=V2 EB
  subst e2 e3
  exact Gx T h ho hc e1 CG he hg
 ·rename_i d s t tx
  obtain ⟨u,v,e1,e2,e3⟩:=V2 EB
  subst e2 e3
  exact KM T h ho hc e1 CG he
 ·rename_i k x k' y
  obtain ⟨u,v,e1,e2,e3⟩:=V2 EB
  replace he:=aH he
  obtain ⟨hk,he⟩:=he
  have:=ao hk
  subst this
  cases he
  exact ⟨_,_,_,MM h ho hc e1 e2 e3⟩
 ·rename_i k x k' y
  obtain ⟨u,v,e1,e2,e3⟩:=V2 EB
  replace he:=aH he
  obtain ⟨hk,he⟩:=he
  have:=ao hk
  subst this
  cases he
  exact ⟨_,_,_,MN h ho hc e1 e2 e3⟩
 ·cases he
theorem B0 {R:Type} (p:Bool) (v:LV) (K:LV->Option R):bY p (K v)=(bY p (some v)).bind K:=by cases p<;>rfl
theorem Ar {R:Type} (op:BinOp) (x y:LV) (K:LV->Option R):binOp op x y K=(binOp op x y some).bind K:=by
 unfold binOp
 split
 ·exact B0 _ _ _
 ·exact B0 _ _ _
 ·rename_i k a k' b _ _
  cases decide (k=k') with
  |false=>rfl
  |true=>
   simp only[ak]
   split<;>first|rfl|exact B0 _ _ _
 all_goals first|rfl|exact B0 _ _ _
theorem CY {R:Type} (op:UnOp) (x:LV) (K:LV->Option R):unOp op x K=(unOp op x some).bind K:=by
 unfold unOp
 split<;>rfl
theorem pK {m:Nat} {v:AV} {E:kG} (h:pN m v some=some E):E=⟨v,[],m,[],[]⟩:=by cases h;rfl
theorem Od {G:jZ kG} (T:qc P G.tt) (hN:G.nt=C.N) (h:cn C S a w ρ Fs) {o:Oper} (hf:FY o.op=false) {E:kG} (he:lW G o.op S.sl S.hp n some=some E) (hg: ∀k,n<=k->k<E.nx->S.hp k=some .gW): ∃w' ρ' Fs' u,Out P C S o E a w w' ρ' Fs' u:=by
 have one:(∃u,Out P C S o E a w w ρ Fs u)-> ∃w' ρ' Fs' u,Out P C S o E a w w' ρ' Fs' u:=fun ⟨u,hu⟩=>⟨_,_,_,u,hu⟩
 have gn:E.nx=n+1->S.hp n=some .gW:=fun hh=>hg n (ai _) (by omega)
 cases ho:o.op with
 |move x=>
  rw[ho] at he
  simp only[lW,hN] at he
  cases pK he
  exact one ⟨_,Out.pure h rfl (run_move (.inl ho) w) (h.rd x)⟩
 |assign x=>
  rw[ho] at he
  simp only[lW,hN] at he
  cases pK he
  exact one ⟨_,Out.pure h rfl (run_move (.inr ho) w) (h.rd x)⟩
 |pick c x y=>
  rw[ho] at he
  simp only[lW,hN] at he
  split at he
  ·rename_i b hc
   have hv:a.eval c= .bool b:=kE h hc
   cases b with
   |true=>cases pK he;exact one ⟨_,Out.pure h rfl (Mw ho hv w) (h.rd x)⟩
   |false=>cases pK he;exact one ⟨_,Out.pure h rfl (Mw ho hv w) (h.rd y)⟩
  ·cases he
 |alloc t=>
  rw[ho] at he
  simp only[lW,hN] at he
  exact HU T h ho he (gn (OI he))
 |box t x=>
  rw[ho] at he
  simp only[lW,hN] at he
  exact ME T h ho he (gn (T4 he))
 |build t ps=>
  rw[ho] at he
  simp only[lW,hN] at he
  exact one (HV T h ho he)
 |buildSlice t len ps=>
  rw[ho] at he
  simp only[lW,hN] at he
  exact Ao T h ho he (gn (Ei he))
 |load t p=>
  rw[ho] at he
  simp only[lW,hN] at he
  exact one (KD T h ho he)
 |store t p x=>
  rw[ho] at he
  simp only[lW,hN] at he
  exact HW T h ho he
 |nilCheck x=>
  rw[ho] at he
  simp only[lW,hN] at he
  split at he
  ·rename_i id k hx
   have hr:=kE h hx
   obtain ⟨iS,yT,b,cap,hρ,hv⟩:=hr
   cases pK he
   exact one ⟨_,Out.pure h rfl (Kz ho hv w) (by have:=h.rd x;rw[hx,hv] at this;exact this)⟩
  ·cases he
 |binOp op t x y u=>
  rw[ho] at he
  simp only[lW,hN] at he
  split at he
  ·rename_i x' y' hx hy
   replace he:=aH he
   obtain ⟨Ee,he⟩:=he
   obtain ⟨h1,h2⟩:=ba Ee
   rw[Ar] at he
   obtain ⟨z,hz,he⟩:=Option.bind_eq_some_iff.1 he
   cases pK he
   obtain ⟨r,r1,r2⟩:=My (P:=P) T hz t x y h1 (C.env w ρ S.hp S.nx Fs) (a.eval x) (a.eval y) (kE h hx) (kE h hy) (fun hh=>by
    subst hh
    cases y with
    |const c=>exact ⟨c,rfl⟩
    |_=>cases h2) w
   exact one ⟨r,Out.pure h rfl (QV ho r2) r1⟩
  ·cases he
 |unOp op t x=>
  rw[ho] at he
  simp only[lW,hN] at he
  split at he
  ·rename_i x' hx
   rw[CY] at he
   obtain ⟨z,hz,he⟩:=Option.bind_eq_some_iff.1 he
   cases pK he
   obtain ⟨r,r1,r2⟩:=Ot (P:=P) hz (C.env w ρ S.hp S.nx Fs) (a.eval x) (kE h hx) w
   exact one ⟨r,Out.pure h rfl (TM ho r2) r1⟩
  ·cases he
 |convert s d x=>
  rw[ho] at he
  simp only[lW,hN] at he
  exact one (Eg T h ho he)
 |makeSlice t l c=>
  rw[ho] at he
  simp only[lW,hN] at he
  exact BY T h ho he (gn (Gy he))
 |slice t x lo hi mx=>
  rw[ho] at he
  simp only[lW,hN] at he
  cases mx with
  |none=>exact one (HS T h ho he)
  |some m=>cases he
 |fieldAddr t x f=>
  rw[ho] at he
  simp only[lW,hN] at he
  exact one (BR T h ho he)
 |indexAddr t x i=>
  rw[ho] at he
  simp only[lW,hN] at he
  exact one (BQ T h ho he)
 |index t x i=>
  rw[ho] at he
  simp only[lW,hN] at he
  exact one (HT T h ho he)
 |extract x j=>
  rw[ho] at he
  simp only[lW,hN] at he
  split at he
  ·rename_i xs hx
   split at he
   ·rename_i y hy
    cases pK he
    have hr:=h.rd x
    rw[hx] at hr
    obtain ⟨vs,hv,hrel⟩:=hr
    obtain ⟨v,k1,k2⟩:=hrel.get hy
    exact one ⟨v,Out.pure h rfl (Mx ho hv (by simpa using k1) w) k2⟩
   ·cases he
  ·cases he
 |call c=>
  rw[ho] at he hf
  simp only[lW,hN] at he
  simp only[FY] at hf
  split at he
  ·rename_i b hc
   exact Ej T h ho hc he hg
  ·rename_i f hc;rw[hc] at hf;cases hf
  ·cases he
 |_=>rw[ho] at he;cases he
end
section
variable {R:Type} {tt:TT} {hp:Nat->Option aQ} {n:Nat} (K:kG->Option R)
theorem cE {A B:Type} (p:Bool) (x:Option A) (F:A->Option B):(bif p then x else none).bind F=bif p then x.bind F else none:=by cases p<;>rfl
theorem lC {A B:Type} (p:Bool) (x:Option A) (F:A->Option B):(bif p then none else x).bind F=bif p then none else x.bind F:=by cases p<;>rfl
theorem g_ {A B:Type} (p:Bool) (x:Option A) (F:A->Option B):(bY p x).bind F=bY p (x.bind F):=by cases p<;>rfl
theorem mS {A B:Type} (x:AV) (G:Int->Option A) (F:A->Option B):(Ok x G).bind F=Ok x fun i=>(G i).bind F:=by
 unfold Ok;split<;>rfl
theorem pL {A B:Type} (x:Option AV) (d:Int) (G:Int->Option A) (F:A->Option B):(Ge x d G).bind F=Ge x d fun i=>(G i).bind F:=by
 unfold Ge;split
 ·rfl
 ·exact mS _ _ _
theorem sa (v:AV):(pN n v some).bind K=pN n v K:=rfl
theorem KN (t:Nat):tN tt n t K=(tN tt n t some).bind K:=by
 unfold tN
 repeat' (first|rfl|split| (simp only[cE,lC,g_,mS,pL,sa,aO];done)|simp only[cE,lC,g_,mS,pL,sa,aO])
theorem OJ (t:Nat) (x:AV):xU tt hp n t x K=(xU tt hp n t x some).bind K:=by
 unfold xU
 repeat' (first|rfl|split| (simp only[cE,lC,g_,mS,pL,sa,aO];done)|simp only[cE,lC,g_,mS,pL,sa,aO])
theorem KO (t:Nat) (ps:List (Nat×AV)):rN tt hp n t ps K=(rN tt hp n t ps some).bind K:=by
 unfold rN
 repeat' (first|rfl|split| (simp only[cE,lC,g_,mS,pL,sa,aO];done)|simp only[cE,lC,g_,mS,pL,sa,aO])
theorem B1 (t len:Nat) (ps:List (Nat×AV)):jS tt hp n t len ps K=(jS tt hp n t len ps some).bind K:=by
 unfold jS
 split
 ·split
  ·simp only[cE]
   congr 1
   split<;>rfl
  ·rfl
 ·rfl
theorem MO (t:Nat) (p:AV):wg tt hp n t p K=(wg tt hp n t p some).bind K:=by
 unfold wg
 split
 ·split
  ·cases fT tt t
   ·simp only[an,cE]
    congr 1
    split<;>rfl
   ·simp only[ak,cE];rfl
  ·rfl
 ·split
  ·simp only[cE];rfl
  ·rfl
 ·simp only[cE];rfl
 ·split
  ·simp only[cE];rfl
  ·rfl
 ·rfl
theorem CZ (t:Nat) (x ix:AV):lX tt hp n t x ix K=(lX tt hp n t x ix some).bind K:=by
 unfold lX
 rw[mS]
 congr 1
 funext i
 split
 ·split
  ·simp only[cE,g_];rfl
  ·rfl
 ·split
  ·simp only[cE,g_];rfl
  ·rfl
 ·simp only[cE,g_];rfl
 ·split
  ·simp only[cE,g_];rfl
  ·rfl
 ·split
  ·simp only[cE,g_];rfl
  ·rfl
 ·rfl
theorem C1 (t:Nat) (x:AV) (f:Nat):lY tt hp n t x f K=(lY tt hp n t x f some).bind K:=by
 unfold lY
 repeat' (first|rfl|split)
theorem KP (t:Nat) (x ix:AV):yD tt n t x ix K=(yD tt n t x ix some).bind K:=by
 unfold yD
 split
 ·split
  ·simp only[mS,g_];rfl
  ·rfl
 ·rfl
theorem GA (s d:Nat) (x:AV):oF tt hp n s d x K=(oF tt hp n s d x some).bind K:=by
 unfold oF
 simp only[cE]
 congr 1
 split
 ·split<;>rfl
 ·split<;>rfl
 ·split
  ·split<;>rfl
  ·rfl
 ·rfl
theorem C2 (t:Nat) (l c:Operand) (x:AV):mZ tt n t l c x K=(mZ tt n t l c x some).bind K:=by
 unfold mZ
 simp only[cE]
 congr 1
 split
 ·split
  ·simp only[mS,g_];rfl
  ·rfl
 ·rfl
theorem tR (e:Nat) (r0 base y:Row) (ks:List Nat) (up:List (Nat×Option aQ)) (rc:List Nat):uv tt e r0 base y ks up n rc K=(uv tt e r0 base y ks up n rc some).bind K:=by
 unfold uv
 split
 ·simp only[cE,g_];rfl
 ·rfl
theorem HY (t tx:Nat) (s x:AV):qk tt hp n t tx s x K=(qk tt hp n t tx s x some).bind K:=by
 unfold qk
 split
 ·split
  ·split
   ·simp only[cE]
    congr 1
    split
    ·exact tR K ..
    ·split
     ·simp only[lC];congr 1;exact tR K ..
     ·rfl
    ·split
     ·simp only[lC,cE];congr 2;exact tR K ..
     ·rfl
    ·split
     ·simp only[lC,cE];congr 2;exact tR K ..
     ·rfl
    ·rfl
   ·rfl
  ·rfl
 ·rfl
theorem MP (t:Nat) (d s:AV):wj tt hp n t d s K=(wj tt hp n t d s some).bind K:=by
 unfold wj
 simp only[cE]
 congr 1
 split
 ·split
  ·simp only[cE];rfl
  ·simp only[cE,g_];rfl
  ·rfl
 ·rfl
theorem KQ (t:Nat) (x:AV) (lo hi:Option AV):rP tt hp n t x lo hi K=(rP tt hp n t x lo hi some).bind K:=by
 unfold rP
 split
 ·split
  ·simp only[pL,g_];rfl
  ·rfl
 ·split
  ·simp only[cE]
   congr 1
   split
   ·rfl
   ·simp only[pL,g_];rfl
  ·rfl
 ·simp only[cE]
  congr 1
  split
  ·rfl
  ·simp only[mS,g_];rfl
  ·simp only[mS,g_];rfl
  ·simp only[mS,g_];rfl
 ·rfl
theorem KR (t:Nat) (p x:AV):rO tt hp n t p x K=(rO tt hp n t p x some).bind K:=by
 unfold rO
 split
 ·split
  ·simp only[cE];rfl
  ·rfl
 ·split
  ·split
   ·simp only[cE]
    congr 1
    split
    ·simp only[lC];rfl
    ·rfl
   ·simp only[cE,g_]
    congr 2
    split
    ·split
     ·simp only[lC];rfl
     ·rfl
    ·rfl
   ·rfl
  ·rfl
 ·split
  ·split
   ·simp only[cE]
    congr 1
    split<;>rfl
   ·rfl
  ·rfl
 ·split
  ·simp only[cE]
   congr 1
   split<;>rfl
  ·rfl
 ·rfl
def jZ.KZ {R:Type} (G:jZ R):jZ kG:=⟨G.tt,fun _ _ _=>none,G.sig,G.nt⟩
theorem GB (G:jZ R) (b:Builtin) (ts:List Nat) (xs:List AV):oG G hp n b ts xs K=(oG G.KZ hp n b ts xs some).bind K:=by
 unfold oG
 split
 ·simp only[jZ.KZ];split<;>rfl
 ·simp only[jZ.KZ];split<;>rfl
 ·exact HY K ..
 ·exact MP K ..
 ·simp only[cE];rfl
 ·simp only[cE];rfl
 ·rfl
theorem QM (G:jZ R) (o:Op) (sl:Nat->AV) (hf:FY o=false):lW G o sl hp n K=(lW G.KZ o sl hp n some).bind K:=by
 cases o with
 |move x=>rfl
 |assign x=>rfl
 |pick c x y=>
  simp only[lW,jZ.KZ]
  split
  ·split<;>rfl
  ·rfl
 |alloc t=>exact KN K t
 |box t x=>exact OJ K t _
 |build t ps=>exact KO K t _
 |buildSlice t len ps=>exact B1 K t len _
 |load t p=>exact MO K t _
 |store t p x=>exact KR K t _ _
 |nilCheck x=>simp only[lW,jZ.KZ];split<;>rfl
 |binOp op t x y u=>
  simp only[lW,jZ.KZ]
  split
  ·simp only[cE]
   congr 1
   rw[Ar,Ar (R:=kG)]
   cases binOp op _ _ some<;>rfl
  ·rfl
 |unOp op t x=>
  simp only[lW,jZ.KZ]
  split
  ·rw[CY,CY (R:=kG)]
   cases unOp op _ some<;>rfl
  ·rfl
 |convert s d x=>exact GA K s d _
 |makeSlice t l c=>exact C2 K t l c _
 |slice t x lo hi mx=>
  cases mx with
  |none=>exact KQ K t _ _ _
  |some m=>rfl
 |fieldAddr t x f=>exact C1 K t _ f
 |indexAddr t x i=>exact CZ K t _ _
 |index t x i=>exact KP K t _ _
 |extract x j=>
  simp only[lW,jZ.KZ]
  split
  ·split<;>rfl
  ·rfl
 |call c=>
  simp only[lW,jZ.KZ]
  simp only[FY] at hf
  split
  ·exact GB K ..
  ·rename_i f hc;rw[hc] at hf;cases hf
  ·rfl
 |_=>rfl
theorem pM {hp':Nat->Option aQ} (hs:Sub hp hp') {id:Nat} {r:Row} (h:ny hp id=some r):ny hp' id=some r:=by
 unfold ny at h ⊢
 split at h
 ·rename_i hq;rw[hs _ _ hq];exact h
 ·rename_i hq;rw[hs _ _ hq];exact h
 ·cases h
theorem DF {hp':Nat->Option aQ} (hs:Sub hp hp') {x:LV} {r:Row×List Nat} (h:ku hp x=some r):ku hp' x=some r:=by
 cases x with
 |val p r=>exact h
 |own id=>
  simp only[ku] at h ⊢
  split at h
  ·rename_i hq;rw[hs _ _ hq];exact h
  ·cases h
 |sub id lo hi=>
  simp only[ku] at h ⊢
  split at h
  ·rename_i hq;rw[hs _ _ hq];exact h
  ·cases h
 |inner id ver i f=>
  simp only[ku] at h ⊢
  split at h
  ·rename_i hq;rw[hs _ _ hq];exact h
  ·rename_i hq;rw[hs _ _ hq];exact h
  ·cases h
 |_=>cases h
theorem Jc {hp':Nat->Option aQ} (hs:Sub hp hp') {x:LV} {r:Nat×List Nat×List Nat} (h:lenOf hp x=some r):lenOf hp' x=some r:=by
 cases x with
 |val p r=>exact h
 |nil=>exact h
 |own id=>
  simp only[lenOf] at h ⊢
  split at h
  ·rename_i hq;rw[pM hs hq];exact h
  ·cases h
 |sub id lo hi=>
  simp only[lenOf] at h ⊢
  split at h
  ·rename_i hq;rw[pM hs hq];exact h
  ·cases h
 |inner id ver i f=>
  simp only[lenOf] at h ⊢
  split at h
  ·rename_i hq;rw[hs _ _ hq];exact h
  ·rename_i hq;rw[hs _ _ hq];exact h
  ·cases h
 |_=>cases h
theorem B2 {hp':Nat->Option aQ} (hs:Sub hp hp') {x:LV} (h:storable hp x=true):storable hp' x=true:=by
 have row: ∀id,(ny hp id).isSome=true->(ny hp' id).isSome=true:=fun id hh=>by
  obtain ⟨r,hr⟩:=Option.isSome_iff_exists.1 hh
  rw[pM hs hr];rfl
 cases x with
 |own id=>exact row id h
 |sub id lo hi=>exact row id h
 |vc id i f=>exact row id h
 |arr id n=>exact row id h
 |inner id ver i f=>
  simp only[storable] at h ⊢
  split at h
  ·rename_i hq;rw[hs _ _ hq];exact h
  ·cases h
 |CO id ver i f j=>
  simp only[storable] at h ⊢
  split at h
  ·rename_i hq;rw[hs _ _ hq];exact h
  ·cases h
 |_=>exact h
theorem wx {hp':Nat->Option aQ} (hs:Sub hp hp') {x:AV} {xs:List LV} (h:qj hp x=some xs):qj hp' x=some xs:=by
 unfold qj at h ⊢
 split
 ·obtain ⟨h1,h2⟩:=aH h
  rw[B2 hs h1];exact h2
 ·obtain ⟨h1,h2⟩:=aH h
  have:List.all _ (storable hp')=true:=List.all_eq_true.2 fun y hy=>B2 hs (List.all_eq_true.1 h1 y hy)
  rw[this];exact h2
 ·exact h
theorem GC {hp':Nat->Option aQ} (hs:Sub hp hp') (ks:List Nat):Sub (kill hp ks) (kill hp' ks):=fun j r h=>by
 obtain ⟨h1,h2⟩:=yE h
 rw[nv,aD h1];exact hs j r h2
theorem wy {hp':Nat->Option aQ} (hs:Sub hp hp') {x:LV} {r:Bool×LI×List Nat} (h:uu hp x=some r):uu hp' x=some r:=by
 unfold uu at h ⊢
 split at h
 ·exact h
 ·exact h
 ·split at h
  ·rename_i hq;simp only[hs _ _ hq];exact h
  ·cases h
 ·split at h
  ·rename_i hq;simp only[hs _ _ hq];exact h
  ·cases h
 ·cases h
end
section
variable {tt:TT} {hp hp':Nat->Option aQ} {n:Nat}
theorem tS: ∀(sg:List Bool) (xs:List LV) {hp hp':Nat->Option aQ} (hs:Sub hp hp') {r:Bool×List iQ×List Nat},kx hp sg xs=some r->kx hp' sg xs=some r
 | [],[],_,_,_,_,h=>h
 | [],_::_,_,_,_,_,h=>by simp[kx] at h
 |false::sg,[],_,_,_,_,h=>by simp[kx] at h
 |true::sg,[],_,_,_,_,h=>by simp[kx] at h
 |false::sg,x::xs,hp,hp',hs,r,h=>by
  cases x with
  |i k z=>
   cases k with
   |i64=>
    simp only[kx] at h ⊢
    split at h
    ·rename_i hq;rw[tS sg xs hs hq];exact h
    ·cases h
   |_=>simp[kx] at h
  |_=>simp[kx] at h
 |true::sg,x::xs,hp,hp',hs,r,h=>by
  simp only[kx] at h ⊢
  split at h
  ·rename_i hq
   rw[wy hs hq]
   split at h
   ·rename_i Na;simp only[tS sg xs (GC hs _) Na];exact h
   ·cases h
  ·cases h
theorem sd: ∀(xs:List AV) {hp hp':Nat->Option aQ} (hs:Sub hp hp') (r0:Row) {r:Row×List Nat},rowOf hp r0 xs=some r->rowOf hp' r0 xs=some r
 | [],_,_,_,r0,_,h=>by cases r0<;>simpa[rowOf] using h
 |x::xs,hp,hp',hs,r0,r,h=>by
  unfold rowOf at h ⊢
  split at h
  ·rename_i Gq;cases Gq
  ·rename_i k _ k' z Zg Gq
   cases Gq
   by_cases hk:k=k'
   ·subst hk
    simp only[decide_true,ak] at h ⊢
    split at h
    ·rename_i hq;rw[sd xs hs _ hq];exact h
    ·cases h
   ·simp[hk] at h
  ·rename_i Gq
   cases Gq
   split at h
   ·rename_i hq;rw[sd xs hs _ hq];exact h
   ·cases h
  ·rename_i Gq
   cases Gq
   split at h
   ·rename_i hq;rw[sd xs hs _ hq];exact h
   ·cases h
  ·rename_i Gq
   cases Gq
   split at h
   ·rename_i hq
    rw[wy hs hq]
    split at h
    ·rename_i Na;simp only[sd xs (GC hs _) _ Na];exact h
    ·cases h
   ·cases h
  ·rename_i Gq
   cases Gq
   split at h
   ·rename_i hq
    rw[tS _ _ hs hq]
    split at h
    ·rename_i Na;simp only[sd xs (GC hs _) _ Na];exact h
    ·cases h
   ·cases h
  ·cases h
theorem zI (hs:Sub hp hp') (fs:List (Nat×Nat)): ∀(ps:List (Nat×AV)) (zero:List LV) {xs:List LV},pH tt hp fs zero ps=some xs->pH tt hp' fs zero ps=some xs
 | [],zero,xs,h=>h
 | (i,x)::ps,zero,xs,h=>by
   simp only[pH] at h ⊢
   split at h
   ·rename_i h1 h2
    simp only[h1,wx hs h2]
    split at h
    ·rename_i h3
     try simp only[h3]
     obtain ⟨h4,h5⟩:=aH h
     rw[h4]
     exact zI hs fs ps _ h5
    ·cases h
   ·cases h
theorem KS (hs:Sub hp hp') (ag:Bool) (i f:Nat) (x:AV) (r:Row) {y:Row×List Nat×Bool} (h:pa hp ag i f x r=some y):pa hp' ag i f x r=some y:=by
 cases r with
 |ints k l=>exact h
 |eQ l=>exact h
 |strs l=>exact h
 |rows o l=>
  simp only[pa] at h ⊢
  split at h
  ·split at h
   ·rename_i hq;simp only[wy hs hq];exact h
   ·cases h
  ·cases h
 |ek sg o l=>
  simp only[pa] at h ⊢
  split at h
  ·obtain ⟨h1,h2⟩:=aH h
   subst h1
   simp only[ak]
   split at h2
   ·rename_i hq;rw[tS _ _ hs hq];exact h2
   ·cases h2
  ·exact h
  ·cases h
theorem Q5 (hs:Sub hp hp') {r0:Row} {x:LV} {y:Row×List Nat×List Nat} (h:qv hp r0 x=some y):qv hp' r0 x=some y:=by
 obtain ⟨y,ks,rc⟩:=y
 refine DZ h fun j hj=> ?_
 obtain ⟨e,v,r,hl⟩:=Gw h j hj
 rw[hl,hs _ _ hl]
theorem Q6 (hs:Sub hp hp') {t:Nat} {x:AV} {E:kG} (h:xU tt hp n t x some=some E):xU tt hp' n t x some=some E:=by
 unfold xU at h ⊢
 split at h
 ·cases h
 ·rename_i hn hq
  split at h
  ·rename_i h1
   rw[wx hs h1]
   first
    |exact h
    | (split<;>simp_all)
  ·cases h
 ·cases h
theorem MQ (hs:Sub hp hp') {t:Nat} {ps:List (Nat×AV)} {E:kG} (h:rN tt hp n t ps some=some E):rN tt hp' n t ps some=some E:=by
 unfold rN at h ⊢
 split at h
 ·rename_i hq
  try simp only[hq]
  split at h
  ·rename_i h1;rw[zI hs _ _ _ h1];exact h
  ·cases h
 ·rename_i hq
  try simp only[hq]
  exact h
 ·cases h
theorem C3 (hs:Sub hp hp') {t len:Nat} {ps:List (Nat×AV)} {E:kG} (h:jS tt hp n t len ps some=some E):jS tt hp' n t len ps some=some E:=by
 unfold jS at h ⊢
 split at h
 ·rename_i hq
  try simp only[hq]
  split at h
  ·rename_i h1 h2
   try simp only[h1,h2]
   obtain ⟨h3,h4⟩:=aH h
   rw[h3]
   simp only[ak]
   split at h4
   ·rename_i h5;rw[sd _ hs _ h5];exact h4
   ·cases h4
  ·cases h
 ·cases h
theorem OK (hs:Sub hp hp') {t:Nat} {p:AV} {E:kG} (h:wg tt hp n t p some=some E):wg tt hp' n t p some=some E:=by
 unfold wg at h ⊢
 split at h
 ·split at h
  ·rename_i h1;simp only[hs _ _ h1];exact h
  ·cases h
 ·split at h
  ·rename_i h1;simp only[hs _ _ h1];exact h
  ·cases h
 ·exact h
 ·split at h
  ·rename_i h1;simp only[hs _ _ h1];exact h
  ·cases h
 ·cases h
theorem MR (hs:Sub hp hp') {t:Nat} {p x:AV} {E:kG} (h:rO tt hp n t p x some=some E):rO tt hp' n t p x some=some E:=by
 unfold rO at h ⊢
 split at h
 ·split at h
  ·rename_i h1 h2;simp only[hs _ _ h1,wx hs h2];exact h
  ·cases h
 ·split at h
  ·rename_i hq
   try simp only[hq]
   split at h
   ·rename_i h1
    simp only[hs _ _ h1]
    obtain ⟨h2,h3⟩:=aH h
    rw[h2]
    simp only[ak]
    split at h3
    ·rename_i h4;simp only[KS hs _ _ _ _ _ h4];exact h3
    ·cases h3
   ·rename_i h1
    simp only[hs _ _ h1]
    obtain ⟨h2,h3⟩:=aH h
    rw[h2]
    simp only[ak]
    obtain ⟨h4,h5⟩:=ij h3
    rw[h4]
    simp only[bY,ak]
    split at h5
    ·split at h5
     ·rename_i h6;simp only[wy hs h6];exact h5
     ·cases h5
    ·cases h5
   ·cases h
  ·cases h
 ·split at h
  ·rename_i hq
   try simp only[hq]
   split at h
   ·rename_i h1 h3
    simp only[hs _ _ h1,h3]
    exact h
   ·cases h
  ·cases h
 ·split at h
  ·rename_i h1
   simp only[hs _ _ h1]
   exact h
  ·cases h
 ·cases h
theorem YH {x:AV} {F F':Int->Option kG} {E:kG} (h:Ok x F=some E) (hh: ∀i,F i=some E->F' i=some E):Ok x F' =some E:=by
 obtain ⟨k,i,rfl,h⟩:=pb h
 exact hh i h
theorem Ek (hs:Sub hp hp') {t:Nat} {x ix:AV} {E:kG} (h:lX tt hp n t x ix some=some E):lX tt hp' n t x ix some=some E:=by
 unfold lX at h ⊢
 refine YH h fun i h=> ?_
 split at h
 ·split at h
  ·rename_i h1;simp only[pM hs h1];exact h
  ·cases h
 ·split at h
  ·rename_i h1;simp only[pM hs h1];exact h
  ·cases h
 ·exact h
 ·split at h
  ·rename_i h1;simp only[Jc hs h1];exact h
  ·cases h
 ·split at h
  ·rename_i h1 h2;simp only[h1,pM hs h2];exact h
  ·cases h
 ·cases h
theorem El (hs:Sub hp hp') {t f:Nat} {x:AV} {E:kG} (h:lY tt hp n t x f some=some E):lY tt hp' n t x f some=some E:=by
 unfold lY at h ⊢
 split at h
 ·rename_i hq
  try simp only[hq]
  split at h
  ·rename_i Na
   try simp only[Na]
   split at h
   ·exact h
   ·split at h
    ·rename_i h1;simp only[pM hs h1];exact h
    ·cases h
   ·exact h
   ·cases h
  ·cases h
 ·cases h
theorem MS (hs:Sub hp hp') {t:Nat} {x:AV} {lo hi:Option AV} {E:kG} (h:rP tt hp n t x lo hi some=some E):rP tt hp' n t x lo hi some=some E:=by
 unfold rP at h ⊢
 split at h
 ·exact h
 ·split at h
  ·rename_i h1;simp only[pM hs h1];exact h
  ·cases h
 ·exact h
 ·cases h
theorem HZ (hs:Sub hp hp') {s d:Nat} {x:AV} {E:kG} (h:oF tt hp n s d x some=some E):oF tt hp' n s d x some=some E:=by
 unfold oF at h ⊢
 obtain ⟨h1,h⟩:=aH h
 rw[h1]
 simp only[ak]
 split at h
 ·exact h
 ·exact h
 ·split at h
  ·rename_i h2 h3
   simp only[h2,DF hs h3]
   exact h
  ·cases h
 ·cases h
theorem KT (hs:Sub hp hp') {t tx:Nat} {s x:AV} {E:kG} (h:qk tt hp n t tx s x some=some E):qk tt hp' n t tx s x some=some E:=by
 unfold qk at h ⊢
 split at h
 ·rename_i hq
  try simp only[hq]
  split at h
  ·rename_i Na
   try simp only[Na]
   split at h
   ·rename_i h1
    rw[Q5 hs h1]
    simp only[]
    obtain ⟨h2,h3⟩:=aH h
    rw[h2]
    simp only[ak]
    split at h3
    ·exact h3
    ·split at h3
     ·rename_i h4;simp only[hs _ _ h4];exact h3
     ·cases h3
    ·split at h3
     ·rename_i h4;simp only[hs _ _ h4];exact h3
     ·cases h3
    ·split at h3
     ·rename_i h4;simp only[hs _ _ h4];exact h3
     ·cases h3
    ·cases h3
   ·cases h
  ·cases h
 ·cases h
theorem OL (hs:Sub hp hp') {t:Nat} {d s:AV} {E:kG} (h:wj tt hp n t d s some=some E):wj tt hp' n t d s some=some E:=by
 unfold wj at h ⊢
 obtain ⟨h1,h⟩:=aH h
 rw[h1]
 simp only[ak]
 split at h
 ·split at h
  ·rename_i h2;simp only[hs _ _ h2];exact h
  ·rename_i h2;simp only[hs _ _ h2];exact h
  ·cases h
 ·cases h
theorem H0 {G:jZ kG} (hs:Sub hp hp') {b:Builtin} {ts:List Nat} {xs:List AV} {E:kG} (h:oG G hp n b ts xs some=some E):oG G hp' n b ts xs some=some E:=by
 unfold oG at h ⊢
 split at h
 ·exact h
 ·split at h
  ·rename_i h1 h2;simp only[h1,Jc hs h2];exact h
  ·cases h
 ·exact KT hs h
 ·exact OL hs h
 ·exact h
 ·exact h
 ·cases h
theorem Tq {G:jZ kG} (hs:Sub hp hp') {o:Op} {sl:Nat->AV} (hf:FY o=false) {E:kG} (h:lW G o sl hp n some=some E):lW G o sl hp' n some=some E:=by
 cases o with
 |move x=>exact h
 |assign x=>exact h
 |pick c x y=>exact h
 |alloc t=>exact h
 |box t x=>exact Q6 hs h
 |build t ps=>exact MQ hs h
 |buildSlice t len ps=>exact C3 hs h
 |load t p=>exact OK hs h
 |store t p x=>exact MR hs h
 |nilCheck x=>exact h
 |binOp op t x y u=>exact h
 |unOp op t x=>exact h
 |convert s d x=>exact HZ hs h
 |makeSlice t l c=>exact h
 |slice t x lo hi mx=>
  cases mx with
  |none=>exact MS hs h
  |some m=>exact h
 |fieldAddr t x f=>exact El hs h
 |indexAddr t x i=>exact Ek hs h
 |index t x i=>exact h
 |extract x j=>exact h
 |call c=>
  simp only[lW] at h ⊢
  simp only[FY] at hf
  split at h
  ·exact H0 hs h
  ·rename_i f hc;rw[hc] at hf;cases hf
  ·exact h
 |_=>exact h
end
