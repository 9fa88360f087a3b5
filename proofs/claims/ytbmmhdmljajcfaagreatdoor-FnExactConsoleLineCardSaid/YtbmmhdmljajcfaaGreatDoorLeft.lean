/- What is left over: the closure and its caller, walked by hand. Conditions: as each theorem says. -/
import Derived.Test.YtbmmhdmljajcfaaGreatDoorNoteF
import Derived.Test.YtbmmhdmljajcfaaGreatDoorHand
import Derived.Test.YtbmmhdmljajcfaaGreatDoorProg
import Derived.Deep.LoopGhost
import Derived.Laws.EntriesVeiled
import Derived.Deep.RegionWith
import Derived.BigQuiet
set_option linter.unusedVariables false
set_option linter.unusedSimpArgs false
namespace Go.Proofs.YtbmmhdmljajcfaaGreatDoor.Ca
open Go Go.RowKit Go.Proofs.YtbmmhdmljajcfaaGreatDoor.V
theorem R4 (k k':IntKind) (x y:Int):Builtin.min2 (.int k x) (.int k' y)=pure (.int k (if y<x then y else x)):=by simp only[Builtin.min2]
theorem US (ats:Array TypeId) (ty:TypeId) (a b:Value):Builtin.min_ ats ty #[a,b] =(Builtin.min2 a b>>=fun s=>pure s):=by simp only[Builtin.min_,List.foldlM_cons,List.foldlM_nil]
attribute [local go_sem] R4 US
structure Xn (C:Cx) (ms:LL) (A B:Nat) (w:World):Prop where
 wC:Below C.w0.heap.size C.w0 w
 mv: ∃v,w.cell? ⟨A,0,none⟩=some v/\wB w v ms
 fn:w.cell? ⟨B,0,none⟩=some (.func (.func 262) #[] #[.pointer (some ⟨A,0,none⟩),.pointer (some ⟨B,0,none⟩)])
theorem Xn.below {C:Cx} {ms:LL} {A B:Nat} {w w':World} (h:Xn C ms A B w) (hb:Below w.heap.size w w'):Xn C ms A B w':=by
 obtain ⟨v,hv,hr⟩:=h.mv
 exact ⟨h.wC.trans (hb.mono h.wC.size),⟨v,(hb.cell (World.block_lt_of_cell? _ _ hv)).trans hv,hr.below hb⟩,(hb.cell (World.block_lt_of_cell? _ _ h.fn)).trans h.fn⟩
theorem Nj {C:Cx} {g:yb} {args:List Value} {n:Int} {w':World} (hr:g.results.length=1) (yc:wN g.kS=true) (K4:Below C.w0.heap.size C.w0 w'):V.Ends C g args [.l (.i .i64 n)] (.returned (.int .i64 n)) w':=by
 refine ⟨[.int .i64 n],fz,rfl,by simpa using hr.symm,.AD K4,fun b=>by simp,fun b hb=>by simp at hb,?_⟩
 rw[ky _ _ yc,List.append_nil]
 exact ⟨fz,fz,⟨rfl,rfl⟩,rfl,(dw _).symm⟩
structure D (C:Cx) (ms:LL) (A B:Nat) (v:Value) (l:LI) (w:World):Prop where
 cap:Xn C ms A B w
 left:rE w v l
theorem D.below {C:Cx} {ms:LL} {A B:Nat} {v:Value} {l:LI} {w w':World} (h:D C ms A B v l w) (hb:Below w.heap.size w w'):D C ms A B v l w':=⟨h.cap.below hb,h.left.below hb⟩
theorem D.drew {C:Cx} {ms:LL} {A B:Nat} {v:Value} {l:LI} {w:World} (h:D C ms A B v l w):D C ms A B v l w.drew:=h.below (Below.refl _ _).drew
section
variable {C:Cx} {ms:LL} {A B:Nat} {V:LI->Option Int} {H:LI->Int->Option Bool} {X:LI->Int->Option LI}
set_option maxHeartbeats 8000000 in
set_option maxRecDepth 100000 in
theorem R5 (hP:C.P0=Tryz.prog) (hn:ms.length<1000000) (w9: ∀m∈ms,m.length<1000000)
 (hV: ∀l r,V l=some r->eP Tryz.prog 239 ⟨[22],[3],[.qp],.own⟩ [.l (.sl .bi (.ints .i64 l))] [.l (.i .i64 r)])
 (hH: ∀l c r,H l c=some r->eP Tryz.prog 263 ⟨[22,3],[4],[.qp,.qp],.own⟩ [.l (.sl .bi (.ints .i64 l)),.l (.i .i64 c)] [.l (.b r)])
 (hX: ∀l c r,X l c=some r->eP Tryz.prog 264 ⟨[22,3],[22],[.qp,.qp],.own⟩ [.l (.sl .bi (.ints .i64 l)),.l (.i .i64 c)] [.l (.sl .own (.ints .i64 r))]):
 ∀(d k0:Nat) (l:LI) (v:Value) (w:World) (o r:Int),ms.length-k0=d->k0<=ms.length->Xn C ms A B w->rE w v l->V l=some o->kR V H X (ms.drop k0) l o=some r->
  Calls Tryz.prog 262 #[v,.int .i64 (k0:Int),.pointer (some ⟨A,0,none⟩),.pointer (some ⟨B,0,none⟩)] w fun e w'=>e= .returned (.int .i64 r)/\Below w.heap.size w w':=by
 intro d
 induction d using Nat.strongRecOn with
 |_ d ih=>
 intro k0 l v w o r hd hk0 D7 hv ho hr
 have hVo:=hV l o ho
 have A0:Aside ((∀(d' k0:Nat) (l:LI) (v:Value) (w:World) (o r:Int),d' <d->ms.length-k0=d'->k0<=ms.length->Xn C ms A B w->rE w v l->V l=some o->kR V H X (ms.drop k0) l o=some r->
  Calls Tryz.prog 262 #[v,.int .i64 (k0:Int),.pointer (some ⟨A,0,none⟩),.pointer (some ⟨B,0,none⟩)] w fun e w'=>e= .returned (.int .i64 r)/\Below w.heap.size w w')/\kR V H X (ms.drop k0) l o=some r/\ms.length-k0=d):=⟨fun d' k0 l v w o r iS=>ih d' iS k0 l v w o r,hr,hd⟩
 have A1:Aside ((∀l r,V l=some r->eP Tryz.prog 239 ⟨[22],[3],[.qp],.own⟩ [.l (.sl .bi (.ints .i64 l))] [.l (.i .i64 r)])/\(∀l c r,H l c=some r->eP Tryz.prog 263 ⟨[22,3],[4],[.qp,.qp],.own⟩ [.l (.sl .bi (.ints .i64 l)),.l (.i .i64 c)] [.l (.b r)])/\(∀l c r,X l c=some r->eP Tryz.prog 264 ⟨[22,3],[22],[.qp,.qp],.own⟩ [.l (.sl .bi (.ints .i64 l)),.l (.i .i64 c)] [.l (.sl .own (.ints .i64 r))])):=⟨hV,hH,hX⟩
 clear ih hr hd ho hV hH hX
 go_enter Tryz.func262,Tryz.ntmps262
 go_wp2_with (go_at_call 239;refine (Xm hVo rfl hP D7.wC (C7 hv)).mono ?_;rintro e w1 ⟨rfl,wD⟩)
 have ZB:=D7.below wD
 have Jm:=hv.below wD
 go_loopg [7,8] (ms.length-k0) (fun g out i wr=> ∃(o':Int) (k:Nat),k<=ms.length/\k0<=k/\g=ms.length-k/\out= .int .i64 o' /\i= .int .i64 (k:Int)/\Below w1.heap.size w1 wr/\Aside (kR V H X (ms.drop k) l o' =some r))
 case atStart=>exact ⟨o,k0,hk0,Nat.le_refl _,rfl,rfl,rfl,Below.refl _ _,A0.out.2.1⟩
 case round=>
  obtain ⟨o',k,hk,hkk,rfl,rfl,rfl,UT,A2⟩:=hrel
  have ZC:=ZB.below UT
  have Jn:=Jm.below UT
  obtain ⟨mv,Xo,ZD⟩:=ZC.mv
  have Hl:=ZC.fn
  by_cases iS:k<ms.length
  ·obtain ⟨mb,mo,mc,rfl,hmc,hmj⟩:=ZD.out (fun e=>by rw[e] at iS;exact absurd iS (Nat.not_lt_zero _))
   obtain ⟨u,hu,ZA⟩:=hmj k iS
   have ZE:(k:Int)<(ms.length:Int):=by omega
   have afn:(0:Int)<=(k:Int):=by omega
   generalize hm:ms.getD k [] =m at ZA
   have A3:Aside (ms.drop k=m::ms.drop (k+1)):=by
    show ms.drop k=m::ms.drop (k+1)
    rw[List.drop_eq_getElem_cons iS,<- hm];simp[iS]
   have hml:m.length<1000000:=w9 m (by rw[<- hm];rw[show ms.getD k [] =ms[k] by simp[iS]];exact List.getElem_mem iS)
   clear hmj hm
   have ZF:=A2.out
   rw[A3.out] at ZF
   have ZF:((w_ H X m l true).bind _)=some r:=ZF
   have A4:Aside _:=ZF
   clear ZF A2
   obtain ⟨ua,uc,rfl,huj⟩: ∃ua uc,u= .slice ua m.length uc/\(0<m.length-> ∃b off,ua=some ⟨b,off,none⟩/\ ∀j,j<m.length->wr.cell? ⟨b,off+j,none⟩=some (.int .i64 (m.getD j 0))):=by
    obtain ⟨A1,c1,e,_⟩:=ZA.form
    refine ⟨A1,c1,e,fun hp=> ?_⟩
    obtain ⟨ub,uo,uc,e2,_,hj⟩:=ZA.out (List.length_pos_iff.1 hp)
    rw[e] at e2
    cases e2
    exact ⟨ub,uo,rfl,hj⟩
   ·go_wp2_with fail
    go_loopg [9,10,28] m.length (fun g rv wh j wi=> ∃(l':LI) (b:Bool) (q:Nat),q<=m.length/\g=m.length-q/\wh= .bool b/\j= .int .i64 (q:Int)/\Below wr.heap.size wr wi/\rE wi rv l' /\Aside ((w_ H X (m.drop q) l' b).bind (fun p=>bif p.2 then (V p.1).bind fun o2=>(kR V H X (ms.drop (k+1)) p.1 o2).bind fun r=>kR V H X (ms.drop (k+1)) l (if r<o' then r else o') else kR V H X (ms.drop (k+1)) l o')=some r))
    case atStart=>exact ⟨l,true,0,Nat.zero_le _,rfl,rfl,rfl,Below.refl _ _,Jn,by show ((w_ H X (m.drop 0) l true).bind _)=some r;rw[List.drop_zero];exact A4.out⟩
    case round=>
     obtain ⟨l',b,q,hq,rfl,rfl,rfl,P2,Xp,A6⟩:=hrel
     have ZG:=ZC.wC.trans (P2.mono ZC.wC.size)
     have hci:=ZC.below P2
     by_cases hql:q<m.length
     ·have hqI:(q:Int)<(m.length:Int):=by omega
      have hq0:(0:Int)<=(q:Int):=by omega
      obtain ⟨ub,uo,rfl,huk⟩:=huj (by omega)
      have huq:=(P2.cell (World.block_lt_of_cell? _ _ (huk q hql))).trans (huk q hql)
      generalize hc:m.getD q 0=c at huq
      have e1:m.drop q=c::m.drop (q+1):=by rw[List.drop_eq_getElem_cons hql,<- hc];simp[hql]
      have yQ:=A6.out
      rw[e1] at yQ
      clear A6 e1 hc
      cases b with
      |true=>
       have yQ:(((H l' c).bind fun b'=>(X l' c).bind fun UU=>w_ H X (m.drop (q+1)) UU b').bind _)=some r:=yQ
       cases eH:H l' c with
       |none=>rw[eH] at yQ;cases yQ
       |some b'=>
       cases eX:X l' c with
       |none=>rw[eH,eX] at yQ;cases yQ
       |some UU=>
       rw[eH,eX] at yQ
       have A7:Aside _:=yQ
       have cH:=A1.out.2.1 l' c b' eH
       have cX:=A1.out.2.2 l' c UU eX
       clear yQ eH eX huj huk Hl Xo hu
       go_wp2_with (first
        | (go_at_call 263;refine (Jl cH rfl hP ZG (Ni Xp)).mono ?_;rintro e w2 ⟨rfl,Cd⟩)
        | (go_at_call 264;refine (Nh cX rfl hP (ZG.trans (Cd.mono ZG.size)) (Ni (Xp.below Cd))).mono ?_;rintro e w3 ⟨v3,rfl,ZH,M5⟩))
       go_roundg (m.length-(q+1))
       case measure=>omega
       case rel=>exact ⟨UU,b',q+1,by omega,rfl,rfl,by go_num,P2.trans ((Cd.mono P2.size).trans (M5.mono (Nat.le_trans P2.size Cd.size))),ZH,A7.out⟩
      |false=>
       have yQ:(((some false).bind fun b'=>(X l' c).bind fun UU=>w_ H X (m.drop (q+1)) UU b').bind _)=some r:=yQ
       cases eX:X l' c with
       |none=>rw[eX] at yQ;cases yQ
       |some UU=>
       rw[eX] at yQ
       have A7:Aside _:=yQ
       have cX:=A1.out.2.2 l' c UU eX
       clear yQ eX huj huk Hl Xo hu
       obtain ⟨b',tq⟩: ∃b':Bool,b' =false:=⟨_,rfl⟩
       go_wp2_with (go_at_call 264;refine (Nh cX rfl hP ZG (Ni Xp)).mono ?_;rintro e w3 ⟨v3,rfl,ZH,M5⟩)
       go_roundg (m.length-(q+1))
       case measure=>omega
       case rel=>exact ⟨UU,false,q+1,by omega,rfl,rfl,by go_num,P2.trans (M5.mono P2.size),ZH,A7.out⟩
     ·have hqe:q=m.length:=by omega
      subst hqe
      have yQ:=A6.out
      rw[List.drop_length] at yQ
      clear A6 huj
      have hfi:=hci.fn
      cases b with
      |false=>
       have A7:Aside (kR V H X (ms.drop (k+1)) l o' =some r):=yQ
       clear yQ
       go_wp2_with fail
       go_roundg (ms.length-(k+1))
       case measure=>omega
       case rel=>exact ⟨o',k+1,by omega,by omega,rfl,rfl,by go_num,UT.trans (P2.mono UT.size),A7.out⟩
      |true=>
       have yQ:((V l').bind fun o2=>(kR V H X (ms.drop (k+1)) l' o2).bind fun r2=>kR V H X (ms.drop (k+1)) l (if r2<o' then r2 else o'))=some r:=yQ
       cases eV:V l' with
       |none=>rw[eV] at yQ;cases yQ
       |some o2=>
       rw[eV] at yQ
       have yQ:((kR V H X (ms.drop (k+1)) l' o2).bind fun r2=>kR V H X (ms.drop (k+1)) l (if r2<o' then r2 else o'))=some r:=yQ
       cases eL:kR V H X (ms.drop (k+1)) l' o2 with
       |none=>rw[eL] at yQ;cases yQ
       |some r2=>
       rw[eL] at yQ
       have A7:Aside (kR V H X (ms.drop (k+1)) l (if r2<o' then r2 else o')=some r):=yQ
       have Xq:=A0.out.1 (ms.length-(k+1)) (k+1) l' _ _ o2 r2 (by have:=A0.out.2.2;omega) rfl (by omega) hci Xp eV eL
       rw[show (((k+1:Nat)):Int)=(k:Int)+1 by omega] at Xq
       clear yQ eL eV
       by_cases R6:r2<o'
       ·have A8:Aside (kR V H X (ms.drop (k+1)) l r2=some r):=by have:=A7.out;rw[if_pos R6] at this;exact this
        clear A7
        go_wp2_with (go_at_call 262;refine Xq.mono ?_;rintro e w3 ⟨rfl,M5⟩)
        go_roundg (ms.length-(k+1))
        case measure=>omega
        case rel=>exact ⟨_,k+1,by omega,by omega,rfl,rfl,by go_num,UT.trans ((P2.trans (M5.mono P2.size)).mono UT.size),A8.out⟩
       ·have A8:Aside (kR V H X (ms.drop (k+1)) l o' =some r):=by have:=A7.out;rw[if_neg R6] at this;exact this
        clear A7
        go_wp2_with (go_at_call 262;refine Xq.mono ?_;rintro e w3 ⟨rfl,M5⟩)
        go_roundg (ms.length-(k+1))
        case measure=>omega
        case rel=>exact ⟨_,k+1,by omega,by omega,rfl,rfl,by go_num,UT.trans ((P2.trans (M5.mono P2.size)).mono UT.size),A8.out⟩
  ·have hke:k=ms.length:=by omega
   subst hke
   have hr:o' =r:=by
    have:=A2.out
    rw[List.drop_length] at this
    exact Option.some.inj this
   subst hr
   obtain ⟨ma,mc,rfl,_,_⟩:=ZD
   have Xo:wr.cell? ⟨A,0,none⟩=some (.slice ma ms.length mc):=Xo
   go_wp2_with fail
   go_ret
   exact ⟨rfl,wD.trans (UT.mono wD.size)⟩
set_option maxHeartbeats 8000000 in
set_option maxRecDepth 100000 in
theorem R7 {IH:LI->Option Bool} {M:LI->Option LL} {Cp:LI->Option LI}
 (hI: ∀l r,IH l=some r->eP Tryz.prog 142 ⟨[22],[4],[.qp],.own⟩ [.l (.sl .bi (.ints .i64 l))] [.l (.b r)])
 (hM: ∀l r,M l=some r->eP Tryz.prog 184 ⟨[22],[25],[.qp],.own⟩ [.l (.sl .bi (.ints .i64 l))] [.l (.sl .own (.rows true r))])
 (hC: ∀l r,Cp l=some r->eP Tryz.prog 126 ⟨[22],[22],[.qp],.own⟩ [.l (.sl .bi (.ints .i64 l))] [.l (.sl .own (.ints .i64 r))])
 (hV: ∀l r,V l=some r->eP Tryz.prog 239 ⟨[22],[3],[.qp],.own⟩ [.l (.sl .bi (.ints .i64 l))] [.l (.i .i64 r)])
 (hH: ∀l c r,H l c=some r->eP Tryz.prog 263 ⟨[22,3],[4],[.qp,.qp],.own⟩ [.l (.sl .bi (.ints .i64 l)),.l (.i .i64 c)] [.l (.b r)])
 (hX: ∀l c r,X l c=some r->eP Tryz.prog 264 ⟨[22,3],[22],[.qp,.qp],.own⟩ [.l (.sl .bi (.ints .i64 l)),.l (.i .i64 c)] [.l (.sl .own (.ints .i64 r))])
 {l:LI} {r:Int} (h:R1 IH M Cp V H X l=some r):eP Tryz.prog 185 ⟨[22],[3],[.qp],.own⟩ [.l (.sl .bi (.ints .i64 l))] [.l (.i .i64 r)]:=by
 intro C args hP jX g1 g2
 match args,jX with
 | [u],⟨F1,F2,⟨hu,_⟩,_,_⟩=>
   have hv:rE C.w0 u l:=by
    obtain ⟨A1,cap,e,h1,h2⟩:=hu
    refine ⟨A1,cap,e,h1,fun nL=> ?_⟩
    obtain ⟨ad,e1,hz,vs,h3,h4⟩:=h2 nL
    exact ⟨ad,e1,(C.good _ (.inl hz)).1,vs,h3,h4.mono (fun b hb=>⟨(C.good b (.inl hb)).1,rfl⟩) (fun b hb=>rfl)⟩
   have hmf: ∀(fn:Fn) (first cap:Array Value) (w:World),(Instr.makeFunc fn first cap).run Tryz.prog w= .ok (.func fn first cap) w:=fun _ _ _ _=>rfl
   have K4:Below C.w0.heap.size C.w0 C.w0:=Below.refl _ _
   obtain ⟨ua,uc,rfl,GO⟩:=hv.form
   show Calls Tryz.prog 185 #[.slice ua l.length uc] C.w0 _
   unfold R1 at h
   cases eI:IH l with
   |none=>rw[eI] at h;cases h
   |some b=>
   rw[eI] at h
   have cI:=hI l b eI
   have h:(bif !b||decide (12<(l.length:Int)) then some (-1) else (M l).bind _)=some r:=h
   cases b with
   |false=>
    have h:some (-1:Int)=some r:=h
    cases h
    clear hI hM hC hV hH hX eI
    go_enter Tryz.func185,Tryz.ntmps185
    go_wp2_with (go_at_call 142;refine (Jl cI rfl hP K4 (C7 hv)).mono ?_;rintro e w1 ⟨rfl,wD⟩)
    go_ret
    exact Nj rfl rfl wD
   |true=>
    by_cases M6:(12:Int)<(l.length:Int)
    ·have h:(bif false||decide (12<(l.length:Int)) then some (-1) else (M l).bind _)=some r:=h
     rw[decide_eq_true M6] at h
     have h:some (-1:Int)=some r:=h
     cases h
     clear hI hM hC hV hH hX eI
     go_enter Tryz.func185,Tryz.ntmps185
     go_wp2_with (go_at_call 142;refine (Jl cI rfl hP K4 (C7 hv)).mono ?_;rintro e w1 ⟨rfl,wD⟩)
     go_ret
     exact Nj rfl rfl wD
    ·have h:(bif false||decide (12<(l.length:Int)) then some (-1) else (M l).bind _)=some r:=h
     rw[decide_eq_false M6] at h
     have h:((M l).bind fun ms=>bif decide (ms.length<1000000)&&ms.all (fun m=>decide (m.length<1000000)) then (Cp l).bind fun l'=>(V l').bind fun o=>kR V H X ms l' o else none)=some r:=h
     cases eM:M l with
     |none=>rw[eM] at h;cases h
     |some ms=>
     rw[eM] at h
     have h:(bif decide (ms.length<1000000)&&ms.all (fun m=>decide (m.length<1000000)) then (Cp l).bind fun l'=>(V l').bind fun o=>kR V H X ms l' o else none)=some r:=h
     have oX:(decide (ms.length<1000000)&&ms.all (fun m=>decide (m.length<1000000)))=true:=by
      cases e:(decide (ms.length<1000000)&&ms.all (fun m=>decide (m.length<1000000))) with
      |true=>rfl
      |false=>rw[e] at h;cases h
     rw[oX,cond_true] at h
     cases eC:Cp l with
     |none=>rw[eC] at h;cases h
     |some l'=>
     rw[eC] at h
     have h:((V l').bind fun o=>kR V H X ms l' o)=some r:=h
     cases eV:V l' with
     |none=>rw[eV] at h;cases h
     |some o=>
     rw[eV] at h
     have h:kR V H X ms l' o=some r:=h
     obtain ⟨hn,w9⟩:=Bool.and_eq_true_iff.1 oX
     have hn:=of_decide_eq_true hn
     have w9: ∀m∈ms,m.length<1000000:=fun m hm=>of_decide_eq_true (List.all_eq_true.1 w9 m hm)
     have cM:=hM l ms eM
     have cC:=hC l l' eC
     have cB: ∀(A B:Nat) (v:Value) (w:World),Xn C ms A B w->rE w v l'->Calls Tryz.prog 262 #[v,.int .i64 0,.pointer (some ⟨A,0,none⟩),.pointer (some ⟨B,0,none⟩)] w fun e w'=>e= .returned (.int .i64 r)/\Below w.heap.size w w':=fun A B v w hc hi=>
      R5 hP hn w9 hV hH hX ms.length 0 l' v w o r rfl (Nat.zero_le _) hc hi eV h
     clear hI hM hC hV hH hX eI eM eC eV h oX hn w9
     go_enter Tryz.func185,Tryz.ntmps185
     go_wp2_with (first
      | (go_at_call 142;refine (Jl cI rfl hP K4 (C7 hv)).mono ?_;rintro e w1 ⟨rfl,wD⟩)
      | (go_at_call 184;refine (UR cM rfl hP wD (C7 (hv.below wD))).mono ?_;rintro e w2 ⟨mv,rfl,Uw,Cd⟩;obtain ⟨ma,mc,rfl⟩:=Uw.form))
     have hd:D C ms w2.heap.size (w2.heap.size+1) (.slice ua l.length uc) l ((w2.alloc (Obj.cells #[Value.slice ma ms.length mc] 25)).alloc (Obj.cells #[Value.func (Fn.func 262) #[] #[Value.pointer (some {block:=w2.heap.size,off:=0}),Value.pointer (some {block:=w2.heap.size+1,off:=0})]] 65)):=by
      have Ry:=wD.trans (Cd.mono wD.size)
      have mG:Below w2.heap.size w2 (w2.alloc (Obj.cells #[Value.slice ma ms.length mc] 25)):=(Below.refl _ _).alloc (Nat.le_refl _) _
      have oX:(w2.alloc (Obj.cells #[Value.slice ma ms.length mc] 25)).heap.size=w2.heap.size+1:=by show (w2.heap.push _).size=_;simp
      have wE:=mG.alloc (by omega) (Obj.cells #[Value.func (Fn.func 262) #[] #[Value.pointer (some {block:=w2.heap.size,off:=0}),Value.pointer (some {block:=w2.heap.size+1,off:=0})]] 65)
      have h1:=heap_alloc_new w2 (Obj.cells #[Value.slice ma ms.length mc] 25)
      have h2:=heap_alloc_new (w2.alloc (Obj.cells #[Value.slice ma ms.length mc] 25)) (Obj.cells #[Value.func (Fn.func 262) #[] #[Value.pointer (some {block:=w2.heap.size,off:=0}),Value.pointer (some {block:=w2.heap.size+1,off:=0})]] 65)
      rw[oX] at h2
      refine ⟨⟨Ry.trans (wE.mono Ry.size),⟨.slice ma ms.length mc,?_,Uw.below wE⟩,?_⟩,((hv.below wD).below Cd).below wE⟩
      ·rw[cY ((Below.heap_alloc _ _ _ (by omega)).trans h1)];rfl
      ·rw[cY h2];rfl
     clear Uw Cd hv hu wD K4
     generalize ((w2.alloc (Obj.cells #[Value.slice ma ms.length mc] 25)).alloc (Obj.cells #[Value.func (Fn.func 262) #[] #[Value.pointer (some {block:=w2.heap.size,off:=0}),Value.pointer (some {block:=w2.heap.size+1,off:=0})]] 65))=w5 at hd
     have f5:=hd.cap.fn
     have f6:=hd.drew.cap.fn
     have Xr:=hd.drew
     go_region_with (first
      | (go_at_call 126;(refine (Nh cC rfl hP Xr.cap.wC (C7 Xr.left)).mono ?_;rintro e w3 ⟨v3,rfl,ZH,M5⟩;have f7:=(Xr.cap.below M5).fn))
      | (go_at_call 262;(refine (cB _ _ _ _ (Xr.cap.below M5) ZH).mono ?_;rintro e w4 ⟨rfl,hb4⟩)))
     all_goals go_wp2
     all_goals go_ret
     all_goals exact Nj rfl rfl (Xr.cap.wC.trans ((M5.trans (hb4.mono M5.size)).mono Xr.cap.wC.size))
end
