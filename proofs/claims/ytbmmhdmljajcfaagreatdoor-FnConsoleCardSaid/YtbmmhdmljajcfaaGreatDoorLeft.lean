/- What is left over: the closure and its caller, walked by hand. Conditions: as each theorem says. -/
import Derived.Test.YtbmmhdmljajcfaaGreatDoorNoteF
import Derived.Test.YtbmmhdmljajcfaaGreatDoorHand
import Derived.Test.YtbmmhdmljajcfaaGreatDoorProg
import Derived.Deep.LoopGhost
import Derived.Laws.EntriesVeiled
import Derived.Deep.RegionWith
import Derived.Deep.QuietTactic
import Derived.BigQuiet
set_option linter.unusedVariables false
set_option linter.unusedSimpArgs false
namespace Go.Proofs.YtbmmhdmljajcfaaGreatDoor.yl
open Go Go.RowKit Go.Proofs.YtbmmhdmljajcfaaGreatDoor.V
theorem Ox (k k':IntKind) (x y:Int):Builtin.min2 (.int k x) (.int k' y)=pure (.int k (if y<x then y else x)):=by simp only[Builtin.min2]
theorem Q0 (ats:Array TypeId) (ty:TypeId) (a b:Value):Builtin.min_ ats ty #[a,b] =(Builtin.min2 a b>>=fun s=>pure s):=by simp only[Builtin.min_,List.foldlM_cons,List.foldlM_nil]
attribute [local go_sem] Ox Q0
structure Tx (C:Cx) (ms:List (List Int)) (A B:Nat) (w:World):Prop where
 sF:Below C.w0.heap.size C.w0 w
 mv: ∃v,w.cell? ⟨A,0,none⟩=some v/\sE w v ms
 fn:w.cell? ⟨B,0,none⟩=some (.func (.func 262) #[] #[.pointer (some ⟨A,0,none⟩),.pointer (some ⟨B,0,none⟩)])
theorem Tx.below {C:Cx} {ms:List (List Int)} {A B:Nat} {w w':World} (h:Tx C ms A B w) (hb:Below w.heap.size w w'):Tx C ms A B w':=by
 obtain ⟨v,hv,hr⟩:=h.mv
 exact ⟨h.sF.trans (hb.mono h.sF.size),⟨v,(hb.cell (World.block_lt_of_cell? _ _ hv)).trans hv,hr.below hb⟩,(hb.cell (World.block_lt_of_cell? _ _ h.fn)).trans h.fn⟩
theorem Jo {C:Cx} {g:ug} {args:List Value} {n:Int} {w':World} (hr:g.results.length=1) (uh:sP g.iH=true) (Jp:Below C.w0.heap.size C.w0 w'):V.Ends C g args [.l (.i .i64 n)] (.returned (.int .i64 n)) w':=by
 refine ⟨[.int .i64 n],fz,rfl,by simpa using hr.symm,.wP Jp,fun b=>by simp,fun b hb=>by simp at hb,?_⟩
 rw[ik _ _ uh,List.append_nil]
 exact ⟨fz,fz,⟨rfl,rfl⟩,rfl,(cp _).symm⟩
structure D (C:Cx) (ms:List (List Int)) (A B:Nat) (v:Value) (l:List Int) (w:World):Prop where
 cap:Tx C ms A B w
 left:ot w v l
theorem D.below {C:Cx} {ms:List (List Int)} {A B:Nat} {v:Value} {l:List Int} {w w':World} (h:D C ms A B v l w) (hb:Below w.heap.size w w'):D C ms A B v l w':=⟨h.cap.below hb,h.left.below hb⟩
theorem D.drew {C:Cx} {ms:List (List Int)} {A B:Nat} {v:Value} {l:List Int} {w:World} (h:D C ms A B v l w):D C ms A B v l w.drew:=h.below (Below.refl _ _).drew
section
variable {C:Cx} {ms:List (List Int)} {A B:Nat} {V:List Int->Option Int} {H:List Int->Int->Option Bool} {X:List Int->Int->Option (List Int)}
set_option maxHeartbeats 8000000 in
set_option maxRecDepth 100000 in
theorem Oy (hP:C.P0=Tryz.prog) (hn:ms.length<1000000) (sV: ∀m∈ms,m.length<1000000)
 (hV: ∀l r,V l=some r->dt Tryz.prog 239 ⟨[22],[3],[.mS],.own⟩ [.l (.sl .aS (.ints .i64 l))] [.l (.i .i64 r)])
 (hH: ∀l c r,H l c=some r->dt Tryz.prog 263 ⟨[22,3],[4],[.mS,.mS],.own⟩ [.l (.sl .aS (.ints .i64 l)),.l (.i .i64 c)] [.l (.b r)])
 (hX: ∀l c r,X l c=some r->dt Tryz.prog 264 ⟨[22,3],[22],[.mS,.mS],.own⟩ [.l (.sl .aS (.ints .i64 l)),.l (.i .i64 c)] [.l (.sl .own (.ints .i64 r))]):
 ∀(d k0:Nat) (l:List Int) (v:Value) (w:World) (o r:Int),ms.length-k0=d->k0<=ms.length->Tx C ms A B w->ot w v l->V l=some o->iF V H X (ms.drop k0) l o=some r->
  Calls Tryz.prog 262 #[v,.int .i64 (k0:Int),.pointer (some ⟨A,0,none⟩),.pointer (some ⟨B,0,none⟩)] w fun e w'=>e= .returned (.int .i64 r)/\Below w.heap.size w w':=by
 intro d
 induction d using Nat.strongRecOn with
 |_ d ih=>
 intro k0 l v w o r hd hk0 wQ hv ho hr
 have hVo:=hV l o ho
 have A0:Aside ((∀(d' k0:Nat) (l:List Int) (v:Value) (w:World) (o r:Int),d' <d->ms.length-k0=d'->k0<=ms.length->Tx C ms A B w->ot w v l->V l=some o->iF V H X (ms.drop k0) l o=some r->
  Calls Tryz.prog 262 #[v,.int .i64 (k0:Int),.pointer (some ⟨A,0,none⟩),.pointer (some ⟨B,0,none⟩)] w fun e w'=>e= .returned (.int .i64 r)/\Below w.heap.size w w')/\iF V H X (ms.drop k0) l o=some r/\ms.length-k0=d):=⟨fun d' k0 l v w o r gr=>ih d' gr k0 l v w o r,hr,hd⟩
 have A1:Aside ((∀l r,V l=some r->dt Tryz.prog 239 ⟨[22],[3],[.mS],.own⟩ [.l (.sl .aS (.ints .i64 l))] [.l (.i .i64 r)])/\(∀l c r,H l c=some r->dt Tryz.prog 263 ⟨[22,3],[4],[.mS,.mS],.own⟩ [.l (.sl .aS (.ints .i64 l)),.l (.i .i64 c)] [.l (.b r)])/\(∀l c r,X l c=some r->dt Tryz.prog 264 ⟨[22,3],[22],[.mS,.mS],.own⟩ [.l (.sl .aS (.ints .i64 l)),.l (.i .i64 c)] [.l (.sl .own (.ints .i64 r))])):=⟨hV,hH,hX⟩
 clear ih hr hd ho hV hH hX
 go_enter Tryz.func262,Tryz.ntmps262
 go_wp2_with (go_at_call 239;refine (Tw hVo rfl hP wQ.sF (zx hv)).mono ?_;rintro e w1 ⟨rfl,sG⟩)
 have V8:=wQ.below sG
 have ER:=hv.below sG
 go_loopg [7,8] (ms.length-k0) (fun g out i wr=> ∃(o':Int) (k:Nat),k<=ms.length/\k0<=k/\g=ms.length-k/\out= .int .i64 o' /\i= .int .i64 (k:Int)/\Below w1.heap.size w1 wr/\Aside (iF V H X (ms.drop k) l o' =some r))
 case atStart=>exact ⟨o,k0,hk0,Nat.le_refl _,rfl,rfl,rfl,Below.refl _ _,A0.out.2.1⟩
 case round=>
  obtain ⟨o',k,hk,hkk,rfl,rfl,rfl,Q1,A2⟩:=hrel
  have V9:=V8.below Q1
  have ES:=ER.below Q1
  obtain ⟨mv,Tz,Z4⟩:=V9.mv
  have CV:=V9.fn
  by_cases gr:k<ms.length
  ·obtain ⟨mb,mo,mc,rfl,hmc,Z5⟩:=Z4.out (fun e=>by rw[e] at gr;exact absurd gr (Nat.not_lt_zero _))
   obtain ⟨u,hu,V6⟩:=Z5 k gr
   have V_:(k:Int)<(ms.length:Int):=by omega
   have abd:(0:Int)<=(k:Int):=by omega
   generalize hm:ms.getD k [] =m at V6
   have A3:Aside (ms.drop k=m::ms.drop (k+1)):=by
    show ms.drop k=m::ms.drop (k+1)
    rw[List.drop_eq_getElem_cons gr,<- hm];simp[gr]
   have Yu:m.length<1000000:=sV m (by rw[<- hm];rw[show ms.getD k [] =ms[k] by simp[gr]];exact List.getElem_mem gr)
   clear Z5 hm
   have Wa:=A2.out
   rw[A3.out] at Wa
   have Wa:((sW H X m l true).bind _)=some r:=Wa
   have A4:Aside _:=Wa
   clear Wa A2
   obtain ⟨ua,uc,rfl,XO⟩: ∃ua uc,u= .slice ua m.length uc/\(0<m.length-> ∃b off,ua=some ⟨b,off,none⟩/\ ∀j,j<m.length->wr.cell? ⟨b,off+j,none⟩=some (.int .i64 (m.getD j 0))):=by
    obtain ⟨A1,c1,e,_⟩:=V6.form
    refine ⟨A1,c1,e,fun hp=> ?_⟩
    obtain ⟨ub,uo,uc,e2,_,hj⟩:=V6.out (List.length_pos_iff.1 hp)
    rw[e] at e2
    cases e2
    exact ⟨ub,uo,rfl,hj⟩
   ·go_wp2_with fail
    go_loopg [9,10,28] m.length (fun g rv wh j wi=> ∃(l':List Int) (b:Bool) (q:Nat),q<=m.length/\g=m.length-q/\wh= .bool b/\j= .int .i64 (q:Int)/\Below wr.heap.size wr wi/\ot wi rv l' /\Aside ((sW H X (m.drop q) l' b).bind (fun p=>bif p.2 then (V p.1).bind fun o2=>(iF V H X (ms.drop (k+1)) p.1 o2).bind fun r=>iF V H X (ms.drop (k+1)) l (if r<o' then r else o') else iF V H X (ms.drop (k+1)) l o')=some r))
    case atStart=>exact ⟨l,true,0,Nat.zero_le _,rfl,rfl,rfl,Below.refl _ _,ES,by show ((sW H X (m.drop 0) l true).bind _)=some r;rw[List.drop_zero];exact A4.out⟩
    case round=>
     obtain ⟨l',b,q,hq,rfl,rfl,rfl,MB,TA,A6⟩:=hrel
     have XP:=V9.sF.trans (MB.mono V9.sF.size)
     have XQ:=V9.below MB
     by_cases XR:q<m.length
     ·have hqI:(q:Int)<(m.length:Int):=by omega
      have hq0:(0:Int)<=(q:Int):=by omega
      obtain ⟨ub,uo,rfl,XS⟩:=XO (by omega)
      have huq:=(MB.cell (World.block_lt_of_cell? _ _ (XS q XR))).trans (XS q XR)
      generalize hc:m.getD q 0=c at huq
      have e1:m.drop q=c::m.drop (q+1):=by rw[List.drop_eq_getElem_cons XR,<- hc];simp[XR]
      have u3:=A6.out
      rw[e1] at u3
      clear A6 e1 hc
      cases b with
      |true=>
       have u3:(((H l' c).bind fun b'=>(X l' c).bind fun Q2=>sW H X (m.drop (q+1)) Q2 b').bind _)=some r:=u3
       cases eH:H l' c with
       |none=>rw[eH] at u3;cases u3
       |some b'=>
       cases eX:X l' c with
       |none=>rw[eH,eX] at u3;cases u3
       |some Q2=>
       rw[eH,eX] at u3
       have A7:Aside _:=u3
       have cH:=A1.out.2.1 l' c b' eH
       have cX:=A1.out.2.2 l' c Q2 eX
       clear u3 eH eX XO XS CV Tz hu
       go_wp2_with (first
        | (go_at_call 263;refine (EP cH rfl hP XP (Jn TA)).mono ?_;rintro e w2 ⟨rfl,AK⟩)
        | (go_at_call 264;refine (Jm cX rfl hP (XP.trans (AK.mono XP.size)) (Jn (TA.below AK))).mono ?_;rintro e w3 ⟨v3,rfl,Wb,Jh⟩))
       go_roundg (m.length-(q+1))
       case measure=>omega
       case rel=>exact ⟨Q2,b',q+1,by omega,rfl,rfl,by go_num,MB.trans ((AK.mono MB.size).trans (Jh.mono (Nat.le_trans MB.size AK.size))),Wb,A7.out⟩
      |false=>
       have u3:(((some false).bind fun b'=>(X l' c).bind fun Q2=>sW H X (m.drop (q+1)) Q2 b').bind _)=some r:=u3
       cases eX:X l' c with
       |none=>rw[eX] at u3;cases u3
       |some Q2=>
       rw[eX] at u3
       have A7:Aside _:=u3
       have cX:=A1.out.2.2 l' c Q2 eX
       clear u3 eX XO XS CV Tz hu
       obtain ⟨b',pJ⟩: ∃b':Bool,b' =false:=⟨_,rfl⟩
       go_wp2_with (go_at_call 264;refine (Jm cX rfl hP XP (Jn TA)).mono ?_;rintro e w3 ⟨v3,rfl,Wb,Jh⟩)
       go_roundg (m.length-(q+1))
       case measure=>omega
       case rel=>exact ⟨Q2,false,q+1,by omega,rfl,rfl,by go_num,MB.trans (Jh.mono MB.size),Wb,A7.out⟩
     ·have hqe:q=m.length:=by omega
      subst hqe
      have u3:=A6.out
      rw[List.drop_length] at u3
      clear A6 XO
      have XT:=XQ.fn
      cases b with
      |false=>
       have A7:Aside (iF V H X (ms.drop (k+1)) l o' =some r):=u3
       clear u3
       go_wp2_with fail
       go_roundg (ms.length-(k+1))
       case measure=>omega
       case rel=>exact ⟨o',k+1,by omega,by omega,rfl,rfl,by go_num,Q1.trans (MB.mono Q1.size),A7.out⟩
      |true=>
       have u3:((V l').bind fun o2=>(iF V H X (ms.drop (k+1)) l' o2).bind fun r2=>iF V H X (ms.drop (k+1)) l (if r2<o' then r2 else o'))=some r:=u3
       cases eV:V l' with
       |none=>rw[eV] at u3;cases u3
       |some o2=>
       rw[eV] at u3
       have u3:((iF V H X (ms.drop (k+1)) l' o2).bind fun r2=>iF V H X (ms.drop (k+1)) l (if r2<o' then r2 else o'))=some r:=u3
       cases eL:iF V H X (ms.drop (k+1)) l' o2 with
       |none=>rw[eL] at u3;cases u3
       |some r2=>
       rw[eL] at u3
       have A7:Aside (iF V H X (ms.drop (k+1)) l (if r2<o' then r2 else o')=some r):=u3
       have TB:=A0.out.1 (ms.length-(k+1)) (k+1) l' _ _ o2 r2 (by have:=A0.out.2.2;omega) rfl (by omega) XQ TA eV eL
       rw[show (((k+1:Nat)):Int)=(k:Int)+1 by omega] at TB
       clear u3 eL eV
       by_cases Oz:r2<o'
       ·have A8:Aside (iF V H X (ms.drop (k+1)) l r2=some r):=by have:=A7.out;rw[if_pos Oz] at this;exact this
        clear A7
        go_wp2_with (go_at_call 262;refine TB.mono ?_;rintro e w3 ⟨rfl,Jh⟩)
        go_roundg (ms.length-(k+1))
        case measure=>omega
        case rel=>exact ⟨_,k+1,by omega,by omega,rfl,rfl,by go_num,Q1.trans ((MB.trans (Jh.mono MB.size)).mono Q1.size),A8.out⟩
       ·have A8:Aside (iF V H X (ms.drop (k+1)) l o' =some r):=by have:=A7.out;rw[if_neg Oz] at this;exact this
        clear A7
        go_wp2_with (go_at_call 262;refine TB.mono ?_;rintro e w3 ⟨rfl,Jh⟩)
        go_roundg (ms.length-(k+1))
        case measure=>omega
        case rel=>exact ⟨_,k+1,by omega,by omega,rfl,rfl,by go_num,Q1.trans ((MB.trans (Jh.mono MB.size)).mono Q1.size),A8.out⟩
  ·have hke:k=ms.length:=by omega
   subst hke
   have hr:o' =r:=by
    have:=A2.out
    rw[List.drop_length] at this
    exact Option.some.inj this
   subst hr
   obtain ⟨ma,mc,rfl,_,_⟩:=Z4
   have Tz:wr.cell? ⟨A,0,none⟩=some (.slice ma ms.length mc):=Tz
   go_wp2_with fail
   go_ret
   exact ⟨rfl,sG.trans (Q1.mono sG.size)⟩
set_option maxHeartbeats 8000000 in
set_option maxRecDepth 100000 in
theorem OA {IH:List Int->Option Bool} {M:List Int->Option (List (List Int))} {Cp:List Int->Option (List Int)}
 (hI: ∀l r,IH l=some r->dt Tryz.prog 142 ⟨[22],[4],[.mS],.own⟩ [.l (.sl .aS (.ints .i64 l))] [.l (.b r)])
 (hM: ∀l r,M l=some r->dt Tryz.prog 184 ⟨[22],[25],[.mS],.own⟩ [.l (.sl .aS (.ints .i64 l))] [.l (.sl .own (.rows true r))])
 (hC: ∀l r,Cp l=some r->dt Tryz.prog 126 ⟨[22],[22],[.mS],.own⟩ [.l (.sl .aS (.ints .i64 l))] [.l (.sl .own (.ints .i64 r))])
 (hV: ∀l r,V l=some r->dt Tryz.prog 239 ⟨[22],[3],[.mS],.own⟩ [.l (.sl .aS (.ints .i64 l))] [.l (.i .i64 r)])
 (hH: ∀l c r,H l c=some r->dt Tryz.prog 263 ⟨[22,3],[4],[.mS,.mS],.own⟩ [.l (.sl .aS (.ints .i64 l)),.l (.i .i64 c)] [.l (.b r)])
 (hX: ∀l c r,X l c=some r->dt Tryz.prog 264 ⟨[22,3],[22],[.mS,.mS],.own⟩ [.l (.sl .aS (.ints .i64 l)),.l (.i .i64 c)] [.l (.sl .own (.ints .i64 r))])
 {l:List Int} {r:Int} (h:Ou IH M Cp V H X l=some r):dt Tryz.prog 185 ⟨[22],[3],[.mS],.own⟩ [.l (.sl .aS (.ints .i64 l))] [.l (.i .i64 r)]:=by
 intro C args hP gU g1 g2
 match args,gU with
 | [u],⟨F1,F2,⟨hu,_⟩,_,_⟩=>
   have hv:ot C.w0 u l:=by
    obtain ⟨A1,cap,e,h1,h2⟩:=hu
    refine ⟨A1,cap,e,h1,fun lG=> ?_⟩
    obtain ⟨ad,e1,hz,vs,h3,h4⟩:=h2 lG
    exact ⟨ad,e1,(C.good _ (.inl hz)).1,vs,h3,h4.mono (fun b hb=>⟨(C.good b (.inl hb)).1,rfl⟩) (fun b hb=>rfl)⟩
   have hmf: ∀(fn:Fn) (first cap:Array Value) (w:World),(Instr.makeFunc fn first cap).run Tryz.prog w= .ok (.func fn first cap) w:=fun _ _ _ _=>rfl
   have Jp:Below C.w0.heap.size C.w0 C.w0:=Below.refl _ _
   obtain ⟨ua,uc,rfl,CT⟩:=hv.form
   show Calls Tryz.prog 185 #[.slice ua l.length uc] C.w0 _
   unfold Ou at h
   cases eI:IH l with
   |none=>rw[eI] at h;cases h
   |some b=>
   rw[eI] at h
   have cI:=hI l b eI
   have h:(bif !b||decide (12<(l.length:Int)) then some (-1) else (M l).bind _)=some r:=h
   cases b with
   |false=>
    have h:some (-1:Int)=some r:=h
    cases h
    clear hI hM hC hV hH hX eI
    go_enter Tryz.func185,Tryz.ntmps185
    go_wp2_with (go_at_call 142;refine (EP cI rfl hP Jp (zx hv)).mono ?_;rintro e w1 ⟨rfl,sG⟩)
    go_ret
    exact Jo rfl rfl sG
   |true=>
    by_cases Ji:(12:Int)<(l.length:Int)
    ·have h:(bif false||decide (12<(l.length:Int)) then some (-1) else (M l).bind _)=some r:=h
     rw[decide_eq_true Ji] at h
     have h:some (-1:Int)=some r:=h
     cases h
     clear hI hM hC hV hH hX eI
     go_enter Tryz.func185,Tryz.ntmps185
     go_wp2_with (go_at_call 142;refine (EP cI rfl hP Jp (zx hv)).mono ?_;rintro e w1 ⟨rfl,sG⟩)
     go_ret
     exact Jo rfl rfl sG
    ·have h:(bif false||decide (12<(l.length:Int)) then some (-1) else (M l).bind _)=some r:=h
     rw[decide_eq_false Ji] at h
     have h:((M l).bind fun ms=>bif decide (ms.length<1000000)&&ms.all (fun m=>decide (m.length<1000000)) then (Cp l).bind fun l'=>(V l').bind fun o=>iF V H X ms l' o else none)=some r:=h
     cases eM:M l with
     |none=>rw[eM] at h;cases h
     |some ms=>
     rw[eM] at h
     have h:(bif decide (ms.length<1000000)&&ms.all (fun m=>decide (m.length<1000000)) then (Cp l).bind fun l'=>(V l').bind fun o=>iF V H X ms l' o else none)=some r:=h
     have mL:(decide (ms.length<1000000)&&ms.all (fun m=>decide (m.length<1000000)))=true:=by
      cases e:(decide (ms.length<1000000)&&ms.all (fun m=>decide (m.length<1000000))) with
      |true=>rfl
      |false=>rw[e] at h;cases h
     rw[mL,cond_true] at h
     cases eC:Cp l with
     |none=>rw[eC] at h;cases h
     |some l'=>
     rw[eC] at h
     have h:((V l').bind fun o=>iF V H X ms l' o)=some r:=h
     cases eV:V l' with
     |none=>rw[eV] at h;cases h
     |some o=>
     rw[eV] at h
     have h:iF V H X ms l' o=some r:=h
     obtain ⟨hn,sV⟩:=Bool.and_eq_true_iff.1 mL
     have hn:=of_decide_eq_true hn
     have sV: ∀m∈ms,m.length<1000000:=fun m hm=>of_decide_eq_true (List.all_eq_true.1 sV m hm)
     have cM:=hM l ms eM
     have cC:=hC l l' eC
     have cB: ∀(A B:Nat) (v:Value) (w:World),Tx C ms A B w->ot w v l'->Calls Tryz.prog 262 #[v,.int .i64 0,.pointer (some ⟨A,0,none⟩),.pointer (some ⟨B,0,none⟩)] w fun e w'=>e= .returned (.int .i64 r)/\Below w.heap.size w w':=fun A B v w hc hi=>
      Oy hP hn sV hV hH hX ms.length 0 l' v w o r rfl (Nat.zero_le _) hc hi eV h
     clear hI hM hC hV hH hX eI eM eC eV h mL hn sV
     go_enter Tryz.func185,Tryz.ntmps185
     go_wp2_with (first
      | (go_at_call 142;refine (EP cI rfl hP Jp (zx hv)).mono ?_;rintro e w1 ⟨rfl,sG⟩)
      | (go_at_call 184;refine (QZ cM rfl hP sG (zx (hv.below sG))).mono ?_;rintro e w2 ⟨mv,rfl,Vh,AK⟩;obtain ⟨ma,mc,rfl⟩:=Vh.form))
     have hd:D C ms w2.heap.size (w2.heap.size+1) (.slice ua l.length uc) l ((w2.alloc (Obj.cells #[Value.slice ma ms.length mc] 25)).alloc (Obj.cells #[Value.func (Fn.func 262) #[] #[Value.pointer (some {block:=w2.heap.size,off:=0}),Value.pointer (some {block:=w2.heap.size+1,off:=0})]] 65)):=by
      have N4:=sG.trans (AK.mono sG.size)
      have jX:Below w2.heap.size w2 (w2.alloc (Obj.cells #[Value.slice ma ms.length mc] 25)):=(Below.refl _ _).alloc (Nat.le_refl _) _
      have mL:(w2.alloc (Obj.cells #[Value.slice ma ms.length mc] 25)).heap.size=w2.heap.size+1:=by show (w2.heap.push _).size=_;simp
      have sH:=jX.alloc (by omega) (Obj.cells #[Value.func (Fn.func 262) #[] #[Value.pointer (some {block:=w2.heap.size,off:=0}),Value.pointer (some {block:=w2.heap.size+1,off:=0})]] 65)
      have h1:=heap_alloc_new w2 (Obj.cells #[Value.slice ma ms.length mc] 25)
      have h2:=heap_alloc_new (w2.alloc (Obj.cells #[Value.slice ma ms.length mc] 25)) (Obj.cells #[Value.func (Fn.func 262) #[] #[Value.pointer (some {block:=w2.heap.size,off:=0}),Value.pointer (some {block:=w2.heap.size+1,off:=0})]] 65)
      rw[mL] at h2
      refine ⟨⟨N4.trans (sH.mono N4.size),⟨.slice ma ms.length mc,?_,Vh.below sH⟩,?_⟩,((hv.below sG).below AK).below sH⟩
      ·rw[bO ((Below.heap_alloc _ _ _ (by omega)).trans h1)];rfl
      ·rw[bO h2];rfl
     clear Vh AK hv hu sG Jp
     generalize ((w2.alloc (Obj.cells #[Value.slice ma ms.length mc] 25)).alloc (Obj.cells #[Value.func (Fn.func 262) #[] #[Value.pointer (some {block:=w2.heap.size,off:=0}),Value.pointer (some {block:=w2.heap.size+1,off:=0})]] 65))=w5 at hd
     have f5:=hd.cap.fn
     have f6:=hd.drew.cap.fn
     have TC:=hd.drew
     go_region_with (first
      | (go_at_call 126;(refine (Jm cC rfl hP TC.cap.sF (zx TC.left)).mono ?_;rintro e w3 ⟨v3,rfl,Wb,Jh⟩;have f7:=(TC.cap.below Jh).fn))
      | (go_at_call 262;(refine (cB _ _ _ _ (TC.cap.below Jh) Wb).mono ?_;rintro e w4 ⟨rfl,hb4⟩)))
     all_goals go_wp2
     all_goals go_ret
     all_goals exact Jo rfl rfl (TC.cap.sF.trans ((Jh.trans (hb4.mono Jh.size)).mono TC.cap.sF.size))
end
end Go.Proofs.YtbmmhdmljajcfaaGreatDoor.yl
