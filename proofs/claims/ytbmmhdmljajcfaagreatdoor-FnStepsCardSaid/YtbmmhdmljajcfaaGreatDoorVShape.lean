/- The abstract evaluator and its soundness: part VShape. Conditions: as each section says. -/
import Derived.Test.YtbmmhdmljajcfaaGreatDoorVCode
set_option linter.unusedVariables false
set_option linter.unusedSimpArgs false
namespace Go.Proofs.YtbmmhdmljajcfaaGreatDoor.V
open Go
section
variable {R:Type} {r:R}
theorem H9 {vs:List AV} {K:AV->List AV->Option R} (h:Of vs K=some r): ∃v xV,vs=v::xV/\K v xV=some r:=by
 cases vs with
 |nil=>cases h
 |cons v xV=>exact ⟨v,xV,rfl,h⟩
theorem JY {vs:List AV} {K:Option R} (h:Sj vs K=some r):vs=[]/\K=some r:=by
 cases vs with
 |nil=>exact ⟨rfl,h⟩
 |cons v xV=>cases h
theorem H_ {hs:List (Option aq)} {K:Option aq->List (Option aq)->Option R} (h:Og hs K=some r): ∃v xV,hs=v::xV/\K v xV=some r:=by
 cases hs with
 |nil=>cases h
 |cons v xV=>exact ⟨v,xV,rfl,h⟩
theorem JZ {hs:List (Option aq)} {K:Option R} (h:Sk hs K=some r):hs=[]/\K=some r:=by
 cases hs with
 |nil=>exact ⟨rfl,h⟩
 |cons v xV=>cases h
theorem NK {v:AV} {K:LV->Option R} (h:vL v K=some r): ∃x,v= .one (.l x)/\K x=some r:=by
 unfold vL at h;split at h
 ·exact ⟨_,rfl,h⟩
 ·cases h
theorem J0 {v:AV} {K:List LV->Option R} (h:Pf v K=some r): ∃x,v= .one (.agg x)/\K x=some r:=by
 unfold Pf at h;split at h
 ·exact ⟨_,rfl,h⟩
 ·cases h
theorem Ia {xs:List LV} {K:LV->List LV->Option R} (h:Oh xs K=some r): ∃v xV,xs=v::xV/\K v xV=some r:=by
 cases xs with
 |nil=>cases h
 |cons v xV=>exact ⟨v,xV,rfl,h⟩
theorem J1 {xs:List LV} {K:Option R} (h:Sl xs K=some r):xs=[]/\K=some r:=by
 cases xs with
 |nil=>exact ⟨rfl,h⟩
 |cons v xV=>cases h
theorem NL {k:IntKind} {x:LV} {K:Int->Option R} (h:lI k x K=some r): ∃n,x= .i k n/\K n=some r:=by
 unfold lI at h;split at h
 ·obtain ⟨h1,h2⟩:=ai h
  have e:=of_decide_eq_true h1
  subst e;exact ⟨_,rfl,h2⟩
 ·cases h
theorem NM {x:LV} {K:Bool->Option R} (h:lB x K=some r): ∃b,x= .b b/\K b=some r:=by
 unfold lB at h;split at h
 ·exact ⟨_,rfl,h⟩
 ·cases h
theorem NN {x:LV} {K:ByteArray->Option R} (h:lS x K=some r): ∃b,x= .s b/\K b=some r:=by
 unfold lS at h;split at h
 ·exact ⟨_,rfl,h⟩
 ·cases h
theorem NO {x:LV} {K:Bool->Option R} (h:lE x K=some r): ∃b,x= .er b/\K b=some r:=by
 unfold lE at h;split at h
 ·exact ⟨_,rfl,h⟩
 ·cases h
theorem J2 {id:Nat} {x:LV} {K:Option R} (h:Pg id x K=some r):x= .own id/\K=some r:=by
 unfold Pg at h;split at h
 ·obtain ⟨h1,h2⟩:=ai h
  have e:=eq_of_beq h1
  subst e;exact ⟨rfl,h2⟩
 ·cases h
theorem J3 {id:Nat} {x:LV} {K:Nat->Nat->Option R} (h:Ph id x K=some r): ∃lo hi,x= .sub id lo hi/\K lo hi=some r:=by
 unfold Ph at h;split at h
 ·obtain ⟨h1,h2⟩:=ai h
  have e:=eq_of_beq h1
  subst e;exact ⟨_,_,rfl,h2⟩
 ·cases h
theorem J4 {id k:Nat} {x:LV} {K:Option R} (h:Pj id k x K=some r):x= .eJ id k/\K=some r:=by
 unfold Pj at h;split at h
 ·obtain ⟨h1,h2⟩:=ai h
  obtain ⟨h1,h3⟩:=az h1
  have e:=eq_of_beq h1
  have e3:=eq_of_beq h3
  subst e;subst e3;exact ⟨rfl,h2⟩
 ·cases h
theorem J5 {id n:Nat} {x:LV} {K:Option R} (h:Pk id n x K=some r):x= .arr id n/\K=some r:=by
 unfold Pk at h;split at h
 ·obtain ⟨h1,h2⟩:=ai h
  obtain ⟨h1,h3⟩:=az h1
  have e:=eq_of_beq h1
  have e3:=eq_of_beq h3
  subst e;subst e3;exact ⟨rfl,h2⟩
 ·cases h
theorem J6 {x:LV} {K:Option R} (h:Pm x K=some r):x= .any/\K=some r:=by
 unfold Pm at h;split at h
 ·exact ⟨rfl,h⟩
 ·cases h
theorem Ib {x:LV} {K:Option R} (h:LJ x K=some r):x= .nil/\K=some r:=by
 unfold LJ at h;split at h
 ·exact ⟨rfl,h⟩
 ·cases h
theorem J7 {p:Bool} {x:LV} {K:Row->Option R} (h:Pn p x K=some r): ∃w,x= .val p w/\K w=some r:=by
 unfold Pn at h;split at h
 ·obtain ⟨h1,h2⟩:=ai h
  have e:=eq_of_beq h1
  subst e;exact ⟨_,rfl,h2⟩
 ·cases h
theorem Fq {k:IntKind} {w:Row} {K:List Int->Option R} (h:HL k w K=some r): ∃l,w= .ints k l/\K l=some r:=by
 unfold HL at h;split at h
 ·obtain ⟨h1,h2⟩:=ai h
  have e:=of_decide_eq_true h1
  subst e;exact ⟨_,rfl,h2⟩
 ·cases h
theorem DG {w:Row} {K:List Bool->Option R} (h:Dh w K=some r): ∃l,w= .cx l/\K l=some r:=by
 unfold Dh at h;split at h
 ·exact ⟨_,rfl,h⟩
 ·cases h
theorem Ft {w:Row} {K:List ByteArray->Option R} (h:HM w K=some r): ∃l,w= .strs l/\K l=some r:=by
 unfold HM at h;split at h
 ·exact ⟨_,rfl,h⟩
 ·cases h
theorem Fu {o:Bool} {w:Row} {K:List (List Int)->Option R} (h:HN o w K=some r): ∃l,w= .rows o l/\K l=some r:=by
 unfold HN at h;split at h
 ·obtain ⟨h1,h2⟩:=ai h
  have e:=eq_of_beq h1
  subst e;exact ⟨_,rfl,h2⟩
 ·cases h
theorem Fw {sg:List Bool} {o:Bool} {w:Row} {K:List (List jC)->Option R} (h:HO sg o w K=some r): ∃l,w= .cB sg o l/\K l=some r:=by
 unfold HO at h;split at h
 ·obtain ⟨h1,h2⟩:=ai h
  obtain ⟨h1,h3⟩:=az h1
  have e:=eq_of_beq h1
  have e3:=eq_of_beq h3
  subst e;subst e3;exact ⟨_,rfl,h2⟩
 ·cases h
theorem J8 {x:Option aq} {K:Row->Option R} (h:Po x K=some r): ∃w,x=some (.row 0 0 w)/\K w=some r:=by
 unfold Po at h;split at h
 ·exact ⟨_,rfl,h⟩
 ·cases h
theorem J9 {x:Option aq} {K:List LV->Option R} (h:Pp x K=some r): ∃cells,x=some (.box 0 cells)/\K cells=some r:=by
 unfold Pp at h;split at h
 ·exact ⟨_,rfl,h⟩
 ·cases h
end
theorem all_nil {α:Type} {Q:α->Prop}: ∀p∈([]:List α),Q p:=fun _ h=>by cases h
theorem all_cons {α:Type} {Q:α->Prop} {a:α} {l:List α} (h:Q a) (t: ∀p∈l,Q p): ∀p∈a::l,Q p:=fun p hp=>by
 rcases List.mem_cons.1 hp with rfl|hp
 ·exact h
 ·exact t p hp
theorem zS {α:Type}: ∀ {l:List (Nat×α)} {i:Nat} {x:α},look l i=some x->(i,x)∈l
 | (j,y)::l,i,x,h=>by
   simp only[look] at h
   cases e:j==i with
   |true=>rw[e] at h;simp at h;subst h;have:=eq_of_beq e;subst this;simp
   |false=>rw[e] at h;exact List.mem_cons_of_mem _ (zS h)
structure NP (R:Type) where
 sig:pL
 V0:List DV->(List DV->Option R)->Option R
def Ho {R:Type} (tt:TT) (l:List (Nat×NP R)) (nt:Nat):fe R:=
 ⟨tt,fun f ds K=>match look l f with|some e=>e.V0 ds K|none=>none,fun f=>match look l f with|some e=>some e.sig|none=>none,nt⟩
def xQ {R:Type} (P:Program) (p:Nat×NP R):Prop:= ∀(ds:List DV) (K:List DV->Option R) (r:R),p.2.V0 ds K=some r->Enters P p.1/\ ∃rs,fM P p.1 p.2.sig ds rs/\K rs=some r
theorem Ic {R:Type} {P:Program} {tt:TT} {l:List (Nat×NP R)} {nt:Nat} (T:kQ P tt) (h: ∀p∈l,xQ P p):IJ P (Ho tt l nt):=by
 refine ⟨T,fun f g ds K r hs hk=> ?_⟩
 simp only[Ho] at hs hk
 split at hk
 ·rename_i e he
  simp only[he] at hs
  cases hs
  exact h _ (zS he) ds K r hk
 ·cases hk
def g_:Code->List Code
 | .loop b=>b::g_ b
 | .seq a b=>g_ a++g_ b
 | .cond _ a b=>g_ a++g_ b
 | .block _ b=>g_ b
 |_=>[]
theorem Fx {R:Type} {G:fe R} {live:List (Nat×List Nat)} {Λ:pJ R}: ∀(c:Code),(∀b∈g_ c,∀K vs hs r,Λ (keyOf b) K vs hs=some r->nI G live Λ b K vs hs r)->kr G live Λ c:=by
 intro c
 induction c with
 |loop b ih=>intro h;exact ⟨h b (by simp[g_]),ih fun b' hb=>h b' (by simp[g_,hb])⟩
 |seq a b U5 U6=>intro h;exact ⟨U5 fun b' hb=>h b' (by simp[g_,hb]),U6 fun b' hb=>h b' (by simp[g_,hb])⟩
 |cond x a b U5 U6=>intro h;exact ⟨U5 fun b' hb=>h b' (by simp[g_,hb]),U6 fun b' hb=>h b' (by simp[g_,hb])⟩
 |block i b ih=>intro h;exact ih fun b' hb=>h b' (by simp[g_,hb])
 |_=>intro _;exact trivial
theorem tU {R:Type} {G:fe R} {live:List (Nat×List Nat)} {Λ:pJ R} {c:Code} {ls:List Code} (e:g_ c=ls) (h: ∀b∈ls,∀K vs hs r,Λ (keyOf b) K vs hs=some r->nI G live Λ b K vs hs r):kr G live Λ c:=
 Fx c (by rw[e];exact h)
theorem OX {P:Program} {l:List (Nat×TE)} (h: ∀p∈l,lg P (look l) p.1 p.2):kQ P (look l):=fun t e he=>h _ (zS he)
theorem ir {P:Program} {t s b:Nat} {zs:List Value} (h1:(P.info? t).map (fun i=>(i.size,i.bytes))=some (s,b)) (h2:((P.info? t).bind (fun i=>i.zero)).map (fun z=>z.cells.toList)=some zs): ∃i,P.info? t=some i/\i.size=s/\i.bytes=b/\ ∃z,i.zero=some z/\z.cells.toList=zs:=by
 cases hi:P.info? t with
 |none=>rw[hi] at h1;cases h1
 |some i=>
  rw[hi] at h1 h2
  simp only[Option.map_some,Option.some.injEq,Prod.mk.injEq] at h1
  simp only[Option.bind_some] at h2
  cases hz:i.zero with
  |none=>rw[hz] at h2;cases h2
  |some z=>
   rw[hz] at h2
   simp only[Option.map_some,Option.some.injEq] at h2
   exact ⟨i,rfl,h1.1,h1.2,z,hz,h2⟩
theorem qI {P:Program} {fields:Array Field} (h:(fields.toList.all fun f=>match P.info? f.type with|some i=> !(i.size==0)|none=>false)=true): ∀f∈fields.toList,∃i,P.info? f.type=some i/\i.size≠0:=fun f hf=>by
 have:=List.all_eq_true.1 h f hf
 split at this
 ·rename_i i hi;exact ⟨i,hi,by simpa using this⟩
 ·cases this
inductive LK where
 |int (k:IntKind)|bool|str|err|ints (k:IntKind)|cx|strs|rows|cB (sg:List Bool)
abbrev LK.Ty:LK->Type
 | .int _=>Int
 | .bool=>Bool
 | .str=>ByteArray
 | .err=>Bool
 | .ints _=>List Int
 | .cx=>List Bool
 | .strs=>List ByteArray
 | .rows=>List (List Int)
 | .cB _=>List (List jC)
def LK.dl (c:kd):(k:LK)->k.Ty->DL
 | .int k,n=> .i k n
 | .bool,b=> .b b
 | .str,s=> .s s
 | .err,b=> .er b
 | .ints k,l=> .sl c (.ints k l)
 | .cx,l=> .sl c (.cx l)
 | .strs,l=> .sl c (.strs l)
 | .rows,l=> .sl c (.rows (decide (c= .own)) l)
 | .cB sg,l=> .sl c (.cB sg (decide (c= .own)) l)
def LK.mq {R:Type} (c:kd):(k:LK)->DL->(k.Ty->Option R)->Option R
 | .int k,d,K=>dI k d K
 | .bool,d,K=>dB d K
 | .str,d,K=>dS d K
 | .err,d,K=>dE d K
 | .ints k,d,K=>uC c k d K
 | .cx,d,K=>qg c d K
 | .strs,d,K=>xu c d K
 | .rows,d,K=>xw c d K
 | .cB sg,d,K=>xx c sg d K
theorem LK.gr {R:Type} {c:kd} {k:LK} {d:DL} {K:k.Ty->Option R} {r:R} (h:k.mq c d K=some r): ∃x,d=k.dl c x/\K x=some r:=by
 cases k with
 |int k=>exact CQ h
 |bool=>exact CR h
 |str=>exact CS h
 |err=>exact IE h
 |ints k=>exact pd h
 |cx=>exact qf h
 |strs=>exact tE h
 |rows=>exact tF h
 |cB sg=>exact tG h
abbrev Mr:List LK->Type->Type
 | [],R=>R
 |k::ks,R=>k.Ty->Mr ks R
abbrev z_:List LK->Type
 | []=>Unit
 |k::ks=>k.Ty×z_ ks
def Qo (c:kd):(ks:List LK)->z_ ks->List DL
 | [],_=>[]
 |k::ks,x=>k.dl c x.1::Qo c ks x.2
def zT {R:Type}:(ks:List LK)->Mr ks R->z_ ks->R
 | [],f,_=>f
 |_::ks,f,x=>zT ks (f x.1) x.2
def Ca {R S:Type} (c:kd):(ks:List LK)->List DL->Mr ks S->(S->Option R)->Option R
 | [],ds,f,K=>Lf ds (K f)
 |k::ks,ds,f,K=>EF ds fun d ds=>k.mq c d fun x=>Ca c ks ds (f x) K
theorem nl {R S:Type} {c:kd} {r:R}: ∀ {ks:List LK} {ds:List DL} {f:Mr ks S} {K:S->Option R},Ca c ks ds f K=some r-> ∃x,ds=Qo c ks x/\K (zT ks f x)=some r
 | [],ds,f,K,h=>by
   obtain ⟨rfl,h'⟩:=qN h
   exact ⟨(),rfl,h'⟩
 |k::ks,ds,f,K,h=>by
  obtain ⟨d,tX,rfl,h1⟩:=pe h
  obtain ⟨x,rfl,h2⟩:=LK.gr h1
  obtain ⟨y,rfl,h3⟩:=nl h2
  exact ⟨(x,y),rfl,h3⟩
inductive DK where
 |l (c:kd) (k:LK)|agg (c:kd) (ks:List LK)|ptr (ks:List LK)
abbrev tz:List DK->Type->Type
 | [],R=>R
 | .l _ k::ds,R=>k.Ty->tz ds R
 | .agg _ ks::ds,R=>Mr ks (tz ds R)
 | .ptr ks::ds,R=>Mr ks (tz ds R)
abbrev Cb:List DK->Type
 | []=>Unit
 | .l _ k::ds=>k.Ty×Cb ds
 | .agg _ ks::ds=>z_ ks×Cb ds
 | .ptr ks::ds=>z_ ks×Cb ds
def uc:(ks:List DK)->Cb ks->List DV
 | [],_=>[]
 | .l c k::ds,x=> .l (k.dl c x.1)::uc ds x.2
 | .agg c ks::ds,x=> .agg (Qo c ks x.1)::uc ds x.2
 | .ptr ks::ds,x=> .ptr (Qo .eb ks x.1)::uc ds x.2
def mU {R:Type}:(ks:List DK)->tz ks R->Cb ks->R
 | [],f,_=>f
 | .l _ _::ds,f,x=>mU ds (f x.1) x.2
 | .agg _ ks::ds,f,x=>mU ds (zT ks f x.1) x.2
 | .ptr ks::ds,f,x=>mU ds (zT ks f x.1) x.2
def Cc {R:Type}:(ks:List DK)->List DV->tz ks (Option R)->Option R
 | [],ds,f=>Jv ds f
 | .l c k::ks,ds,f=>uD ds fun d ds=>dL d fun y=>k.mq c y fun x=>Cc ks ds (f x)
 | .agg c ls::ks,ds,f=>uD ds fun d ds=>Lg d fun y=>Ca c ls y f fun g=>Cc ks ds g
 | .ptr ls::ks,ds,f=>uD ds fun d ds=>Hv d fun y=>Ca .eb ls y f fun g=>Cc ks ds g
theorem nn {R:Type} {r:R}: ∀ {ks:List DK} {ds:List DV} {f:tz ks (Option R)},Cc ks ds f=some r-> ∃x,ds=uc ks x/\mU ks f x=some r
 | [],ds,f,h=>by
   obtain ⟨rfl,h'⟩:=qM h
   exact ⟨(),rfl,h'⟩
 | .l c k::ks,ds,f,h=>by
   obtain ⟨d,tX,rfl,h1⟩:=jD h
   obtain ⟨y,rfl,h2⟩:=uF h1
   obtain ⟨x,rfl,h3⟩:=LK.gr h2
   obtain ⟨z,rfl,h4⟩:=nn h3
   exact ⟨(x,z),rfl,h4⟩
 | .agg c ls::ks,ds,f,h=>by
   obtain ⟨d,tX,rfl,h1⟩:=jD h
   obtain ⟨y,rfl,h2⟩:=oE h1
   obtain ⟨x,rfl,h3⟩:=nl h2
   obtain ⟨z,rfl,h4⟩:=nn h3
   exact ⟨(x,z),rfl,h4⟩
 | .ptr ls::ks,ds,f,h=>by
   obtain ⟨d,tX,rfl,h1⟩:=jD h
   obtain ⟨y,rfl,h2⟩:=oD h1
   obtain ⟨x,rfl,h3⟩:=nl h2
   obtain ⟨z,rfl,h4⟩:=nn h3
   exact ⟨(x,z),rfl,h4⟩
inductive SK where
 |i (k:IntKind)|b|s|er|bc (x:Bool)|own (id:Nat)|sub (id:Nat)|ptr (id k:Nat)|arr (id n:Nat)|any|nil|val (p:Bool) (o:Bool) (k:LK)
abbrev SK.Ty:SK->Type
 | .i _=>Int
 | .b=>Bool
 | .s=>ByteArray
 | .er=>Bool
 | .sub _=>Nat×Nat
 | .val _ _ k=>k.Ty
 |_=>Unit
def LK.row (o:Bool):(k:LK)->k.Ty->Row
 | .ints k,l=> .ints k l
 | .cx,l=> .cx l
 | .strs,l=> .strs l
 | .rows,l=> .rows o l
 | .cB sg,l=> .cB sg o l
 | .int _,_=> .cx []
 | .bool,_=> .cx []
 | .str,_=> .cx []
 | .err,_=> .cx []
def LK.DH {R:Type} (o:Bool):(k:LK)->Row->(k.Ty->Option R)->Option R
 | .ints k,w,K=>HL k w K
 | .cx,w,K=>Dh w K
 | .strs,w,K=>HM w K
 | .rows,w,K=>HN o w K
 | .cB sg,w,K=>HO sg o w K
 |_,_,_=>none
theorem LK.vo {R:Type} {r:R} {o:Bool} {k:LK} {w:Row} {K:k.Ty->Option R} (h:k.DH o w K=some r): ∃x,w=k.row o x/\K x=some r:=by
 cases k with
 |ints k=>exact Fq h
 |cx=>exact DG h
 |strs=>exact Ft h
 |rows=>exact Fu h
 |cB sg=>exact Fw h
 |_=>cases h
def SK.lv:(k:SK)->k.Ty->LV
 | .i k,n=> .i k n
 | .b,x=> .b x
 | .s,x=> .s x
 | .er,x=> .er x
 | .bc x,_=> .b x
 | .own id,_=> .own id
 | .sub id,x=> .sub id x.1 x.2
 | .ptr id k,_=> .eJ id k
 | .arr id n,_=> .arr id n
 | .any,_=> .any
 | .nil,_=> .nil
 | .val p o k,x=> .val p (k.row o x)
def U7 {R:Type} (b:Bool) (x:LV) (K:Option R):Option R:=match x with| .b c=>(bif c==b then K else none)|_=>none
theorem Mb {R:Type} {r:R} {b:Bool} {x:LV} {K:Option R} (h:U7 b x K=some r):x= .b b/\K=some r:=by
 unfold U7 at h;split at h
 ·obtain ⟨h1,h2⟩:=ai h
  have e:=eq_of_beq h1
  subst e;exact ⟨rfl,h2⟩
 ·cases h
def SK.mq {R:Type}:(k:SK)->LV->(k.Ty->Option R)->Option R
 | .i k,x,K=>lI k x K
 | .b,x,K=>lB x K
 | .s,x,K=>lS x K
 | .er,x,K=>lE x K
 | .bc b0,x,K=>U7 b0 x (K ())
 | .own id,x,K=>Pg id x (K ())
 | .sub id,x,K=>Ph id x fun a b=>K (a,b)
 | .ptr id k,x,K=>Pj id k x (K ())
 | .arr id n,x,K=>Pk id n x (K ())
 | .any,x,K=>Pm x (K ())
 | .nil,x,K=>LJ x (K ())
 | .val p o k,x,K=>Pn p x fun w=>k.DH o w K
theorem SK.gr {R:Type} {r:R} {k:SK} {x:LV} {K:k.Ty->Option R} (h:k.mq x K=some r): ∃y,x=k.lv y/\K y=some r:=by
 cases k with
 |i k=>exact NL h
 |b=>exact NM h
 |s=>exact NN h
 |er=>exact NO h
 |bc b=>obtain ⟨h1,h2⟩:=Mb h;exact ⟨(),h1,h2⟩
 |own id=>obtain ⟨h1,h2⟩:=J2 h;exact ⟨(),h1,h2⟩
 |sub id=>obtain ⟨lo,hi,h1,h2⟩:=J3 h;exact ⟨(lo,hi),h1,h2⟩
 |ptr id k=>obtain ⟨h1,h2⟩:=J4 h;exact ⟨(),h1,h2⟩
 |arr id n=>obtain ⟨h1,h2⟩:=J5 h;exact ⟨(),h1,h2⟩
 |any=>obtain ⟨h1,h2⟩:=J6 h;exact ⟨(),h1,h2⟩
 |nil=>obtain ⟨h1,h2⟩:=Ib h;exact ⟨(),h1,h2⟩
 |val p o k=>
  obtain ⟨w,h1,h2⟩:=J7 h
  obtain ⟨y,h3,h4⟩:=LK.vo h2
  exact ⟨y,by rw[h1,h3];rfl,h4⟩
abbrev Fz:List SK->Type->Type
 | [],R=>R
 | .i _::ks,R=>Int->Fz ks R
 | .b::ks,R=>Bool->Fz ks R
 | .s::ks,R=>ByteArray->Fz ks R
 | .er::ks,R=>Bool->Fz ks R
 | .sub _::ks,R=>Nat->Nat->Fz ks R
 | .val _ _ k::ks,R=>k.Ty->Fz ks R
 |_::ks,R=>Fz ks R
abbrev NQ:List SK->Type
 | []=>Unit
 |k::ks=>k.Ty×NQ ks
def PP {R:Type}:(k:SK)->(ks:List SK)->Fz (k::ks) R->k.Ty->Fz ks R
 | .i _,_,f,x=>f x
 | .b,_,f,x=>f x
 | .s,_,f,x=>f x
 | .er,_,f,x=>f x
 | .sub _,_,f,x=>f x.1 x.2
 | .val _ _ _,_,f,x=>f x
 | .bc _,_,f,_=>f
 | .own _,_,f,_=>f
 | .ptr _ _,_,f,_=>f
 | .arr _ _,_,f,_=>f
 | .any,_,f,_=>f
 | .nil,_,f,_=>f
def TM:(ks:List SK)->NQ ks->List LV
 | [],_=>[]
 |k::ks,x=>k.lv x.1::TM ks x.2
def Mc {R:Type}:(ks:List SK)->Fz ks R->NQ ks->R
 | [],f,_=>f
 |k::ks,f,x=>Mc ks (PP k ks f x.1) x.2
def I2 {R S:Type}:(ks:List SK)->List LV->Fz ks S->(S->Option R)->Option R
 | [],xs,f,K=>Sl xs (K f)
 |k::ks,xs,f,K=>Oh xs fun x xs=>k.mq x fun y=>I2 ks xs (PP k ks f y) K
theorem tV {R S:Type} {r:R}: ∀ {ks:List SK} {xs:List LV} {f:Fz ks S} {K:S->Option R},I2 ks xs f K=some r-> ∃y,xs=TM ks y/\K (Mc ks f y)=some r
 | [],xs,f,K,h=>by
   obtain ⟨rfl,h'⟩:=J1 h
   exact ⟨(),rfl,h'⟩
 |k::ks,xs,f,K,h=>by
  obtain ⟨x,Qn,rfl,h1⟩:=Ia h
  obtain ⟨y,rfl,h2⟩:=SK.gr h1
  obtain ⟨z,rfl,h3⟩:=tV h2
  exact ⟨(y,z),rfl,h3⟩
inductive VK where
 |l (k:SK)|agg (ks:List SK)
abbrev VK.ks:VK->List SK
 | .l k=>[k]
 | .agg ks=>ks
def VK.av:(k:VK)->NQ k.ks->AV
 | .l k,x=> .one (.l (k.lv x.1))
 | .agg ks,x=> .one (.agg (TM ks x))
def VK.mq {R S:Type}:(k:VK)->AV->Fz k.ks S->(S->Option R)->Option R
 | .l k,v,f,K=>vL v fun x=>k.mq x fun y=>K (PP k [] f y)
 | .agg ks,v,f,K=>Pf v fun xs=>I2 ks xs f K
theorem VK.gr {R S:Type} {r:R} {k:VK} {v:AV} {f:Fz k.ks S} {K:S->Option R} (h:k.mq v f K=some r): ∃y,v=k.av y/\K (Mc k.ks f y)=some r:=by
 cases k with
 |l k=>
  obtain ⟨x,rfl,h1⟩:=NK h
  obtain ⟨y,rfl,h2⟩:=SK.gr h1
  exact ⟨(y,()),rfl,h2⟩
 |agg ks=>
  obtain ⟨xs,rfl,h1⟩:=J0 h
  obtain ⟨y,rfl,h2⟩:=tV h1
  exact ⟨y,rfl,h2⟩
inductive RK where
 |row (o:Bool) (k:LK)|box (ks:List SK)
abbrev RK.Fn:RK->Type->Type
 | .row _ k,R=>k.Ty->R
 | .box ks,R=>Fz ks R
abbrev RK.Ty:RK->Type
 | .row _ k=>k.Ty
 | .box ks=>NQ ks
def RK.y7 {R:Type}:(k:RK)->k.Fn R->k.Ty->R
 | .row _ _,f,x=>f x
 | .box ks,f,x=>Mc ks f x
def RK.root:(k:RK)->k.Ty->Option aq
 | .row o k,x=>some (.row 0 0 (k.row o x))
 | .box ks,x=>some (.box 0 (TM ks x))
def RK.mq {R S:Type}:(k:RK)->Option aq->k.Fn S->(S->Option R)->Option R
 | .row o k,x,f,K=>Po x fun w=>k.DH o w fun y=>K (f y)
 | .box ks,x,f,K=>Pp x fun c=>I2 ks c f K
theorem RK.gr {R S:Type} {r:R} {k:RK} {x:Option aq} {f:k.Fn S} {K:S->Option R} (h:k.mq x f K=some r): ∃y,x=k.root y/\K (k.y7 f y)=some r:=by
 cases k with
 |row o k=>
  obtain ⟨w,rfl,h1⟩:=J8 h
  obtain ⟨y,rfl,h2⟩:=LK.vo h1
  exact ⟨y,rfl,h2⟩
 |box ks=>
  obtain ⟨c,rfl,h1⟩:=J9 h
  obtain ⟨y,rfl,h2⟩:=tV h1
  exact ⟨y,rfl,h2⟩
abbrev Qp:List RK->Type->Type
 | [],R=>R
 |k::ks,R=>k.Fn (Qp ks R)
abbrev PQ:List RK->Type
 | []=>Unit
 |k::ks=>k.Ty×PQ ks
def roots:(ks:List RK)->PQ ks->List (Option aq)
 | [],_=>[]
 |k::ks,x=>k.root x.1::roots ks x.2
def PR {R:Type}:(ks:List RK)->Qp ks R->PQ ks->R
 | [],f,_=>f
 |k::ks,f,x=>PR ks (k.y7 f x.1) x.2
def Md {R:Type}:(ks:List RK)->List (Option aq)->Qp ks (Option R)->Option R
 | [],hs,f=>Sk hs f
 |k::ks,hs,f=>Og hs fun h hs=>k.mq h f fun g=>Md ks hs g
theorem zU {R:Type} {r:R}: ∀ {ks:List RK} {hs:List (Option aq)} {f:Qp ks (Option R)},Md ks hs f=some r-> ∃y,hs=roots ks y/\PR ks f y=some r
 | [],hs,f,h=>by
   obtain ⟨rfl,h'⟩:=JZ h
   exact ⟨(),rfl,h'⟩
 |k::ks,hs,f,h=>by
  obtain ⟨x,Yj,rfl,h1⟩:=H_ h
  obtain ⟨y,rfl,h2⟩:=RK.gr h1
  obtain ⟨z,rfl,h3⟩:=zU h2
  exact ⟨(y,z),rfl,h3⟩
abbrev Qq:List VK->Type->Type
 | [],R=>R
 |k::ks,R=>Fz k.ks (Qq ks R)
abbrev PS:List VK->Type
 | []=>Unit
 |k::ks=>NQ k.ks×PS ks
def U8:(ks:List VK)->PS ks->List AV
 | [],_=>[]
 |k::ks,x=>k.av x.1::U8 ks x.2
def PT {R:Type}:(ks:List VK)->Qq ks R->PS ks->R
 | [],f,_=>f
 |k::ks,f,x=>PT ks (Mc k.ks f x.1) x.2
def Me {R S:Type}:(ks:List VK)->List AV->Qq ks S->(S->Option R)->Option R
 | [],vs,f,K=>Sj vs (K f)
 |k::ks,vs,f,K=>Of vs fun v vs=>k.mq v f fun g=>Me ks vs g K
theorem zV {R S:Type} {r:R}: ∀ {ks:List VK} {vs:List AV} {f:Qq ks S} {K:S->Option R},Me ks vs f K=some r-> ∃y,vs=U8 ks y/\K (PT ks f y)=some r
 | [],vs,f,K,h=>by
   obtain ⟨rfl,h'⟩:=JY h
   exact ⟨(),rfl,h'⟩
 |k::ks,vs,f,K,h=>by
  obtain ⟨x,xV,rfl,h1⟩:=H9 h
  obtain ⟨y,rfl,h2⟩:=VK.gr h1
  obtain ⟨z,rfl,h3⟩:=zV h2
  exact ⟨(y,z),rfl,h3⟩
structure Hd where
 vs:List VK
 hs:List RK
abbrev Hd.Fn (H:Hd) (R:Type):Type:=Qq H.vs (Qp H.hs R)
abbrev Hd.Ty (H:Hd):Type:=PS H.vs×PQ H.hs
def Hd.enc (H:Hd) (x:H.Ty):List AV×List (Option aq):=(U8 H.vs x.1,roots H.hs x.2)
def Hd.y7 {R:Type} (H:Hd) (f:H.Fn R) (x:H.Ty):R:=PR H.hs (PT H.vs f x.1) x.2
def Hd.mq {R:Type} (H:Hd) (vs:List AV) (hs:List (Option aq)) (f:H.Fn (Option R)):Option R:=Me H.vs vs f fun g=>Md H.hs hs g
theorem Hd.gr {R:Type} {r:R} {H:Hd} {vs:List AV} {hs:List (Option aq)} {f:H.Fn (Option R)} (h:H.mq vs hs f=some r): ∃x,H.enc x=(vs,hs)/\H.y7 f x=some r:=by
 obtain ⟨x,rfl,h1⟩:=zV h
 obtain ⟨y,rfl,h2⟩:=zU h1
 exact ⟨(x,y),rfl,h2⟩
abbrev Fit {R:Type} (G:fe R) (live:List (Nat×List Nat)) (Λ:pJ R) (b:Code):Prop:= ∀K vs hs r,Λ (keyOf b) K vs hs=some r->nI G live Λ b K vs hs r
def J_ {S T:Type}:(ks:List LK)->(S->T)->Mr ks S->Mr ks T
 | [],m,f=>m f
 |_::ks,m,f=>fun x=>J_ ks m (f x)
def Ie {S T:Type}:(ks:List DK)->(S->T)->tz ks S->tz ks T
 | [],m,f=>m f
 | .l _ _::ds,m,f=>fun x=>Ie ds m (f x)
 | .agg _ ks::ds,m,f=>J_ ks (Ie ds m) f
 | .ptr ks::ds,m,f=>J_ ks (Ie ds m) f
theorem zW {S T:Type} (m:S->T): ∀(ks:List LK) (f:Mr ks S) (x:z_ ks),zT ks (J_ ks m f) x=m (zT ks f x)
 | [],f,x=>rfl
 |_::ks,f,x=>zW m ks (f x.1) x.2
theorem vp {S T:Type} (m:S->T): ∀(ks:List DK) (f:tz ks S) (x:Cb ks),mU ks (Ie ks m f) x=m (mU ks f x)
 | [],f,x=>rfl
 | .l _ _::ds,f,x=>vp m ds (f x.1) x.2
 | .agg _ ks::ds,f,x=>by
   show mU ds (zT ks (J_ ks (Ie ds m) f) x.1) x.2=_
   rw[zW,vp m ds]
   rfl
 | .ptr ks::ds,f,x=>by
   show mU ds (zT ks (J_ ks (Ie ds m) f) x.1) x.2=_
   rw[zW,vp m ds]
   rfl
def Ow {R Y:Type} (pk:List DK) (F:tz pk (Option Y)) (enc:Y->List DV) (ds:List DV) (K:List DV->Option R):Option R:=Cc pk ds (Ie pk (fun o=>o.bind fun r=>K (enc r)) F)
theorem SL {R Y:Type} {P:Program} {f:FuncId} {g:pL} {pk:List DK} {F:tz pk (Option Y)} {enc:Y->List DV} (he:Enters P f) (hc: ∀(x:Cb pk) (r:Y),mU pk F x=some r->fM P f g (uc pk x) (enc r)):xQ (R:=R) P (f,⟨g,Ow pk F enc⟩):=fun ds K r h0=>by
 obtain ⟨x,rfl,h⟩:=nn h0
 rw[vp] at h
 obtain ⟨y,h1,h2⟩:=Option.bind_eq_some_iff.1 h
 exact ⟨he,_,hc x y h1,h2⟩
def pK:List DK->List LK
 | []=>[]
 | .l _ k::ds=>k::pK ds
 | .agg _ ks::ds=>ks++pK ds
 | .ptr ks::ds=>ks++pK ds
abbrev FT:List LK->Type
 | []=>Unit
 | [k]=>k.Ty
 |k::j::ks=>k.Ty×FT (j::ks)
def NR:(ks:List LK)->z_ ks->FT ks
 | [],_=>()
 | [_],x=>x.1
 |_::j::ks,x=>(x.1,NR (j::ks) x.2)
def Ka:(ks:List LK)->FT ks->z_ ks
 | [],_=>()
 | [_],x=>(x,())
 |_::j::ks,x=>(x.1,Ka (j::ks) x.2)
theorem xd: ∀(ks:List LK) (x:z_ ks),Ka ks (NR ks x)=x
 | [],_=>rfl
 | [_],_=>rfl
 |_::j::ks,x=>congrArg (Prod.mk x.1) (xd (j::ks) x.2)
def Bl:(ks ls:List LK)->z_ ks->z_ ls->z_ (ks++ls)
 | [],_,_,y=>y
 |_::ks,ls,x,y=>(x.1,Bl ks ls x.2 y)
def xe:(ks ls:List LK)->z_ (ks++ls)->z_ ks×z_ ls
 | [],_,y=>((),y)
 |_::ks,ls,x=>((x.1,(xe ks ls x.2).1),(xe ks ls x.2).2)
theorem DI: ∀(ks ls:List LK) (x:z_ ks) (y:z_ ls),xe ks ls (Bl ks ls x y)=(x,y)
 | [],_,_,_=>rfl
 |_::ks,ls,x,y=>by
  have h:=DI ks ls x.2 y
  show ((x.1,(xe ks ls (Bl ks ls x.2 y)).1),(xe ks ls (Bl ks ls x.2 y)).2)=(x,y)
  rw[h]
def sW:(ks:List DK)->Cb ks->z_ (pK ks)
 | [],_=>()
 | .l _ _::ds,x=>(x.1,sW ds x.2)
 | .agg _ ks::ds,x=>Bl ks (pK ds) x.1 (sW ds x.2)
 | .ptr ks::ds,x=>Bl ks (pK ds) x.1 (sW ds x.2)
def Ms:(ks:List DK)->z_ (pK ks)->Cb ks
 | [],_=>()
 | .l _ _::ds,x=>(x.1,Ms ds x.2)
 | .agg _ ks::ds,x=>((xe ks (pK ds) x).1,Ms ds (xe ks (pK ds) x).2)
 | .ptr ks::ds,x=>((xe ks (pK ds) x).1,Ms ds (xe ks (pK ds) x).2)
theorem oQ: ∀(ks:List DK) (x:Cb ks),Ms ks (sW ks x)=x
 | [],_=>rfl
 | .l _ _::ds,x=>congrArg (Prod.mk x.1) (oQ ds x.2)
 | .agg _ ks::ds,x=>by
   show ((xe ks (pK ds) (Bl ks (pK ds) x.1 (sW ds x.2))).1,Ms ds (xe ks (pK ds) (Bl ks (pK ds) x.1 (sW ds x.2))).2)=x
   rw[DI,oQ ds x.2]
 | .ptr ks::ds,x=>by
   show ((xe ks (pK ds) (Bl ks (pK ds) x.1 (sW ds x.2))).1,Ms ds (xe ks (pK ds) (Bl ks (pK ds) x.1 (sW ds x.2))).2)=x
   rw[DI,oQ ds x.2]
def Kb {S:Type}:(ks:List LK)->(z_ ks->S)->Mr ks S
 | [],f=>f ()
 |_::ks,f=>fun x=>Kb ks fun y=>f (x,y)
def FC {S:Type}:(ks:List DK)->(Cb ks->S)->tz ks S
 | [],f=>f ()
 | .l _ _::ds,f=>fun x=>FC ds fun y=>f (x,y)
 | .agg _ ks::ds,f=>Kb ks fun x=>FC ds fun y=>f (x,y)
 | .ptr ks::ds,f=>Kb ks fun x=>FC ds fun y=>f (x,y)
theorem zX {S:Type}: ∀(ks:List LK) (f:z_ ks->S) (x:z_ ks),zT ks (Kb ks f) x=f x
 | [],_,_=>rfl
 |_::ks,f,x=>zX ks (fun y=>f (x.1,y)) x.2
theorem qA {S:Type}: ∀(ks:List DK) (f:Cb ks->S) (x:Cb ks),mU ks (FC ks f) x=f x
 | [],_,_=>rfl
 | .l _ _::ds,f,x=>qA ds (fun y=>f (x.1,y)) x.2
 | .agg _ ks::ds,f,x=>by
   show mU ds (zT ks (Kb ks fun x=>FC ds fun y=>f (x,y)) x.1) x.2=f x
   rw[zX,qA]
 | .ptr ks::ds,f,x=>by
   show mU ds (zT ks (Kb ks fun x=>FC ds fun y=>f (x,y)) x.1) x.2=f x
   rw[zX,qA]
def NS (rk:List DK) (r:FT (pK rk)):List DV:=uc rk (Ms rk (Ka (pK rk) r))
def Ew (rk:List DK) (ds:List DV):Option (FT (pK rk)):=Cc rk ds (FC rk fun x=>some (NR (pK rk) (sW rk x)))
theorem Cd {rk:List DK} {ds:List DV} {r:FT (pK rk)} (h:Ew rk ds=some r):ds=NS rk r:=by
 obtain ⟨x,rfl,h1⟩:=nn h
 rw[qA] at h1
 cases h1
 unfold NS
 rw[xd,oQ]
structure Sp where
 f:FuncId
 sig:pL
 pk:List DK
 rk:List DK
abbrev Sp.Y (S:Sp):Type:=FT (pK S.rk)
def Sp.V1 {R:Type} (S:Sp) (F:tz S.pk (Option S.Y)):Nat×NP R:=(S.f,⟨S.sig,Ow S.pk F (NS S.rk)⟩)
def Ci (P:Program) (S:Sp) (F:tz S.pk (Option S.Y)):Prop:=Enters P S.f/\ ∀(x:Cb S.pk) (r:S.Y),mU S.pk F x=some r->fM P S.f S.sig (uc S.pk x) (NS S.rk r)
theorem PU {R:Type} {P:Program} {S:Sp} {F:tz S.pk (Option S.Y)} (h:Ci P S F):xQ (R:=R) P (S.V1 F):=SL h.1 h.2
noncomputable def bd (fn:Func):Code:=(fn.body).getD .skip
noncomputable def bl (fn:Func) (i:Nat):Code:=((g_ (bd fn))[i]?).getD .skip
def Qc {R:Type}:pJ R:=fun _ _ _ _=>none
def pre (fn:Func) (g:pL) (body:Code):Option Code×List Code×Nat×Bool×Nat×Bool:=(fn.body,g_ body,fn.ntmps,Nat.ble g.params.length fn.ntmps,fn.results.size,fn.name== "runtime.NumGoroutine")
theorem K4 {P:Program} {tt:TT} {S:Sp} {F:tz S.pk (Option S.Y)} {l:List (Nat×NP S.Y)} {nt:Nat} {live:List (Nat×List Nat)} {Λ:pJ S.Y} {fn:Func} {ls:List Code} (T:kQ P tt) (hG: ∀p∈l,xQ P p) (hm:P.follows .mixedOrders=true) (hf:P.funcs[S.f]? =some fn) (hp:pre fn S.sig (bd fn)=(some (bd fn),ls,nt,true,S.sig.results.length,false)) (hl: ∀b∈ls,Fit (Ho tt l nt) live Λ b) (he: ∀x,Hn (Ho tt l nt) live Λ S.sig fn (uc S.pk x) (Ew S.rk)=mU S.pk F x):Ci P S F:=by
 simp only[pre,Prod.mk.injEq] at hp
 obtain ⟨h1,h2,h3,h4,h5,h6⟩:=hp
 refine ⟨⟨fn,hf,h6,by rw[h1];rfl⟩,fun x r h=> ?_⟩
 exact xC (Ic T hG) hm hf h1 (tU h2 fun b hb K vs hs r h=>hl b hb K vs hs r h) h3.symm (Nat.le_of_ble_eq_true h4) h5 (fun _ h=>Cd h) ((he x).trans h)
def Kc (c:kd):(ks:List DK)->Cb ks->List DV
 | [],_=>[]
 | .l _ k::ds,x=> .l (k.dl c x.1)::Kc c ds x.2
 | .agg _ ks::ds,x=> .agg (Qo c ks x.1)::Kc c ds x.2
 | .ptr ks::ds,x=> .ptr (Qo .eb ks x.1)::Kc c ds x.2
def FE {R:Type} (c:kd):(ks:List DK)->List DV->tz ks (Option R)->Option R
 | [],ds,f=>Jv ds f
 | .l _ k::ks,ds,f=>uD ds fun d ds=>dL d fun y=>k.mq c y fun x=>FE c ks ds (f x)
 | .agg _ ls::ks,ds,f=>uD ds fun d ds=>Lg d fun y=>Ca c ls y f fun g=>FE c ks ds g
 | .ptr ls::ks,ds,f=>uD ds fun d ds=>Hv d fun y=>Ca .eb ls y f fun g=>FE c ks ds g
theorem pw {R:Type} {r:R} {c:kd}: ∀ {ks:List DK} {ds:List DV} {f:tz ks (Option R)},FE c ks ds f=some r-> ∃x,ds=Kc c ks x/\mU ks f x=some r
 | [],ds,f,h=>by
   obtain ⟨rfl,h'⟩:=qM h
   exact ⟨(),rfl,h'⟩
 | .l _ k::ks,ds,f,h=>by
   obtain ⟨d,tX,rfl,h1⟩:=jD h
   obtain ⟨y,rfl,h2⟩:=uF h1
   obtain ⟨x,rfl,h3⟩:=LK.gr h2
   obtain ⟨z,rfl,h4⟩:=pw h3
   exact ⟨(x,z),rfl,h4⟩
 | .agg _ ls::ks,ds,f,h=>by
   obtain ⟨d,tX,rfl,h1⟩:=jD h
   obtain ⟨y,rfl,h2⟩:=oE h1
   obtain ⟨x,rfl,h3⟩:=nl h2
   obtain ⟨z,rfl,h4⟩:=pw h3
   exact ⟨(x,z),rfl,h4⟩
 | .ptr ls::ks,ds,f,h=>by
   obtain ⟨d,tX,rfl,h1⟩:=jD h
   obtain ⟨y,rfl,h2⟩:=oD h1
   obtain ⟨x,rfl,h3⟩:=nl h2
   obtain ⟨z,rfl,h4⟩:=pw h3
   exact ⟨(x,z),rfl,h4⟩
def NT (c:kd) (rk:List DK) (r:FT (pK rk)):List DV:=Kc c rk (Ms rk (Ka (pK rk) r))
def PV (c:kd) (rk:List DK) (ds:List DV):Option (FT (pK rk)):=FE c rk ds (FC rk fun x=>some (NR (pK rk) (sW rk x)))
theorem Cf {c:kd} {rk:List DK} {ds:List DV} {r:FT (pK rk)} (h:PV c rk ds=some r):ds=NT c rk r:=by
 obtain ⟨x,rfl,h1⟩:=pw h
 rw[qA] at h1
 cases h1
 unfold NT
 rw[xd,oQ]
def SM:(k:LK)->k.Ty->k.Ty
 | .bool,_=>false
 | .int _,x=>x
 | .str,x=>x
 | .err,x=>x
 | .ints _,x=>x
 | .cx,x=>x
 | .strs,x=>x
 | .rows,x=>x
 | .cB _,x=>x
def Mf:(k:LK)->k.Ty->Bool
 | .bool,b=> !b
 |_,_=>true
theorem Kd: ∀ {k:LK} {x:k.Ty},Mf k x=true->SM k x=x
 | .bool,false,_=>rfl
 | .bool,true,h=>by cases h
 | .int _,_,_=>rfl
 | .str,_,_=>rfl
 | .err,_,_=>rfl
 | .ints _,_,_=>rfl
 | .cx,_,_=>rfl
 | .strs,_,_=>rfl
 | .rows,_,_=>rfl
 | .cB _,_,_=>rfl
def Mg:(ks:List DK)->Cb ks->Cb ks
 | [],x=>x
 | .l _ k::ds,x=>(SM k x.1,Mg ds x.2)
 | .agg _ _::ds,x=>(x.1,Mg ds x.2)
 | .ptr _::ds,x=>(x.1,Mg ds x.2)
def zY:(ks:List DK)->Cb ks->Bool
 | [],_=>true
 | .l _ k::ds,x=>Mf k x.1&&zY ds x.2
 | .agg _ _::ds,x=>zY ds x.2
 | .ptr _::ds,x=>zY ds x.2
theorem qZ: ∀ {ks:List DK} {x:Cb ks},zY ks x=true->Mg ks x=x
 | [],_,_=>rfl
 | .l _ k::ds,x,h=>by
   obtain ⟨h1,h2⟩:=az h
   exact Prod.ext (Kd h1) (qZ h2)
 | .agg _ _::ds,x,h=>Prod.ext rfl (qZ (ks:=ds) h)
 | .ptr _::ds,x,h=>Prod.ext rfl (qZ (ks:=ds) h)
abbrev Sp.YM (S:Sp):Type:=Bool×FT (pK S.rk)
def U9 (rk:List DK) (r:FT (pK rk)):List DV:=Kc .aZ rk (Mg rk (Ms rk (Ka (pK rk) r)))
def SN (rk:List DK) (r:Bool×FT (pK rk)):List DV:=bif r.1 then NT .own rk r.2 else U9 rk r.2
def M7 (rk:List DK) (ds:List DV):Option (Bool×FT (pK rk)):=match PV .own rk ds with
 |some y=>some (true,y)
 |none=>match PV .aZ rk ds with
  |some y=>bif zY rk (Ms rk (Ka (pK rk) y)) then some (false,y) else none
  |none=>none
theorem Ke {rk:List DK} {ds:List DV} {r:Bool×FT (pK rk)} (h:M7 rk ds=some r):ds=SN rk r:=by
 unfold M7 at h
 split at h
 ·rename_i y hy;cases h;exact Cf hy
 ·split at h
  ·rename_i y hy
   obtain ⟨h1,h2⟩:=ai h
   cases h2
   have:=Cf hy
   unfold NT at this
   rw[<- qZ h1] at this
   exact this
  ·cases h
def OY (P:Program) (S:Sp) (F:tz S.pk (Option S.YM)):Prop:=Enters P S.f/\ ∀(x:Cb S.pk) (r:S.YM),mU S.pk F x=some r->fM P S.f S.sig (uc S.pk x) (SN S.rk r)
theorem M8 {P:Program} {tt:TT} {S:Sp} {F:tz S.pk (Option S.YM)} {l:List (Nat×NP S.YM)} {nt:Nat} {live:List (Nat×List Nat)} {Λ:pJ S.YM} {fn:Func} {ls:List Code} (T:kQ P tt) (hG: ∀p∈l,xQ P p) (hm:P.follows .mixedOrders=true) (hf:P.funcs[S.f]? =some fn) (hp:pre fn S.sig (bd fn)=(some (bd fn),ls,nt,true,S.sig.results.length,false)) (hl: ∀b∈ls,Fit (Ho tt l nt) live Λ b) (he: ∀x,Hn (Ho tt l nt) live Λ S.sig fn (uc S.pk x) (M7 S.rk)=mU S.pk F x):OY P S F:=by
 simp only[pre,Prod.mk.injEq] at hp
 obtain ⟨h1,h2,h3,h4,h5,h6⟩:=hp
 refine ⟨⟨fn,hf,h6,by rw[h1];rfl⟩,fun x r h=> ?_⟩
 exact xC (Ic T hG) hm hf h1 (tU h2 fun b hb K vs hs r h=>hl b hb K vs hs r h) h3.symm (Nat.le_of_ble_eq_true h4) h5 (fun _ h=>Ke h) ((he x).trans h)
theorem Il {P:Program} {S:Sp} {g:Nat->tz S.pk (Option S.Y)} {b:tz S.pk (Option S.Y)->tz S.pk (Option S.Y)} (he:Enters P S.f) (h0: ∀x,mU S.pk (g 0) x=none) (h1: ∀n,g (n+1)=b (g n)) (hs: ∀F,Ci P S F->Ci P S (b F)): ∀n,Ci P S (g n)
 |0=>⟨he,fun x r h=>by rw[h0] at h;cases h⟩
 |n+1=>by rw[h1];exact hs _ (Il he h0 h1 hs n)
def vq {R:Type}:(ks:List SK)->(NQ ks->R)->Fz ks R
 | [],f=>f ()
 | .i _::ks,f=>fun x=>vq ks fun y=>f (x,y)
 | .b::ks,f=>fun x=>vq ks fun y=>f (x,y)
 | .s::ks,f=>fun x=>vq ks fun y=>f (x,y)
 | .er::ks,f=>fun x=>vq ks fun y=>f (x,y)
 | .sub _::ks,f=>fun x x'=>vq ks fun y=>f ((x,x'),y)
 | .val _ _ _::ks,f=>fun x=>vq ks fun y=>f (x,y)
 | .bc _::ks,f=>vq ks fun y=>f ((),y)
 | .own _::ks,f=>vq ks fun y=>f ((),y)
 | .ptr _ _::ks,f=>vq ks fun y=>f ((),y)
 | .arr _ _::ks,f=>vq ks fun y=>f ((),y)
 | .any::ks,f=>vq ks fun y=>f ((),y)
 | .nil::ks,f=>vq ks fun y=>f ((),y)
def tW:(ks:List SK)->(NQ ks->Prop)->Prop
 | [],f=>f ()
 | .i _::ks,f=> ∀x,tW ks fun y=>f (x,y)
 | .b::ks,f=> ∀x,tW ks fun y=>f (x,y)
 | .s::ks,f=> ∀x,tW ks fun y=>f (x,y)
 | .er::ks,f=> ∀x,tW ks fun y=>f (x,y)
 | .sub _::ks,f=> ∀x x',tW ks fun y=>f ((x,x'),y)
 | .val _ _ _::ks,f=> ∀x,tW ks fun y=>f (x,y)
 | .bc _::ks,f=>tW ks fun y=>f ((),y)
 | .own _::ks,f=>tW ks fun y=>f ((),y)
 | .ptr _ _::ks,f=>tW ks fun y=>f ((),y)
 | .arr _ _::ks,f=>tW ks fun y=>f ((),y)
 | .any::ks,f=>tW ks fun y=>f ((),y)
 | .nil::ks,f=>tW ks fun y=>f ((),y)
theorem hC: ∀ {ks:List SK} {f:NQ ks->Prop},tW ks f-> ∀x,f x
 | [],_,h,_=>h
 | .i _::_,f,h,x=>hC (f:=fun y=>f (x.1,y)) (h x.1) x.2
 | .b::_,f,h,x=>hC (f:=fun y=>f (x.1,y)) (h x.1) x.2
 | .s::_,f,h,x=>hC (f:=fun y=>f (x.1,y)) (h x.1) x.2
 | .er::_,f,h,x=>hC (f:=fun y=>f (x.1,y)) (h x.1) x.2
 | .sub _::_,f,h,x=>hC (f:=fun y=>f (x.1,y)) (h x.1.1 x.1.2) x.2
 | .val _ _ _::_,f,h,x=>hC (f:=fun y=>f (x.1,y)) (h x.1) x.2
 | .bc _::_,f,h,x=>hC (f:=fun y=>f (x.1,y)) h x.2
 | .own _::_,f,h,x=>hC (f:=fun y=>f (x.1,y)) h x.2
 | .ptr _ _::_,f,h,x=>hC (f:=fun y=>f (x.1,y)) h x.2
 | .arr _ _::_,f,h,x=>hC (f:=fun y=>f (x.1,y)) h x.2
 | .any::_,f,h,x=>hC (f:=fun y=>f (x.1,y)) h x.2
 | .nil::_,f,h,x=>hC (f:=fun y=>f (x.1,y)) h x.2
def SO {R:Type}:(ks:List VK)->(PS ks->R)->Qq ks R
 | [],f=>f ()
 |k::ks,f=>vq k.ks fun x=>SO ks fun y=>f (x,y)
def PW:(ks:List VK)->(PS ks->Prop)->Prop
 | [],f=>f ()
 |k::ks,f=>tW k.ks fun x=>PW ks fun y=>f (x,y)
theorem FF: ∀ {ks:List VK} {f:PS ks->Prop},PW ks f-> ∀x,f x
 | [],_,h,_=>h
 |_::_,f,h,x=>FF (f:=fun y=>f (x.1,y)) (hC h x.1) x.2
def PX {R:Type}:(ks:List RK)->(PQ ks->R)->Qp ks R
 | [],f=>f ()
 | .row _ _::ks,f=>fun x=>PX ks fun y=>f (x,y)
 | .box l::ks,f=>vq l fun x=>PX ks fun y=>f (x,y)
def NU:(ks:List RK)->(PQ ks->Prop)->Prop
 | [],f=>f ()
 | .row _ _::ks,f=> ∀x,NU ks fun y=>f (x,y)
 | .box l::ks,f=>tW l fun x=>NU ks fun y=>f (x,y)
theorem zZ: ∀ {ks:List RK} {f:PQ ks->Prop},NU ks f-> ∀x,f x
 | [],_,h,_=>h
 | .row _ _::_,f,h,x=>zZ (f:=fun y=>f (x.1,y)) (h x.1) x.2
 | .box _::_,f,h,x=>zZ (f:=fun y=>f (x.1,y)) (hC h x.1) x.2
def Hd.mk' (H:Hd):H.Fn H.Ty:=SO H.vs fun x=>PX H.hs fun y=>(x,y)
def Hd.all (H:Hd) (f:H.Ty->Prop):Prop:=PW H.vs fun x=>NU H.hs fun y=>f (x,y)
theorem Hd.NV {H:Hd} {f:H.Ty->Prop} (h:H.all f) (x:H.Ty):f x:=zZ (f:=fun y=>f (x.1,y)) (FF h x.1) x.2
theorem PY {R A:Type} {H:Hd} {G:fe R} {live:List (Nat×List Nat)} {Λ:pJ R} {b:Code} {K:X->St->Option R} {x:H.Ty} {r:R} {step:(A->Option R)->A->Option R} {n:Nat} {a:A} (h:iter step n a=some r) (NW:A->H.Ty) (SP:H.Fn (Option A)) (e:NW a=x) (e1: ∀a,H.mq (H.enc (NW a)).1 (H.enc (NW a)).2 SP=some a) (e2: ∀(Lp:List AV->List (Option aq)->Option R) a,ev G live Λ b (fun x S'=>match x with| .normal=>Lp (pD (j8 live b) (nX (pE live b) S')) (oK (j8 live b) (nX (pE live b) S'))|x=>K x (LF (Db live b) (nX (zv live b) S'))) (cA (j8 live b) (H.enc (NW a)).1 (H.enc (NW a)).2)=step (fun a'=>Lp (H.enc (NW a')).1 (H.enc (NW a')).2) a):nI G live Λ b K (H.enc x).1 (H.enc x).2 r:=
 ⟨A,fun a=>H.enc (NW a),fun vs hs=>H.mq vs hs SP,step,n,a,by show H.enc (NW a)=_;rw[e],e1,e2,h⟩
theorem Hd.fit {R:Type} (H:Hd) {G:fe R} {live:List (Nat×List Nat)} {Λ:pJ R} {b:Code} {key:Nat} (hk:keyOf b=key) (T:(X->St->Option R)->H.Fn (Option R)) (ht: ∀K vs hs,Λ key K vs hs=H.mq vs hs (T K)) (h: ∀K r,H.all fun x=>H.y7 (T K) x=some r->nI G live Λ b K (H.enc x).1 (H.enc x).2 r):Fit G live Λ b:=fun K vs hs r h0=>by
 rw[hk,ht] at h0
 obtain ⟨x,e,h1⟩:=Hd.gr h0
 have h2:=Hd.NV (h K r) x h1
 rw[e] at h2
 exact h2
structure Ce (P:Program) where
 e: ∀R:Type,Nat×NP R
 ok: ∀R,xQ (R:=R) P (e R)
def ce {P:Program} {S:Sp} {F:tz S.pk (Option S.Y)} (h:Ci P S F):Ce P:=⟨fun _=>S.V1 F,fun _=>PU h⟩
def CJ {P:Program} (R:Type):List (Ce P)->List (Nat×NP R)
 | []=>[]
 |c::cs=>c.e R::CJ R cs
theorem uy {P:Program} {R:Type}: ∀(cs:List (Ce P)),∀p∈CJ R cs,xQ P p
 | [],p,h=>by cases h
 |c::cs,p,h=>by
  rcases List.mem_cons.1 h with rfl|h
  ·exact c.ok R
  ·exact uy cs p h
structure Lh (R:Type) where
 key:Nat
 h:Hd
 T:(X->St->Option R)->h.Fn (Option R)
def K5 {R:Type}:List (Lh R)->pJ R
 | []=>fun _ _ _ _=>none
 |l::ls=>fun id K vs hs=>bif id==l.key then l.h.mq vs hs (l.T K) else K5 ls id K vs hs
noncomputable def RO (fn:Func):Nat->Nat->List Code
 |_,0=>[]
 |i,n+1=>bl fn i::RO fn (i+1) n
abbrev so (f:FuncId) (ps rs:List Nat) (oc:kd) (pk rk:List DK):Sp:=⟨f,⟨ps,rs,ps.map fun _=> .oU,oc⟩,pk,rk⟩
theorem fm {R A:Type} {H:Hd} {G:fe R} {live:List (Nat×List Nat)} {Λ:pJ R} {b:Code} {K:X->St->Option R} {x:H.Ty} {r:R} {step:(A->Option R)->A->Option R} {n:Nat} {a:A} (h:iter step n a=some r) (em:A->H.Fn H.Ty->H.Ty) (SP:H.Fn (Option A)) (e:em a H.mk' =x:=by kernel_rfl) (e1: ∀a,H.mq (H.enc (em a H.mk')).1 (H.enc (em a H.mk')).2 SP=some a:=by intro _;kernel_rfl) (e2: ∀(Lp:List AV->List (Option aq)->Option R) a,ev G live Λ b (fun x S'=>match x with| .normal=>Lp (pD (j8 live b) (nX (pE live b) S')) (oK (j8 live b) (nX (pE live b) S'))|x=>K x (LF (Db live b) (nX (zv live b) S'))) (cA (j8 live b) (H.enc (em a H.mk')).1 (H.enc (em a H.mk')).2)=step (fun a'=>Lp (H.enc (em a' H.mk')).1 (H.enc (em a' H.mk')).2) a:=by intro _ _;kernel_rfl):nI G live Λ b K (H.enc x).1 (H.enc x).2 r:=
 PY h (fun a=>em a H.mk') SP e e1 e2
theorem Lh.fit {R:Type} (l:Lh R) {G:fe R} {live:List (Nat×List Nat)} {Λ:pJ R} {b:Code} (h: ∀K r,l.h.all fun x=>l.h.y7 (l.T K) x=some r->nI G live Λ b K (l.h.enc x).1 (l.h.enc x).2 r) (hk:keyOf b=l.key:=by kernel_rfl) (ht: ∀K vs hs,Λ l.key K vs hs=l.h.mq vs hs (l.T K):=by intro _ _ _;kernel_rfl):Fit G live Λ b:=
 l.h.fit hk l.T ht h
noncomputable def IB (fn:Func) (key:Nat):Code:=(tA key (bd fn)).getD .skip
theorem M5 {P:Program} {tt:TT} {S:Sp} {F:tz S.pk (Option S.Y)} {l:List (Nat×NP S.Y)} {nt:Nat} {live:List (Nat×List Nat)} {fn:Func} (T:kQ P tt) (hG: ∀p∈l,xQ P p) (hm:P.follows .mixedOrders=true) (hf:P.funcs[S.f]? =some fn) (key:Nat) (H:Hd) (U:H.Fn (Option S.Y)) (hp:pre fn S.sig (bd fn)=(some (bd fn),[],nt,true,S.sig.results.length,false)) (ht:tA key (bd fn)=some (IB fn key)) (hU: ∀x:H.Ty,ev (Ho tt l nt) live Qc (IB fn key) (fK live tt S.sig fn (Ew S.rk)) (cA (cutAt live key) (H.enc x).1 (H.enc x).2)=H.y7 U x) (he: ∀x,IC (Ho tt l nt) live Qc key (fun vs hs=>H.mq vs hs U) S.sig fn (uc S.pk x) (Ew S.rk)=mU S.pk F x):Ci P S F:=by
 simp only[pre,Prod.mk.injEq] at hp
 obtain ⟨h1,h2,h3,h4,h5,h6⟩:=hp
 refine ⟨⟨fn,hf,h6,by rw[h1];rfl⟩,fun x r h=> ?_⟩
 refine Dc (Ic T hG) hm hf h1 (tU (Λ:=Qc) h2 fun b hb K vs hs r h=>by cases hb) h3.symm (Nat.le_of_ble_eq_true h4) h5 ht (fun vs hs r h0=> ?_) (fun _ h=>Cd h) ((he x).trans h)
 obtain ⟨y,e,h7⟩:=Hd.gr h0
 have h8:=(hU y).trans h7
 rw[e] at h8
 exact h8
abbrev LK.I:LK:= .int .i64
abbrev LK.V:LK:= .ints .i64
abbrev SK.I:SK:= .i .i64
abbrev SK.V:SK:= .val false false (.ints .i64)
abbrev SK.W:SK:= .val false false .rows
abbrev RK.V:RK:= .row false (.ints .i64)
abbrev RK.W:RK:= .row true .rows
abbrev VK.I:VK:= .l (.i .i64)
abbrev VK.V:VK:= .l (.val false false (.ints .i64))
abbrev VK.W:VK:= .l (.val false false .rows)
abbrev DK.I:DK:= .l .aZ (.int .i64)
abbrev DK.V:DK:= .l .aZ (.ints .i64)
abbrev DK.O:DK:= .l .own (.int .i64)
abbrev DK.B:DK:= .l .own .bool
end Go.Proofs.YtbmmhdmljajcfaaGreatDoor.V
