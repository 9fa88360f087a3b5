/- The abstract evaluator and its soundness: part VShape. Conditions: as each section says. -/
import Derived.Test.YtbmmhdmljajcfaaGreatDoorVCode
set_option linter.unusedVariables false
set_option linter.unusedSimpArgs false
namespace Go.Proofs.YtbmmhdmljajcfaaGreatDoor.V
open Go
section
variable {R:Type} {r:R}
theorem aHead_some {vs:List AV} {K:AV->List AV->Option R} (h:aHead vs K=some r): ∃v vs',vs=v::vs' /\K v vs' =some r:=by
 cases vs with
 |nil=>cases h
 |cons v vs'=>exact ⟨v,vs',rfl,h⟩
theorem aNil_some {vs:List AV} {K:Option R} (h:aNil vs K=some r):vs=[]/\K=some r:=by
 cases vs with
 |nil=>exact ⟨rfl,h⟩
 |cons v vs'=>cases h
theorem hHead_some {hs:List (Option Root)} {K:Option Root->List (Option Root)->Option R} (h:hHead hs K=some r): ∃v vs',hs=v::vs' /\K v vs' =some r:=by
 cases hs with
 |nil=>cases h
 |cons v vs'=>exact ⟨v,vs',rfl,h⟩
theorem hNil_some {hs:List (Option Root)} {K:Option R} (h:hNil hs K=some r):hs=[]/\K=some r:=by
 cases hs with
 |nil=>exact ⟨rfl,h⟩
 |cons v vs'=>cases h
theorem vL_some {v:AV} {K:LV->Option R} (h:vL v K=some r): ∃x,v= .one (.l x)/\K x=some r:=by
 unfold vL at h;split at h
 ·exact ⟨_,rfl,h⟩
 ·cases h
theorem vAgg_some {v:AV} {K:List LV->Option R} (h:vAgg v K=some r): ∃x,v= .one (.agg x)/\K x=some r:=by
 unfold vAgg at h;split at h
 ·exact ⟨_,rfl,h⟩
 ·cases h
theorem cHead_some {xs:List LV} {K:LV->List LV->Option R} (h:cHead xs K=some r): ∃v vs',xs=v::vs' /\K v vs' =some r:=by
 cases xs with
 |nil=>cases h
 |cons v vs'=>exact ⟨v,vs',rfl,h⟩
theorem cNil_some {xs:List LV} {K:Option R} (h:cNil xs K=some r):xs=[]/\K=some r:=by
 cases xs with
 |nil=>exact ⟨rfl,h⟩
 |cons v vs'=>cases h
theorem lI_some {k:IntKind} {x:LV} {K:Int->Option R} (h:lI k x K=some r): ∃n,x= .i k n/\K n=some r:=by
 unfold lI at h;split at h
 ·obtain ⟨h1,h2⟩:=bif_some h
  have e:=of_decide_eq_true h1
  subst e;exact ⟨_,rfl,h2⟩
 ·cases h
theorem lB_some {x:LV} {K:Bool->Option R} (h:lB x K=some r): ∃b,x= .b b/\K b=some r:=by
 unfold lB at h;split at h
 ·exact ⟨_,rfl,h⟩
 ·cases h
theorem lS_some {x:LV} {K:ByteArray->Option R} (h:lS x K=some r): ∃b,x= .s b/\K b=some r:=by
 unfold lS at h;split at h
 ·exact ⟨_,rfl,h⟩
 ·cases h
theorem lE_some {x:LV} {K:Bool->Option R} (h:lE x K=some r): ∃b,x= .er b/\K b=some r:=by
 unfold lE at h;split at h
 ·exact ⟨_,rfl,h⟩
 ·cases h
theorem lOwn_some {id:Nat} {x:LV} {K:Option R} (h:lOwn id x K=some r):x= .own id/\K=some r:=by
 unfold lOwn at h;split at h
 ·obtain ⟨h1,h2⟩:=bif_some h
  have e:=eq_of_beq h1
  subst e;exact ⟨rfl,h2⟩
 ·cases h
theorem lSub_some {id:Nat} {x:LV} {K:Nat->Nat->Option R} (h:lSub id x K=some r): ∃lo hi,x= .sub id lo hi/\K lo hi=some r:=by
 unfold lSub at h;split at h
 ·obtain ⟨h1,h2⟩:=bif_some h
  have e:=eq_of_beq h1
  subst e;exact ⟨_,_,rfl,h2⟩
 ·cases h
theorem lPtr_some {id k:Nat} {x:LV} {K:Option R} (h:lPtr id k x K=some r):x= .bptr id k/\K=some r:=by
 unfold lPtr at h;split at h
 ·obtain ⟨h1,h2⟩:=bif_some h
  obtain ⟨h1,h3⟩:=and_bool h1
  have e:=eq_of_beq h1
  have e3:=eq_of_beq h3
  subst e;subst e3;exact ⟨rfl,h2⟩
 ·cases h
theorem lArr_some {id n:Nat} {x:LV} {K:Option R} (h:lArr id n x K=some r):x= .arr id n/\K=some r:=by
 unfold lArr at h;split at h
 ·obtain ⟨h1,h2⟩:=bif_some h
  obtain ⟨h1,h3⟩:=and_bool h1
  have e:=eq_of_beq h1
  have e3:=eq_of_beq h3
  subst e;subst e3;exact ⟨rfl,h2⟩
 ·cases h
theorem lAny_some {x:LV} {K:Option R} (h:lAny x K=some r):x= .any/\K=some r:=by
 unfold lAny at h;split at h
 ·exact ⟨rfl,h⟩
 ·cases h
theorem lNilS_some {x:LV} {K:Option R} (h:lNilS x K=some r):x= .nil/\K=some r:=by
 unfold lNilS at h;split at h
 ·exact ⟨rfl,h⟩
 ·cases h
theorem lVal_some {p:Bool} {x:LV} {K:Row->Option R} (h:lVal p x K=some r): ∃w,x= .val p w/\K w=some r:=by
 unfold lVal at h;split at h
 ·obtain ⟨h1,h2⟩:=bif_some h
  have e:=eq_of_beq h1
  subst e;exact ⟨_,rfl,h2⟩
 ·cases h
theorem rwInts_some {k:IntKind} {w:Row} {K:List Int->Option R} (h:rwInts k w K=some r): ∃l,w= .ints k l/\K l=some r:=by
 unfold rwInts at h;split at h
 ·obtain ⟨h1,h2⟩:=bif_some h
  have e:=of_decide_eq_true h1
  subst e;exact ⟨_,rfl,h2⟩
 ·cases h
theorem rwBools_some {w:Row} {K:List Bool->Option R} (h:rwBools w K=some r): ∃l,w= .bools l/\K l=some r:=by
 unfold rwBools at h;split at h
 ·exact ⟨_,rfl,h⟩
 ·cases h
theorem rwStrs_some {w:Row} {K:List ByteArray->Option R} (h:rwStrs w K=some r): ∃l,w= .strs l/\K l=some r:=by
 unfold rwStrs at h;split at h
 ·exact ⟨_,rfl,h⟩
 ·cases h
theorem rwRows_some {o:Bool} {w:Row} {K:List (List Int)->Option R} (h:rwRows o w K=some r): ∃l,w= .rows o l/\K l=some r:=by
 unfold rwRows at h;split at h
 ·obtain ⟨h1,h2⟩:=bif_some h
  have e:=eq_of_beq h1
  subst e;exact ⟨_,rfl,h2⟩
 ·cases h
theorem rwRecs_some {sg:List Bool} {o:Bool} {w:Row} {K:List (List Leaf)->Option R} (h:rwRecs sg o w K=some r): ∃l,w= .recs sg o l/\K l=some r:=by
 unfold rwRecs at h;split at h
 ·obtain ⟨h1,h2⟩:=bif_some h
  obtain ⟨h1,h3⟩:=and_bool h1
  have e:=eq_of_beq h1
  have e3:=eq_of_beq h3
  subst e;subst e3;exact ⟨_,rfl,h2⟩
 ·cases h
theorem hRow_some {x:Option Root} {K:Row->Option R} (h:hRow x K=some r): ∃w,x=some (.row 0 0 w)/\K w=some r:=by
 unfold hRow at h;split at h
 ·exact ⟨_,rfl,h⟩
 ·cases h
theorem hBox_some {x:Option Root} {K:List LV->Option R} (h:hBox x K=some r): ∃cells,x=some (.box 0 cells)/\K cells=some r:=by
 unfold hBox at h;split at h
 ·exact ⟨_,rfl,h⟩
 ·cases h
end
end Go.Proofs.YtbmmhdmljajcfaaGreatDoor.V
namespace Go.Proofs.YtbmmhdmljajcfaaGreatDoor.V
open Go
theorem all_nil {α:Type} {Q:α->Prop}: ∀p∈([]:List α),Q p:=fun _ h=>by cases h
theorem all_cons {α:Type} {Q:α->Prop} {a:α} {l:List α} (h:Q a) (t: ∀p∈l,Q p): ∀p∈a::l,Q p:=fun p hp=>by
 rcases List.mem_cons.1 hp with rfl|hp
 ·exact h
 ·exact t p hp
theorem look_mem {α:Type}: ∀ {l:List (Nat×α)} {i:Nat} {x:α},look l i=some x->(i,x)∈l
 | (j,y)::l,i,x,h=>by
   simp only[look] at h
   cases e:j==i with
   |true=>rw[e] at h;simp at h;subst h;have:=eq_of_beq e;subst this;simp
   |false=>rw[e] at h;exact List.mem_cons_of_mem _ (look_mem h)
structure Ent (R:Type) where
 sig:Sig
 phi:List DV->(List DV->Option R)->Option R
def mkG {R:Type} (tt:TT) (l:List (Nat×Ent R)) (nt:Nat):Glob R:=
 ⟨tt,fun f ds K=>match look l f with|some e=>e.phi ds K|none=>none,fun f=>match look l f with|some e=>some e.sig|none=>none,nt⟩
def EntOK {R:Type} (P:Program) (p:Nat×Ent R):Prop:= ∀(ds:List DV) (K:List DV->Option R) (r:R),p.2.phi ds K=some r->Enters P p.1/\ ∃rs,Contract P p.1 p.2.sig ds rs/\K rs=some r
theorem GOK_of {R:Type} {P:Program} {tt:TT} {l:List (Nat×Ent R)} {nt:Nat} (T:TOK P tt) (h: ∀p∈l,EntOK P p):GOK P (mkG tt l nt):=by
 refine ⟨T,fun f g ds K r hs hk=> ?_⟩
 simp only[mkG] at hs hk
 split at hk
 ·rename_i e he
  simp only[he] at hs
  cases hs
  exact h _ (look_mem he) ds K r hk
 ·cases hk
def loopsOf:Code->List Code
 | .loop b=>b::loopsOf b
 | .seq a b=>loopsOf a++loopsOf b
 | .cond _ a b=>loopsOf a++loopsOf b
 | .block _ b=>loopsOf b
 |_=>[]
theorem LoopsOK_all {R:Type} {G:Glob R} {live:List (Nat×List Nat)} {Λ:LTab R}: ∀(c:Code),(∀b∈loopsOf c,∀K vs hs r,Λ (keyOf b) K vs hs=some r->LoopFit G live Λ b K vs hs r)->LoopsOK G live Λ c:=by
 intro c
 induction c with
 |loop b ih=>intro h;exact ⟨h b (by simp[loopsOf]),ih fun b' hb=>h b' (by simp[loopsOf,hb])⟩
 |seq a b iha ihb=>intro h;exact ⟨iha fun b' hb=>h b' (by simp[loopsOf,hb]),ihb fun b' hb=>h b' (by simp[loopsOf,hb])⟩
 |cond x a b iha ihb=>intro h;exact ⟨iha fun b' hb=>h b' (by simp[loopsOf,hb]),ihb fun b' hb=>h b' (by simp[loopsOf,hb])⟩
 |block i b ih=>intro h;exact ih fun b' hb=>h b' (by simp[loopsOf,hb])
 |_=>intro _;exact trivial
theorem LoopsOK_of {R:Type} {G:Glob R} {live:List (Nat×List Nat)} {Λ:LTab R} {c:Code} {ls:List Code} (e:loopsOf c=ls) (h: ∀b∈ls,∀K vs hs r,Λ (keyOf b) K vs hs=some r->LoopFit G live Λ b K vs hs r):LoopsOK G live Λ c:=
 LoopsOK_all c (by rw[e];exact h)
theorem TOK_of {P:Program} {l:List (Nat×TE)} (h: ∀p∈l,TFact P (look l) p.1 p.2):TOK P (look l):=fun t e he=>h _ (look_mem he)
theorem info_ok {P:Program} {t s b:Nat} {zs:List Value} (h1:(P.info? t).map (fun i=>(i.size,i.bytes))=some (s,b)) (h2:((P.info? t).bind (fun i=>i.zero)).map (fun z=>z.cells.toList)=some zs): ∃i,P.info? t=some i/\i.size=s/\i.bytes=b/\ ∃z,i.zero=some z/\z.cells.toList=zs:=by
 cases hi:P.info? t with
 |none=>rw[hi] at h1;cases h1
 |some i=>
  rw[hi] at h1 h2
  simp only[Option.map_some,Option.some.injEq,Prod.mk.injEq] at h1
  simp only[Option.bind_some] at h2
  cases hz:i.zero with
  |none=>rw[hz] at h2;cases h2
  |some z=>
   rw[hz] at h2
   simp only[Option.map_some,Option.some.injEq] at h2
   exact ⟨i,rfl,h1.1,h1.2,z,hz,h2⟩
theorem fields_ok {P:Program} {fields:Array Field} (h:(fields.toList.all fun f=>match P.info? f.type with|some i=> !(i.size==0)|none=>false)=true): ∀f∈fields.toList,∃i,P.info? f.type=some i/\i.size≠0:=fun f hf=>by
 have:=List.all_eq_true.1 h f hf
 split at this
 ·rename_i i hi;exact ⟨i,hi,by simpa using this⟩
 ·cases this
end Go.Proofs.YtbmmhdmljajcfaaGreatDoor.V
namespace Go.Proofs.YtbmmhdmljajcfaaGreatDoor.V
open Go
inductive LK where
 |int (k:IntKind)|bool|str|err|ints (k:IntKind)|bools|strs|rows|recs (sg:List Bool)
abbrev LK.Ty:LK->Type
 | .int _=>Int
 | .bool=>Bool
 | .str=>ByteArray
 | .err=>Bool
 | .ints _=>List Int
 | .bools=>List Bool
 | .strs=>List ByteArray
 | .rows=>List (List Int)
 | .recs _=>List (List Leaf)
def LK.dl (c:Cls):(k:LK)->k.Ty->DL
 | .int k,n=> .i k n
 | .bool,b=> .b b
 | .str,s=> .s s
 | .err,b=> .er b
 | .ints k,l=> .sl c (.ints k l)
 | .bools,l=> .sl c (.bools l)
 | .strs,l=> .sl c (.strs l)
 | .rows,l=> .sl c (.rows (decide (c= .own)) l)
 | .recs sg,l=> .sl c (.recs sg (decide (c= .own)) l)
def LK.tell {R:Type} (c:Cls):(k:LK)->DL->(k.Ty->Option R)->Option R
 | .int k,d,K=>dI k d K
 | .bool,d,K=>dB d K
 | .str,d,K=>dS d K
 | .err,d,K=>dE d K
 | .ints k,d,K=>dInts c k d K
 | .bools,d,K=>dBools c d K
 | .strs,d,K=>dStrs c d K
 | .rows,d,K=>dRows c d K
 | .recs sg,d,K=>dRecs c sg d K
theorem LK.tell_some {R:Type} {c:Cls} {k:LK} {d:DL} {K:k.Ty->Option R} {r:R} (h:k.tell c d K=some r): ∃x,d=k.dl c x/\K x=some r:=by
 cases k with
 |int k=>exact dI_some h
 |bool=>exact dB_some h
 |str=>exact dS_some h
 |err=>exact dE_some h
 |ints k=>exact dInts_some h
 |bools=>exact dBools_some h
 |strs=>exact dStrs_some h
 |rows=>exact dRows_some h
 |recs sg=>exact dRecs_some h
abbrev FnL:List LK->Type->Type
 | [],R=>R
 |k::ks,R=>k.Ty->FnL ks R
abbrev TyL:List LK->Type
 | []=>Unit
 |k::ks=>k.Ty×TyL ks
def dls (c:Cls):(ks:List LK)->TyL ks->List DL
 | [],_=>[]
 |k::ks,x=>k.dl c x.1::dls c ks x.2
def appL {R:Type}:(ks:List LK)->FnL ks R->TyL ks->R
 | [],f,_=>f
 |_::ks,f,x=>appL ks (f x.1) x.2
def tellL {R S:Type} (c:Cls):(ks:List LK)->List DL->FnL ks S->(S->Option R)->Option R
 | [],ds,f,K=>lNil ds (K f)
 |k::ks,ds,f,K=>lHead ds fun d ds=>k.tell c d fun x=>tellL c ks ds (f x) K
theorem tellL_some {R S:Type} {c:Cls} {r:R}: ∀ {ks:List LK} {ds:List DL} {f:FnL ks S} {K:S->Option R},tellL c ks ds f K=some r-> ∃x,ds=dls c ks x/\K (appL ks f x)=some r
 | [],ds,f,K,h=>by
   obtain ⟨rfl,h'⟩:=lNil_some h
   exact ⟨(),rfl,h'⟩
 |k::ks,ds,f,K,h=>by
  obtain ⟨d,ds',rfl,h1⟩:=lHead_some h
  obtain ⟨x,rfl,h2⟩:=LK.tell_some h1
  obtain ⟨y,rfl,h3⟩:=tellL_some h2
  exact ⟨(x,y),rfl,h3⟩
inductive DK where
 |l (c:Cls) (k:LK)|agg (c:Cls) (ks:List LK)|ptr (ks:List LK)
abbrev FnD:List DK->Type->Type
 | [],R=>R
 | .l _ k::ds,R=>k.Ty->FnD ds R
 | .agg _ ks::ds,R=>FnL ks (FnD ds R)
 | .ptr ks::ds,R=>FnL ks (FnD ds R)
abbrev TyD:List DK->Type
 | []=>Unit
 | .l _ k::ds=>k.Ty×TyD ds
 | .agg _ ks::ds=>TyL ks×TyD ds
 | .ptr ks::ds=>TyL ks×TyD ds
def dvs:(ks:List DK)->TyD ks->List DV
 | [],_=>[]
 | .l c k::ds,x=> .l (k.dl c x.1)::dvs ds x.2
 | .agg c ks::ds,x=> .agg (dls c ks x.1)::dvs ds x.2
 | .ptr ks::ds,x=> .ptr (dls .frz ks x.1)::dvs ds x.2
def appD {R:Type}:(ks:List DK)->FnD ks R->TyD ks->R
 | [],f,_=>f
 | .l _ _::ds,f,x=>appD ds (f x.1) x.2
 | .agg _ ks::ds,f,x=>appD ds (appL ks f x.1) x.2
 | .ptr ks::ds,f,x=>appD ds (appL ks f x.1) x.2
def tellD {R:Type}:(ks:List DK)->List DV->FnD ks (Option R)->Option R
 | [],ds,f=>dNil ds f
 | .l c k::ks,ds,f=>dHead ds fun d ds=>dL d fun y=>k.tell c y fun x=>tellD ks ds (f x)
 | .agg c ls::ks,ds,f=>dHead ds fun d ds=>dAgg d fun y=>tellL c ls y f fun g=>tellD ks ds g
 | .ptr ls::ks,ds,f=>dHead ds fun d ds=>dPtr d fun y=>tellL .frz ls y f fun g=>tellD ks ds g
theorem tellD_some {R:Type} {r:R}: ∀ {ks:List DK} {ds:List DV} {f:FnD ks (Option R)},tellD ks ds f=some r-> ∃x,ds=dvs ks x/\appD ks f x=some r
 | [],ds,f,h=>by
   obtain ⟨rfl,h'⟩:=dNil_some h
   exact ⟨(),rfl,h'⟩
 | .l c k::ks,ds,f,h=>by
   obtain ⟨d,ds',rfl,h1⟩:=dHead_some h
   obtain ⟨y,rfl,h2⟩:=dL_some h1
   obtain ⟨x,rfl,h3⟩:=LK.tell_some h2
   obtain ⟨z,rfl,h4⟩:=tellD_some h3
   exact ⟨(x,z),rfl,h4⟩
 | .agg c ls::ks,ds,f,h=>by
   obtain ⟨d,ds',rfl,h1⟩:=dHead_some h
   obtain ⟨y,rfl,h2⟩:=dAgg_some h1
   obtain ⟨x,rfl,h3⟩:=tellL_some h2
   obtain ⟨z,rfl,h4⟩:=tellD_some h3
   exact ⟨(x,z),rfl,h4⟩
 | .ptr ls::ks,ds,f,h=>by
   obtain ⟨d,ds',rfl,h1⟩:=dHead_some h
   obtain ⟨y,rfl,h2⟩:=dPtr_some h1
   obtain ⟨x,rfl,h3⟩:=tellL_some h2
   obtain ⟨z,rfl,h4⟩:=tellD_some h3
   exact ⟨(x,z),rfl,h4⟩
inductive SK where
 |i (k:IntKind)|b|s|er|bc (x:Bool)|own (id:Nat)|sub (id:Nat)|ptr (id k:Nat)|arr (id n:Nat)|any|nil|val (p:Bool) (o:Bool) (k:LK)
abbrev SK.Ty:SK->Type
 | .i _=>Int
 | .b=>Bool
 | .s=>ByteArray
 | .er=>Bool
 | .sub _=>Nat×Nat
 | .val _ _ k=>k.Ty
 |_=>Unit
def LK.row (o:Bool):(k:LK)->k.Ty->Row
 | .ints k,l=> .ints k l
 | .bools,l=> .bools l
 | .strs,l=> .strs l
 | .rows,l=> .rows o l
 | .recs sg,l=> .recs sg o l
 | .int _,_=> .bools []
 | .bool,_=> .bools []
 | .str,_=> .bools []
 | .err,_=> .bools []
def LK.tellRow {R:Type} (o:Bool):(k:LK)->Row->(k.Ty->Option R)->Option R
 | .ints k,w,K=>rwInts k w K
 | .bools,w,K=>rwBools w K
 | .strs,w,K=>rwStrs w K
 | .rows,w,K=>rwRows o w K
 | .recs sg,w,K=>rwRecs sg o w K
 |_,_,_=>none
theorem LK.tellRow_some {R:Type} {r:R} {o:Bool} {k:LK} {w:Row} {K:k.Ty->Option R} (h:k.tellRow o w K=some r): ∃x,w=k.row o x/\K x=some r:=by
 cases k with
 |ints k=>exact rwInts_some h
 |bools=>exact rwBools_some h
 |strs=>exact rwStrs_some h
 |rows=>exact rwRows_some h
 |recs sg=>exact rwRecs_some h
 |_=>cases h
def SK.lv:(k:SK)->k.Ty->LV
 | .i k,n=> .i k n
 | .b,x=> .b x
 | .s,x=> .s x
 | .er,x=> .er x
 | .bc x,_=> .b x
 | .own id,_=> .own id
 | .sub id,x=> .sub id x.1 x.2
 | .ptr id k,_=> .bptr id k
 | .arr id n,_=> .arr id n
 | .any,_=> .any
 | .nil,_=> .nil
 | .val p o k,x=> .val p (k.row o x)
def lBc {R:Type} (b:Bool) (x:LV) (K:Option R):Option R:=match x with| .b c=>(bif c==b then K else none)|_=>none
theorem lBc_some {R:Type} {r:R} {b:Bool} {x:LV} {K:Option R} (h:lBc b x K=some r):x= .b b/\K=some r:=by
 unfold lBc at h;split at h
 ·obtain ⟨h1,h2⟩:=bif_some h
  have e:=eq_of_beq h1
  subst e;exact ⟨rfl,h2⟩
 ·cases h
def SK.tell {R:Type}:(k:SK)->LV->(k.Ty->Option R)->Option R
 | .i k,x,K=>lI k x K
 | .b,x,K=>lB x K
 | .s,x,K=>lS x K
 | .er,x,K=>lE x K
 | .bc b0,x,K=>lBc b0 x (K ())
 | .own id,x,K=>lOwn id x (K ())
 | .sub id,x,K=>lSub id x fun a b=>K (a,b)
 | .ptr id k,x,K=>lPtr id k x (K ())
 | .arr id n,x,K=>lArr id n x (K ())
 | .any,x,K=>lAny x (K ())
 | .nil,x,K=>lNilS x (K ())
 | .val p o k,x,K=>lVal p x fun w=>k.tellRow o w K
theorem SK.tell_some {R:Type} {r:R} {k:SK} {x:LV} {K:k.Ty->Option R} (h:k.tell x K=some r): ∃y,x=k.lv y/\K y=some r:=by
 cases k with
 |i k=>exact lI_some h
 |b=>exact lB_some h
 |s=>exact lS_some h
 |er=>exact lE_some h
 |bc b=>obtain ⟨h1,h2⟩:=lBc_some h;exact ⟨(),h1,h2⟩
 |own id=>obtain ⟨h1,h2⟩:=lOwn_some h;exact ⟨(),h1,h2⟩
 |sub id=>obtain ⟨lo,hi,h1,h2⟩:=lSub_some h;exact ⟨(lo,hi),h1,h2⟩
 |ptr id k=>obtain ⟨h1,h2⟩:=lPtr_some h;exact ⟨(),h1,h2⟩
 |arr id n=>obtain ⟨h1,h2⟩:=lArr_some h;exact ⟨(),h1,h2⟩
 |any=>obtain ⟨h1,h2⟩:=lAny_some h;exact ⟨(),h1,h2⟩
 |nil=>obtain ⟨h1,h2⟩:=lNilS_some h;exact ⟨(),h1,h2⟩
 |val p o k=>
  obtain ⟨w,h1,h2⟩:=lVal_some h
  obtain ⟨y,h3,h4⟩:=LK.tellRow_some h2
  exact ⟨y,by rw[h1,h3];rfl,h4⟩
abbrev FnS:List SK->Type->Type
 | [],R=>R
 | .i _::ks,R=>Int->FnS ks R
 | .b::ks,R=>Bool->FnS ks R
 | .s::ks,R=>ByteArray->FnS ks R
 | .er::ks,R=>Bool->FnS ks R
 | .sub _::ks,R=>Nat->Nat->FnS ks R
 | .val _ _ k::ks,R=>k.Ty->FnS ks R
 |_::ks,R=>FnS ks R
abbrev TyS:List SK->Type
 | []=>Unit
 |k::ks=>k.Ty×TyS ks
def app1 {R:Type}:(k:SK)->(ks:List SK)->FnS (k::ks) R->k.Ty->FnS ks R
 | .i _,_,f,x=>f x
 | .b,_,f,x=>f x
 | .s,_,f,x=>f x
 | .er,_,f,x=>f x
 | .sub _,_,f,x=>f x.1 x.2
 | .val _ _ _,_,f,x=>f x
 | .bc _,_,f,_=>f
 | .own _,_,f,_=>f
 | .ptr _ _,_,f,_=>f
 | .arr _ _,_,f,_=>f
 | .any,_,f,_=>f
 | .nil,_,f,_=>f
def lvs:(ks:List SK)->TyS ks->List LV
 | [],_=>[]
 |k::ks,x=>k.lv x.1::lvs ks x.2
def appS {R:Type}:(ks:List SK)->FnS ks R->TyS ks->R
 | [],f,_=>f
 |k::ks,f,x=>appS ks (app1 k ks f x.1) x.2
def tellS {R S:Type}:(ks:List SK)->List LV->FnS ks S->(S->Option R)->Option R
 | [],xs,f,K=>cNil xs (K f)
 |k::ks,xs,f,K=>cHead xs fun x xs=>k.tell x fun y=>tellS ks xs (app1 k ks f y) K
theorem tellS_some {R S:Type} {r:R}: ∀ {ks:List SK} {xs:List LV} {f:FnS ks S} {K:S->Option R},tellS ks xs f K=some r-> ∃y,xs=lvs ks y/\K (appS ks f y)=some r
 | [],xs,f,K,h=>by
   obtain ⟨rfl,h'⟩:=cNil_some h
   exact ⟨(),rfl,h'⟩
 |k::ks,xs,f,K,h=>by
  obtain ⟨x,xs',rfl,h1⟩:=cHead_some h
  obtain ⟨y,rfl,h2⟩:=SK.tell_some h1
  obtain ⟨z,rfl,h3⟩:=tellS_some h2
  exact ⟨(y,z),rfl,h3⟩
inductive VK where
 |l (k:SK)|agg (ks:List SK)
abbrev VK.ks:VK->List SK
 | .l k=>[k]
 | .agg ks=>ks
def VK.av:(k:VK)->TyS k.ks->AV
 | .l k,x=> .one (.l (k.lv x.1))
 | .agg ks,x=> .one (.agg (lvs ks x))
def VK.tell {R S:Type}:(k:VK)->AV->FnS k.ks S->(S->Option R)->Option R
 | .l k,v,f,K=>vL v fun x=>k.tell x fun y=>K (app1 k [] f y)
 | .agg ks,v,f,K=>vAgg v fun xs=>tellS ks xs f K
theorem VK.tell_some {R S:Type} {r:R} {k:VK} {v:AV} {f:FnS k.ks S} {K:S->Option R} (h:k.tell v f K=some r): ∃y,v=k.av y/\K (appS k.ks f y)=some r:=by
 cases k with
 |l k=>
  obtain ⟨x,rfl,h1⟩:=vL_some h
  obtain ⟨y,rfl,h2⟩:=SK.tell_some h1
  exact ⟨(y,()),rfl,h2⟩
 |agg ks=>
  obtain ⟨xs,rfl,h1⟩:=vAgg_some h
  obtain ⟨y,rfl,h2⟩:=tellS_some h1
  exact ⟨y,rfl,h2⟩
inductive RK where
 |row (o:Bool) (k:LK)|box (ks:List SK)
abbrev RK.Fn:RK->Type->Type
 | .row _ k,R=>k.Ty->R
 | .box ks,R=>FnS ks R
abbrev RK.Ty:RK->Type
 | .row _ k=>k.Ty
 | .box ks=>TyS ks
def RK.app {R:Type}:(k:RK)->k.Fn R->k.Ty->R
 | .row _ _,f,x=>f x
 | .box ks,f,x=>appS ks f x
def RK.root:(k:RK)->k.Ty->Option Root
 | .row o k,x=>some (.row 0 0 (k.row o x))
 | .box ks,x=>some (.box 0 (lvs ks x))
def RK.tell {R S:Type}:(k:RK)->Option Root->k.Fn S->(S->Option R)->Option R
 | .row o k,x,f,K=>hRow x fun w=>k.tellRow o w fun y=>K (f y)
 | .box ks,x,f,K=>hBox x fun c=>tellS ks c f K
theorem RK.tell_some {R S:Type} {r:R} {k:RK} {x:Option Root} {f:k.Fn S} {K:S->Option R} (h:k.tell x f K=some r): ∃y,x=k.root y/\K (k.app f y)=some r:=by
 cases k with
 |row o k=>
  obtain ⟨w,rfl,h1⟩:=hRow_some h
  obtain ⟨y,rfl,h2⟩:=LK.tellRow_some h1
  exact ⟨y,rfl,h2⟩
 |box ks=>
  obtain ⟨c,rfl,h1⟩:=hBox_some h
  obtain ⟨y,rfl,h2⟩:=tellS_some h1
  exact ⟨y,rfl,h2⟩
abbrev FnR:List RK->Type->Type
 | [],R=>R
 |k::ks,R=>k.Fn (FnR ks R)
abbrev TyR:List RK->Type
 | []=>Unit
 |k::ks=>k.Ty×TyR ks
def roots:(ks:List RK)->TyR ks->List (Option Root)
 | [],_=>[]
 |k::ks,x=>k.root x.1::roots ks x.2
def appR {R:Type}:(ks:List RK)->FnR ks R->TyR ks->R
 | [],f,_=>f
 |k::ks,f,x=>appR ks (k.app f x.1) x.2
def tellR {R:Type}:(ks:List RK)->List (Option Root)->FnR ks (Option R)->Option R
 | [],hs,f=>hNil hs f
 |k::ks,hs,f=>hHead hs fun h hs=>k.tell h f fun g=>tellR ks hs g
theorem tellR_some {R:Type} {r:R}: ∀ {ks:List RK} {hs:List (Option Root)} {f:FnR ks (Option R)},tellR ks hs f=some r-> ∃y,hs=roots ks y/\appR ks f y=some r
 | [],hs,f,h=>by
   obtain ⟨rfl,h'⟩:=hNil_some h
   exact ⟨(),rfl,h'⟩
 |k::ks,hs,f,h=>by
  obtain ⟨x,hs',rfl,h1⟩:=hHead_some h
  obtain ⟨y,rfl,h2⟩:=RK.tell_some h1
  obtain ⟨z,rfl,h3⟩:=tellR_some h2
  exact ⟨(y,z),rfl,h3⟩
abbrev FnV:List VK->Type->Type
 | [],R=>R
 |k::ks,R=>FnS k.ks (FnV ks R)
abbrev TyV:List VK->Type
 | []=>Unit
 |k::ks=>TyS k.ks×TyV ks
def avs:(ks:List VK)->TyV ks->List AV
 | [],_=>[]
 |k::ks,x=>k.av x.1::avs ks x.2
def appV {R:Type}:(ks:List VK)->FnV ks R->TyV ks->R
 | [],f,_=>f
 |k::ks,f,x=>appV ks (appS k.ks f x.1) x.2
def tellV {R S:Type}:(ks:List VK)->List AV->FnV ks S->(S->Option R)->Option R
 | [],vs,f,K=>aNil vs (K f)
 |k::ks,vs,f,K=>aHead vs fun v vs=>k.tell v f fun g=>tellV ks vs g K
theorem tellV_some {R S:Type} {r:R}: ∀ {ks:List VK} {vs:List AV} {f:FnV ks S} {K:S->Option R},tellV ks vs f K=some r-> ∃y,vs=avs ks y/\K (appV ks f y)=some r
 | [],vs,f,K,h=>by
   obtain ⟨rfl,h'⟩:=aNil_some h
   exact ⟨(),rfl,h'⟩
 |k::ks,vs,f,K,h=>by
  obtain ⟨x,vs',rfl,h1⟩:=aHead_some h
  obtain ⟨y,rfl,h2⟩:=VK.tell_some h1
  obtain ⟨z,rfl,h3⟩:=tellV_some h2
  exact ⟨(y,z),rfl,h3⟩
structure Hd where
 vs:List VK
 hs:List RK
abbrev Hd.Fn (H:Hd) (R:Type):Type:=FnV H.vs (FnR H.hs R)
abbrev Hd.Ty (H:Hd):Type:=TyV H.vs×TyR H.hs
def Hd.enc (H:Hd) (x:H.Ty):List AV×List (Option Root):=(avs H.vs x.1,roots H.hs x.2)
def Hd.app {R:Type} (H:Hd) (f:H.Fn R) (x:H.Ty):R:=appR H.hs (appV H.vs f x.1) x.2
def Hd.tell {R:Type} (H:Hd) (vs:List AV) (hs:List (Option Root)) (f:H.Fn (Option R)):Option R:=tellV H.vs vs f fun g=>tellR H.hs hs g
theorem Hd.tell_some {R:Type} {r:R} {H:Hd} {vs:List AV} {hs:List (Option Root)} {f:H.Fn (Option R)} (h:H.tell vs hs f=some r): ∃x,H.enc x=(vs,hs)/\H.app f x=some r:=by
 obtain ⟨x,rfl,h1⟩:=tellV_some h
 obtain ⟨y,rfl,h2⟩:=tellR_some h1
 exact ⟨(x,y),rfl,h2⟩
abbrev Fit {R:Type} (G:Glob R) (live:List (Nat×List Nat)) (Λ:LTab R) (b:Code):Prop:= ∀K vs hs r,Λ (keyOf b) K vs hs=some r->LoopFit G live Λ b K vs hs r
def mapL {S T:Type}:(ks:List LK)->(S->T)->FnL ks S->FnL ks T
 | [],m,f=>m f
 |_::ks,m,f=>fun x=>mapL ks m (f x)
def mapD {S T:Type}:(ks:List DK)->(S->T)->FnD ks S->FnD ks T
 | [],m,f=>m f
 | .l _ _::ds,m,f=>fun x=>mapD ds m (f x)
 | .agg _ ks::ds,m,f=>mapL ks (mapD ds m) f
 | .ptr ks::ds,m,f=>mapL ks (mapD ds m) f
theorem appL_map {S T:Type} (m:S->T): ∀(ks:List LK) (f:FnL ks S) (x:TyL ks),appL ks (mapL ks m f) x=m (appL ks f x)
 | [],f,x=>rfl
 |_::ks,f,x=>appL_map m ks (f x.1) x.2
theorem appD_map {S T:Type} (m:S->T): ∀(ks:List DK) (f:FnD ks S) (x:TyD ks),appD ks (mapD ks m f) x=m (appD ks f x)
 | [],f,x=>rfl
 | .l _ _::ds,f,x=>appD_map m ds (f x.1) x.2
 | .agg _ ks::ds,f,x=>by
   show appD ds (appL ks (mapL ks (mapD ds m) f) x.1) x.2=_
   rw[appL_map,appD_map m ds]
   rfl
 | .ptr ks::ds,f,x=>by
   show appD ds (appL ks (mapL ks (mapD ds m) f) x.1) x.2=_
   rw[appL_map,appD_map m ds]
   rfl
def phiOf {R Y:Type} (pk:List DK) (F:FnD pk (Option Y)) (enc:Y->List DV) (ds:List DV) (K:List DV->Option R):Option R:=tellD pk ds (mapD pk (fun o=>o.bind fun r=>K (enc r)) F)
theorem ok_of {R Y:Type} {P:Program} {f:FuncId} {g:Sig} {pk:List DK} {F:FnD pk (Option Y)} {enc:Y->List DV} (he:Enters P f) (hc: ∀(x:TyD pk) (r:Y),appD pk F x=some r->Contract P f g (dvs pk x) (enc r)):EntOK (R:=R) P (f,⟨g,phiOf pk F enc⟩):=fun ds K r h0=>by
 obtain ⟨x,rfl,h⟩:=tellD_some h0
 rw[appD_map] at h
 obtain ⟨y,h1,h2⟩:=Option.bind_eq_some_iff.1 h
 exact ⟨he,_,hc x y h1,h2⟩
def lks:List DK->List LK
 | []=>[]
 | .l _ k::ds=>k::lks ds
 | .agg _ ks::ds=>ks++lks ds
 | .ptr ks::ds=>ks++lks ds
abbrev FT:List LK->Type
 | []=>Unit
 | [k]=>k.Ty
 |k::j::ks=>k.Ty×FT (j::ks)
def toFT:(ks:List LK)->TyL ks->FT ks
 | [],_=>()
 | [_],x=>x.1
 |_::j::ks,x=>(x.1,toFT (j::ks) x.2)
def unFT:(ks:List LK)->FT ks->TyL ks
 | [],_=>()
 | [_],x=>(x,())
 |_::j::ks,x=>(x.1,unFT (j::ks) x.2)
theorem unFT_toFT: ∀(ks:List LK) (x:TyL ks),unFT ks (toFT ks x)=x
 | [],_=>rfl
 | [_],_=>rfl
 |_::j::ks,x=>congrArg (Prod.mk x.1) (unFT_toFT (j::ks) x.2)
def catL:(ks ls:List LK)->TyL ks->TyL ls->TyL (ks++ls)
 | [],_,_,y=>y
 |_::ks,ls,x,y=>(x.1,catL ks ls x.2 y)
def cutL:(ks ls:List LK)->TyL (ks++ls)->TyL ks×TyL ls
 | [],_,y=>((),y)
 |_::ks,ls,x=>((x.1,(cutL ks ls x.2).1),(cutL ks ls x.2).2)
theorem cut_cat: ∀(ks ls:List LK) (x:TyL ks) (y:TyL ls),cutL ks ls (catL ks ls x y)=(x,y)
 | [],_,_,_=>rfl
 |_::ks,ls,x,y=>by
  have h:=cut_cat ks ls x.2 y
  show ((x.1,(cutL ks ls (catL ks ls x.2 y)).1),(cutL ks ls (catL ks ls x.2 y)).2)=(x,y)
  rw[h]
def flatD:(ks:List DK)->TyD ks->TyL (lks ks)
 | [],_=>()
 | .l _ _::ds,x=>(x.1,flatD ds x.2)
 | .agg _ ks::ds,x=>catL ks (lks ds) x.1 (flatD ds x.2)
 | .ptr ks::ds,x=>catL ks (lks ds) x.1 (flatD ds x.2)
def unD:(ks:List DK)->TyL (lks ks)->TyD ks
 | [],_=>()
 | .l _ _::ds,x=>(x.1,unD ds x.2)
 | .agg _ ks::ds,x=>((cutL ks (lks ds) x).1,unD ds (cutL ks (lks ds) x).2)
 | .ptr ks::ds,x=>((cutL ks (lks ds) x).1,unD ds (cutL ks (lks ds) x).2)
theorem unD_flatD: ∀(ks:List DK) (x:TyD ks),unD ks (flatD ks x)=x
 | [],_=>rfl
 | .l _ _::ds,x=>congrArg (Prod.mk x.1) (unD_flatD ds x.2)
 | .agg _ ks::ds,x=>by
   show ((cutL ks (lks ds) (catL ks (lks ds) x.1 (flatD ds x.2))).1,unD ds (cutL ks (lks ds) (catL ks (lks ds) x.1 (flatD ds x.2))).2)=x
   rw[cut_cat,unD_flatD ds x.2]
 | .ptr ks::ds,x=>by
   show ((cutL ks (lks ds) (catL ks (lks ds) x.1 (flatD ds x.2))).1,unD ds (cutL ks (lks ds) (catL ks (lks ds) x.1 (flatD ds x.2))).2)=x
   rw[cut_cat,unD_flatD ds x.2]
def curL {S:Type}:(ks:List LK)->(TyL ks->S)->FnL ks S
 | [],f=>f ()
 |_::ks,f=>fun x=>curL ks fun y=>f (x,y)
def curD {S:Type}:(ks:List DK)->(TyD ks->S)->FnD ks S
 | [],f=>f ()
 | .l _ _::ds,f=>fun x=>curD ds fun y=>f (x,y)
 | .agg _ ks::ds,f=>curL ks fun x=>curD ds fun y=>f (x,y)
 | .ptr ks::ds,f=>curL ks fun x=>curD ds fun y=>f (x,y)
theorem appL_cur {S:Type}: ∀(ks:List LK) (f:TyL ks->S) (x:TyL ks),appL ks (curL ks f) x=f x
 | [],_,_=>rfl
 |_::ks,f,x=>appL_cur ks (fun y=>f (x.1,y)) x.2
theorem appD_cur {S:Type}: ∀(ks:List DK) (f:TyD ks->S) (x:TyD ks),appD ks (curD ks f) x=f x
 | [],_,_=>rfl
 | .l _ _::ds,f,x=>appD_cur ds (fun y=>f (x.1,y)) x.2
 | .agg _ ks::ds,f,x=>by
   show appD ds (appL ks (curL ks fun x=>curD ds fun y=>f (x,y)) x.1) x.2=f x
   rw[appL_cur,appD_cur]
 | .ptr ks::ds,f,x=>by
   show appD ds (appL ks (curL ks fun x=>curD ds fun y=>f (x,y)) x.1) x.2=f x
   rw[appL_cur,appD_cur]
def encF (rk:List DK) (r:FT (lks rk)):List DV:=dvs rk (unD rk (unFT (lks rk) r))
def decF (rk:List DK) (ds:List DV):Option (FT (lks rk)):=tellD rk ds (curD rk fun x=>some (toFT (lks rk) (flatD rk x)))
theorem decF_some {rk:List DK} {ds:List DV} {r:FT (lks rk)} (h:decF rk ds=some r):ds=encF rk r:=by
 obtain ⟨x,rfl,h1⟩:=tellD_some h
 rw[appD_cur] at h1
 cases h1
 unfold encF
 rw[unFT_toFT,unD_flatD]
structure Sp where
 f:FuncId
 sig:Sig
 pk:List DK
 rk:List DK
abbrev Sp.Y (S:Sp):Type:=FT (lks S.rk)
def Sp.ent {R:Type} (S:Sp) (F:FnD S.pk (Option S.Y)):Nat×Ent R:=(S.f,⟨S.sig,phiOf S.pk F (encF S.rk)⟩)
def Con (P:Program) (S:Sp) (F:FnD S.pk (Option S.Y)):Prop:=Enters P S.f/\ ∀(x:TyD S.pk) (r:S.Y),appD S.pk F x=some r->Contract P S.f S.sig (dvs S.pk x) (encF S.rk r)
theorem ok_con {R:Type} {P:Program} {S:Sp} {F:FnD S.pk (Option S.Y)} (h:Con P S F):EntOK (R:=R) P (S.ent F):=ok_of h.1 h.2
noncomputable def bd (fn:Func):Code:=(fn.body).getD .skip
noncomputable def bl (fn:Func) (i:Nat):Code:=((loopsOf (bd fn))[i]?).getD .skip
def noL {R:Type}:LTab R:=fun _ _ _ _=>none
def pre (fn:Func) (g:Sig) (body:Code):Option Code×List Code×Nat×Bool×Nat×Bool:=(fn.body,loopsOf body,fn.ntmps,Nat.ble g.params.length fn.ntmps,fn.results.size,fn.name== "runtime.NumGoroutine")
theorem con_fn {P:Program} {tt:TT} {S:Sp} {F:FnD S.pk (Option S.Y)} {l:List (Nat×Ent S.Y)} {nt:Nat} {live:List (Nat×List Nat)} {Λ:LTab S.Y} {fn:Func} {ls:List Code} (T:TOK P tt) (hG: ∀p∈l,EntOK P p) (hm:P.follows .mixedOrders=true) (hf:P.funcs[S.f]? =some fn) (hp:pre fn S.sig (bd fn)=(some (bd fn),ls,nt,true,S.sig.results.length,false)) (hl: ∀b∈ls,Fit (mkG tt l nt) live Λ b) (he: ∀x,evFn (mkG tt l nt) live Λ S.sig fn (dvs S.pk x) (decF S.rk)=appD S.pk F x):Con P S F:=by
 simp only[pre,Prod.mk.injEq] at hp
 obtain ⟨h1,h2,h3,h4,h5,h6⟩:=hp
 refine ⟨⟨fn,hf,h6,by rw[h1];rfl⟩,fun x r h=> ?_⟩
 exact fn_contract (GOK_of T hG) hm hf h1 (LoopsOK_of h2 fun b hb K vs hs r h=>hl b hb K vs hs r h) h3.symm (Nat.le_of_ble_eq_true h4) h5 (fun _ h=>decF_some h) ((he x).trans h)
theorem con_rec {P:Program} {S:Sp} {g:Nat->FnD S.pk (Option S.Y)} {b:FnD S.pk (Option S.Y)->FnD S.pk (Option S.Y)} (he:Enters P S.f) (h0: ∀x,appD S.pk (g 0) x=none) (h1: ∀n,g (n+1)=b (g n)) (hs: ∀F,Con P S F->Con P S (b F)): ∀n,Con P S (g n)
 |0=>⟨he,fun x r h=>by rw[h0] at h;cases h⟩
 |n+1=>by rw[h1];exact hs _ (con_rec he h0 h1 hs n)
def curS {R:Type}:(ks:List SK)->(TyS ks->R)->FnS ks R
 | [],f=>f ()
 | .i _::ks,f=>fun x=>curS ks fun y=>f (x,y)
 | .b::ks,f=>fun x=>curS ks fun y=>f (x,y)
 | .s::ks,f=>fun x=>curS ks fun y=>f (x,y)
 | .er::ks,f=>fun x=>curS ks fun y=>f (x,y)
 | .sub _::ks,f=>fun x x'=>curS ks fun y=>f ((x,x'),y)
 | .val _ _ _::ks,f=>fun x=>curS ks fun y=>f (x,y)
 | .bc _::ks,f=>curS ks fun y=>f ((),y)
 | .own _::ks,f=>curS ks fun y=>f ((),y)
 | .ptr _ _::ks,f=>curS ks fun y=>f ((),y)
 | .arr _ _::ks,f=>curS ks fun y=>f ((),y)
 | .any::ks,f=>curS ks fun y=>f ((),y)
 | .nil::ks,f=>curS ks fun y=>f ((),y)
def allS:(ks:List SK)->(TyS ks->Prop)->Prop
 | [],f=>f ()
 | .i _::ks,f=> ∀x,allS ks fun y=>f (x,y)
 | .b::ks,f=> ∀x,allS ks fun y=>f (x,y)
 | .s::ks,f=> ∀x,allS ks fun y=>f (x,y)
 | .er::ks,f=> ∀x,allS ks fun y=>f (x,y)
 | .sub _::ks,f=> ∀x x',allS ks fun y=>f ((x,x'),y)
 | .val _ _ _::ks,f=> ∀x,allS ks fun y=>f (x,y)
 | .bc _::ks,f=>allS ks fun y=>f ((),y)
 | .own _::ks,f=>allS ks fun y=>f ((),y)
 | .ptr _ _::ks,f=>allS ks fun y=>f ((),y)
 | .arr _ _::ks,f=>allS ks fun y=>f ((),y)
 | .any::ks,f=>allS ks fun y=>f ((),y)
 | .nil::ks,f=>allS ks fun y=>f ((),y)
theorem allS_all: ∀ {ks:List SK} {f:TyS ks->Prop},allS ks f-> ∀x,f x
 | [],_,h,_=>h
 | .i _::_,f,h,x=>allS_all (f:=fun y=>f (x.1,y)) (h x.1) x.2
 | .b::_,f,h,x=>allS_all (f:=fun y=>f (x.1,y)) (h x.1) x.2
 | .s::_,f,h,x=>allS_all (f:=fun y=>f (x.1,y)) (h x.1) x.2
 | .er::_,f,h,x=>allS_all (f:=fun y=>f (x.1,y)) (h x.1) x.2
 | .sub _::_,f,h,x=>allS_all (f:=fun y=>f (x.1,y)) (h x.1.1 x.1.2) x.2
 | .val _ _ _::_,f,h,x=>allS_all (f:=fun y=>f (x.1,y)) (h x.1) x.2
 | .bc _::_,f,h,x=>allS_all (f:=fun y=>f (x.1,y)) h x.2
 | .own _::_,f,h,x=>allS_all (f:=fun y=>f (x.1,y)) h x.2
 | .ptr _ _::_,f,h,x=>allS_all (f:=fun y=>f (x.1,y)) h x.2
 | .arr _ _::_,f,h,x=>allS_all (f:=fun y=>f (x.1,y)) h x.2
 | .any::_,f,h,x=>allS_all (f:=fun y=>f (x.1,y)) h x.2
 | .nil::_,f,h,x=>allS_all (f:=fun y=>f (x.1,y)) h x.2
def curV {R:Type}:(ks:List VK)->(TyV ks->R)->FnV ks R
 | [],f=>f ()
 |k::ks,f=>curS k.ks fun x=>curV ks fun y=>f (x,y)
def allV:(ks:List VK)->(TyV ks->Prop)->Prop
 | [],f=>f ()
 |k::ks,f=>allS k.ks fun x=>allV ks fun y=>f (x,y)
theorem allV_all: ∀ {ks:List VK} {f:TyV ks->Prop},allV ks f-> ∀x,f x
 | [],_,h,_=>h
 |_::_,f,h,x=>allV_all (f:=fun y=>f (x.1,y)) (allS_all h x.1) x.2
def curR {R:Type}:(ks:List RK)->(TyR ks->R)->FnR ks R
 | [],f=>f ()
 | .row _ _::ks,f=>fun x=>curR ks fun y=>f (x,y)
 | .box l::ks,f=>curS l fun x=>curR ks fun y=>f (x,y)
def allR:(ks:List RK)->(TyR ks->Prop)->Prop
 | [],f=>f ()
 | .row _ _::ks,f=> ∀x,allR ks fun y=>f (x,y)
 | .box l::ks,f=>allS l fun x=>allR ks fun y=>f (x,y)
theorem allR_all: ∀ {ks:List RK} {f:TyR ks->Prop},allR ks f-> ∀x,f x
 | [],_,h,_=>h
 | .row _ _::_,f,h,x=>allR_all (f:=fun y=>f (x.1,y)) (h x.1) x.2
 | .box _::_,f,h,x=>allR_all (f:=fun y=>f (x.1,y)) (allS_all h x.1) x.2
def Hd.mk' (H:Hd):H.Fn H.Ty:=curV H.vs fun x=>curR H.hs fun y=>(x,y)
def Hd.all (H:Hd) (f:H.Ty->Prop):Prop:=allV H.vs fun x=>allR H.hs fun y=>f (x,y)
theorem Hd.all_all {H:Hd} {f:H.Ty->Prop} (h:H.all f) (x:H.Ty):f x:=allR_all (f:=fun y=>f (x.1,y)) (allV_all h x.1) x.2
theorem fit_mk {R A:Type} {H:Hd} {G:Glob R} {live:List (Nat×List Nat)} {Λ:LTab R} {b:Code} {K:X->St->Option R} {x:H.Ty} {r:R} {step:(A->Option R)->A->Option R} {n:Nat} {a:A} (h:iter step n a=some r) (emb:A->H.Ty) (sel:H.Fn (Option A)) (e:emb a=x) (e1: ∀a,H.tell (H.enc (emb a)).1 (H.enc (emb a)).2 sel=some a) (e2: ∀(Lp:List AV->List (Option Root)->Option R) a,ev G live Λ b (fun x S'=>match x with| .normal=>Lp (normV (liveAt live b) (frzS (frzAt live b) S')) (normH (liveAt live b) (frzS (frzAt live b) S'))|x=>K x (canon (liveOut live b) (frzS (frzOut live b) S'))) (stOf (liveAt live b) (H.enc (emb a)).1 (H.enc (emb a)).2)=step (fun a'=>Lp (H.enc (emb a')).1 (H.enc (emb a')).2) a):LoopFit G live Λ b K (H.enc x).1 (H.enc x).2 r:=
 ⟨A,fun a=>H.enc (emb a),fun vs hs=>H.tell vs hs sel,step,n,a,by show H.enc (emb a)=_;rw[e],e1,e2,h⟩
theorem Hd.fit {R:Type} (H:Hd) {G:Glob R} {live:List (Nat×List Nat)} {Λ:LTab R} {b:Code} {key:Nat} (hk:keyOf b=key) (T:(X->St->Option R)->H.Fn (Option R)) (ht: ∀K vs hs,Λ key K vs hs=H.tell vs hs (T K)) (h: ∀K r,H.all fun x=>H.app (T K) x=some r->LoopFit G live Λ b K (H.enc x).1 (H.enc x).2 r):Fit G live Λ b:=fun K vs hs r h0=>by
 rw[hk,ht] at h0
 obtain ⟨x,e,h1⟩:=Hd.tell_some h0
 have h2:=Hd.all_all (h K r) x h1
 rw[e] at h2
 exact h2
abbrev LK.I:LK:= .int .i64
abbrev LK.V:LK:= .ints .i64
abbrev SK.I:SK:= .i .i64
abbrev SK.V:SK:= .val false false (.ints .i64)
abbrev SK.W:SK:= .val false false .rows
abbrev RK.V:RK:= .row false (.ints .i64)
abbrev RK.W:RK:= .row true .rows
abbrev VK.I:VK:= .l (.i .i64)
abbrev VK.V:VK:= .l (.val false false (.ints .i64))
abbrev VK.W:VK:= .l (.val false false .rows)
abbrev DK.I:DK:= .l .lent (.int .i64)
abbrev DK.V:DK:= .l .lent (.ints .i64)
abbrev DK.O:DK:= .l .own (.int .i64)
abbrev DK.B:DK:= .l .own .bool
end Go.Proofs.YtbmmhdmljajcfaaGreatDoor.V
