/- The abstract evaluator and its soundness: part VShape. Conditions: as each section says. -/
import Derived.Test.YtbmmhdmljajcfaaGreatDoorVCode
set_option linter.unusedVariables false
set_option linter.unusedSimpArgs false
namespace Go.Proofs.YtbmmhdmljajcfaaGreatDoor.V
open Go
section
variable {R:Type} {r:R}
theorem KP {vs:List AV} {K:AV->List AV->Option R} (h:SR vs K=some r): ∃v Ay,vs=v::Ay/\K v Ay=some r:=by
 cases vs with
 |nil=>cases h
 |cons v Ay=>exact ⟨v,Ay,rfl,h⟩
theorem NH {vs:List AV} {K:Option R} (h:Xa vs K=some r):vs=[]/\K=some r:=by
 cases vs with
 |nil=>exact ⟨rfl,h⟩
 |cons v Ay=>cases h
theorem KQ {hs:List (Option aw)} {K:Option aw->List (Option aw)->Option R} (h:SS hs K=some r): ∃v Ay,hs=v::Ay/\K v Ay=some r:=by
 cases hs with
 |nil=>cases h
 |cons v Ay=>exact ⟨v,Ay,rfl,h⟩
theorem NI {hs:List (Option aw)} {K:Option R} (h:Xb hs K=some r):hs=[]/\K=some r:=by
 cases hs with
 |nil=>exact ⟨rfl,h⟩
 |cons v Ay=>cases h
theorem Sf {v:AV} {K:LV->Option R} (h:vL v K=some r): ∃x,v= .one (.l x)/\K x=some r:=by
 unfold vL at h;split at h
 ·exact ⟨_,rfl,h⟩
 ·cases h
theorem NJ {v:AV} {K:List LV->Option R} (h:Uz v K=some r): ∃x,v= .one (.agg x)/\K x=some r:=by
 unfold Uz at h;split at h
 ·exact ⟨_,rfl,h⟩
 ·cases h
theorem KR {xs:List LV} {K:LV->List LV->Option R} (h:SU xs K=some r): ∃v Ay,xs=v::Ay/\K v Ay=some r:=by
 cases xs with
 |nil=>cases h
 |cons v Ay=>exact ⟨v,Ay,rfl,h⟩
theorem NK {xs:List LV} {K:Option R} (h:Xc xs K=some r):xs=[]/\K=some r:=by
 cases xs with
 |nil=>exact ⟨rfl,h⟩
 |cons v Ay=>cases h
theorem Sh {k:IntKind} {x:LV} {K:Int->Option R} (h:lI k x K=some r): ∃n,x= .i k n/\K n=some r:=by
 unfold lI at h;split at h
 ·obtain ⟨h1,h2⟩:=ak h
  have e:=of_decide_eq_true h1
  subst e;exact ⟨_,rfl,h2⟩
 ·cases h
theorem Si {x:LV} {K:Bool->Option R} (h:lB x K=some r): ∃b,x= .b b/\K b=some r:=by
 unfold lB at h;split at h
 ·exact ⟨_,rfl,h⟩
 ·cases h
theorem Sj {x:LV} {K:ByteArray->Option R} (h:lS x K=some r): ∃b,x= .s b/\K b=some r:=by
 unfold lS at h;split at h
 ·exact ⟨_,rfl,h⟩
 ·cases h
theorem Sk {x:LV} {K:Bool->Option R} (h:lE x K=some r): ∃b,x= .er b/\K b=some r:=by
 unfold lE at h;split at h
 ·exact ⟨_,rfl,h⟩
 ·cases h
theorem NL {id:Nat} {x:LV} {K:Option R} (h:UA id x K=some r):x= .own id/\K=some r:=by
 unfold UA at h;split at h
 ·obtain ⟨h1,h2⟩:=ak h
  have e:=eq_of_beq h1
  subst e;exact ⟨rfl,h2⟩
 ·cases h
theorem NM {id:Nat} {x:LV} {K:Nat->Nat->Option R} (h:UB id x K=some r): ∃lo hi,x= .sub id lo hi/\K lo hi=some r:=by
 unfold UB at h;split at h
 ·obtain ⟨h1,h2⟩:=ak h
  have e:=eq_of_beq h1
  subst e;exact ⟨_,_,rfl,h2⟩
 ·cases h
theorem NN {id k:Nat} {x:LV} {K:Option R} (h:UC id k x K=some r):x= .fP id k/\K=some r:=by
 unfold UC at h;split at h
 ·obtain ⟨h1,h2⟩:=ak h
  obtain ⟨h1,h3⟩:=aE h1
  have e:=eq_of_beq h1
  have e3:=eq_of_beq h3
  subst e;subst e3;exact ⟨rfl,h2⟩
 ·cases h
theorem NO {id n:Nat} {x:LV} {K:Option R} (h:UD id n x K=some r):x= .arr id n/\K=some r:=by
 unfold UD at h;split at h
 ·obtain ⟨h1,h2⟩:=ak h
  obtain ⟨h1,h3⟩:=aE h1
  have e:=eq_of_beq h1
  have e3:=eq_of_beq h3
  subst e;subst e3;exact ⟨rfl,h2⟩
 ·cases h
theorem NP {x:LV} {K:Option R} (h:UE x K=some r):x= .any/\K=some r:=by
 unfold UE at h;split at h
 ·exact ⟨rfl,h⟩
 ·cases h
theorem KS {x:LV} {K:Option R} (h:Qf x K=some r):x= .nil/\K=some r:=by
 unfold Qf at h;split at h
 ·exact ⟨rfl,h⟩
 ·cases h
theorem NQ {p:Bool} {x:LV} {K:Row->Option R} (h:UF p x K=some r): ∃w,x= .val p w/\K w=some r:=by
 unfold UF at h;split at h
 ·obtain ⟨h1,h2⟩:=ak h
  have e:=eq_of_beq h1
  subst e;exact ⟨_,rfl,h2⟩
 ·cases h
theorem I5 {k:IntKind} {w:Row} {K:List Int->Option R} (h:Ks k w K=some r): ∃l,w= .ints k l/\K l=some r:=by
 unfold Ks at h;split at h
 ·obtain ⟨h1,h2⟩:=ak h
  have e:=of_decide_eq_true h1
  subst e;exact ⟨_,rfl,h2⟩
 ·cases h
theorem GX {w:Row} {K:List Bool->Option R} (h:Gu w K=some r): ∃l,w= .du l/\K l=some r:=by
 unfold Gu at h;split at h
 ·exact ⟨_,rfl,h⟩
 ·cases h
theorem I6 {w:Row} {K:List ByteArray->Option R} (h:Kt w K=some r): ∃l,w= .strs l/\K l=some r:=by
 unfold Kt at h;split at h
 ·exact ⟨_,rfl,h⟩
 ·cases h
theorem I7 {o:Bool} {w:Row} {K:List (List Int)->Option R} (h:Ku o w K=some r): ∃l,w= .rows o l/\K l=some r:=by
 unfold Ku at h;split at h
 ·obtain ⟨h1,h2⟩:=ak h
  have e:=eq_of_beq h1
  subst e;exact ⟨_,rfl,h2⟩
 ·cases h
theorem I8 {sg:List Bool} {o:Bool} {w:Row} {K:List (List gR)->Option R} (h:Kv sg o w K=some r): ∃l,w= .dw sg o l/\K l=some r:=by
 unfold Kv at h;split at h
 ·obtain ⟨h1,h2⟩:=ak h
  obtain ⟨h1,h3⟩:=aE h1
  have e:=eq_of_beq h1
  have e3:=eq_of_beq h3
  subst e;subst e3;exact ⟨_,rfl,h2⟩
 ·cases h
theorem NR {x:Option aw} {K:Row->Option R} (h:UG x K=some r): ∃w,x=some (.row 0 0 w)/\K w=some r:=by
 unfold UG at h;split at h
 ·exact ⟨_,rfl,h⟩
 ·cases h
theorem NS {x:Option aw} {K:List LV->Option R} (h:UH x K=some r): ∃cells,x=some (.box 0 cells)/\K cells=some r:=by
 unfold UH at h;split at h
 ·exact ⟨_,rfl,h⟩
 ·cases h
end
theorem all_nil {α:Type} {Q:α->Prop}: ∀p∈([]:List α),Q p:=fun _ h=>by cases h
theorem all_cons {α:Type} {Q:α->Prop} {a:α} {l:List α} (h:Q a) (t: ∀p∈l,Q p): ∀p∈a::l,Q p:=fun p hp=>by
 rcases List.mem_cons.1 hp with rfl|hp
 ·exact h
 ·exact t p hp
theorem CJ {α:Type}: ∀ {l:List (Nat×α)} {i:Nat} {x:α},look l i=some x->(i,x)∈l
 | (j,y)::l,i,x,h=>by
   simp only[look] at h
   cases e:j==i with
   |true=>rw[e] at h;simp at h;subst h;have:=eq_of_beq e;subst this;simp
   |false=>rw[e] at h;exact List.mem_cons_of_mem _ (CJ h)
structure Sl (R:Type) where
 sig:ug
 phi:List DV->(List DV->Option R)->Option R
def PB {R:Type} (tt:TT) (l:List (Nat×Sl R)) (nt:Nat):gV R:=
 ⟨tt,fun f ds K=>match look l f with|some e=>e.phi ds K|none=>none,fun f=>match look l f with|some e=>some e.sig|none=>none,nt⟩
def Au {R:Type} (P:Program) (p:Nat×Sl R):Prop:= ∀(ds:List DV) (K:List DV->Option R) (r:R),p.2.phi ds K=some r->Enters P p.1/\ ∃rs,dt P p.1 p.2.sig ds rs/\K rs=some r
theorem QF {R:Type} {P:Program} {tt:TT} {l:List (Nat×Sl R)} {nt:Nat} (T:mW P tt) (h: ∀p∈l,Au P p):Of P (PB tt l nt):=by
 refine ⟨T,fun f g ds K r hs hk=> ?_⟩
 simp only[PB] at hs hk
 split at hk
 ·rename_i e he
  simp only[he] at hs
  cases hs
  exact h _ (CJ he) ds K r hk
 ·cases hk
def jD:Code->List Code
 | .loop b=>b::jD b
 | .seq a b=>jD a++jD b
 | .cond _ a b=>jD a++jD b
 | .block _ b=>jD b
 |_=>[]
theorem I9 {R:Type} {G:gV R} {live:List (Nat×List Nat)} {Λ:va R}: ∀(c:Code),(∀b∈jD c,∀K vs hs r,Λ (keyOf b) K vs hs=some r->pZ G live Λ b K vs hs r)->nX G live Λ c:=by
 intro c
 induction c with
 |loop b ih=>intro h;exact ⟨h b (by simp[jD]),ih fun b' hb=>h b' (by simp[jD,hb])⟩
 |seq a b ZV ZW=>intro h;exact ⟨ZV fun b' hb=>h b' (by simp[jD,hb]),ZW fun b' hb=>h b' (by simp[jD,hb])⟩
 |cond x a b ZV ZW=>intro h;exact ⟨ZV fun b' hb=>h b' (by simp[jD,hb]),ZW fun b' hb=>h b' (by simp[jD,hb])⟩
 |block i b ih=>intro h;exact ih fun b' hb=>h b' (by simp[jD,hb])
 |_=>intro _;exact trivial
theorem CK {R:Type} {G:gV R} {live:List (Nat×List Nat)} {Λ:va R} {c:Code} {ls:List Code} (e:jD c=ls) (h: ∀b∈ls,∀K vs hs r,Λ (keyOf b) K vs hs=some r->pZ G live Λ b K vs hs r):nX G live Λ c:=
 I9 c (by rw[e];exact h)
theorem Ui {P:Program} {l:List (Nat×TE)} (h: ∀p∈l,lz P (look l) p.1 p.2):mW P (look l):=fun t e he=>h _ (CJ he)
theorem iB {P:Program} {t s b:Nat} {zs:List Value} (h1:(P.info? t).map (fun i=>(i.size,i.bytes))=some (s,b)) (h2:((P.info? t).bind (fun i=>i.zero)).map (fun z=>z.cells.toList)=some zs): ∃i,P.info? t=some i/\i.size=s/\i.bytes=b/\ ∃z,i.zero=some z/\z.cells.toList=zs:=by
 cases hi:P.info? t with
 |none=>rw[hi] at h1;cases h1
 |some i=>
  rw[hi] at h1 h2
  simp only[Option.map_some,Option.some.injEq,Prod.mk.injEq] at h1
  simp only[Option.bind_some] at h2
  cases hz:i.zero with
  |none=>rw[hz] at h2;cases h2
  |some z=>
   rw[hz] at h2
   simp only[Option.map_some,Option.some.injEq] at h2
   exact ⟨i,rfl,h1.1,h1.2,z,hz,h2⟩
theorem oS {P:Program} {fields:Array Field} (h:(fields.toList.all fun f=>match P.info? f.type with|some i=> !(i.size==0)|none=>false)=true): ∀f∈fields.toList,∃i,P.info? f.type=some i/\i.size≠0:=fun f hf=>by
 have:=List.all_eq_true.1 h f hf
 split at this
 ·rename_i i hi;exact ⟨i,hi,by simpa using this⟩
 ·cases this
inductive LK where
 |int (k:IntKind)|bool|str|err|ints (k:IntKind)|du|strs|rows|dw (sg:List Bool)
abbrev LK.Ty:LK->Type
 | .int _=>Int
 | .bool=>Bool
 | .str=>ByteArray
 | .err=>Bool
 | .ints _=>List Int
 | .du=>List Bool
 | .strs=>List ByteArray
 | .rows=>List (List Int)
 | .dw _=>List (List gR)
def LK.dl (c:lO):(k:LK)->k.Ty->DL
 | .int k,n=> .i k n
 | .bool,b=> .b b
 | .str,s=> .s s
 | .err,b=> .er b
 | .ints k,l=> .sl c (.ints k l)
 | .du,l=> .sl c (.du l)
 | .strs,l=> .sl c (.strs l)
 | .rows,l=> .sl c (.rows (decide (c= .own)) l)
 | .dw sg,l=> .sl c (.dw sg (decide (c= .own)) l)
def LK.pH {R:Type} (c:lO):(k:LK)->DL->(k.Ty->Option R)->Option R
 | .int k,d,K=>dI k d K
 | .bool,d,K=>dB d K
 | .str,d,K=>dS d K
 | .err,d,K=>dE d K
 | .ints k,d,K=>xu c k d K
 | .du,d,K=>tJ c d K
 | .strs,d,K=>zZ c d K
 | .rows,d,K=>z7 c d K
 | .dw sg,d,K=>z_ c sg d K
theorem LK.jo {R:Type} {c:lO} {k:LK} {d:DL} {K:k.Ty->Option R} {r:R} (h:k.pH c d K=some r): ∃x,d=k.dl c x/\K x=some r:=by
 cases k with
 |int k=>exact FW h
 |bool=>exact FX h
 |str=>exact FY h
 |err=>exact Lr h
 |ints k=>exact sa h
 |du=>exact tI h
 |strs=>exact aab h
 |rows=>exact we h
 |dw sg=>exact wg h
abbrev QU:List LK->Type->Type
 | [],R=>R
 |k::ks,R=>k.Ty->QU ks R
abbrev CU:List LK->Type
 | []=>Unit
 |k::ks=>k.Ty×CU ks
def VC (c:lO):(ks:List LK)->CU ks->List DL
 | [],_=>[]
 |k::ks,x=>k.dl c x.1::VC c ks x.2
def CL {R:Type}:(ks:List LK)->QU ks R->CU ks->R
 | [],f,_=>f
 |_::ks,f,x=>CL ks (f x.1) x.2
def EK {R S:Type} (c:lO):(ks:List LK)->List DL->QU ks S->(S->Option R)->Option R
 | [],ds,f,K=>PQ ds (K f)
 |k::ks,ds,f,K=>Im ds fun d ds=>k.pH c d fun x=>EK c ks ds (f x) K
theorem pE {R S:Type} {c:lO} {r:R}: ∀ {ks:List LK} {ds:List DL} {f:QU ks S} {K:S->Option R},EK c ks ds f K=some r-> ∃x,ds=VC c ks x/\K (CL ks f x)=some r
 | [],ds,f,K,h=>by
   obtain ⟨rfl,h'⟩:=uL h
   exact ⟨(),rfl,h'⟩
 |k::ks,ds,f,K,h=>by
  obtain ⟨d,wF,rfl,h1⟩:=sd h
  obtain ⟨x,rfl,h2⟩:=LK.jo h1
  obtain ⟨y,rfl,h3⟩:=pE h2
  exact ⟨(x,y),rfl,h3⟩
inductive DK where
 |l (c:lO) (k:LK)|agg (c:lO) (ks:List LK)|ptr (ks:List LK)
abbrev vl:List DK->Type->Type
 | [],R=>R
 | .l _ k::ds,R=>k.Ty->vl ds R
 | .agg _ ks::ds,R=>QU ks (vl ds R)
 | .ptr ks::ds,R=>QU ks (vl ds R)
abbrev EL:List DK->Type
 | []=>Unit
 | .l _ k::ds=>k.Ty×EL ds
 | .agg _ ks::ds=>CU ks×EL ds
 | .ptr ks::ds=>CU ks×EL ds
def yq:(ks:List DK)->EL ks->List DV
 | [],_=>[]
 | .l c k::ds,x=> .l (k.dl c x.1)::yq ds x.2
 | .agg c ks::ds,x=> .agg (VC c ks x.1)::yq ds x.2
 | .ptr ks::ds,x=> .ptr (VC .fL ks x.1)::yq ds x.2
def qt {R:Type}:(ks:List DK)->vl ks R->EL ks->R
 | [],f,_=>f
 | .l _ _::ds,f,x=>qt ds (f x.1) x.2
 | .agg _ ks::ds,f,x=>qt ds (CL ks f x.1) x.2
 | .ptr ks::ds,f,x=>qt ds (CL ks f x.1) x.2
def CM {R:Type}:(ks:List DK)->List DV->vl ks (Option R)->Option R
 | [],ds,f=>Nd ds f
 | .l c k::ks,ds,f=>xw ds fun d ds=>dL d fun y=>k.pH c y fun x=>CM ks ds (f x)
 | .agg c ls::ks,ds,f=>xw ds fun d ds=>PR d fun y=>EK c ls y f fun g=>CM ks ds g
 | .ptr ls::ks,ds,f=>xw ds fun d ds=>Kb d fun y=>EK .fL ls y f fun g=>CM ks ds g
theorem nK {R:Type} {r:R}: ∀ {ks:List DK} {ds:List DV} {f:vl ks (Option R)},CM ks ds f=some r-> ∃x,ds=yq ks x/\qt ks f x=some r
 | [],ds,f,h=>by
   obtain ⟨rfl,h'⟩:=uK h
   exact ⟨(),rfl,h'⟩
 | .l c k::ks,ds,f,h=>by
   obtain ⟨d,wF,rfl,h1⟩:=k_ h
   obtain ⟨y,rfl,h2⟩:=xx h1
   obtain ⟨x,rfl,h3⟩:=LK.jo h2
   obtain ⟨z,rfl,h4⟩:=nK h3
   exact ⟨(x,z),rfl,h4⟩
 | .agg c ls::ks,ds,f,h=>by
   obtain ⟨d,wF,rfl,h1⟩:=k_ h
   obtain ⟨y,rfl,h2⟩:=q8 h1
   obtain ⟨x,rfl,h3⟩:=pE h2
   obtain ⟨z,rfl,h4⟩:=nK h3
   exact ⟨(x,z),rfl,h4⟩
 | .ptr ls::ks,ds,f,h=>by
   obtain ⟨d,wF,rfl,h1⟩:=k_ h
   obtain ⟨y,rfl,h2⟩:=q7 h1
   obtain ⟨x,rfl,h3⟩:=pE h2
   obtain ⟨z,rfl,h4⟩:=nK h3
   exact ⟨(x,z),rfl,h4⟩
inductive SK where
 |i (k:IntKind)|b|s|er|bc (x:Bool)|own (id:Nat)|sub (id:Nat)|ptr (id k:Nat)|arr (id n:Nat)|any|nil|val (p:Bool) (o:Bool) (k:LK)
abbrev SK.Ty:SK->Type
 | .i _=>Int
 | .b=>Bool
 | .s=>ByteArray
 | .er=>Bool
 | .sub _=>Nat×Nat
 | .val _ _ k=>k.Ty
 |_=>Unit
def LK.row (o:Bool):(k:LK)->k.Ty->Row
 | .ints k,l=> .ints k l
 | .du,l=> .du l
 | .strs,l=> .strs l
 | .rows,l=> .rows o l
 | .dw sg,l=> .dw sg o l
 | .int _,_=> .du []
 | .bool,_=> .du []
 | .str,_=> .du []
 | .err,_=> .du []
def LK.GY {R:Type} (o:Bool):(k:LK)->Row->(k.Ty->Option R)->Option R
 | .ints k,w,K=>Ks k w K
 | .du,w,K=>Gu w K
 | .strs,w,K=>Kt w K
 | .rows,w,K=>Ku o w K
 | .dw sg,w,K=>Kv sg o w K
 |_,_,_=>none
theorem LK.yf {R:Type} {r:R} {o:Bool} {k:LK} {w:Row} {K:k.Ty->Option R} (h:k.GY o w K=some r): ∃x,w=k.row o x/\K x=some r:=by
 cases k with
 |ints k=>exact I5 h
 |du=>exact GX h
 |strs=>exact I6 h
 |rows=>exact I7 h
 |dw sg=>exact I8 h
 |_=>cases h
def SK.lv:(k:SK)->k.Ty->LV
 | .i k,n=> .i k n
 | .b,x=> .b x
 | .s,x=> .s x
 | .er,x=> .er x
 | .bc x,_=> .b x
 | .own id,_=> .own id
 | .sub id,x=> .sub id x.1 x.2
 | .ptr id k,_=> .fP id k
 | .arr id n,_=> .arr id n
 | .any,_=> .any
 | .nil,_=> .nil
 | .val p o k,x=> .val p (k.row o x)
def ZX {R:Type} (b:Bool) (x:LV) (K:Option R):Option R:=match x with| .b c=>(bif c==b then K else none)|_=>none
theorem QG {R:Type} {r:R} {b:Bool} {x:LV} {K:Option R} (h:ZX b x K=some r):x= .b b/\K=some r:=by
 unfold ZX at h;split at h
 ·obtain ⟨h1,h2⟩:=ak h
  have e:=eq_of_beq h1
  subst e;exact ⟨rfl,h2⟩
 ·cases h
def SK.pH {R:Type}:(k:SK)->LV->(k.Ty->Option R)->Option R
 | .i k,x,K=>lI k x K
 | .b,x,K=>lB x K
 | .s,x,K=>lS x K
 | .er,x,K=>lE x K
 | .bc b0,x,K=>ZX b0 x (K ())
 | .own id,x,K=>UA id x (K ())
 | .sub id,x,K=>UB id x fun a b=>K (a,b)
 | .ptr id k,x,K=>UC id k x (K ())
 | .arr id n,x,K=>UD id n x (K ())
 | .any,x,K=>UE x (K ())
 | .nil,x,K=>Qf x (K ())
 | .val p o k,x,K=>UF p x fun w=>k.GY o w K
theorem SK.jo {R:Type} {r:R} {k:SK} {x:LV} {K:k.Ty->Option R} (h:k.pH x K=some r): ∃y,x=k.lv y/\K y=some r:=by
 cases k with
 |i k=>exact Sh h
 |b=>exact Si h
 |s=>exact Sj h
 |er=>exact Sk h
 |bc b=>obtain ⟨h1,h2⟩:=QG h;exact ⟨(),h1,h2⟩
 |own id=>obtain ⟨h1,h2⟩:=NL h;exact ⟨(),h1,h2⟩
 |sub id=>obtain ⟨lo,hi,h1,h2⟩:=NM h;exact ⟨(lo,hi),h1,h2⟩
 |ptr id k=>obtain ⟨h1,h2⟩:=NN h;exact ⟨(),h1,h2⟩
 |arr id n=>obtain ⟨h1,h2⟩:=NO h;exact ⟨(),h1,h2⟩
 |any=>obtain ⟨h1,h2⟩:=NP h;exact ⟨(),h1,h2⟩
 |nil=>obtain ⟨h1,h2⟩:=KS h;exact ⟨(),h1,h2⟩
 |val p o k=>
  obtain ⟨w,h1,h2⟩:=NQ h
  obtain ⟨y,h3,h4⟩:=LK.yf h2
  exact ⟨y,by rw[h1,h3];rfl,h4⟩
abbrev I_:List SK->Type->Type
 | [],R=>R
 | .i _::ks,R=>Int->I_ ks R
 | .b::ks,R=>Bool->I_ ks R
 | .s::ks,R=>ByteArray->I_ ks R
 | .er::ks,R=>Bool->I_ ks R
 | .sub _::ks,R=>Nat->Nat->I_ ks R
 | .val _ _ k::ks,R=>k.Ty->I_ ks R
 |_::ks,R=>I_ ks R
abbrev Sm:List SK->Type
 | []=>Unit
 |k::ks=>k.Ty×Sm ks
def U6 {R:Type}:(k:SK)->(ks:List SK)->I_ (k::ks) R->k.Ty->I_ ks R
 | .i _,_,f,x=>f x
 | .b,_,f,x=>f x
 | .s,_,f,x=>f x
 | .er,_,f,x=>f x
 | .sub _,_,f,x=>f x.1 x.2
 | .val _ _ _,_,f,x=>f x
 | .bc _,_,f,_=>f
 | .own _,_,f,_=>f
 | .ptr _ _,_,f,_=>f
 | .arr _ _,_,f,_=>f
 | .any,_,f,_=>f
 | .nil,_,f,_=>f
def Ym:(ks:List SK)->Sm ks->List LV
 | [],_=>[]
 |k::ks,x=>k.lv x.1::Ym ks x.2
def QH {R:Type}:(ks:List SK)->I_ ks R->Sm ks->R
 | [],f,_=>f
 |k::ks,f,x=>QH ks (U6 k ks f x.1) x.2
def LR {R S:Type}:(ks:List SK)->List LV->I_ ks S->(S->Option R)->Option R
 | [],xs,f,K=>Xc xs (K f)
 |k::ks,xs,f,K=>SU xs fun x xs=>k.pH x fun y=>LR ks xs (U6 k ks f y) K
theorem wC {R S:Type} {r:R}: ∀ {ks:List SK} {xs:List LV} {f:I_ ks S} {K:S->Option R},LR ks xs f K=some r-> ∃y,xs=Ym ks y/\K (QH ks f y)=some r
 | [],xs,f,K,h=>by
   obtain ⟨rfl,h'⟩:=NK h
   exact ⟨(),rfl,h'⟩
 |k::ks,xs,f,K,h=>by
  obtain ⟨x,VB,rfl,h1⟩:=KR h
  obtain ⟨y,rfl,h2⟩:=SK.jo h1
  obtain ⟨z,rfl,h3⟩:=wC h2
  exact ⟨(y,z),rfl,h3⟩
inductive VK where
 |l (k:SK)|agg (ks:List SK)
abbrev VK.ks:VK->List SK
 | .l k=>[k]
 | .agg ks=>ks
def VK.av:(k:VK)->Sm k.ks->AV
 | .l k,x=> .one (.l (k.lv x.1))
 | .agg ks,x=> .one (.agg (Ym ks x))
def VK.pH {R S:Type}:(k:VK)->AV->I_ k.ks S->(S->Option R)->Option R
 | .l k,v,f,K=>vL v fun x=>k.pH x fun y=>K (U6 k [] f y)
 | .agg ks,v,f,K=>Uz v fun xs=>LR ks xs f K
theorem VK.jo {R S:Type} {r:R} {k:VK} {v:AV} {f:I_ k.ks S} {K:S->Option R} (h:k.pH v f K=some r): ∃y,v=k.av y/\K (QH k.ks f y)=some r:=by
 cases k with
 |l k=>
  obtain ⟨x,rfl,h1⟩:=Sf h
  obtain ⟨y,rfl,h2⟩:=SK.jo h1
  exact ⟨(y,()),rfl,h2⟩
 |agg ks=>
  obtain ⟨xs,rfl,h1⟩:=NJ h
  obtain ⟨y,rfl,h2⟩:=wC h1
  exact ⟨y,rfl,h2⟩
inductive RK where
 |row (o:Bool) (k:LK)|box (ks:List SK)
abbrev RK.Fn:RK->Type->Type
 | .row _ k,R=>k.Ty->R
 | .box ks,R=>I_ ks R
abbrev RK.Ty:RK->Type
 | .row _ k=>k.Ty
 | .box ks=>Sm ks
def RK.Df {R:Type}:(k:RK)->k.Fn R->k.Ty->R
 | .row _ _,f,x=>f x
 | .box ks,f,x=>QH ks f x
def RK.root:(k:RK)->k.Ty->Option aw
 | .row o k,x=>some (.row 0 0 (k.row o x))
 | .box ks,x=>some (.box 0 (Ym ks x))
def RK.pH {R S:Type}:(k:RK)->Option aw->k.Fn S->(S->Option R)->Option R
 | .row o k,x,f,K=>UG x fun w=>k.GY o w fun y=>K (f y)
 | .box ks,x,f,K=>UH x fun c=>LR ks c f K
theorem RK.jo {R S:Type} {r:R} {k:RK} {x:Option aw} {f:k.Fn S} {K:S->Option R} (h:k.pH x f K=some r): ∃y,x=k.root y/\K (k.Df f y)=some r:=by
 cases k with
 |row o k=>
  obtain ⟨w,rfl,h1⟩:=NR h
  obtain ⟨y,rfl,h2⟩:=LK.yf h1
  exact ⟨y,rfl,h2⟩
 |box ks=>
  obtain ⟨c,rfl,h1⟩:=NS h
  obtain ⟨y,rfl,h2⟩:=wC h1
  exact ⟨y,rfl,h2⟩
abbrev VD:List RK->Type->Type
 | [],R=>R
 |k::ks,R=>k.Fn (VD ks R)
abbrev U7:List RK->Type
 | []=>Unit
 |k::ks=>k.Ty×U7 ks
def roots:(ks:List RK)->U7 ks->List (Option aw)
 | [],_=>[]
 |k::ks,x=>k.root x.1::roots ks x.2
def U8 {R:Type}:(ks:List RK)->VD ks R->U7 ks->R
 | [],f,_=>f
 |k::ks,f,x=>U8 ks (k.Df f x.1) x.2
def QI {R:Type}:(ks:List RK)->List (Option aw)->VD ks (Option R)->Option R
 | [],hs,f=>Xb hs f
 |k::ks,hs,f=>SS hs fun h hs=>k.pH h f fun g=>QI ks hs g
theorem CN {R:Type} {r:R}: ∀ {ks:List RK} {hs:List (Option aw)} {f:VD ks (Option R)},QI ks hs f=some r-> ∃y,hs=roots ks y/\U8 ks f y=some r
 | [],hs,f,h=>by
   obtain ⟨rfl,h'⟩:=NI h
   exact ⟨(),rfl,h'⟩
 |k::ks,hs,f,h=>by
  obtain ⟨x,X2,rfl,h1⟩:=KQ h
  obtain ⟨y,rfl,h2⟩:=RK.jo h1
  obtain ⟨z,rfl,h3⟩:=CN h2
  exact ⟨(y,z),rfl,h3⟩
abbrev VE:List VK->Type->Type
 | [],R=>R
 |k::ks,R=>I_ k.ks (VE ks R)
abbrev U9:List VK->Type
 | []=>Unit
 |k::ks=>Sm k.ks×U9 ks
def ZY:(ks:List VK)->U9 ks->List AV
 | [],_=>[]
 |k::ks,x=>k.av x.1::ZY ks x.2
def U_ {R:Type}:(ks:List VK)->VE ks R->U9 ks->R
 | [],f,_=>f
 |k::ks,f,x=>U_ ks (QH k.ks f x.1) x.2
def QJ {R S:Type}:(ks:List VK)->List AV->VE ks S->(S->Option R)->Option R
 | [],vs,f,K=>Xa vs (K f)
 |k::ks,vs,f,K=>SR vs fun v vs=>k.pH v f fun g=>QJ ks vs g K
theorem CO {R S:Type} {r:R}: ∀ {ks:List VK} {vs:List AV} {f:VE ks S} {K:S->Option R},QJ ks vs f K=some r-> ∃y,vs=ZY ks y/\K (U_ ks f y)=some r
 | [],vs,f,K,h=>by
   obtain ⟨rfl,h'⟩:=NH h
   exact ⟨(),rfl,h'⟩
 |k::ks,vs,f,K,h=>by
  obtain ⟨x,Ay,rfl,h1⟩:=KP h
  obtain ⟨y,rfl,h2⟩:=VK.jo h1
  obtain ⟨z,rfl,h3⟩:=CO h2
  exact ⟨(y,z),rfl,h3⟩
structure Hd where
 vs:List VK
 hs:List RK
abbrev Hd.Fn (H:Hd) (R:Type):Type:=VE H.vs (VD H.hs R)
abbrev Hd.Ty (H:Hd):Type:=U9 H.vs×U7 H.hs
def Hd.enc (H:Hd) (x:H.Ty):List AV×List (Option aw):=(ZY H.vs x.1,roots H.hs x.2)
def Hd.Df {R:Type} (H:Hd) (f:H.Fn R) (x:H.Ty):R:=U8 H.hs (U_ H.vs f x.1) x.2
def Hd.pH {R:Type} (H:Hd) (vs:List AV) (hs:List (Option aw)) (f:H.Fn (Option R)):Option R:=QJ H.vs vs f fun g=>QI H.hs hs g
theorem Hd.jo {R:Type} {r:R} {H:Hd} {vs:List AV} {hs:List (Option aw)} {f:H.Fn (Option R)} (h:H.pH vs hs f=some r): ∃x,H.enc x=(vs,hs)/\H.Df f x=some r:=by
 obtain ⟨x,rfl,h1⟩:=CO h
 obtain ⟨y,rfl,h2⟩:=CN h1
 exact ⟨(x,y),rfl,h2⟩
abbrev Fit {R:Type} (G:gV R) (live:List (Nat×List Nat)) (Λ:va R) (b:Code):Prop:= ∀K vs hs r,Λ (keyOf b) K vs hs=some r->pZ G live Λ b K vs hs r
def NT {S T:Type}:(ks:List LK)->(S->T)->QU ks S->QU ks T
 | [],m,f=>m f
 |_::ks,m,f=>fun x=>NT ks m (f x)
def Ja {S T:Type}:(ks:List DK)->(S->T)->vl ks S->vl ks T
 | [],m,f=>m f
 | .l _ _::ds,m,f=>fun x=>Ja ds m (f x)
 | .agg _ ks::ds,m,f=>NT ks (Ja ds m) f
 | .ptr ks::ds,m,f=>NT ks (Ja ds m) f
theorem CP {S T:Type} (m:S->T): ∀(ks:List LK) (f:QU ks S) (x:CU ks),CL ks (NT ks m f) x=m (CL ks f x)
 | [],f,x=>rfl
 |_::ks,f,x=>CP m ks (f x.1) x.2
theorem ue {S T:Type} (m:S->T): ∀(ks:List DK) (f:vl ks S) (x:EL ks),qt ks (Ja ks m f) x=m (qt ks f x)
 | [],f,x=>rfl
 | .l _ _::ds,f,x=>ue m ds (f x.1) x.2
 | .agg _ ks::ds,f,x=>by
   show qt ds (CL ks (NT ks (Ja ds m) f) x.1) x.2=_
   rw[CP,ue m ds]
   rfl
 | .ptr ks::ds,f,x=>by
   show qt ds (CL ks (NT ks (Ja ds m) f) x.1) x.2=_
   rw[CP,ue m ds]
   rfl
def S6 {R Y:Type} (pk:List DK) (F:vl pk (Option Y)) (enc:Y->List DV) (ds:List DV) (K:List DV->Option R):Option R:=CM pk ds (Ja pk (fun o=>o.bind fun r=>K (enc r)) F)
theorem Xz {R Y:Type} {P:Program} {f:FuncId} {g:ug} {pk:List DK} {F:vl pk (Option Y)} {enc:Y->List DV} (he:Enters P f) (hc: ∀(x:EL pk) (r:Y),qt pk F x=some r->dt P f g (yq pk x) (enc r)):Au (R:=R) P (f,⟨g,S6 pk F enc⟩):=fun ds K r h0=>by
 obtain ⟨x,rfl,h⟩:=nK h0
 rw[ue] at h
 obtain ⟨y,h1,h2⟩:=Option.bind_eq_some_iff.1 h
 exact ⟨he,_,hc x y h1,h2⟩
def sU:List DK->List LK
 | []=>[]
 | .l _ k::ds=>k::sU ds
 | .agg _ ks::ds=>ks++sU ds
 | .ptr ks::ds=>ks++sU ds
abbrev FT:List LK->Type
 | []=>Unit
 | [k]=>k.Ty
 |k::j::ks=>k.Ty×FT (j::ks)
def Sn:(ks:List LK)->CU ks->FT ks
 | [],_=>()
 | [_],x=>x.1
 |_::j::ks,x=>(x.1,Sn (j::ks) x.2)
def NU:(ks:List LK)->FT ks->CU ks
 | [],_=>()
 | [_],x=>(x,())
 |_::j::ks,x=>(x.1,NU (j::ks) x.2)
theorem zv: ∀(ks:List LK) (x:CU ks),NU ks (Sn ks x)=x
 | [],_=>rfl
 | [_],_=>rfl
 |_::j::ks,x=>congrArg (Prod.mk x.1) (zv (j::ks) x.2)
def Du:(ks ls:List LK)->CU ks->CU ls->CU (ks++ls)
 | [],_,_,y=>y
 |_::ks,ls,x,y=>(x.1,Du ks ls x.2 y)
def zw:(ks ls:List LK)->CU (ks++ls)->CU ks×CU ls
 | [],_,y=>((),y)
 |_::ks,ls,x=>((x.1,(zw ks ls x.2).1),(zw ks ls x.2).2)
theorem GZ: ∀(ks ls:List LK) (x:CU ks) (y:CU ls),zw ks ls (Du ks ls x y)=(x,y)
 | [],_,_,_=>rfl
 |_::ks,ls,x,y=>by
  have h:=GZ ks ls x.2 y
  show ((x.1,(zw ks ls (Du ks ls x.2 y)).1),(zw ks ls (Du ks ls x.2 y)).2)=(x,y)
  rw[h]
def vB:(ks:List DK)->EL ks->CU (sU ks)
 | [],_=>()
 | .l _ _::ds,x=>(x.1,vB ds x.2)
 | .agg _ ks::ds,x=>Du ks (sU ds) x.1 (vB ds x.2)
 | .ptr ks::ds,x=>Du ks (sU ds) x.1 (vB ds x.2)
def QV:(ks:List DK)->CU (sU ks)->EL ks
 | [],_=>()
 | .l _ _::ds,x=>(x.1,QV ds x.2)
 | .agg _ ks::ds,x=>((zw ks (sU ds) x).1,QV ds (zw ks (sU ds) x).2)
 | .ptr ks::ds,x=>((zw ks (sU ds) x).1,QV ds (zw ks (sU ds) x).2)
theorem rp: ∀(ks:List DK) (x:EL ks),QV ks (vB ks x)=x
 | [],_=>rfl
 | .l _ _::ds,x=>congrArg (Prod.mk x.1) (rp ds x.2)
 | .agg _ ks::ds,x=>by
   show ((zw ks (sU ds) (Du ks (sU ds) x.1 (vB ds x.2))).1,QV ds (zw ks (sU ds) (Du ks (sU ds) x.1 (vB ds x.2))).2)=x
   rw[GZ,rp ds x.2]
 | .ptr ks::ds,x=>by
   show ((zw ks (sU ds) (Du ks (sU ds) x.1 (vB ds x.2))).1,QV ds (zw ks (sU ds) (Du ks (sU ds) x.1 (vB ds x.2))).2)=x
   rw[GZ,rp ds x.2]
def NV {S:Type}:(ks:List LK)->(CU ks->S)->QU ks S
 | [],f=>f ()
 |_::ks,f=>fun x=>NV ks fun y=>f (x,y)
def Jb {S:Type}:(ks:List DK)->(EL ks->S)->vl ks S
 | [],f=>f ()
 | .l _ _::ds,f=>fun x=>Jb ds fun y=>f (x,y)
 | .agg _ ks::ds,f=>NV ks fun x=>Jb ds fun y=>f (x,y)
 | .ptr ks::ds,f=>NV ks fun x=>Jb ds fun y=>f (x,y)
theorem CQ {S:Type}: ∀(ks:List LK) (f:CU ks->S) (x:CU ks),CL ks (NV ks f) x=f x
 | [],_,_=>rfl
 |_::ks,f,x=>CQ ks (fun y=>f (x.1,y)) x.2
theorem uf {S:Type}: ∀(ks:List DK) (f:EL ks->S) (x:EL ks),qt ks (Jb ks f) x=f x
 | [],_,_=>rfl
 | .l _ _::ds,f,x=>uf ds (fun y=>f (x.1,y)) x.2
 | .agg _ ks::ds,f,x=>by
   show qt ds (CL ks (NV ks fun x=>Jb ds fun y=>f (x,y)) x.1) x.2=f x
   rw[CQ,uf]
 | .ptr ks::ds,f,x=>by
   show qt ds (CL ks (NV ks fun x=>Jb ds fun y=>f (x,y)) x.1) x.2=f x
   rw[CQ,uf]
def So (rk:List DK) (r:FT (sU rk)):List DV:=yq rk (QV rk (NU (sU rk) r))
def Rz (rk:List DK) (ds:List DV):Option (FT (sU rk)):=CM rk ds (Jb rk fun x=>some (Sn (sU rk) (vB rk x)))
theorem NW {rk:List DK} {ds:List DV} {r:FT (sU rk)} (h:Rz rk ds=some r):ds=So rk r:=by
 obtain ⟨x,rfl,h1⟩:=nK h
 rw[uf] at h1
 cases h1
 unfold So
 rw[zv,rp]
structure Sp where
 f:FuncId
 sig:ug
 pk:List DK
 rk:List DK
abbrev Sp.Y (S:Sp):Type:=FT (sU S.rk)
def Sp.ent {R:Type} (S:Sp) (F:vl S.pk (Option S.Y)):Nat×Sl R:=(S.f,⟨S.sig,S6 S.pk F (So S.rk)⟩)
def G3 (P:Program) (S:Sp) (F:vl S.pk (Option S.Y)):Prop:=Enters P S.f/\ ∀(x:EL S.pk) (r:S.Y),qt S.pk F x=some r->dt P S.f S.sig (yq S.pk x) (So S.rk r)
theorem Va {R:Type} {P:Program} {S:Sp} {F:vl S.pk (Option S.Y)} (h:G3 P S F):Au (R:=R) P (S.ent F):=Xz h.1 h.2
noncomputable def bd (fn:Func):Code:=(fn.body).getD .skip
noncomputable def bl (fn:Func) (i:Nat):Code:=((jD (bd fn))[i]?).getD .skip
def noL {R:Type}:va R:=fun _ _ _ _=>none
def pre (fn:Func) (g:ug) (body:Code):Option Code×List Code×Nat×Bool×Nat×Bool:=(fn.body,jD body,fn.ntmps,Nat.ble g.params.length fn.ntmps,fn.results.size,fn.name== "runtime.NumGoroutine")
theorem PC {P:Program} {tt:TT} {S:Sp} {F:vl S.pk (Option S.Y)} {l:List (Nat×Sl S.Y)} {nt:Nat} {live:List (Nat×List Nat)} {Λ:va S.Y} {fn:Func} {ls:List Code} (T:mW P tt) (hG: ∀p∈l,Au P p) (hm:P.follows .mixedOrders=true) (hf:P.funcs[S.f]? =some fn) (hp:pre fn S.sig (bd fn)=(some (bd fn),ls,nt,true,S.sig.results.length,false)) (hl: ∀b∈ls,Fit (PB tt l nt) live Λ b) (he: ∀x,J5 (PB tt l nt) live Λ S.sig fn (yq S.pk x) (Rz S.rk)=qt S.pk F x):G3 P S F:=by
 simp only[pre,Prod.mk.injEq] at hp
 obtain ⟨h1,h2,h3,h4,h5,h6⟩:=hp
 refine ⟨⟨fn,hf,h6,by rw[h1];rfl⟩,fun x r h=> ?_⟩
 exact Ag (QF T hG) hm hf h1 (CK h2 fun b hb K vs hs r h=>hl b hb K vs hs r h) h3.symm (Nat.le_of_ble_eq_true h4) h5 (fun _ h=>NW h) ((he x).trans h)
def NY (c:lO):(ks:List DK)->EL ks->List DV
 | [],_=>[]
 | .l _ k::ds,x=> .l (k.dl c x.1)::NY c ds x.2
 | .agg _ ks::ds,x=> .agg (VC c ks x.1)::NY c ds x.2
 | .ptr ks::ds,x=> .ptr (VC .fL ks x.1)::NY c ds x.2
def Jc {R:Type} (c:lO):(ks:List DK)->List DV->vl ks (Option R)->Option R
 | [],ds,f=>Nd ds f
 | .l _ k::ks,ds,f=>xw ds fun d ds=>dL d fun y=>k.pH c y fun x=>Jc c ks ds (f x)
 | .agg _ ls::ks,ds,f=>xw ds fun d ds=>PR d fun y=>EK c ls y f fun g=>Jc c ks ds g
 | .ptr ls::ks,ds,f=>xw ds fun d ds=>Kb d fun y=>EK .fL ls y f fun g=>Jc c ks ds g
theorem sC {R:Type} {r:R} {c:lO}: ∀ {ks:List DK} {ds:List DV} {f:vl ks (Option R)},Jc c ks ds f=some r-> ∃x,ds=NY c ks x/\qt ks f x=some r
 | [],ds,f,h=>by
   obtain ⟨rfl,h'⟩:=uK h
   exact ⟨(),rfl,h'⟩
 | .l _ k::ks,ds,f,h=>by
   obtain ⟨d,wF,rfl,h1⟩:=k_ h
   obtain ⟨y,rfl,h2⟩:=xx h1
   obtain ⟨x,rfl,h3⟩:=LK.jo h2
   obtain ⟨z,rfl,h4⟩:=sC h3
   exact ⟨(x,z),rfl,h4⟩
 | .agg _ ls::ks,ds,f,h=>by
   obtain ⟨d,wF,rfl,h1⟩:=k_ h
   obtain ⟨y,rfl,h2⟩:=q8 h1
   obtain ⟨x,rfl,h3⟩:=pE h2
   obtain ⟨z,rfl,h4⟩:=sC h3
   exact ⟨(x,z),rfl,h4⟩
 | .ptr ls::ks,ds,f,h=>by
   obtain ⟨d,wF,rfl,h1⟩:=k_ h
   obtain ⟨y,rfl,h2⟩:=q7 h1
   obtain ⟨x,rfl,h3⟩:=pE h2
   obtain ⟨z,rfl,h4⟩:=sC h3
   exact ⟨(x,z),rfl,h4⟩
def QK (c:lO) (rk:List DK) (r:FT (sU rk)):List DV:=NY c rk (QV rk (NU (sU rk) r))
def Vb (c:lO) (rk:List DK) (ds:List DV):Option (FT (sU rk)):=Jc c rk ds (Jb rk fun x=>some (Sn (sU rk) (vB rk x)))
theorem EM {c:lO} {rk:List DK} {ds:List DV} {r:FT (sU rk)} (h:Vb c rk ds=some r):ds=QK c rk r:=by
 obtain ⟨x,rfl,h1⟩:=sC h
 rw[uf] at h1
 cases h1
 unfold QK
 rw[zv,rp]
def XA:(k:LK)->k.Ty->k.Ty
 | .bool,_=>false
 | .int _,x=>x
 | .str,x=>x
 | .err,x=>x
 | .ints _,x=>x
 | .du,x=>x
 | .strs,x=>x
 | .rows,x=>x
 | .dw _,x=>x
def QL:(k:LK)->k.Ty->Bool
 | .bool,b=> !b
 |_,_=>true
theorem NZ: ∀ {k:LK} {x:k.Ty},QL k x=true->XA k x=x
 | .bool,false,_=>rfl
 | .bool,true,h=>by cases h
 | .int _,_,_=>rfl
 | .str,_,_=>rfl
 | .err,_,_=>rfl
 | .ints _,_,_=>rfl
 | .du,_,_=>rfl
 | .strs,_,_=>rfl
 | .rows,_,_=>rfl
 | .dw _,_,_=>rfl
def QM:(ks:List DK)->EL ks->EL ks
 | [],x=>x
 | .l _ k::ds,x=>(XA k x.1,QM ds x.2)
 | .agg _ _::ds,x=>(x.1,QM ds x.2)
 | .ptr _::ds,x=>(x.1,QM ds x.2)
def CR:(ks:List DK)->EL ks->Bool
 | [],_=>true
 | .l _ k::ds,x=>QL k x.1&&CR ds x.2
 | .agg _ _::ds,x=>CR ds x.2
 | .ptr _::ds,x=>CR ds x.2
theorem uX: ∀ {ks:List DK} {x:EL ks},CR ks x=true->QM ks x=x
 | [],_,_=>rfl
 | .l _ k::ds,x,h=>by
   obtain ⟨h1,h2⟩:=aE h
   exact Prod.ext (NZ h1) (uX h2)
 | .agg _ _::ds,x,h=>Prod.ext rfl (uX (ks:=ds) h)
 | .ptr _::ds,x,h=>Prod.ext rfl (uX (ks:=ds) h)
abbrev Sp.YM (S:Sp):Type:=Bool×FT (sU S.rk)
def XB (rk:List DK) (r:FT (sU rk)):List DV:=NY .aS rk (QM rk (QV rk (NU (sU rk) r)))
def XC (rk:List DK) (r:Bool×FT (sU rk)):List DV:=bif r.1 then QK .own rk r.2 else XB rk r.2
def RB (rk:List DK) (ds:List DV):Option (Bool×FT (sU rk)):=match Vb .own rk ds with
 |some y=>some (true,y)
 |none=>match Vb .aS rk ds with
  |some y=>bif CR rk (QV rk (NU (sU rk) y)) then some (false,y) else none
  |none=>none
theorem N0 {rk:List DK} {ds:List DV} {r:Bool×FT (sU rk)} (h:RB rk ds=some r):ds=XC rk r:=by
 unfold RB at h
 split at h
 ·rename_i y hy;cases h;exact EM hy
 ·split at h
  ·rename_i y hy
   obtain ⟨h1,h2⟩:=ak h
   cases h2
   have:=EM hy
   unfold QK at this
   rw[<- uX h1] at this
   exact this
  ·cases h
def Sp.XD {R:Type} (S:Sp) (F:vl S.pk (Option S.YM)):Nat×Sl R:=(S.f,⟨S.sig,fun ds K=>CM S.pk ds (Ja S.pk (fun o=>o.bind fun r=>bif r.1 then K (QK .own S.rk r.2) else K (XB S.rk r.2)) F)⟩)
def PE (P:Program) (S:Sp) (F:vl S.pk (Option S.YM)):Prop:=Enters P S.f/\ ∀(x:EL S.pk) (r:S.YM),qt S.pk F x=some r->dt P S.f S.sig (yq S.pk x) (XC S.rk r)
theorem Sq {R:Type} {P:Program} {S:Sp} {F:vl S.pk (Option S.YM)} (h:PE P S F):Au (R:=R) P (S.XD F):=fun ds K r h0=>by
 obtain ⟨x,rfl,h1⟩:=nK h0
 rw[ue] at h1
 obtain ⟨⟨b,y⟩,h2,h3⟩:=Option.bind_eq_some_iff.1 h1
 refine ⟨h.1,_,h.2 x _ h2,?_⟩
 cases b<;>exact h3
theorem RD {P:Program} {tt:TT} {S:Sp} {F:vl S.pk (Option S.YM)} {l:List (Nat×Sl S.YM)} {nt:Nat} {live:List (Nat×List Nat)} {Λ:va S.YM} {fn:Func} {ls:List Code} (T:mW P tt) (hG: ∀p∈l,Au P p) (hm:P.follows .mixedOrders=true) (hf:P.funcs[S.f]? =some fn) (hp:pre fn S.sig (bd fn)=(some (bd fn),ls,nt,true,S.sig.results.length,false)) (hl: ∀b∈ls,Fit (PB tt l nt) live Λ b) (he: ∀x,J5 (PB tt l nt) live Λ S.sig fn (yq S.pk x) (RB S.rk)=qt S.pk F x):PE P S F:=by
 simp only[pre,Prod.mk.injEq] at hp
 obtain ⟨h1,h2,h3,h4,h5,h6⟩:=hp
 refine ⟨⟨fn,hf,h6,by rw[h1];rfl⟩,fun x r h=> ?_⟩
 exact Ag (QF T hG) hm hf h1 (CK h2 fun b hb K vs hs r h=>hl b hb K vs hs r h) h3.symm (Nat.le_of_ble_eq_true h4) h5 (fun _ h=>N0 h) ((he x).trans h)
theorem KW {P:Program} {S:Sp} {g:Nat->vl S.pk (Option S.Y)} {b:vl S.pk (Option S.Y)->vl S.pk (Option S.Y)} (he:Enters P S.f) (h0: ∀x,qt S.pk (g 0) x=none) (h1: ∀n,g (n+1)=b (g n)) (hs: ∀F,G3 P S F->G3 P S (b F)): ∀n,G3 P S (g n)
 |0=>⟨he,fun x r h=>by rw[h0] at h;cases h⟩
 |n+1=>by rw[h1];exact hs _ (KW he h0 h1 hs n)
def yg {R:Type}:(ks:List SK)->(Sm ks->R)->I_ ks R
 | [],f=>f ()
 | .i _::ks,f=>fun x=>yg ks fun y=>f (x,y)
 | .b::ks,f=>fun x=>yg ks fun y=>f (x,y)
 | .s::ks,f=>fun x=>yg ks fun y=>f (x,y)
 | .er::ks,f=>fun x=>yg ks fun y=>f (x,y)
 | .sub _::ks,f=>fun x x'=>yg ks fun y=>f ((x,x'),y)
 | .val _ _ _::ks,f=>fun x=>yg ks fun y=>f (x,y)
 | .bc _::ks,f=>yg ks fun y=>f ((),y)
 | .own _::ks,f=>yg ks fun y=>f ((),y)
 | .ptr _ _::ks,f=>yg ks fun y=>f ((),y)
 | .arr _ _::ks,f=>yg ks fun y=>f ((),y)
 | .any::ks,f=>yg ks fun y=>f ((),y)
 | .nil::ks,f=>yg ks fun y=>f ((),y)
def wD:(ks:List SK)->(Sm ks->Prop)->Prop
 | [],f=>f ()
 | .i _::ks,f=> ∀x,wD ks fun y=>f (x,y)
 | .b::ks,f=> ∀x,wD ks fun y=>f (x,y)
 | .s::ks,f=> ∀x,wD ks fun y=>f (x,y)
 | .er::ks,f=> ∀x,wD ks fun y=>f (x,y)
 | .sub _::ks,f=> ∀x x',wD ks fun y=>f ((x,x'),y)
 | .val _ _ _::ks,f=> ∀x,wD ks fun y=>f (x,y)
 | .bc _::ks,f=>wD ks fun y=>f ((),y)
 | .own _::ks,f=>wD ks fun y=>f ((),y)
 | .ptr _ _::ks,f=>wD ks fun y=>f ((),y)
 | .arr _ _::ks,f=>wD ks fun y=>f ((),y)
 | .any::ks,f=>wD ks fun y=>f ((),y)
 | .nil::ks,f=>wD ks fun y=>f ((),y)
theorem jE: ∀ {ks:List SK} {f:Sm ks->Prop},wD ks f-> ∀x,f x
 | [],_,h,_=>h
 | .i _::_,f,h,x=>jE (f:=fun y=>f (x.1,y)) (h x.1) x.2
 | .b::_,f,h,x=>jE (f:=fun y=>f (x.1,y)) (h x.1) x.2
 | .s::_,f,h,x=>jE (f:=fun y=>f (x.1,y)) (h x.1) x.2
 | .er::_,f,h,x=>jE (f:=fun y=>f (x.1,y)) (h x.1) x.2
 | .sub _::_,f,h,x=>jE (f:=fun y=>f (x.1,y)) (h x.1.1 x.1.2) x.2
 | .val _ _ _::_,f,h,x=>jE (f:=fun y=>f (x.1,y)) (h x.1) x.2
 | .bc _::_,f,h,x=>jE (f:=fun y=>f (x.1,y)) h x.2
 | .own _::_,f,h,x=>jE (f:=fun y=>f (x.1,y)) h x.2
 | .ptr _ _::_,f,h,x=>jE (f:=fun y=>f (x.1,y)) h x.2
 | .arr _ _::_,f,h,x=>jE (f:=fun y=>f (x.1,y)) h x.2
 | .any::_,f,h,x=>jE (f:=fun y=>f (x.1,y)) h x.2
 | .nil::_,f,h,x=>jE (f:=fun y=>f (x.1,y)) h x.2
def XE {R:Type}:(ks:List VK)->(U9 ks->R)->VE ks R
 | [],f=>f ()
 |k::ks,f=>yg k.ks fun x=>XE ks fun y=>f (x,y)
def Vc:(ks:List VK)->(U9 ks->Prop)->Prop
 | [],f=>f ()
 |k::ks,f=>wD k.ks fun x=>Vc ks fun y=>f (x,y)
theorem Jd: ∀ {ks:List VK} {f:U9 ks->Prop},Vc ks f-> ∀x,f x
 | [],_,h,_=>h
 |_::_,f,h,x=>Jd (f:=fun y=>f (x.1,y)) (jE h x.1) x.2
def Vd {R:Type}:(ks:List RK)->(U7 ks->R)->VD ks R
 | [],f=>f ()
 | .row _ _::ks,f=>fun x=>Vd ks fun y=>f (x,y)
 | .box l::ks,f=>yg l fun x=>Vd ks fun y=>f (x,y)
def Sr:(ks:List RK)->(U7 ks->Prop)->Prop
 | [],f=>f ()
 | .row _ _::ks,f=> ∀x,Sr ks fun y=>f (x,y)
 | .box l::ks,f=>wD l fun x=>Sr ks fun y=>f (x,y)
theorem CS: ∀ {ks:List RK} {f:U7 ks->Prop},Sr ks f-> ∀x,f x
 | [],_,h,_=>h
 | .row _ _::_,f,h,x=>CS (f:=fun y=>f (x.1,y)) (h x.1) x.2
 | .box _::_,f,h,x=>CS (f:=fun y=>f (x.1,y)) (jE h x.1) x.2
def Hd.mk' (H:Hd):H.Fn H.Ty:=XE H.vs fun x=>Vd H.hs fun y=>(x,y)
def Hd.all (H:Hd) (f:H.Ty->Prop):Prop:=Vc H.vs fun x=>Sr H.hs fun y=>f (x,y)
theorem Hd.Ss {H:Hd} {f:H.Ty->Prop} (h:H.all f) (x:H.Ty):f x:=CS (f:=fun y=>f (x.1,y)) (Jd h x.1) x.2
theorem Ve {R A:Type} {H:Hd} {G:gV R} {live:List (Nat×List Nat)} {Λ:va R} {b:Code} {K:X->St->Option R} {x:H.Ty} {r:R} {step:(A->Option R)->A->Option R} {n:Nat} {a:A} (h:iter step n a=some r) (Su:A->H.Ty) (XF:H.Fn (Option A)) (e:Su a=x) (e1: ∀a,H.pH (H.enc (Su a)).1 (H.enc (Su a)).2 XF=some a) (e2: ∀(Lp:List AV->List (Option aw)->Option R) a,ev G live Λ b (fun x S'=>match x with| .normal=>Lp (tS (lF live b) (qx (sO live b) S')) (sN (lF live b) (qx (sO live b) S'))|x=>K x (Qb (Gl live b) (qx (Cj live b) S'))) (bZ (lF live b) (H.enc (Su a)).1 (H.enc (Su a)).2)=step (fun a'=>Lp (H.enc (Su a')).1 (H.enc (Su a')).2) a):pZ G live Λ b K (H.enc x).1 (H.enc x).2 r:=
 ⟨A,fun a=>H.enc (Su a),fun vs hs=>H.pH vs hs XF,step,n,a,by show H.enc (Su a)=_;rw[e],e1,e2,h⟩
theorem Hd.fit {R:Type} (H:Hd) {G:gV R} {live:List (Nat×List Nat)} {Λ:va R} {b:Code} {key:Nat} (hk:keyOf b=key) (T:(X->St->Option R)->H.Fn (Option R)) (ht: ∀K vs hs,Λ key K vs hs=H.pH vs hs (T K)) (h: ∀K r,H.all fun x=>H.Df (T K) x=some r->pZ G live Λ b K (H.enc x).1 (H.enc x).2 r):Fit G live Λ b:=fun K vs hs r h0=>by
 rw[hk,ht] at h0
 obtain ⟨x,e,h1⟩:=Hd.jo h0
 have h2:=Hd.Ss (h K r) x h1
 rw[e] at h2
 exact h2
structure Ce (P:Program) where
 e: ∀R:Type,Nat×Sl R
 ok: ∀R,Au (R:=R) P (e R)
def ce {P:Program} {S:Sp} {F:vl S.pk (Option S.Y)} (h:G3 P S F):Ce P:=⟨fun _=>S.ent F,fun _=>Va h⟩
def ceM {P:Program} {S:Sp} {F:vl S.pk (Option S.YM)} (h:PE P S F):Ce P:=⟨fun _=>S.XD F,fun _=>Sq h⟩
def J6 {P:Program} (R:Type):List (Ce P)->List (Nat×Sl R)
 | []=>[]
 |c::cs=>c.e R::J6 R cs
theorem AU {P:Program} {R:Type}: ∀(cs:List (Ce P)),∀p∈J6 R cs,Au P p
 | [],p,h=>by cases h
 |c::cs,p,h=>by
  rcases List.mem_cons.1 h with rfl|h
  ·exact c.ok R
  ·exact AU cs p h
structure Lh (R:Type) where
 key:Nat
 h:Hd
 T:(X->St->Option R)->h.Fn (Option R)
def PD {R:Type}:List (Lh R)->va R
 | []=>fun _ _ _ _=>none
 |l::ls=>fun id K vs hs=>bif id==l.key then l.h.pH vs hs (l.T K) else PD ls id K vs hs
noncomputable def WJ (fn:Func):Nat->Nat->List Code
 |_,0=>[]
 |i,n+1=>bl fn i::WJ fn (i+1) n
abbrev so (f:FuncId) (ps rs:List Nat) (oc:lO) (pk rk:List DK):Sp:=⟨f,⟨ps,rs,ps.map fun _=> .mS,oc⟩,pk,rk⟩
theorem fm {R A:Type} {H:Hd} {G:gV R} {live:List (Nat×List Nat)} {Λ:va R} {b:Code} {K:X->St->Option R} {x:H.Ty} {r:R} {step:(A->Option R)->A->Option R} {n:Nat} {a:A} (h:iter step n a=some r) (em:A->H.Fn H.Ty->H.Ty) (XF:H.Fn (Option A)) (e:em a H.mk' =x:=by kernel_rfl) (e1: ∀a,H.pH (H.enc (em a H.mk')).1 (H.enc (em a H.mk')).2 XF=some a:=by intro _;kernel_rfl) (e2: ∀(Lp:List AV->List (Option aw)->Option R) a,ev G live Λ b (fun x S'=>match x with| .normal=>Lp (tS (lF live b) (qx (sO live b) S')) (sN (lF live b) (qx (sO live b) S'))|x=>K x (Qb (Gl live b) (qx (Cj live b) S'))) (bZ (lF live b) (H.enc (em a H.mk')).1 (H.enc (em a H.mk')).2)=step (fun a'=>Lp (H.enc (em a' H.mk')).1 (H.enc (em a' H.mk')).2) a:=by intro _ _;kernel_rfl):pZ G live Λ b K (H.enc x).1 (H.enc x).2 r:=
 Ve h (fun a=>em a H.mk') XF e e1 e2
theorem Lh.fit {R:Type} (l:Lh R) {G:gV R} {live:List (Nat×List Nat)} {Λ:va R} {b:Code} (h: ∀K r,l.h.all fun x=>l.h.Df (l.T K) x=some r->pZ G live Λ b K (l.h.enc x).1 (l.h.enc x).2 r) (hk:keyOf b=l.key:=by kernel_rfl) (ht: ∀K vs hs,Λ l.key K vs hs=l.h.pH vs hs (l.T K):=by intro _ _ _;kernel_rfl):Fit G live Λ b:=
 l.h.fit hk l.T ht h
abbrev LK.I:LK:= .int .i64
abbrev LK.V:LK:= .ints .i64
abbrev SK.I:SK:= .i .i64
abbrev SK.V:SK:= .val false false (.ints .i64)
abbrev SK.W:SK:= .val false false .rows
abbrev RK.V:RK:= .row false (.ints .i64)
abbrev RK.W:RK:= .row true .rows
abbrev VK.I:VK:= .l (.i .i64)
abbrev VK.V:VK:= .l (.val false false (.ints .i64))
abbrev VK.W:VK:= .l (.val false false .rows)
abbrev DK.I:DK:= .l .aS (.int .i64)
abbrev DK.V:DK:= .l .aS (.ints .i64)
abbrev DK.O:DK:= .l .own (.int .i64)
abbrev DK.B:DK:= .l .own .bool
end Go.Proofs.YtbmmhdmljajcfaaGreatDoor.V
