/- The abstract evaluator and its soundness: part VShape. Conditions: as each section says. -/
import Derived.Test.YtbmmhdmljajcfaaGreatDoorVCode
set_option linter.unusedVariables false
set_option linter.unusedSimpArgs false
namespace Go.Proofs.YtbmmhdmljajcfaaGreatDoor.V
open Go
section
variable {R:Type} {r:R}
theorem OM {vs:List AV} {K:AV->List AV->Option R} (h:WA vs K=some r): ∃v Ec,vs=v::Ec/\K v Ec=some r:=by
 cases vs with
 |nil=>cases h
 |cons v Ec=>exact ⟨v,Ec,rfl,h⟩
theorem Q7 {vs:List AV} {K:Option R} (h:aaD vs K=some r):vs=[]/\K=some r:=by
 cases vs with
 |nil=>exact ⟨rfl,h⟩
 |cons v Ec=>cases h
theorem ON {hs:List (Option aQ)} {K:Option aQ->List (Option aQ)->Option R} (h:WB hs K=some r): ∃v Ec,hs=v::Ec/\K v Ec=some r:=by
 cases hs with
 |nil=>cases h
 |cons v Ec=>exact ⟨v,Ec,rfl,h⟩
theorem Q8 {hs:List (Option aQ)} {K:Option R} (h:aaE hs K=some r):hs=[]/\K=some r:=by
 cases hs with
 |nil=>exact ⟨rfl,h⟩
 |cons v Ec=>cases h
theorem V3 {v:AV} {K:LV->Option R} (h:vL v K=some r): ∃x,v= .one (.l x)/\K x=some r:=by
 unfold vL at h;split at h
 ·exact ⟨_,rfl,h⟩
 ·cases h
theorem Q9 {v:AV} {K:List LV->Option R} (h:Yc v K=some r): ∃x,v= .one (.agg x)/\K x=some r:=by
 unfold Yc at h;split at h
 ·exact ⟨_,rfl,h⟩
 ·cases h
theorem OO {xs:List LV} {K:LV->List LV->Option R} (h:WC xs K=some r): ∃v Ec,xs=v::Ec/\K v Ec=some r:=by
 cases xs with
 |nil=>cases h
 |cons v Ec=>exact ⟨v,Ec,rfl,h⟩
theorem Q_ {xs:List LV} {K:Option R} (h:aaF xs K=some r):xs=[]/\K=some r:=by
 cases xs with
 |nil=>exact ⟨rfl,h⟩
 |cons v Ec=>cases h
theorem V4 {k:IntKind} {x:LV} {K:Int->Option R} (h:lI k x K=some r): ∃n,x= .i k n/\K n=some r:=by
 unfold lI at h;split at h
 ·obtain ⟨h1,h2⟩:=aH h
  have e:=ao h1
  subst e;exact ⟨_,rfl,h2⟩
 ·cases h
theorem V5 {x:LV} {K:Bool->Option R} (h:lB x K=some r): ∃b,x= .b b/\K b=some r:=by
 unfold lB at h;split at h
 ·exact ⟨_,rfl,h⟩
 ·cases h
theorem V6 {x:LV} {K:BA->Option R} (h:lS x K=some r): ∃b,x= .s b/\K b=some r:=by
 unfold lS at h;split at h
 ·exact ⟨_,rfl,h⟩
 ·cases h
theorem V7 {x:LV} {K:Bool->Option R} (h:lE x K=some r): ∃b,x= .er b/\K b=some r:=by
 unfold lE at h;split at h
 ·exact ⟨_,rfl,h⟩
 ·cases h
theorem Ra {id:Nat} {x:LV} {K:Option R} (h:Yd id x K=some r):x= .own id/\K=some r:=by
 unfold Yd at h;split at h
 ·obtain ⟨h1,h2⟩:=aH h
  have e:=aE h1
  subst e;exact ⟨rfl,h2⟩
 ·cases h
theorem Rb {id:Nat} {x:LV} {K:Nat->Nat->Option R} (h:Ye id x K=some r): ∃lo hi,x= .sub id lo hi/\K lo hi=some r:=by
 unfold Ye at h;split at h
 ·obtain ⟨h1,h2⟩:=aH h
  have e:=aE h1
  subst e;exact ⟨_,_,rfl,h2⟩
 ·cases h
theorem Rc {id k:Nat} {x:LV} {K:Option R} (h:Yf id k x K=some r):x= .je id k/\K=some r:=by
 unfold Yf at h;split at h
 ·obtain ⟨h1,h2⟩:=aH h
  obtain ⟨h1,h3⟩:=ba h1
  have e:=aE h1
  have e3:=aE h3
  subst e;subst e3;exact ⟨rfl,h2⟩
 ·cases h
theorem Re {id n:Nat} {x:LV} {K:Option R} (h:Yg id n x K=some r):x= .arr id n/\K=some r:=by
 unfold Yg at h;split at h
 ·obtain ⟨h1,h2⟩:=aH h
  obtain ⟨h1,h3⟩:=ba h1
  have e:=aE h1
  have e3:=aE h3
  subst e;subst e3;exact ⟨rfl,h2⟩
 ·cases h
theorem Rf {x:LV} {K:Option R} (h:Yh x K=some r):x= .any/\K=some r:=by
 unfold Yh at h;split at h
 ·exact ⟨rfl,h⟩
 ·cases h
theorem OP {x:LV} {K:Option R} (h:TD x K=some r):x= .nil/\K=some r:=by
 unfold TD at h;split at h
 ·exact ⟨rfl,h⟩
 ·cases h
theorem Rg {p:Bool} {x:LV} {K:Row->Option R} (h:Yi p x K=some r): ∃w,x= .val p w/\K w=some r:=by
 unfold Yi at h;split at h
 ·obtain ⟨h1,h2⟩:=aH h
  have e:=aE h1
  subst e;exact ⟨_,rfl,h2⟩
 ·cases h
theorem MT {k:IntKind} {w:Row} {K:LI->Option R} (h:Ol k w K=some r): ∃l,w= .ints k l/\K l=some r:=by
 unfold Ol at h;split at h
 ·obtain ⟨h1,h2⟩:=aH h
  have e:=ao h1
  subst e;exact ⟨_,rfl,h2⟩
 ·cases h
theorem KU {w:Row} {K:List Bool->Option R} (h:Kw w K=some r): ∃l,w= .eQ l/\K l=some r:=by
 unfold Kw at h;split at h
 ·exact ⟨_,rfl,h⟩
 ·cases h
theorem MU {w:Row} {K:List BA->Option R} (h:Om w K=some r): ∃l,w= .strs l/\K l=some r:=by
 unfold Om at h;split at h
 ·exact ⟨_,rfl,h⟩
 ·cases h
theorem MV {o:Bool} {w:Row} {K:LL->Option R} (h:On o w K=some r): ∃l,w= .rows o l/\K l=some r:=by
 unfold On at h;split at h
 ·obtain ⟨h1,h2⟩:=aH h
  have e:=aE h1
  subst e;exact ⟨_,rfl,h2⟩
 ·cases h
theorem MW {sg:List Bool} {o:Bool} {w:Row} {K:List (List iQ)->Option R} (h:Oo sg o w K=some r): ∃l,w= .ek sg o l/\K l=some r:=by
 unfold Oo at h;split at h
 ·obtain ⟨h1,h2⟩:=aH h
  obtain ⟨h1,h3⟩:=ba h1
  have e:=aE h1
  have e3:=aE h3
  subst e;subst e3;exact ⟨_,rfl,h2⟩
 ·cases h
theorem Rh {x:Option aQ} {K:Row->Option R} (h:Yj x K=some r): ∃w,x=some (.row 0 0 w)/\K w=some r:=by
 unfold Yj at h;split at h
 ·exact ⟨_,rfl,h⟩
 ·cases h
theorem Ri {x:Option aQ} {K:List LV->Option R} (h:Yk x K=some r): ∃cells,x=some (.box 0 cells)/\K cells=some r:=by
 unfold Yk at h;split at h
 ·exact ⟨_,rfl,h⟩
 ·cases h
end
theorem all_nil {α:Type} {Q:α->Prop}: ∀p∈([]:List α),Q p:=fun _ h=>by cases h
theorem all_cons {α:Type} {Q:α->Prop} {a:α} {l:List α} (h:Q a) (t: ∀p∈l,Q p): ∀p∈a::l,Q p:=fun p hp=>by
 rcases List.mem_cons.1 hp with rfl|hp
 ·exact h
 ·exact t p hp
theorem GD {α:Type}: ∀ {l:List (Nat×α)} {i:Nat} {x:α},look l i=some x->(i,x)∈l
 | (j,y)::l,i,x,h=>by
   simp only[look] at h
   cases e:j==i with
   |true=>rw[e] at h;simp at h;subst h;have:=aE e;subst this;simp
   |false=>rw[e] at h;exact List.mem_cons_of_mem _ (GD h)
structure V8 (R:Type) where
 sig:yb
 phi:List DV->(List DV->Option R)->Option R
def SX {R:Type} (tt:TT) (l:List (Nat×V8 R)) (nt:Nat):jZ R:=
 ⟨tt,fun f ds K=>match look l f with|some e=>e.phi ds K|none=>none,fun f=>match look l f with|some e=>some e.sig|none=>none,nt⟩
def D0 {R:Type} (P:Program) (p:Nat×V8 R):Prop:= ∀(ds:List DV) (K:List DV->Option R) (r:R),p.2.phi ds K=some r->Enters P p.1/\ ∃rs,eP P p.1 p.2.sig ds rs/\K rs=some r
theorem T6 {R:Type} {P:Program} {tt:TT} {l:List (Nat×V8 R)} {nt:Nat} (T:qc P tt) (h: ∀p∈l,D0 P p):RJ P (SX tt l nt):=by
 refine ⟨T,fun f g ds K r hs hk=> ?_⟩
 simp only[SX] at hs hk
 split at hk
 ·rename_i e he
  simp only[he] at hs
  cases hs
  exact h _ (GD he) ds K r hk
 ·cases hk
def lZ:Code->List Code
 | .loop b=>b::lZ b
 | .seq a b=>lZ a++lZ b
 | .cond _ a b=>lZ a++lZ b
 | .block _ b=>lZ b
 |_=>[]
theorem MX {R:Type} {G:jZ R} {live:List (Nat×List Nat)} {Λ:yV R}: ∀(c:Code),(∀b∈lZ c,∀K vs hs r,Λ (keyOf b) K vs hs=some r->tM G live Λ b K vs hs r)->qQ G live Λ c:=by
 intro c
 induction c with
 |loop b ih=>intro h;exact ⟨h b (by simp[lZ]),ih fun b' hb=>h b' (by simp[lZ,hb])⟩
 |seq a b iha ihb=>intro h;exact ⟨iha fun b' hb=>h b' (by simp[lZ,hb]),ihb fun b' hb=>h b' (by simp[lZ,hb])⟩
 |cond x a b iha ihb=>intro h;exact ⟨iha fun b' hb=>h b' (by simp[lZ,hb]),ihb fun b' hb=>h b' (by simp[lZ,hb])⟩
 |block i b ih=>intro h;exact ih fun b' hb=>h b' (by simp[lZ,hb])
 |_=>intro _;exact trivial
theorem GF {R:Type} {G:jZ R} {live:List (Nat×List Nat)} {Λ:yV R} {c:Code} {ls:List Code} (e:lZ c=ls) (h: ∀b∈ls,∀K vs hs r,Λ (keyOf b) K vs hs=some r->tM G live Λ b K vs hs r):qQ G live Λ c:=
 MX c (by rw[e];exact h)
theorem XW {P:Program} {l:List (Nat×TE)} (h: ∀p∈l,pE P (look l) p.1 p.2):qc P (look l):=fun t e he=>h _ (GD he)
theorem lH {P:Program} {t s b:Nat} {zs:List Value} (h1:(P.info? t).map (fun i=>(i.size,i.bytes))=some (s,b)) (h2:((P.info? t).bind (fun i=>i.zero)).map (fun z=>z.cells.toList)=some zs): ∃i,P.info? t=some i/\i.size=s/\i.bytes=b/\ ∃z,i.zero=some z/\z.cells.toList=zs:=by
 cases hi:P.info? t with
 |none=>rw[hi] at h1;cases h1
 |some i=>
  rw[hi] at h1 h2
  simp only[Option.map_some,af,aA] at h1
  simp only[aO] at h2
  cases hz:i.zero with
  |none=>rw[hz] at h2;cases h2
  |some z=>
   rw[hz] at h2
   simp only[Option.map_some,af] at h2
   exact ⟨i,rfl,h1.1,h1.2,z,hz,h2⟩
theorem uZ {P:Program} {fields:Array Field} (h:(fields.toList.all fun f=>match P.info? f.type with|some i=> !(i.size==0)|none=>false)=true): ∀f∈fields.toList,∃i,P.info? f.type=some i/\i.size≠0:=fun f hf=>by
 have:=List.all_eq_true.1 h f hf
 split at this
 ·rename_i i hi;exact ⟨i,hi,by simpa using this⟩
 ·cases this
inductive LK where
 |int (k:IntKind)|bool|str|err|ints (k:IntKind)|eQ|strs|rows|ek (sg:List Bool)
abbrev LK.Ty:LK->Type
 | .int _=>Int
 | .bool=>Bool
 | .str=>BA
 | .err=>Bool
 | .ints _=>LI
 | .eQ=>List Bool
 | .strs=>List BA
 | .rows=>LL
 | .ek _=>List (List iQ)
def LK.dl (c:o8):(k:LK)->k.Ty->DL
 | .int k,n=> .i k n
 | .bool,b=> .b b
 | .str,s=> .s s
 | .err,b=> .er b
 | .ints k,l=> .sl c (.ints k l)
 | .eQ,l=> .sl c (.eQ l)
 | .strs,l=> .sl c (.strs l)
 | .rows,l=> .sl c (.rows (decide (c= .own)) l)
 | .ek sg,l=> .sl c (.ek sg (decide (c= .own)) l)
def LK.tj {R:Type} (c:o8):(k:LK)->DL->(k.Ty->Option R)->Option R
 | .int k,d,K=>dI k d K
 | .bool,d,K=>dB d K
 | .str,d,K=>dS d K
 | .err,d,K=>dE d K
 | .ints k,d,K=>Br c k d K
 | .eQ,d,K=>xJ c d K
 | .strs,d,K=>Dz c d K
 | .rows,d,K=>DA c d K
 | .ek sg,d,K=>DB c sg d K
theorem LK.lO {R:Type} {c:o8} {k:LK} {d:DL} {K:k.Ty->Option R} {r:R} (h:k.tj c d K=some r): ∃x,d=k.dl c x/\K x=some r:=by
 cases k with
 |int k=>exact J7 h
 |bool=>exact J8 h
 |str=>exact J9 h
 |err=>exact Pv h
 |ints k=>exact vZ h
 |eQ=>exact xI h
 |strs=>exact Ad h
 |rows=>exact Ae h
 |ek sg=>exact Af h
abbrev UF:List LK->Type->Type
 | [],R=>R
 |k::ks,R=>k.Ty->UF ks R
abbrev GU:List LK->Type
 | []=>Unit
 |k::ks=>k.Ty×GU ks
def Zh (c:o8):(ks:List LK)->GU ks->List DL
 | [],_=>[]
 |k::ks,x=>k.dl c x.1::Zh c ks x.2
def GG {R:Type}:(ks:List LK)->UF ks R->GU ks->R
 | [],f,_=>f
 |_::ks,f,x=>GG ks (f x.1) x.2
def Jd {R S:Type} (c:o8):(ks:List LK)->List DL->UF ks S->(S->Option R)->Option R
 | [],ds,f,K=>Td ds (K f)
 |k::ks,ds,f,K=>Md ds fun d ds=>k.tj c d fun x=>Jd c ks ds (f x) K
theorem tb {R S:Type} {c:o8} {r:R}: ∀ {ks:List LK} {ds:List DL} {f:UF ks S} {K:S->Option R},Jd c ks ds f K=some r-> ∃x,ds=Zh c ks x/\K (GG ks f x)=some r
 | [],ds,f,K,h=>by
   obtain ⟨rfl,h'⟩:=yx h
   exact ⟨(),rfl,h'⟩
 |k::ks,ds,f,K,h=>by
  obtain ⟨d,Aw,rfl,h1⟩:=v_ h
  obtain ⟨x,rfl,h2⟩:=LK.lO h1
  obtain ⟨y,rfl,h3⟩:=tb h2
  exact ⟨(x,y),rfl,h3⟩
inductive DK where
 |l (c:o8) (k:LK)|agg (c:o8) (ks:List LK)|ptr (ks:List LK)
abbrev zr:List DK->Type->Type
 | [],R=>R
 | .l _ k::ds,R=>k.Ty->zr ds R
 | .agg _ ks::ds,R=>UF ks (zr ds R)
 | .ptr ks::ds,R=>UF ks (zr ds R)
abbrev Je:List DK->Type
 | []=>Unit
 | .l _ k::ds=>k.Ty×Je ds
 | .agg _ ks::ds=>GU ks×Je ds
 | .ptr ks::ds=>GU ks×Je ds
def Cf:(ks:List DK)->Je ks->List DV
 | [],_=>[]
 | .l c k::ds,x=> .l (k.dl c x.1)::Cf ds x.2
 | .agg c ks::ds,x=> .agg (Zh c ks x.1)::Cf ds x.2
 | .ptr ks::ds,x=> .ptr (Zh .jw ks x.1)::Cf ds x.2
def ug {R:Type}:(ks:List DK)->zr ks R->Je ks->R
 | [],f,_=>f
 | .l _ _::ds,f,x=>ug ds (f x.1) x.2
 | .agg _ ks::ds,f,x=>ug ds (GG ks f x.1) x.2
 | .ptr ks::ds,f,x=>ug ds (GG ks f x.1) x.2
def GH {R:Type}:(ks:List DK)->List DV->zr ks (Option R)->Option R
 | [],ds,f=>QG ds f
 | .l c k::ks,ds,f=>Bs ds fun d ds=>dL d fun y=>k.tj c y fun x=>GH ks ds (f x)
 | .agg c ls::ks,ds,f=>Bs ds fun d ds=>Te d fun y=>Jd c ls y f fun g=>GH ks ds g
 | .ptr ls::ks,ds,f=>Bs ds fun d ds=>N5 d fun y=>Jd .jw ls y f fun g=>GH ks ds g
theorem qJ {R:Type} {r:R}: ∀ {ks:List DK} {ds:List DV} {f:zr ks (Option R)},GH ks ds f=some r-> ∃x,ds=Cf ks x/\ug ks f x=some r
 | [],ds,f,h=>by
   obtain ⟨rfl,h'⟩:=yw h
   exact ⟨(),rfl,h'⟩
 | .l c k::ks,ds,f,h=>by
   obtain ⟨d,Aw,rfl,h1⟩:=oj h
   obtain ⟨y,rfl,h2⟩:=Bt h1
   obtain ⟨x,rfl,h3⟩:=LK.lO h2
   obtain ⟨z,rfl,h4⟩:=qJ h3
   exact ⟨(x,z),rfl,h4⟩
 | .agg c ls::ks,ds,f,h=>by
   obtain ⟨d,Aw,rfl,h1⟩:=oj h
   obtain ⟨y,rfl,h2⟩:=va h1
   obtain ⟨x,rfl,h3⟩:=tb h2
   obtain ⟨z,rfl,h4⟩:=qJ h3
   exact ⟨(x,z),rfl,h4⟩
 | .ptr ls::ks,ds,f,h=>by
   obtain ⟨d,Aw,rfl,h1⟩:=oj h
   obtain ⟨y,rfl,h2⟩:=u_ h1
   obtain ⟨x,rfl,h3⟩:=tb h2
   obtain ⟨z,rfl,h4⟩:=qJ h3
   exact ⟨(x,z),rfl,h4⟩
inductive SK where
 |i (k:IntKind)|b|s|er|bc (x:Bool)|own (id:Nat)|sub (id:Nat)|ptr (id k:Nat)|arr (id n:Nat)|any|nil|val (p:Bool) (o:Bool) (k:LK)
abbrev SK.Ty:SK->Type
 | .i _=>Int
 | .b=>Bool
 | .s=>BA
 | .er=>Bool
 | .sub _=>Nat×Nat
 | .val _ _ k=>k.Ty
 |_=>Unit
def LK.row (o:Bool):(k:LK)->k.Ty->Row
 | .ints k,l=> .ints k l
 | .eQ,l=> .eQ l
 | .strs,l=> .strs l
 | .rows,l=> .rows o l
 | .ek sg,l=> .ek sg o l
 | .int _,_=> .eQ []
 | .bool,_=> .eQ []
 | .str,_=> .eQ []
 | .err,_=> .eQ []
def LK.KV {R:Type} (o:Bool):(k:LK)->Row->(k.Ty->Option R)->Option R
 | .ints k,w,K=>Ol k w K
 | .eQ,w,K=>Kw w K
 | .strs,w,K=>Om w K
 | .rows,w,K=>On o w K
 | .ek sg,w,K=>Oo sg o w K
 |_,_,_=>none
theorem LK.B3 {R:Type} {r:R} {o:Bool} {k:LK} {w:Row} {K:k.Ty->Option R} (h:k.KV o w K=some r): ∃x,w=k.row o x/\K x=some r:=by
 cases k with
 |ints k=>exact MT h
 |eQ=>exact KU h
 |strs=>exact MU h
 |rows=>exact MV h
 |ek sg=>exact MW h
 |_=>cases h
def SK.lv:(k:SK)->k.Ty->LV
 | .i k,n=> .i k n
 | .b,x=> .b x
 | .s,x=> .s x
 | .er,x=> .er x
 | .bc x,_=> .b x
 | .own id,_=> .own id
 | .sub id,x=> .sub id x.1 x.2
 | .ptr id k,_=> .je id k
 | .arr id n,_=> .arr id n
 | .any,_=> .any
 | .nil,_=> .nil
 | .val p o k,x=> .val p (k.row o x)
def lBc {R:Type} (b:Bool) (x:LV) (K:Option R):Option R:=match x with| .b c=>(bif c==b then K else none)|_=>none
theorem T7 {R:Type} {r:R} {b:Bool} {x:LV} {K:Option R} (h:lBc b x K=some r):x= .b b/\K=some r:=by
 unfold lBc at h;split at h
 ·obtain ⟨h1,h2⟩:=aH h
  have e:=aE h1
  subst e;exact ⟨rfl,h2⟩
 ·cases h
def SK.tj {R:Type}:(k:SK)->LV->(k.Ty->Option R)->Option R
 | .i k,x,K=>lI k x K
 | .b,x,K=>lB x K
 | .s,x,K=>lS x K
 | .er,x,K=>lE x K
 | .bc b0,x,K=>lBc b0 x (K ())
 | .own id,x,K=>Yd id x (K ())
 | .sub id,x,K=>Ye id x fun a b=>K (a,b)
 | .ptr id k,x,K=>Yf id k x (K ())
 | .arr id n,x,K=>Yg id n x (K ())
 | .any,x,K=>Yh x (K ())
 | .nil,x,K=>TD x (K ())
 | .val p o k,x,K=>Yi p x fun w=>k.KV o w K
theorem SK.lO {R:Type} {r:R} {k:SK} {x:LV} {K:k.Ty->Option R} (h:k.tj x K=some r): ∃y,x=k.lv y/\K y=some r:=by
 cases k with
 |i k=>exact V4 h
 |b=>exact V5 h
 |s=>exact V6 h
 |er=>exact V7 h
 |bc b=>obtain ⟨h1,h2⟩:=T7 h;exact ⟨(),h1,h2⟩
 |own id=>obtain ⟨h1,h2⟩:=Ra h;exact ⟨(),h1,h2⟩
 |sub id=>obtain ⟨lo,hi,h1,h2⟩:=Rb h;exact ⟨(lo,hi),h1,h2⟩
 |ptr id k=>obtain ⟨h1,h2⟩:=Rc h;exact ⟨(),h1,h2⟩
 |arr id n=>obtain ⟨h1,h2⟩:=Re h;exact ⟨(),h1,h2⟩
 |any=>obtain ⟨h1,h2⟩:=Rf h;exact ⟨(),h1,h2⟩
 |nil=>obtain ⟨h1,h2⟩:=OP h;exact ⟨(),h1,h2⟩
 |val p o k=>
  obtain ⟨w,h1,h2⟩:=Rg h
  obtain ⟨y,h3,h4⟩:=LK.B3 h2
  exact ⟨y,by rw[h1,h3];rfl,h4⟩
abbrev MY:List SK->Type->Type
 | [],R=>R
 | .i _::ks,R=>Int->MY ks R
 | .b::ks,R=>Bool->MY ks R
 | .s::ks,R=>BA->MY ks R
 | .er::ks,R=>Bool->MY ks R
 | .sub _::ks,R=>Nat->Nat->MY ks R
 | .val _ _ k::ks,R=>k.Ty->MY ks R
 |_::ks,R=>MY ks R
abbrev V9:List SK->Type
 | []=>Unit
 |k::ks=>k.Ty×V9 ks
def YI {R:Type}:(k:SK)->(ks:List SK)->MY (k::ks) R->k.Ty->MY ks R
 | .i _,_,f,x=>f x
 | .b,_,f,x=>f x
 | .s,_,f,x=>f x
 | .er,_,f,x=>f x
 | .sub _,_,f,x=>f x.1 x.2
 | .val _ _ _,_,f,x=>f x
 | .bc _,_,f,_=>f
 | .own _,_,f,_=>f
 | .ptr _ _,_,f,_=>f
 | .arr _ _,_,f,_=>f
 | .any,_,f,_=>f
 | .nil,_,f,_=>f
def lvs:(ks:List SK)->V9 ks->List LV
 | [],_=>[]
 |k::ks,x=>k.lv x.1::lvs ks x.2
def T8 {R:Type}:(ks:List SK)->MY ks R->V9 ks->R
 | [],f,_=>f
 |k::ks,f,x=>T8 ks (YI k ks f x.1) x.2
def PR {R S:Type}:(ks:List SK)->List LV->MY ks S->(S->Option R)->Option R
 | [],xs,f,K=>aaF xs (K f)
 |k::ks,xs,f,K=>WC xs fun x xs=>k.tj x fun y=>PR ks xs (YI k ks f y) K
theorem As {R S:Type} {r:R}: ∀ {ks:List SK} {xs:List LV} {f:MY ks S} {K:S->Option R},PR ks xs f K=some r-> ∃y,xs=lvs ks y/\K (T8 ks f y)=some r
 | [],xs,f,K,h=>by
   obtain ⟨rfl,h'⟩:=Q_ h
   exact ⟨(),rfl,h'⟩
 |k::ks,xs,f,K,h=>by
  obtain ⟨x,Zg,rfl,h1⟩:=OO h
  obtain ⟨y,rfl,h2⟩:=SK.lO h1
  obtain ⟨z,rfl,h3⟩:=As h2
  exact ⟨(y,z),rfl,h3⟩
inductive VK where
 |l (k:SK)|agg (ks:List SK)
abbrev VK.ks:VK->List SK
 | .l k=>[k]
 | .agg ks=>ks
def VK.av:(k:VK)->V9 k.ks->AV
 | .l k,x=> .one (.l (k.lv x.1))
 | .agg ks,x=> .one (.agg (lvs ks x))
def VK.tj {R S:Type}:(k:VK)->AV->MY k.ks S->(S->Option R)->Option R
 | .l k,v,f,K=>vL v fun x=>k.tj x fun y=>K (YI k [] f y)
 | .agg ks,v,f,K=>Yc v fun xs=>PR ks xs f K
theorem VK.lO {R S:Type} {r:R} {k:VK} {v:AV} {f:MY k.ks S} {K:S->Option R} (h:k.tj v f K=some r): ∃y,v=k.av y/\K (T8 k.ks f y)=some r:=by
 cases k with
 |l k=>
  obtain ⟨x,rfl,h1⟩:=V3 h
  obtain ⟨y,rfl,h2⟩:=SK.lO h1
  exact ⟨(y,()),rfl,h2⟩
 |agg ks=>
  obtain ⟨xs,rfl,h1⟩:=Q9 h
  obtain ⟨y,rfl,h2⟩:=As h1
  exact ⟨y,rfl,h2⟩
inductive RK where
 |row (o:Bool) (k:LK)|box (ks:List SK)
abbrev RK.Fn:RK->Type->Type
 | .row _ k,R=>k.Ty->R
 | .box ks,R=>MY ks R
abbrev RK.Ty:RK->Type
 | .row _ k=>k.Ty
 | .box ks=>V9 ks
def RK.HN {R:Type}:(k:RK)->k.Fn R->k.Ty->R
 | .row _ _,f,x=>f x
 | .box ks,f,x=>T8 ks f x
def RK.root:(k:RK)->k.Ty->Option aQ
 | .row o k,x=>some (.row 0 0 (k.row o x))
 | .box ks,x=>some (.box 0 (lvs ks x))
def RK.tj {R S:Type}:(k:RK)->Option aQ->k.Fn S->(S->Option R)->Option R
 | .row o k,x,f,K=>Yj x fun w=>k.KV o w fun y=>K (f y)
 | .box ks,x,f,K=>Yk x fun c=>PR ks c f K
theorem RK.lO {R S:Type} {r:R} {k:RK} {x:Option aQ} {f:k.Fn S} {K:S->Option R} (h:k.tj x f K=some r): ∃y,x=k.root y/\K (k.HN f y)=some r:=by
 cases k with
 |row o k=>
  obtain ⟨w,rfl,h1⟩:=Rh h
  obtain ⟨y,rfl,h2⟩:=LK.B3 h1
  exact ⟨y,rfl,h2⟩
 |box ks=>
  obtain ⟨c,rfl,h1⟩:=Ri h
  obtain ⟨y,rfl,h2⟩:=As h1
  exact ⟨y,rfl,h2⟩
abbrev Zi:List RK->Type->Type
 | [],R=>R
 |k::ks,R=>k.Fn (Zi ks R)
abbrev YJ:List RK->Type
 | []=>Unit
 |k::ks=>k.Ty×YJ ks
def roots:(ks:List RK)->YJ ks->List (Option aQ)
 | [],_=>[]
 |k::ks,x=>k.root x.1::roots ks x.2
def YK {R:Type}:(ks:List RK)->Zi ks R->YJ ks->R
 | [],f,_=>f
 |k::ks,f,x=>YK ks (k.HN f x.1) x.2
def T9 {R:Type}:(ks:List RK)->List (Option aQ)->Zi ks (Option R)->Option R
 | [],hs,f=>aaE hs f
 |k::ks,hs,f=>WB hs fun h hs=>k.tj h f fun g=>T9 ks hs g
theorem GI {R:Type} {r:R}: ∀ {ks:List RK} {hs:List (Option aQ)} {f:Zi ks (Option R)},T9 ks hs f=some r-> ∃y,hs=roots ks y/\YK ks f y=some r
 | [],hs,f,h=>by
   obtain ⟨rfl,h'⟩:=Q8 h
   exact ⟨(),rfl,h'⟩
 |k::ks,hs,f,h=>by
  obtain ⟨x,ZT,rfl,h1⟩:=ON h
  obtain ⟨y,rfl,h2⟩:=RK.lO h1
  obtain ⟨z,rfl,h3⟩:=GI h2
  exact ⟨(y,z),rfl,h3⟩
abbrev Zj:List VK->Type->Type
 | [],R=>R
 |k::ks,R=>MY k.ks (Zj ks R)
abbrev YL:List VK->Type
 | []=>Unit
 |k::ks=>V9 k.ks×YL ks
def avs:(ks:List VK)->YL ks->List AV
 | [],_=>[]
 |k::ks,x=>k.av x.1::avs ks x.2
def YN {R:Type}:(ks:List VK)->Zj ks R->YL ks->R
 | [],f,_=>f
 |k::ks,f,x=>YN ks (T8 k.ks f x.1) x.2
def T_ {R S:Type}:(ks:List VK)->List AV->Zj ks S->(S->Option R)->Option R
 | [],vs,f,K=>aaD vs (K f)
 |k::ks,vs,f,K=>WA vs fun v vs=>k.tj v f fun g=>T_ ks vs g K
theorem GJ {R S:Type} {r:R}: ∀ {ks:List VK} {vs:List AV} {f:Zj ks S} {K:S->Option R},T_ ks vs f K=some r-> ∃y,vs=avs ks y/\K (YN ks f y)=some r
 | [],vs,f,K,h=>by
   obtain ⟨rfl,h'⟩:=Q7 h
   exact ⟨(),rfl,h'⟩
 |k::ks,vs,f,K,h=>by
  obtain ⟨x,Ec,rfl,h1⟩:=OM h
  obtain ⟨y,rfl,h2⟩:=VK.lO h1
  obtain ⟨z,rfl,h3⟩:=GJ h2
  exact ⟨(y,z),rfl,h3⟩
structure Hd where
 vs:List VK
 hs:List RK
abbrev Hd.Fn (H:Hd) (R:Type):Type:=Zj H.vs (Zi H.hs R)
abbrev Hd.Ty (H:Hd):Type:=YL H.vs×YJ H.hs
def Hd.enc (H:Hd) (x:H.Ty):List AV×List (Option aQ):=(avs H.vs x.1,roots H.hs x.2)
def Hd.HN {R:Type} (H:Hd) (f:H.Fn R) (x:H.Ty):R:=YK H.hs (YN H.vs f x.1) x.2
def Hd.tj {R:Type} (H:Hd) (vs:List AV) (hs:List (Option aQ)) (f:H.Fn (Option R)):Option R:=T_ H.vs vs f fun g=>T9 H.hs hs g
theorem Hd.lO {R:Type} {r:R} {H:Hd} {vs:List AV} {hs:List (Option aQ)} {f:H.Fn (Option R)} (h:H.tj vs hs f=some r): ∃x,H.enc x=(vs,hs)/\H.HN f x=some r:=by
 obtain ⟨x,rfl,h1⟩:=GJ h
 obtain ⟨y,rfl,h2⟩:=GI h1
 exact ⟨(x,y),rfl,h2⟩
abbrev Fit {R:Type} (G:jZ R) (live:List (Nat×List Nat)) (Λ:yV R) (b:Code):Prop:= ∀K vs hs r,Λ (keyOf b) K vs hs=some r->tM G live Λ b K vs hs r
def Rj {S T:Type}:(ks:List LK)->(S->T)->UF ks S->UF ks T
 | [],m,f=>m f
 |_::ks,m,f=>fun x=>Rj ks m (f x)
def MZ {S T:Type}:(ks:List DK)->(S->T)->zr ks S->zr ks T
 | [],m,f=>m f
 | .l _ _::ds,m,f=>fun x=>MZ ds m (f x)
 | .agg _ ks::ds,m,f=>Rj ks (MZ ds m) f
 | .ptr ks::ds,m,f=>Rj ks (MZ ds m) f
theorem GK {S T:Type} (m:S->T): ∀(ks:List LK) (f:UF ks S) (x:GU ks),GG ks (Rj ks m f) x=m (GG ks f x)
 | [],f,x=>rfl
 |_::ks,f,x=>GK m ks (f x.1) x.2
theorem x_ {S T:Type} (m:S->T): ∀(ks:List DK) (f:zr ks S) (x:Je ks),ug ks (MZ ks m f) x=m (ug ks f x)
 | [],f,x=>rfl
 | .l _ _::ds,f,x=>x_ m ds (f x.1) x.2
 | .agg _ ks::ds,f,x=>by
   show ug ds (GG ks (Rj ks (MZ ds m) f) x.1) x.2=_
   rw[GK,x_ m ds]
   rfl
 | .ptr ks::ds,f,x=>by
   show ug ds (GG ks (Rj ks (MZ ds m) f) x.1) x.2=_
   rw[GK,x_ m ds]
   rfl
def WQ {R Y:Type} (pk:List DK) (F:zr pk (Option Y)) (enc:Y->List DV) (ds:List DV) (K:List DV->Option R):Option R:=GH pk ds (MZ pk (fun o=>o.bind fun r=>K (enc r)) F)
theorem aa2 {R Y:Type} {P:Program} {f:FuncId} {g:yb} {pk:List DK} {F:zr pk (Option Y)} {enc:Y->List DV} (he:Enters P f) (hc: ∀(x:Je pk) (r:Y),ug pk F x=some r->eP P f g (Cf pk x) (enc r)):D0 (R:=R) P (f,⟨g,WQ pk F enc⟩):=fun ds K r h0=>by
 obtain ⟨x,rfl,h⟩:=qJ h0
 rw[x_] at h
 obtain ⟨y,h1,h2⟩:=Option.bind_eq_some_iff.1 h
 exact ⟨he,_,hc x y h1,h2⟩
def wU:List DK->List LK
 | []=>[]
 | .l _ k::ds=>k::wU ds
 | .agg _ ks::ds=>ks++wU ds
 | .ptr ks::ds=>ks++wU ds
abbrev FT:List LK->Type
 | []=>Unit
 | [k]=>k.Ty
 |k::j::ks=>k.Ty×FT (j::ks)
def V_:(ks:List LK)->GU ks->FT ks
 | [],_=>()
 | [_],x=>x.1
 |_::j::ks,x=>(x.1,V_ (j::ks) x.2)
def Rk:(ks:List LK)->FT ks->GU ks
 | [],_=>()
 | [_],x=>(x,())
 |_::j::ks,x=>(x.1,Rk (j::ks) x.2)
theorem C4: ∀(ks:List LK) (x:GU ks),Rk ks (V_ ks x)=x
 | [],_=>rfl
 | [_],_=>rfl
 |_::j::ks,x=>congrArg (Prod.mk x.1) (C4 (j::ks) x.2)
def H2:(ks ls:List LK)->GU ks->GU ls->GU (ks++ls)
 | [],_,_,y=>y
 |_::ks,ls,x,y=>(x.1,H2 ks ls x.2 y)
def C5:(ks ls:List LK)->GU (ks++ls)->GU ks×GU ls
 | [],_,y=>((),y)
 |_::ks,ls,x=>((x.1,(C5 ks ls x.2).1),(C5 ks ls x.2).2)
theorem KW: ∀(ks ls:List LK) (x:GU ks) (y:GU ls),C5 ks ls (H2 ks ls x y)=(x,y)
 | [],_,_,_=>rfl
 |_::ks,ls,x,y=>by
  have h:=KW ks ls x.2 y
  show ((x.1,(C5 ks ls (H2 ks ls x.2 y)).1),(C5 ks ls (H2 ks ls x.2 y)).2)=(x,y)
  rw[h]
def zJ:(ks:List DK)->Je ks->GU (wU ks)
 | [],_=>()
 | .l _ _::ds,x=>(x.1,zJ ds x.2)
 | .agg _ ks::ds,x=>H2 ks (wU ds) x.1 (zJ ds x.2)
 | .ptr ks::ds,x=>H2 ks (wU ds) x.1 (zJ ds x.2)
def UG:(ks:List DK)->GU (wU ks)->Je ks
 | [],_=>()
 | .l _ _::ds,x=>(x.1,UG ds x.2)
 | .agg _ ks::ds,x=>((C5 ks (wU ds) x).1,UG ds (C5 ks (wU ds) x).2)
 | .ptr ks::ds,x=>((C5 ks (wU ds) x).1,UG ds (C5 ks (wU ds) x).2)
theorem vk: ∀(ks:List DK) (x:Je ks),UG ks (zJ ks x)=x
 | [],_=>rfl
 | .l _ _::ds,x=>congrArg (Prod.mk x.1) (vk ds x.2)
 | .agg _ ks::ds,x=>by
   show ((C5 ks (wU ds) (H2 ks (wU ds) x.1 (zJ ds x.2))).1,UG ds (C5 ks (wU ds) (H2 ks (wU ds) x.1 (zJ ds x.2))).2)=x
   rw[KW,vk ds x.2]
 | .ptr ks::ds,x=>by
   show ((C5 ks (wU ds) (H2 ks (wU ds) x.1 (zJ ds x.2))).1,UG ds (C5 ks (wU ds) (H2 ks (wU ds) x.1 (zJ ds x.2))).2)=x
   rw[KW,vk ds x.2]
def Rm {S:Type}:(ks:List LK)->(GU ks->S)->UF ks S
 | [],f=>f ()
 |_::ks,f=>fun x=>Rm ks fun y=>f (x,y)
def M0 {S:Type}:(ks:List DK)->(Je ks->S)->zr ks S
 | [],f=>f ()
 | .l _ _::ds,f=>fun x=>M0 ds fun y=>f (x,y)
 | .agg _ ks::ds,f=>Rm ks fun x=>M0 ds fun y=>f (x,y)
 | .ptr ks::ds,f=>Rm ks fun x=>M0 ds fun y=>f (x,y)
theorem GL {S:Type}: ∀(ks:List LK) (f:GU ks->S) (x:GU ks),GG ks (Rm ks f) x=f x
 | [],_,_=>rfl
 |_::ks,f,x=>GL ks (fun y=>f (x.1,y)) x.2
theorem ya {S:Type}: ∀(ks:List DK) (f:Je ks->S) (x:Je ks),ug ks (M0 ks f) x=f x
 | [],_,_=>rfl
 | .l _ _::ds,f,x=>ya ds (fun y=>f (x.1,y)) x.2
 | .agg _ ks::ds,f,x=>by
   show ug ds (GG ks (Rm ks fun x=>M0 ds fun y=>f (x,y)) x.1) x.2=f x
   rw[GL,ya]
 | .ptr ks::ds,f,x=>by
   show ug ds (GG ks (Rm ks fun x=>M0 ds fun y=>f (x,y)) x.1) x.2=f x
   rw[GL,ya]
def Wa (rk:List DK) (r:FT (wU rk)):List DV:=Cf rk (UG rk (Rk (wU rk) r))
def Vn (rk:List DK) (ds:List DV):Option (FT (wU rk)):=GH rk ds (M0 rk fun x=>some (V_ (wU rk) (zJ rk x)))
theorem Rn {rk:List DK} {ds:List DV} {r:FT (wU rk)} (h:Vn rk ds=some r):ds=Wa rk r:=by
 obtain ⟨x,rfl,h1⟩:=qJ h
 rw[ya] at h1
 cases h1
 unfold Wa
 rw[C4,vk]
structure Sp where
 f:FuncId
 sig:yb
 pk:List DK
 rk:List DK
abbrev Sp.Y (S:Sp):Type:=FT (wU S.rk)
def Sp.ent {R:Type} (S:Sp) (F:zr S.pk (Option S.Y)):Nat×V8 R:=(S.f,⟨S.sig,WQ S.pk F (Wa S.rk)⟩)
def Hm (P:Program) (S:Sp) (F:zr S.pk (Option S.Y)):Prop:=Enters P S.f/\ ∀(x:Je S.pk) (r:S.Y),ug S.pk F x=some r->eP P S.f S.sig (Cf S.pk x) (Wa S.rk r)
theorem YO {R:Type} {P:Program} {S:Sp} {F:zr S.pk (Option S.Y)} (h:Hm P S F):D0 (R:=R) P (S.ent F):=aa2 h.1 h.2
noncomputable def bd (fn:Func):Code:=(fn.body).getD .skip
noncomputable def bl (fn:Func) (i:Nat):Code:=((lZ (bd fn))[i]?).getD .skip
def noL {R:Type}:yV R:=fun _ _ _ _=>none
def pre (fn:Func) (g:yb) (body:Code):Option Code×List Code×Nat×Bool×Nat×Bool:=(fn.body,lZ body,fn.ntmps,Nat.ble g.params.length fn.ntmps,fn.results.size,fn.name== "runtime.NumGoroutine")
theorem SY {P:Program} {tt:TT} {S:Sp} {F:zr S.pk (Option S.Y)} {l:List (Nat×V8 S.Y)} {nt:Nat} {live:List (Nat×List Nat)} {Λ:yV S.Y} {fn:Func} {ls:List Code} (T:qc P tt) (hG: ∀p∈l,D0 P p) (hm:P.follows .mixedOrders=true) (hf:P.funcs[S.f]? =some fn) (hp:pre fn S.sig (bd fn)=(some (bd fn),ls,nt,true,S.sig.results.length,false)) (hl: ∀b∈ls,Fit (SX tt l nt) live Λ b) (he: ∀x,NW (SX tt l nt) live Λ S.sig fn (Cf S.pk x) (Vn S.rk)=ug S.pk F x):Hm P S F:=by
 simp only[pre,aA] at hp
 obtain ⟨h1,h2,h3,h4,h5,h6⟩:=hp
 refine ⟨⟨fn,hf,h6,by rw[h1];rfl⟩,fun x r h=> ?_⟩
 exact DI (T6 T hG) hm hf h1 (GF h2 fun b hb K vs hs r h=>hl b hb K vs hs r h) h3.symm (bD h4) h5 (fun _ h=>Rn h) ((he x).trans h)
def Rr (c:o8):(ks:List DK)->Je ks->List DV
 | [],_=>[]
 | .l _ k::ds,x=> .l (k.dl c x.1)::Rr c ds x.2
 | .agg _ ks::ds,x=> .agg (Zh c ks x.1)::Rr c ds x.2
 | .ptr ks::ds,x=> .ptr (Zh .jw ks x.1)::Rr c ds x.2
def M1 {R:Type} (c:o8):(ks:List DK)->List DV->zr ks (Option R)->Option R
 | [],ds,f=>QG ds f
 | .l _ k::ks,ds,f=>Bs ds fun d ds=>dL d fun y=>k.tj c y fun x=>M1 c ks ds (f x)
 | .agg _ ls::ks,ds,f=>Bs ds fun d ds=>Te d fun y=>Jd c ls y f fun g=>M1 c ks ds g
 | .ptr ls::ks,ds,f=>Bs ds fun d ds=>N5 d fun y=>Jd .jw ls y f fun g=>M1 c ks ds g
theorem wz {R:Type} {r:R} {c:o8}: ∀ {ks:List DK} {ds:List DV} {f:zr ks (Option R)},M1 c ks ds f=some r-> ∃x,ds=Rr c ks x/\ug ks f x=some r
 | [],ds,f,h=>by
   obtain ⟨rfl,h'⟩:=yw h
   exact ⟨(),rfl,h'⟩
 | .l _ k::ks,ds,f,h=>by
   obtain ⟨d,Aw,rfl,h1⟩:=oj h
   obtain ⟨y,rfl,h2⟩:=Bt h1
   obtain ⟨x,rfl,h3⟩:=LK.lO h2
   obtain ⟨z,rfl,h4⟩:=wz h3
   exact ⟨(x,z),rfl,h4⟩
 | .agg _ ls::ks,ds,f,h=>by
   obtain ⟨d,Aw,rfl,h1⟩:=oj h
   obtain ⟨y,rfl,h2⟩:=va h1
   obtain ⟨x,rfl,h3⟩:=tb h2
   obtain ⟨z,rfl,h4⟩:=wz h3
   exact ⟨(x,z),rfl,h4⟩
 | .ptr ls::ks,ds,f,h=>by
   obtain ⟨d,Aw,rfl,h1⟩:=oj h
   obtain ⟨y,rfl,h2⟩:=u_ h1
   obtain ⟨x,rfl,h3⟩:=tb h2
   obtain ⟨z,rfl,h4⟩:=wz h3
   exact ⟨(x,z),rfl,h4⟩
def Ua (c:o8) (rk:List DK) (r:FT (wU rk)):List DV:=Rr c rk (UG rk (Rk (wU rk) r))
def YP (c:o8) (rk:List DK) (ds:List DV):Option (FT (wU rk)):=M1 c rk ds (M0 rk fun x=>some (V_ (wU rk) (zJ rk x)))
theorem Jf {c:o8} {rk:List DK} {ds:List DV} {r:FT (wU rk)} (h:YP c rk ds=some r):ds=Ua c rk r:=by
 obtain ⟨x,rfl,h1⟩:=wz h
 rw[ya] at h1
 cases h1
 unfold Ua
 rw[C4,vk]
def aa3:(k:LK)->k.Ty->k.Ty
 | .bool,_=>false
 | .int _,x=>x
 | .str,x=>x
 | .err,x=>x
 | .ints _,x=>x
 | .eQ,x=>x
 | .strs,x=>x
 | .rows,x=>x
 | .ek _,x=>x
def Ub:(k:LK)->k.Ty->Bool
 | .bool,b=> !b
 |_,_=>true
theorem Rs: ∀ {k:LK} {x:k.Ty},Ub k x=true->aa3 k x=x
 | .bool,false,_=>rfl
 | .bool,true,h=>by cases h
 | .int _,_,_=>rfl
 | .str,_,_=>rfl
 | .err,_,_=>rfl
 | .ints _,_,_=>rfl
 | .eQ,_,_=>rfl
 | .strs,_,_=>rfl
 | .rows,_,_=>rfl
 | .ek _,_,_=>rfl
def Uc:(ks:List DK)->Je ks->Je ks
 | [],x=>x
 | .l _ k::ds,x=>(aa3 k x.1,Uc ds x.2)
 | .agg _ _::ds,x=>(x.1,Uc ds x.2)
 | .ptr _::ds,x=>(x.1,Uc ds x.2)
def GM:(ks:List DK)->Je ks->Bool
 | [],_=>true
 | .l _ k::ds,x=>Ub k x.1&&GM ds x.2
 | .agg _ _::ds,x=>GM ds x.2
 | .ptr _::ds,x=>GM ds x.2
theorem yI: ∀ {ks:List DK} {x:Je ks},GM ks x=true->Uc ks x=x
 | [],_,_=>rfl
 | .l _ k::ds,x,h=>by
   obtain ⟨h1,h2⟩:=ba h
   exact Prod.ext (Rs h1) (yI h2)
 | .agg _ _::ds,x,h=>Prod.ext rfl (yI (ks:=ds) h)
 | .ptr _::ds,x,h=>Prod.ext rfl (yI (ks:=ds) h)
abbrev Sp.YM (S:Sp):Type:=Bool×FT (wU S.rk)
def aa4 (rk:List DK) (r:FT (wU rk)):List DV:=Rr .bi rk (Uc rk (UG rk (Rk (wU rk) r)))
def aa5 (rk:List DK) (r:Bool×FT (wU rk)):List DV:=bif r.1 then Ua .own rk r.2 else aa4 rk r.2
def Vp (rk:List DK) (ds:List DV):Option (Bool×FT (wU rk)):=match YP .own rk ds with
 |some y=>some (true,y)
 |none=>match YP .bi rk ds with
  |some y=>bif GM rk (UG rk (Rk (wU rk) y)) then some (false,y) else none
  |none=>none
theorem Rt {rk:List DK} {ds:List DV} {r:Bool×FT (wU rk)} (h:Vp rk ds=some r):ds=aa5 rk r:=by
 unfold Vp at h
 split at h
 ·rename_i y hy;cases h;exact Jf hy
 ·split at h
  ·rename_i y hy
   obtain ⟨h1,h2⟩:=aH h
   cases h2
   have:=Jf hy
   unfold Ua at this
   rw[<- yI h1] at this
   exact this
  ·cases h
def Sp.aa6 {R:Type} (S:Sp) (F:zr S.pk (Option S.YM)):Nat×V8 R:=(S.f,⟨S.sig,fun ds K=>GH S.pk ds (MZ S.pk (fun o=>o.bind fun r=>bif r.1 then K (Ua .own S.rk r.2) else K (aa4 S.rk r.2)) F)⟩)
def S0 (P:Program) (S:Sp) (F:zr S.pk (Option S.YM)):Prop:=Enters P S.f/\ ∀(x:Je S.pk) (r:S.YM),ug S.pk F x=some r->eP P S.f S.sig (Cf S.pk x) (aa5 S.rk r)
theorem Wb {R:Type} {P:Program} {S:Sp} {F:zr S.pk (Option S.YM)} (h:S0 P S F):D0 (R:=R) P (S.aa6 F):=fun ds K r h0=>by
 obtain ⟨x,rfl,h1⟩:=qJ h0
 rw[x_] at h1
 obtain ⟨⟨b,y⟩,h2,h3⟩:=Option.bind_eq_some_iff.1 h1
 refine ⟨h.1,_,h.2 x _ h2,?_⟩
 cases b<;>exact h3
theorem Vq {P:Program} {tt:TT} {S:Sp} {F:zr S.pk (Option S.YM)} {l:List (Nat×V8 S.YM)} {nt:Nat} {live:List (Nat×List Nat)} {Λ:yV S.YM} {fn:Func} {ls:List Code} (T:qc P tt) (hG: ∀p∈l,D0 P p) (hm:P.follows .mixedOrders=true) (hf:P.funcs[S.f]? =some fn) (hp:pre fn S.sig (bd fn)=(some (bd fn),ls,nt,true,S.sig.results.length,false)) (hl: ∀b∈ls,Fit (SX tt l nt) live Λ b) (he: ∀x,NW (SX tt l nt) live Λ S.sig fn (Cf S.pk x) (Vp S.rk)=ug S.pk F x):S0 P S F:=by
 simp only[pre,aA] at hp
 obtain ⟨h1,h2,h3,h4,h5,h6⟩:=hp
 refine ⟨⟨fn,hf,h6,by rw[h1];rfl⟩,fun x r h=> ?_⟩
 exact DI (T6 T hG) hm hf h1 (GF h2 fun b hb K vs hs r h=>hl b hb K vs hs r h) h3.symm (bD h4) h5 (fun _ h=>Rt h) ((he x).trans h)
theorem Jo {P:Program} {S:Sp} {g:Nat->zr S.pk (Option S.Y)} {b:zr S.pk (Option S.Y)->zr S.pk (Option S.Y)} (he:Enters P S.f) (h0: ∀x,ug S.pk (g 0) x=none) (h1: ∀n,g (n+1)=b (g n)) (hs: ∀F,Hm P S F->Hm P S (b F)): ∀n,Hm P S (g n)
 |0=>⟨he,fun x r h=>by rw[h0] at h;cases h⟩
 |n+1=>by rw[h1];exact hs _ (Jo he h0 h1 hs n)
def B4 {R:Type}:(ks:List SK)->(V9 ks->R)->MY ks R
 | [],f=>f ()
 | .i _::ks,f=>fun x=>B4 ks fun y=>f (x,y)
 | .b::ks,f=>fun x=>B4 ks fun y=>f (x,y)
 | .s::ks,f=>fun x=>B4 ks fun y=>f (x,y)
 | .er::ks,f=>fun x=>B4 ks fun y=>f (x,y)
 | .sub _::ks,f=>fun x x'=>B4 ks fun y=>f ((x,x'),y)
 | .val _ _ _::ks,f=>fun x=>B4 ks fun y=>f (x,y)
 | .bc _::ks,f=>B4 ks fun y=>f ((),y)
 | .own _::ks,f=>B4 ks fun y=>f ((),y)
 | .ptr _ _::ks,f=>B4 ks fun y=>f ((),y)
 | .arr _ _::ks,f=>B4 ks fun y=>f ((),y)
 | .any::ks,f=>B4 ks fun y=>f ((),y)
 | .nil::ks,f=>B4 ks fun y=>f ((),y)
def At:(ks:List SK)->(V9 ks->Prop)->Prop
 | [],f=>f ()
 | .i _::ks,f=> ∀x,At ks fun y=>f (x,y)
 | .b::ks,f=> ∀x,At ks fun y=>f (x,y)
 | .s::ks,f=> ∀x,At ks fun y=>f (x,y)
 | .er::ks,f=> ∀x,At ks fun y=>f (x,y)
 | .sub _::ks,f=> ∀x x',At ks fun y=>f ((x,x'),y)
 | .val _ _ _::ks,f=> ∀x,At ks fun y=>f (x,y)
 | .bc _::ks,f=>At ks fun y=>f ((),y)
 | .own _::ks,f=>At ks fun y=>f ((),y)
 | .ptr _ _::ks,f=>At ks fun y=>f ((),y)
 | .arr _ _::ks,f=>At ks fun y=>f ((),y)
 | .any::ks,f=>At ks fun y=>f ((),y)
 | .nil::ks,f=>At ks fun y=>f ((),y)
theorem l_: ∀ {ks:List SK} {f:V9 ks->Prop},At ks f-> ∀x,f x
 | [],_,h,_=>h
 | .i _::_,f,h,x=>l_ (f:=fun y=>f (x.1,y)) (h x.1) x.2
 | .b::_,f,h,x=>l_ (f:=fun y=>f (x.1,y)) (h x.1) x.2
 | .s::_,f,h,x=>l_ (f:=fun y=>f (x.1,y)) (h x.1) x.2
 | .er::_,f,h,x=>l_ (f:=fun y=>f (x.1,y)) (h x.1) x.2
 | .sub _::_,f,h,x=>l_ (f:=fun y=>f (x.1,y)) (h x.1.1 x.1.2) x.2
 | .val _ _ _::_,f,h,x=>l_ (f:=fun y=>f (x.1,y)) (h x.1) x.2
 | .bc _::_,f,h,x=>l_ (f:=fun y=>f (x.1,y)) h x.2
 | .own _::_,f,h,x=>l_ (f:=fun y=>f (x.1,y)) h x.2
 | .ptr _ _::_,f,h,x=>l_ (f:=fun y=>f (x.1,y)) h x.2
 | .arr _ _::_,f,h,x=>l_ (f:=fun y=>f (x.1,y)) h x.2
 | .any::_,f,h,x=>l_ (f:=fun y=>f (x.1,y)) h x.2
 | .nil::_,f,h,x=>l_ (f:=fun y=>f (x.1,y)) h x.2
def aa7 {R:Type}:(ks:List VK)->(YL ks->R)->Zj ks R
 | [],f=>f ()
 |k::ks,f=>B4 k.ks fun x=>aa7 ks fun y=>f (x,y)
def YQ:(ks:List VK)->(YL ks->Prop)->Prop
 | [],f=>f ()
 |k::ks,f=>At k.ks fun x=>YQ ks fun y=>f (x,y)
theorem M2: ∀ {ks:List VK} {f:YL ks->Prop},YQ ks f-> ∀x,f x
 | [],_,h,_=>h
 |_::_,f,h,x=>M2 (f:=fun y=>f (x.1,y)) (l_ h x.1) x.2
def YR {R:Type}:(ks:List RK)->(YJ ks->R)->Zi ks R
 | [],f=>f ()
 | .row _ _::ks,f=>fun x=>YR ks fun y=>f (x,y)
 | .box l::ks,f=>B4 l fun x=>YR ks fun y=>f (x,y)
def Wc:(ks:List RK)->(YJ ks->Prop)->Prop
 | [],f=>f ()
 | .row _ _::ks,f=> ∀x,Wc ks fun y=>f (x,y)
 | .box l::ks,f=>At l fun x=>Wc ks fun y=>f (x,y)
theorem GN: ∀ {ks:List RK} {f:YJ ks->Prop},Wc ks f-> ∀x,f x
 | [],_,h,_=>h
 | .row _ _::_,f,h,x=>GN (f:=fun y=>f (x.1,y)) (h x.1) x.2
 | .box _::_,f,h,x=>GN (f:=fun y=>f (x.1,y)) (l_ h x.1) x.2
def Hd.mk' (H:Hd):H.Fn H.Ty:=aa7 H.vs fun x=>YR H.hs fun y=>(x,y)
def Hd.all (H:Hd) (f:H.Ty->Prop):Prop:=YQ H.vs fun x=>Wc H.hs fun y=>f (x,y)
theorem Hd.Wd {H:Hd} {f:H.Ty->Prop} (h:H.all f) (x:H.Ty):f x:=GN (f:=fun y=>f (x.1,y)) (M2 h x.1) x.2
theorem YU {R A:Type} {H:Hd} {G:jZ R} {live:List (Nat×List Nat)} {Λ:yV R} {b:Code} {K:X->St->Option R} {x:H.Ty} {r:R} {step:(A->Option R)->A->Option R} {n:Nat} {a:A} (h:iter step n a=some r) (We:A->H.Ty) (sel:H.Fn (Option A)) (e:We a=x) (e1: ∀a,H.tj (H.enc (We a)).1 (H.enc (We a)).2 sel=some a) (e2: ∀(Lp:List AV->List (Option aQ)->Option R) a,ev G live Λ b (fun x S'=>match x with| .normal=>Lp (xS (oO live b) (uk (wL live b) S')) (wK (oO live b) (uk (wL live b) S'))|x=>K x (Tz (Kq live b) (uk (Gc live b) S'))) (bZ (oO live b) (H.enc (We a)).1 (H.enc (We a)).2)=step (fun a'=>Lp (H.enc (We a')).1 (H.enc (We a')).2) a):tM G live Λ b K (H.enc x).1 (H.enc x).2 r:=
 ⟨A,fun a=>H.enc (We a),fun vs hs=>H.tj vs hs sel,step,n,a,by show H.enc (We a)=_;rw[e],e1,e2,h⟩
theorem Hd.fit {R:Type} (H:Hd) {G:jZ R} {live:List (Nat×List Nat)} {Λ:yV R} {b:Code} {key:Nat} (hk:keyOf b=key) (T:(X->St->Option R)->H.Fn (Option R)) (ht: ∀K vs hs,Λ key K vs hs=H.tj vs hs (T K)) (h: ∀K r,H.all fun x=>H.HN (T K) x=some r->tM G live Λ b K (H.enc x).1 (H.enc x).2 r):Fit G live Λ b:=fun K vs hs r h0=>by
 rw[hk,ht] at h0
 obtain ⟨x,e,h1⟩:=Hd.lO h0
 have h2:=Hd.Wd (h K r) x h1
 rw[e] at h2
 exact h2
structure Ce (P:Program) where
 e: ∀R:Type,Nat×V8 R
 ok: ∀R,D0 (R:=R) P (e R)
def ce {P:Program} {S:Sp} {F:zr S.pk (Option S.Y)} (h:Hm P S F):Ce P:=⟨fun _=>S.ent F,fun _=>YO h⟩
def ceM {P:Program} {S:Sp} {F:zr S.pk (Option S.YM)} (h:S0 P S F):Ce P:=⟨fun _=>S.aa6 F,fun _=>Wb h⟩
def NY {P:Program} (R:Type):List (Ce P)->List (Nat×V8 R)
 | []=>[]
 |c::cs=>c.e R::NY R cs
theorem Ew {P:Program} {R:Type}: ∀(cs:List (Ce P)),∀p∈NY R cs,D0 P p
 | [],p,h=>by cases h
 |c::cs,p,h=>by
  rcases List.mem_cons.1 h with rfl|h
  ·exact c.ok R
  ·exact Ew cs p h
structure Lh (R:Type) where
 key:Nat
 h:Hd
 T:(X->St->Option R)->h.Fn (Option R)
def SZ {R:Type}:List (Lh R)->yV R
 | []=>fun _ _ _ _=>none
 |l::ls=>fun id K vs hs=>bif id==l.key then l.h.tj vs hs (l.T K) else SZ ls id K vs hs
noncomputable def bls (fn:Func):Nat->Nat->List Code
 |_,0=>[]
 |i,n+1=>bl fn i::bls fn (i+1) n
abbrev so (f:FuncId) (ps rs:List Nat) (oc:o8) (pk rk:List DK):Sp:=⟨f,⟨ps,rs,ps.map fun _=> .qp,oc⟩,pk,rk⟩
theorem fm {R A:Type} {H:Hd} {G:jZ R} {live:List (Nat×List Nat)} {Λ:yV R} {b:Code} {K:X->St->Option R} {x:H.Ty} {r:R} {step:(A->Option R)->A->Option R} {n:Nat} {a:A} (h:iter step n a=some r) (em:A->H.Fn H.Ty->H.Ty) (sel:H.Fn (Option A)) (e:em a H.mk' =x:=by kernel_rfl) (e1: ∀a,H.tj (H.enc (em a H.mk')).1 (H.enc (em a H.mk')).2 sel=some a:=by intro _;kernel_rfl) (e2: ∀(Lp:List AV->List (Option aQ)->Option R) a,ev G live Λ b (fun x S'=>match x with| .normal=>Lp (xS (oO live b) (uk (wL live b) S')) (wK (oO live b) (uk (wL live b) S'))|x=>K x (Tz (Kq live b) (uk (Gc live b) S'))) (bZ (oO live b) (H.enc (em a H.mk')).1 (H.enc (em a H.mk')).2)=step (fun a'=>Lp (H.enc (em a' H.mk')).1 (H.enc (em a' H.mk')).2) a:=by intro _ _;kernel_rfl):tM G live Λ b K (H.enc x).1 (H.enc x).2 r:=
 YU h (fun a=>em a H.mk') sel e e1 e2
theorem Lh.fit {R:Type} (l:Lh R) {G:jZ R} {live:List (Nat×List Nat)} {Λ:yV R} {b:Code} (h: ∀K r,l.h.all fun x=>l.h.HN (l.T K) x=some r->tM G live Λ b K (l.h.enc x).1 (l.h.enc x).2 r) (hk:keyOf b=l.key:=by kernel_rfl) (ht: ∀K vs hs,Λ l.key K vs hs=l.h.tj vs hs (l.T K):=by intro _ _ _;kernel_rfl):Fit G live Λ b:=
 l.h.fit hk l.T ht h
abbrev LK.I:LK:= .int .i64
abbrev LK.V:LK:= .ints .i64
abbrev SK.I:SK:= .i .i64
abbrev SK.V:SK:= .val false false (.ints .i64)
abbrev SK.W:SK:= .val false false .rows
abbrev RK.V:RK:= .row false (.ints .i64)
abbrev RK.W:RK:= .row true .rows
abbrev VK.I:VK:= .l (.i .i64)
abbrev VK.V:VK:= .l (.val false false (.ints .i64))
abbrev VK.W:VK:= .l (.val false false .rows)
abbrev DK.I:DK:= .l .bi (.int .i64)
abbrev DK.V:DK:= .l .bi (.ints .i64)
abbrev DK.O:DK:= .l .own (.int .i64)
abbrev DK.B:DK:= .l .own .bool
