/- Rules read, in plain Lean. Conditions: enough rounds, texts of at most 2^20. -/
import Derived.Test.YtbmmhdmljajcfaaGreatDoorKit
import Derived.Test.YtbmmhdmljajcfaaGreatDoorFFnExactStepRules
import Derived.Test.YtbmmhdmljajcfaaGreatDoorPRulesText
import Derived.Test.YtbmmhdmljajcfaaGreatDoorPParseInt
import Derived.Test.YtbmmhdmljajcfaaGreatDoorPParsePat
set_option linter.unusedVariables false
set_option linter.unusedSimpArgs false
namespace Go.Proofs.YtbmmhdmljajcfaaGreatDoor
open Go Go.Proofs.YtbmmhdmljajcfaaGreatDoor.V
theorem cut_scan {s:ByteArray}: ∀(w:List UInt8) (m a i:Nat) (rest:List UInt8),s.data.toList.drop i=w++rest->(∀x∈w,x≠32)->i+m=s.size->w.length<=m/\cutW s 32 m a i=cutW s 32 (m-w.length) a (i+w.length)
 | [],m,a,i,rest,_,_,_=>⟨Nat.zero_le _,rfl⟩
 |b::w,m,a,i,rest,h,hn,hi=>by
  obtain ⟨h1,h2⟩:=drop_more (l:=w++rest) h
  obtain ⟨m,rfl⟩: ∃j,m=j+1:=⟨m-1,by omega⟩
  have hsb:sb s i=(b.toNat:Int):=sb_get (l:=w++rest) h
  have hb:(sb s i==(32:Int))=false:=by
   rw[hsb]
   exact beq_false_of_ne fun e=>hn b (by simp) (UInt8.toNat_inj.1 (show b.toNat=32 by omega))
  obtain ⟨g1,g2⟩:=cut_scan w m a (i+1) rest h2 (fun x hx=>hn x (by simp[hx])) (by omega)
  refine ⟨by simp;omega,?_⟩
  rw[show cutW s 32 (m+1) a i=cutW s 32 m a (i+1) by show (bif sb s i==32 then _ else _)=_;rw[hb];rfl,g2]
  rw[List.length_cons,show m+1-(w.length+1)=m-w.length by omega,show i+1+w.length=i+(w.length+1) by omega]
theorem extract_at {s x:ByteArray} {a:Nat} {rest:List UInt8} (h:s.data.toList.drop a=x.data.toList++rest):s.extract a (a+x.data.toList.length)=x:=by
 apply bytes_ext
 rw[extract_data,List.drop_take,Nat.add_sub_cancel_left,h]
 simp
theorem cut_words {s:ByteArray}: ∀(ws:List ByteArray) (x:ByteArray) (m a:Nat),(∀w∈x::ws,nsp w)->a+m=s.size->s.data.toList.drop a=x.data.toList++(ws.map fun w=>(32:UInt8)::w.data.toList).flatten->cutW s 32 m a a=x::ws
 | [],x,m,a,hn,hi,h=>by
   obtain ⟨g1,g2⟩:=cut_scan _ m a a _ h (hn x (by simp)) hi
   have hl:=congrArg List.length h
   simp only[List.length_drop,List.length_append,List.map_nil,List.flatten_nil,List.length_nil,bytes_len] at hl g1
   rw[g2,bytes_len,show m-x.size=0 by omega]
   show [s.extract a (a+x.size)] =[x]
   rw[<- bytes_len x,extract_at h]
 |y::ws,x,m,a,hn,hi,h=>by
  obtain ⟨g1,g2⟩:=cut_scan _ m a a _ h (hn x (by simp)) hi
  have hl:=congrArg List.length h
  have h2:s.data.toList.drop (a+x.data.toList.length)=32::(y.data.toList++(ws.map fun w=>(32:UInt8)::w.data.toList).flatten):=by
   rw[<- List.drop_drop,h,List.drop_append_of_le_length (Nat.le_refl _),List.drop_of_length_le (Nat.le_refl _)]
   simp
  obtain ⟨k1,k2⟩:=drop_more h2
  have hsb:=sb_get h2
  simp only[List.length_drop,List.length_append,bytes_len] at hl g1
  obtain ⟨j,hj⟩: ∃j,m-x.data.toList.length=j+1:=⟨m-x.data.toList.length-1,by rw[bytes_len] at k1 ⊢;omega⟩
  rw[g2,hj]
  show (bif sb s (a+x.data.toList.length)==32 then _ else _)=_
  rw[hsb]
  refine (bif_t rfl).trans ?_
  rw[extract_at h,cut_words ws y j (a+x.data.toList.length+1) (fun w hw=>hn w (List.mem_cons_of_mem _ hw)) (by omega) k2]
theorem words_join {x:ByteArray} {ws:List ByteArray} (hn: ∀w∈x::ws,nsp w):words (joinB (x::ws) spB) 32=x::ws:=by
 refine cut_words ws x _ 0 hn (by omega) ?_
 rw[List.drop_zero]
 show ((Go.Lib.join _ _).toArray).toList=_
 rw[List.map_cons,Go.Lib.join_cons]
 unfold Go.Lib.joinTail
 show _++_=_++_
 rw[List.map_map];rfl
theorem words_rules {r:Rl} (h:r.ok=true):words (rulesText r) 32=ruleWords r:=by
 unfold rulesText
 rw[h]
 exact words_join fun w hw=>(ruleWords_facts h w hw).2
theorem valAfter_of {w g v:ByteArray} (h:w.data.toList=g.data.toList++61::v.data.toList):valAfter w g=(v,true):=by
 unfold valAfter
 rw[hasPre_iff.2 ⟨_,h⟩]
 show (_,true)=(v,true)
 congr 1
 exact bytes_ext (trimPre_of h)
theorem valAfter_le (w g:ByteArray):(valAfter w g).1.size<=w.size:=by
 unfold valAfter
 cases h:hasPre w (g++eqB) with
 |false=>show ByteArray.empty.size<=_;exact Nat.zero_le _
 |true=>
  obtain ⟨r,hr⟩:=hasPre_iff.1 h
  show (trimPre w (g++eqB)).size<=w.size
  rw[<- bytes_len,<- bytes_len w,trimPre_of hr,hr]
  simp;omega
def vOk (ws gs:List ByteArray):Bool:=(List.zipWith (fun w g=>(valAfter w g).2) ws gs).all id
def vOf (ws gs:List ByteArray):List ByteArray:=List.zipWith (fun w g=>(valAfter w g).1) ws gs
theorem impl_ParseRules.loop {R:Type} (k:Nat) {ws gs:List ByteArray} (hL:ws.length=gs.length) (hl:ws.length<1000) (hw: ∀w∈ws,w.size<1048577) (hg: ∀g∈gs,g.size<1048577) (e0 e1:List ByteArray->Option R) (X:Option R) (hX: ∀a,e0 a=X):
 ∀(m n i:Nat) (acc:List ByteArray),i+m=ws.length->m<n->acc.length<=i->impl_ParseRules.l7 k (ws.length:Int) gs ws e0 e1 n (i:Int) acc=bif vOk (ws.drop i) (gs.drop i) then e1 (acc++vOf (ws.drop i) (gs.drop i)) else X:=by
 intro m
 induction m with
 |zero=>
  intro n i acc hi hn ha
  obtain ⟨n,rfl⟩: ∃j,n=j+1:=⟨n-1,by omega⟩
  rw[impl_ParseRules.l7_succ]
  unfold impl_ParseRules.s7
  rw[bif_f (dec_f (by omega)),List.drop_of_length_le (l:=ws) (by omega)]
  show _=(bif true then e1 (acc++[]) else X)
  rw[List.append_nil];rfl
 |succ m ih=>
  intro n i acc hi hn ha
  obtain ⟨n,rfl⟩: ∃j,n=j+1:=⟨n-1,by omega⟩
  have h1:i<ws.length:=by omega
  have h2:i<gs.length:=by omega
  rw[impl_ParseRules.l7_succ]
  unfold impl_ParseRules.s7
  rw[bif_t (dec_t (by omega)),chk_t (and_t (dec_t (by omega)) (dec_t (by omega))),chk_t (and_t (dec_t (by omega)) (dec_t (by omega))),show ((i:Int)).toNat=i from Int.toNat_natCast i,getD_lt _ h1,getD_lt _ h2,wrap_up (by omega)]
  refine (bind_s (impl_ValueAfter.eq k (hg _ (List.getElem_mem h2)))).trans ?_
  rw[drop_cons h1,drop_cons h2]
  have e1':vOk (ws[i]::ws.drop (i+1)) (gs[i]::gs.drop (i+1))=((valAfter ws[i] gs[i]).2&&vOk (ws.drop (i+1)) (gs.drop (i+1))):=rfl
  have e2':vOf (ws[i]::ws.drop (i+1)) (gs[i]::gs.drop (i+1))=(valAfter ws[i] gs[i]).1::vOf (ws.drop (i+1)) (gs.drop (i+1)):=rfl
  rw[e1',e2']
  cases hv:(valAfter ws[i] gs[i]).2 with
  |false=>exact (bif_t rfl).trans (hX _)
  |true=>
   refine (bif_f rfl).trans ((chk_t (rm16 (by omega))).trans ?_)
   rw[ih n (i+1) _ (by omega) (by omega) (by simp;omega),List.append_assoc];rfl
theorem spec_ParseRules.loop {R:Type} {k:Nat} (hk:BIG<=k) {ws gs:List ByteArray} (hL:ws.length=gs.length) (hl:ws.length<1000) (hw: ∀w∈ws,w.size<1048577) (hg: ∀g∈gs,g.size<1048577) (e0:List ByteArray->List Int->Option R):
 ∀(m n i:Nat) (acc:List ByteArray) (ac:List Int),i+m=ws.length->m<n->acc.length<=i->ac.length<=i->spec_ParseRules.l8 k ws gs e0 n (i:Int) acc ac=e0 (acc++vOf (ws.drop i) (gs.drop i)) (ac++(vOf (ws.drop i) (gs.drop i)).map fun v=>(parseInt v).1):=by
 intro m
 induction m with
 |zero=>
  intro n i acc ac hi hn ha hc
  obtain ⟨n,rfl⟩: ∃j,n=j+1:=⟨n-1,by omega⟩
  rw[spec_ParseRules.l8_succ]
  unfold spec_ParseRules.s8
  rw[bif_f (dec_f (by omega)),List.drop_of_length_le (l:=ws) (by omega)]
  show _=e0 (acc++[]) (ac++[])
  rw[List.append_nil,List.append_nil]
 |succ m ih=>
  intro n i acc ac hi hn ha hc
  obtain ⟨n,rfl⟩: ∃j,n=j+1:=⟨n-1,by omega⟩
  have h1:i<ws.length:=by omega
  have h2:i<gs.length:=by omega
  have hws:=hw _ (List.getElem_mem h1)
  rw[spec_ParseRules.l8_succ]
  unfold spec_ParseRules.s8
  rw[bif_t (dec_t (by omega)),chk_t (and_t (dec_t (by omega)) (dec_t (by omega))),chk_t (and_t (dec_t (by omega)) (dec_t (by omega))),show ((i:Int)).toNat=i from Int.toNat_natCast i,getD_lt _ h1,getD_lt _ h2,wrap_up (by omega)]
  refine (bind_s (spec_ValueAfter.eq k hws (hg _ (List.getElem_mem h2)))).trans ((bind_s (spec_ParseInt.eq hk (by have:=valAfter_le ws[i] gs[i];omega))).trans ((chk_t (rm16 (by omega))).trans ((chk_t (rm8 (by omega))).trans ?_)))
  rw[drop_cons h1,drop_cons h2]
  rw[ih n (i+1) _ _ (by omega) (by omega) (by simp;omega) (by simp;omega),List.append_assoc,List.append_assoc];rfl
def nilR:Rl:=⟨0,0,false,false,[],[],0,0⟩
def readR (v:List ByteArray) (b1 b2:Bool):Rl:=⟨(parseInt (v.getD 0 ByteArray.empty)).1,(parseInt (v.getD 1 ByteArray.empty)).1,b1,b2,(parsePat (v.getD 3 ByteArray.empty)).1,(parsePat (v.getD 4 ByteArray.empty)).1,(parseInt (v.getD 5 ByteArray.empty)).1,(parseInt (v.getD 6 ByteArray.empty)).1⟩
theorem readR_sm (v:List ByteArray) (b1 b2:Bool):(readR v b1 b2).sm:=⟨parsePat_len _,parsePat_len _⟩
def saidR (v:List ByteArray):Rl:=readR v (!((v.getD 2 ByteArray.empty).toList==rankW.toList)) (!((v.getD 2 ByteArray.empty).toList==suitW.toList))
def parseRules (s:ByteArray):Rl×Bool:=bif decide ((words s 32).length=7)&&vOk (words s 32) nmB&&(saidR (vOf (words s 32) nmB)).ok&&((rulesText (saidR (vOf (words s 32) nmB))).toList==s.toList) then (saidR (vOf (words s 32) nmB),true) else (nilR,false)
abbrev Rl.tpb (r:Rl) (b:Bool):Int×Int×Bool×Bool×List Int×List Int×Int×Int×Bool:=(r.n,r.e,r.b1,r.b2,r.w,r.f,r.t,r.l,b)
theorem parseRules_sm (s:ByteArray):(parseRules s).1.sm:=by
 unfold parseRules
 cases (decide ((words s 32).length=7)&&vOk (words s 32) nmB&&(saidR (vOf (words s 32) nmB)).ok&&((rulesText (saidR (vOf (words s 32) nmB))).toList==s.toList)) with
 |true=>exact readR_sm _ _ _
 |false=>exact ⟨show ([]:List Int).length<1048577 by decide,show ([]:List Int).length<1048577 by decide⟩
theorem text_eq {a b:ByteArray}:(a.toList==b.toList)=true↔a=b:=by
 rw[bytes_eq_iff,decide_eq_true_eq]
 exact ⟨fun h=>bytes_ext h,fun h=>by rw[h]⟩
theorem text_ne {a b:ByteArray} (h: ¬a=b):(a.toList==b.toList)=false:=Bool.eq_false_iff.2 fun e=>h (text_eq.1 e)
theorem list7 {α:Type}: ∀ {l:List α},l.length=7-> ∃a b c d e f g,l=[a,b,c,d,e,f,g]
 | [a,b,c,d,e,f,g],_=>⟨a,b,c,d,e,f,g,rfl⟩
theorem vOk_cons (w g:ByteArray) (ws gs:List ByteArray):vOk (w::ws) (g::gs)=((valAfter w g).2&&vOk ws gs):=rfl
theorem vOk_nil:vOk [] [] =true:=rfl
theorem vals_rules {r:Rl} (h:r.ok=true):(words (rulesText r) 32).length=7/\vOk (words (rulesText r) 32) nmB=true/\vOf (words (rulesText r) 32) nmB=ruleVals r:=by
 rw[words_rules h]
 have g (p:ByteArray) (q v:ByteArray) (hq:q.data.toList=p.data.toList++[61]):valAfter (q++v) p=(v,true):=valAfter_of (by rw[bytes_cat,hq,List.append_assoc];rfl)
 refine ⟨rfl,?_,?_⟩
 ·unfold ruleWords nmB
  rw[vOk_cons,vOk_cons,vOk_cons,vOk_cons,vOk_cons,vOk_cons,vOk_cons,vOk_nil]
  rw[g _ _ _ rfl,g _ _ _ rfl,g _ _ _ rfl,g _ _ _ rfl,g _ _ _ rfl,g _ _ _ rfl,g _ _ _ rfl];rfl
 ·show [(valAfter _ _).1,(valAfter _ _).1,(valAfter _ _).1,(valAfter _ _).1,(valAfter _ _).1,(valAfter _ _).1,(valAfter _ _).1] =_
  rw[g _ _ _ rfl,g _ _ _ rfl,g _ _ _ rfl,g _ _ _ rfl,g _ _ _ rfl,g _ _ _ rfl,g _ _ _ rfl];rfl
theorem word_bools {b1 b2:Bool} (h:(b1||b2)=true):(!((rulesWord b1 b2).toList==rankW.toList))=b1/\(!((rulesWord b1 b2).toList==suitW.toList))=b2/\((rulesWord b1 b2).toList==suitW.toList||(rulesWord b1 b2).toList==bothB.toList)=b1/\((rulesWord b1 b2).toList==rankW.toList||(rulesWord b1 b2).toList==bothB.toList)=b2:=by
 rw[bytes_eq_iff,bytes_eq_iff,bytes_eq_iff]
 cases b1<;>cases b2
 ·cases h
 ·decide+kernel
 ·decide+kernel
 ·decide+kernel
theorem impl_ParseRules.eq {k:Nat} (hk:BIG<=k) {s:ByteArray} (hs:s.size<1048577):impl_ParseRules.f k s=some ((parseRules s).1.tpb (parseRules s).2):=by
 have hB:BIG=1073741824:=rfl
 refine (bind_s (impl_SplitWords.eq hk 32 hs)).trans ?_
 have hw: ∀w∈words s 32,w.size<=s.size:=cutW_le s 32 _ _ _
 unfold parseRules
 by_cases h7:(words s 32).length=7
 ·have hvlen:(vOf (words s 32) nmB).length=7:=by unfold vOf;rw[List.length_zipWith,h7];rfl
  have hvs: ∀v∈vOf (words s 32) nmB,v.size<1048577:=by
   intro v hv
   unfold vOf at hv
   obtain ⟨i,hi,rfl⟩:=List.getElem_of_mem hv
   rw[List.getElem_zipWith]
   have h1:=valAfter_le ((words s 32)[i]'(by rw[List.length_zipWith] at hi;omega)) (nmB[i]'(by rw[List.length_zipWith] at hi;omega))
   have h2:=hw _ (List.getElem_mem (l:=words s 32) (n:=i) (by rw[List.length_zipWith] at hi;omega))
   omega
  rw[dec_t h7,Bool.true_and]
  refine (bif_f (by rw[h7];rfl)).trans ?_
  refine (impl_ParseRules.loop k (ws:=words s 32) (gs:=nmB) (by rw[h7];rfl) (by omega) (fun w hw'=>by have:=hw w hw';omega) (by intro g hg;have:g.size<=7:=(by decide: ∀g∈nmB,g.size<=7) g hg;omega) _ _ (some (nilR.tpb false)) (fun _=>rfl) (words s 32).length k 0 [] (by omega) (by omega) (by simp)).trans ?_
  rw[List.drop_zero,List.drop_zero,List.nil_append]
  cases vOk (words s 32) nmB with
  |false=>rfl
  |true=>
   rw[cond_true,Bool.true_and]
   generalize vOf (words s 32) nmB=vs at hvlen hvs
   obtain ⟨v0,v1,v2,v3,v4,v5,v6,rfl⟩:=list7 hvlen
   have q (v:ByteArray) (hv:v∈[v0,v1,v2,v3,v4,v5,v6]):=hvs v hv
   refine (chk_t rfl).trans ((chk_t rfl).trans ((chk_t rfl).trans ((bind_s (impl_ParseInt.eq (q v0 (by simp)))).trans ((chk_t rfl).trans ((bind_s (impl_ParseInt.eq (q v1 (by simp)))).trans ((chk_t rfl).trans ((bind_s (impl_ParsePattern.eq hk (q v3 (by simp)))).trans ((chk_t rfl).trans ((bind_s (impl_ParsePattern.eq hk (q v4 (by simp)))).trans ((chk_t rfl).trans ((bind_s (impl_ParseInt.eq (q v5 (by simp)))).trans ((chk_t rfl).trans ((bind_s (impl_ParseInt.eq (q v6 (by simp)))).trans ?_)))))))))))))
   have hsm:=readR_sm [v0,v1,v2,v3,v4,v5,v6] (!(v2.toList==rankW.toList)) (!(v2.toList==suitW.toList))
   refine (bind_s (impl_IsRules.eq hk _ _ _ _ _ _ hsm.1 hsm.2)).trans ?_
   show (bif !(saidR [v0,v1,v2,v3,v4,v5,v6]).ok then _ else _)=_
   cases hok:(saidR [v0,v1,v2,v3,v4,v5,v6]).ok with
   |false=>rfl
   |true=>
    refine (bif_f rfl).trans ((bind_s (impl_RulesText.eq hk (r:=saidR [v0,v1,v2,v3,v4,v5,v6]) hsm)).trans ?_)
    rw[Bool.true_and]
    cases (rulesText (saidR [v0,v1,v2,v3,v4,v5,v6])).toList==s.toList<;>rfl
 ·rw[dec_f h7]
  exact bif_t (by rw[neq_t (show ¬((words s 32).length:Int)=7 by omega)])
theorem spec_ParseRules.eq {k:Nat} (hk:BIG<=k) {s:ByteArray} (hs:s.size<1048577):spec_ParseRules.f k s=some ((parseRules s).1.tpb (parseRules s).2):=by
 have hB:BIG=1073741824:=rfl
 refine (bind_s (spec_SplitWords.eq hk 32 hs)).trans ?_
 have hw: ∀w∈words s 32,w.size<=s.size:=cutW_le s 32 _ _ _
 by_cases h7:(words s 32).length=7
 ·have hvlen:(vOf (words s 32) nmB).length=7:=by unfold vOf;rw[List.length_zipWith,h7];rfl
  have hvs: ∀v∈vOf (words s 32) nmB,v.size<1048577:=by
   intro v hv
   unfold vOf at hv
   obtain ⟨i,hi,rfl⟩:=List.getElem_of_mem hv
   rw[List.getElem_zipWith]
   have h1:=valAfter_le ((words s 32)[i]'(by rw[List.length_zipWith] at hi;omega)) (nmB[i]'(by rw[List.length_zipWith] at hi;omega))
   have h2:=hw _ (List.getElem_mem (l:=words s 32) (n:=i) (by rw[List.length_zipWith] at hi;omega))
   omega
  obtain ⟨vs,hvs'⟩: ∃vs,vs=vOf (words s 32) nmB:=⟨_,rfl⟩
  have key:parseRules s=bif !(s.toList==ByteArray.empty.toList)&&((rulesText (readR vs ((vs.getD 2 ByteArray.empty).toList==suitW.toList||(vs.getD 2 ByteArray.empty).toList==bothB.toList) ((vs.getD 2 ByteArray.empty).toList==rankW.toList||(vs.getD 2 ByteArray.empty).toList==bothB.toList))).toList==s.toList) then (readR vs ((vs.getD 2 ByteArray.empty).toList==suitW.toList||(vs.getD 2 ByteArray.empty).toList==bothB.toList) ((vs.getD 2 ByteArray.empty).toList==rankW.toList||(vs.getD 2 ByteArray.empty).toList==bothB.toList),true) else (nilR,false):=by
   have both (r:Rl) (hr:r.ok=true) (ht:rulesText r=s):vOk (words s 32) nmB=true/\vs=ruleVals r/\ ¬s=ByteArray.empty:=by
    subst ht
    obtain ⟨_,a2,a3⟩:=vals_rules hr
    refine ⟨a2,hvs'.trans a3,fun e=> ?_⟩
    have a1:=(vals_rules hr).1
    rw[e] at a1
    have:(words ByteArray.empty 32).length=1:=by decide+kernel
    omega
   have same (r:Rl) (hr:r.ok=true) (hv:vs=ruleVals r):saidR vs=readR vs r.b1 r.b2/\readR vs ((vs.getD 2 ByteArray.empty).toList==suitW.toList||(vs.getD 2 ByteArray.empty).toList==bothB.toList) ((vs.getD 2 ByteArray.empty).toList==rankW.toList||(vs.getD 2 ByteArray.empty).toList==bothB.toList)=readR vs r.b1 r.b2:=by
    obtain ⟨_,_,_,_,hb,_⟩:=rl_wf hr
    obtain ⟨c1,c2,c3,c4⟩:=word_bools hb
    have e:vs.getD 2 ByteArray.empty=rulesWord r.b1 r.b2:=by rw[hv];rfl
    unfold saidR
    rw[e,c1,c2,c3,c4]
    exact ⟨rfl,rfl⟩
   unfold parseRules
   rw[dec_t h7,Bool.true_and,<- hvs']
   obtain ⟨rs,hrs⟩: ∃rs,rs=readR vs ((vs.getD 2 ByteArray.empty).toList==suitW.toList||(vs.getD 2 ByteArray.empty).toList==bothB.toList) ((vs.getD 2 ByteArray.empty).toList==rankW.toList||(vs.getD 2 ByteArray.empty).toList==bothB.toList):=⟨_,rfl⟩
   rw[<- hrs]
   by_cases hsp:rulesText rs=s/\ ¬s=ByteArray.empty
   ·obtain ⟨ht,hne⟩:=hsp
    have hok:rs.ok=true:=by
     cases e:rs.ok with
     |true=>rfl
     |false=>exfalso;apply hne;rw[<- ht];unfold rulesText;rw[e];rfl
    obtain ⟨b1,b2,_⟩:=both rs hok ht
    obtain ⟨d1,d2⟩:=same rs hok b2
    have e1:saidR vs=rs:=d1.trans (d2.symm.trans hrs.symm)
    rw[e1,b1,hok,text_eq.2 ht,text_ne hne];rfl
   ·have e1:(!(s.toList==ByteArray.empty.toList)&&((rulesText rs).toList==s.toList))=false:=by
     cases e2:(rulesText rs).toList==s.toList with
     |false=>rw[Bool.and_false]
     |true=>
      rw[Bool.and_true]
      cases e3:s.toList==ByteArray.empty.toList with
      |true=>rfl
      |false=>exact absurd ⟨text_eq.1 e2,fun e=>by rw[e] at e3;simp at e3⟩ hsp
    have e2:(vOk (words s 32) nmB&&(saidR vs).ok&&((rulesText (saidR vs)).toList==s.toList))=false:=by
     cases e:(vOk (words s 32) nmB&&(saidR vs).ok&&((rulesText (saidR vs)).toList==s.toList)) with
     |false=>rfl
     |true=>
      exfalso
      simp only[Bool.and_eq_true] at e
      obtain ⟨⟨_,hok⟩,ht⟩:=e
      have ht:=text_eq.1 ht
      obtain ⟨_,b2,b3⟩:=both _ hok ht
      obtain ⟨d1,d2⟩:=same _ hok b2
      have e1:rs=saidR vs:=hrs.trans (d2.trans d1.symm)
      exact hsp ⟨by rw[e1];exact ht,b3⟩
    rw[e1,e2];rfl
  rw[key]
  refine (bif_f (by rw[h7];rfl)).trans ?_
  refine (spec_ParseRules.loop hk (ws:=words s 32) (gs:=nmB) (by rw[h7];rfl) (by omega) (fun w hw'=>by have:=hw w hw';omega) (by intro g hg;have:g.size<=7:=(by decide: ∀g∈nmB,g.size<=7) g hg;omega) _ (words s 32).length k 0 [] [] (by omega) (by omega) (by simp) (by simp)).trans ?_
  rw[List.drop_zero,List.drop_zero,List.nil_append,List.nil_append,<- hvs']
  rw[<- hvs'] at hvlen hvs
  clear key hvs'
  obtain ⟨v0,v1,v2,v3,v4,v5,v6,rfl⟩:=list7 hvlen
  have q3:=hvs v3 (by simp)
  have q4:=hvs v4 (by simp)
  have tail: ∀(b1 b2:Bool),((spec_ParsePattern.f k v3).bind fun r6=>(chk (decide (4<(7:Int)))<|(spec_ParsePattern.f k v4).bind fun r7=>
   bif (s.toList==ByteArray.empty.toList) then some (0,0,false,false,[],[],0,0,false) else
    (spec_RulesText.f k (parseInt v0).1 (parseInt v1).1 b1 b2 r6.1 r7.1 (parseInt v5).1 (parseInt v6).1).bind fun r8=>
    bif (!(r8.toList==s.toList)) then some (0,0,false,false,[],[],0,0,false) else
     some ((parseInt v0).1,(parseInt v1).1,b1,b2,r6.1,r7.1,(parseInt v5).1,(parseInt v6).1,true)))=some (((bif !(s.toList==ByteArray.empty.toList)&&((rulesText (readR [v0,v1,v2,v3,v4,v5,v6] b1 b2)).toList==s.toList) then (readR [v0,v1,v2,v3,v4,v5,v6] b1 b2,true) else (nilR,false)):Rl×Bool).1.tpb ((bif !(s.toList==ByteArray.empty.toList)&&((rulesText (readR [v0,v1,v2,v3,v4,v5,v6] b1 b2)).toList==s.toList) then (readR [v0,v1,v2,v3,v4,v5,v6] b1 b2,true) else (nilR,false)):Rl×Bool).2):=fun b1 b2=>by
   refine (bind_s (spec_ParsePattern.eq hk q3)).trans ((chk_t rfl).trans ((bind_s (spec_ParsePattern.eq hk q4)).trans ?_))
   cases s.toList==ByteArray.empty.toList with
   |true=>rfl
   |false=>
    refine (bif_f rfl).trans ((bind_s (spec_RulesText.eq hk (r:=readR [v0,v1,v2,v3,v4,v5,v6] b1 b2) (readR_sm _ _ _))).trans ?_)
    cases (rulesText (readR [v0,v1,v2,v3,v4,v5,v6] b1 b2)).toList==s.toList<;>rfl
  have t:=tail (v2.toList==suitW.toList||v2.toList==bothB.toList) (v2.toList==rankW.toList||v2.toList==bothB.toList)
  refine (chk_t rfl).trans ((chk_t rfl).trans ((chk_t rfl).trans ?_))
  show (bif v2.toList==suitW.toList then _ else _)=some (((bif !(s.toList==ByteArray.empty.toList)&&((rulesText (readR [v0,v1,v2,v3,v4,v5,v6] (v2.toList==suitW.toList||v2.toList==bothB.toList) (v2.toList==rankW.toList||v2.toList==bothB.toList))).toList==s.toList) then (readR [v0,v1,v2,v3,v4,v5,v6] (v2.toList==suitW.toList||v2.toList==bothB.toList) (v2.toList==rankW.toList||v2.toList==bothB.toList),true) else (nilR,false)):Rl×Bool).1.tpb ((bif !(s.toList==ByteArray.empty.toList)&&((rulesText (readR [v0,v1,v2,v3,v4,v5,v6] (v2.toList==suitW.toList||v2.toList==bothB.toList) (v2.toList==rankW.toList||v2.toList==bothB.toList))).toList==s.toList) then (readR [v0,v1,v2,v3,v4,v5,v6] (v2.toList==suitW.toList||v2.toList==bothB.toList) (v2.toList==rankW.toList||v2.toList==bothB.toList),true) else (nilR,false)):Rl×Bool).2)
  cases e1:v2.toList==suitW.toList with
  |true=>
   refine (bif_t rfl).trans ((chk_t rfl).trans ?_)
   show (bif v2.toList==rankW.toList then _ else _)=_
   cases e2:v2.toList==rankW.toList with
   |true=>
    rw[e1,e2,Bool.true_or] at t
    exact (bif_t rfl).trans ((chk_t rfl).trans ((chk_t rfl).trans ((chk_t rfl).trans t)))
   |false=>
    rw[e1,e2,Bool.true_or,Bool.false_or] at t
    exact (bif_f rfl).trans ((chk_t rfl).trans ((chk_t rfl).trans ((chk_t rfl).trans ((chk_t rfl).trans t))))
  |false=>
   refine (bif_f rfl).trans ((chk_t rfl).trans ((chk_t rfl).trans ?_))
   show (bif v2.toList==rankW.toList then _ else _)=_
   cases e2:v2.toList==rankW.toList with
   |true=>
    rw[e1,e2,Bool.false_or,Bool.true_or] at t
    exact (bif_t rfl).trans ((chk_t rfl).trans ((chk_t rfl).trans ((chk_t rfl).trans t)))
   |false=>
    rw[e1,e2,Bool.false_or] at t
    exact (bif_f rfl).trans ((chk_t rfl).trans ((chk_t rfl).trans ((chk_t rfl).trans ((chk_t rfl).trans t))))
 ·unfold parseRules
  rw[dec_f h7]
  exact bif_t (by rw[neq_t (show ¬((words s 32).length:Int)=7 by omega)])
end Go.Proofs.YtbmmhdmljajcfaaGreatDoor
