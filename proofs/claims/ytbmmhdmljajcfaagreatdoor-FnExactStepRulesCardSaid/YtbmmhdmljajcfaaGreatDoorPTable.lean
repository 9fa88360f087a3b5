/- Tables in plain Lean. Conditions: enough rounds, lists of at most 2^20. -/
import Derived.Test.YtbmmhdmljajcfaaGreatDoorKit
import Derived.Test.YtbmmhdmljajcfaaGreatDoorFFnExactStepRules
import Derived.Test.YtbmmhdmljajcfaaGreatDoorPReplay
import Derived.Test.YtbmmhdmljajcfaaGreatDoorPEqual
import Derived.Test.YtbmmhdmljajcfaaGreatDoorPDealt
import Derived.Test.YtbmmhdmljajcfaaGreatDoorPSheet
set_option linter.unusedVariables false
set_option linter.unusedSimpArgs false
namespace Go.Proofs.YtbmmhdmljajcfaaGreatDoor
open Go Go.Proofs.YtbmmhdmljajcfaaGreatDoor.V
structure Tb where
 r:Rl
 seals:List Int
 on:Bool
 deck:List Int
 g:Gm
 rd:List Int
 sheet:List (List Int)
abbrev Tb.ap {β:Type} (F:Int->Int->Bool->Bool->List Int->List Int->Int->Int->List Int->Bool->List Int->Int->Int->Bool->Bool->List Int->List Int->Int->Int->List (List Int)->List Int->List Int->Int->Int->Int->List Int->List (List Int)->β) (t:Tb):β:=F t.r.n t.r.e t.r.b1 t.r.b2 t.r.w t.r.f t.r.t t.r.l t.seals t.on t.deck t.g.r.n t.g.r.e t.g.r.b1 t.g.r.b2 t.g.r.w t.g.r.f t.g.r.t t.g.r.l t.g.hs t.g.st t.g.hp t.g.tn t.g.mv t.g.ps t.rd t.sheet
abbrev Tb.tp (t:Tb):Int×Int×Bool×Bool×List Int×List Int×Int×Int×List Int×Bool×List Int×Int×Int×Bool×Bool×List Int×List Int×Int×Int×List (List Int)×List Int×List Int×Int×Int×Int×List Int×List (List Int):=(t.r.n,t.r.e,t.r.b1,t.r.b2,t.r.w,t.r.f,t.r.t,t.r.l,t.seals,t.on,t.deck,t.g.r.n,t.g.r.e,t.g.r.b1,t.g.r.b2,t.g.r.w,t.g.r.f,t.g.r.t,t.g.r.l,t.g.hs,t.g.st,t.g.hp,t.g.tn,t.g.mv,t.g.ps,t.rd,t.sheet)
abbrev Tb.tpb (t:Tb) (b:Bool):Int×Int×Bool×Bool×List Int×List Int×Int×Int×List Int×Bool×List Int×Int×Int×Bool×Bool×List Int×List Int×Int×Int×List (List Int)×List Int×List Int×Int×Int×Int×List Int×List (List Int)×Bool:=(t.r.n,t.r.e,t.r.b1,t.r.b2,t.r.w,t.r.f,t.r.t,t.r.l,t.seals,t.on,t.deck,t.g.r.n,t.g.r.e,t.g.r.b1,t.g.r.b2,t.g.r.w,t.g.r.f,t.g.r.t,t.g.r.l,t.g.hs,t.g.st,t.g.hp,t.g.tn,t.g.mv,t.g.ps,t.rd,t.sheet,b)
abbrev Tb.sm (t:Tb):Prop:=t.r.sm/\smI t.seals/\smI t.deck/\t.g.sm/\smI t.rd/\smII t.sheet
abbrev Tb.sm' (t:Tb):Prop:=t.r.sm/\smI t.deck/\t.g.sm/\t.rd.length<1073741824/\t.sheet.length<1073741824/\ ∀y∈t.sheet,y.length<1048577
theorem Tb.sm_sm' {t:Tb} (h:t.sm):t.sm':=⟨h.1,h.2.2.1,h.2.2.2.1,by have:=h.2.2.2.2.1;omega,by have:=h.2.2.2.2.2.1;omega,h.2.2.2.2.2.2⟩
def tableOn (t:Tb):Bool:=(newGame t.r t.deck).2&&((t.seals.length:Int)==t.r.n)&&((replayed t.rd 0 (newGame t.r t.deck).1).2==(t.rd.length:Int))&&eqGm (replayed t.rd 0 (newGame t.r t.deck).1).1 t.g
def isTable (t:Tb):Bool:=t.r.ok&& !(decide ((t.seals.length:Int)>t.r.n))&&isSheet t.r.n t.sheet&&(bif t.on then tableOn t else ((t.deck.length:Int)==0)&&((t.rd.length:Int)==0)&&eqGm t.g zeroG)
theorem spec_IsTable.eq {k:Nat} (hk:BIG<=k) {t:Tb} (h:t.sm'):t.ap (spec_IsTable.f k)=some (isTable t):=by
 obtain ⟨h1,h2,h3,h4,h5,h6⟩:=h
 refine (bind_s (spec_rl hk h1)).trans ?_
 unfold isTable
 cases t.r.ok with
 |false=>rfl
 |true=>
  refine (bif_f rfl).trans ?_
  cases decide ((t.seals.length:Int)>t.r.n) with
  |true=>rfl
  |false=>
   refine (bif_f rfl).trans ((bind_s (spec_IsSheet.eqg hk _ h5 h6)).trans ?_)
   cases isSheet t.r.n t.sheet with
   |false=>rfl
   |true=>
    refine (bif_f rfl).trans ?_
    cases t.on with
    |false=>
     refine (bif_t rfl).trans ?_
     cases ((t.deck.length:Int)==0) with
     |false=>rfl
     |true=>
      refine (bif_t rfl).trans ?_
      cases ((t.rd.length:Int)==0) with
      |false=>rfl
      |true=>exact (bif_t rfl).trans ((bind_s (spec_EqualGames.eq hk zeroG h3)).trans (by simp))
    |true=>
     have hs:=newGame_sm h1 t.deck
     refine (bif_f rfl).trans ((bind_s (spec_NewGame.eq hk h1 h2)).trans ((bind_s (spec_Replayed.eq hk h4 hs)).trans ?_))
     show (bif (newGame t.r t.deck).2 then _ else _)=some (true&& !false&&true&&tableOn t)
     unfold tableOn
     cases (newGame t.r t.deck).2 with
     |false=>rfl
     |true=>
      refine (bif_t rfl).trans ?_
      cases ((t.seals.length:Int)==t.r.n) with
      |false=>rfl
      |true=>
       refine (bif_t rfl).trans ?_
       show (bif ((replayed t.rd 0 (newGame t.r t.deck).1).2==(t.rd.length:Int)) then _ else _)=_
       cases ((replayed t.rd 0 (newGame t.r t.deck).1).2==(t.rd.length:Int)) with
       |false=>rfl
       |true=>exact (bif_t rfl).trans ((bind_s (spec_EqualGames.eq hk t.g (replayed_sm t.rd 0 hs))).trans (by simp))
theorem impl_IsTable.eq {k:Nat} (hk:BIG<=k) {t:Tb} (h:t.sm'):t.ap (impl_IsTable.f k)=some (isTable t):=by
 obtain ⟨h1,h2,h3,h4,h5,h6⟩:=h
 refine (bind_s (impl_rl hk h1)).trans ?_
 unfold isTable
 cases t.r.ok with
 |false=>rfl
 |true=>
  refine (bif_f rfl).trans ?_
  cases decide ((t.seals.length:Int)>t.r.n) with
  |true=>rfl
  |false=>
   refine (bif_f rfl).trans ((bind_s (impl_IsSheet.eqg hk _ h5 h6)).trans ?_)
   cases isSheet t.r.n t.sheet with
   |false=>rfl
   |true=>
    refine (bif_f rfl).trans ?_
    cases t.on with
    |false=>
     refine (bif_t rfl).trans ?_
     cases ((t.deck.length:Int)==0) with
     |false=>rfl
     |true=>
      refine (bif_t rfl).trans ?_
      cases ((t.rd.length:Int)==0) with
      |false=>rfl
      |true=>exact (bif_t rfl).trans ((bind_s (impl_EqualGames.eq hk zeroG h3)).trans (by simp))
    |true=>
     have hs:=newGame_sm h1 t.deck
     refine (bif_f rfl).trans ((bind_s (impl_NewGame.eq hk h1 h2)).trans ?_)
     show (bif !(newGame t.r t.deck).2 then _ else _)=some (true&& !false&&true&&tableOn t)
     unfold tableOn
     cases (newGame t.r t.deck).2 with
     |false=>rfl
     |true=>
      refine (bif_f rfl).trans ?_
      cases hn:((t.seals.length:Int)==t.r.n) with
      |false=>exact (bif_t (by rw[bne,hn];rfl)).trans rfl
      |true=>
       refine (bif_f (by rw[bne,hn];rfl)).trans ((bind_s (impl_Replayed.eq hk h4 hs)).trans ?_)
       show (bif ((replayed t.rd 0 (newGame t.r t.deck).1).2==(t.rd.length:Int)) then _ else _)=_
       cases ((replayed t.rd 0 (newGame t.r t.deck).1).2==(t.rd.length:Int)) with
       |false=>rfl
       |true=>exact (bif_t rfl).trans ((bind_s (impl_EqualGames.eq hk t.g (replayed_sm t.rd 0 hs))).trans (by simp))
theorem isTable_ok {t:Tb} (h:isTable t=true):t.r.ok=true/\(t.seals.length:Int)<=t.r.n/\isSheet t.r.n t.sheet=true/\t.rd.length<=400/\(t.on=true->tableOn t=true):=by
 unfold isTable at h
 simp only[Bool.and_eq_true,Bool.not_eq_true',decide_eq_false_iff_not] at h
 obtain ⟨⟨⟨h1,h2⟩,h3⟩,h4⟩:=h
 have hrl:=rl_ok h1
 refine ⟨h1,by omega,h3,?_,fun ho=>by rw[ho] at h4;exact h4⟩
 cases ho:t.on with
 |false=>
  rw[ho] at h4
  simp only[cond_false,Bool.and_eq_true,beq_iff_eq] at h4
  omega
 |true=>
  rw[ho] at h4
  have h4:tableOn t=true:=h4
  unfold tableOn at h4
  simp only[Bool.and_eq_true,beq_iff_eq] at h4
  obtain ⟨⟨⟨k1,k2⟩,k3⟩,k4⟩:=h4
  obtain ⟨g1,g2⟩:=newGame_game k1
  obtain ⟨q1,q2,q3⟩:=replayed_all t.rd 0 (g:=(newGame t.r t.deck).1) (by omega)
  obtain ⟨_,_,_,_,_,m6,_⟩:=isGame_iff.1 (q3 g1)
  obtain ⟨_,_,_,_,_,m7,_⟩:=isGame_iff.1 g1
  rw[q2,g2] at m6
  omega
end Go.Proofs.YtbmmhdmljajcfaaGreatDoor
