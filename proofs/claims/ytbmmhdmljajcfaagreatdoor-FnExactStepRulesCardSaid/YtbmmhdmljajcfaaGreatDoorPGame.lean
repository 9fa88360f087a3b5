/- Games in plain Lean: valid, won, over. Conditions: enough rounds, lists of at most 2^20. -/
import Derived.Test.YtbmmhdmljajcfaaGreatDoorKit
import Derived.Test.YtbmmhdmljajcfaaGreatDoorFFnExactStepRules
import Derived.Test.YtbmmhdmljajcfaaGreatDoorPCopies
import Derived.Test.YtbmmhdmljajcfaaGreatDoorPRules
set_option linter.unusedVariables false
set_option linter.unusedSimpArgs false
namespace Go.Proofs.YtbmmhdmljajcfaaGreatDoor
open Go Go.Proofs.YtbmmhdmljajcfaaGreatDoor.V
theorem spec_rl {k:Nat} (hk:BIG<=k) {r:Rl} (h:r.sm):r.ap (spec_IsRules.f k)=some r.ok:=spec_IsRules.eq hk _ _ _ _ _ _ h.1 h.2
theorem impl_rl {k:Nat} (hk:BIG<=k) {r:Rl} (h:r.sm):r.ap (impl_IsRules.f k)=some r.ok:=impl_IsRules.eq hk _ _ _ _ _ _ h.1 h.2
theorem run_first {z:Nat->List Int->Option Int} (hz: ∀b a,z b a=some (b:Int)): ∀(l:List (List Int)) (b:Nat),run (fun (_:Nat) (a:List Int)=> !((a.length:Int)==0)) (fun b _=>b+1) (fun _=>some (-1)) z l b=some (firstE (b:Int) l)
 | [],b=>rfl
 |a::l,b=>by
  show (bif !((a.length:Int)==0) then run _ _ _ _ l (b+1) else z b a)=some (bif ((a.length:Int)==0) then (b:Int) else firstE ((b:Int)+1) l)
  rw[run_first hz l (b+1),hz]
  cases ((a.length:Int)==0)<;>rfl
theorem spec_l24First.eq {k:Nat} (hk:BIG<=k) (g:Gm) (h:g.hs.length<1048577):g.ap (spec_l24First.f k)=some (firstE 0 g.hs):=by
 have h:=scan (B:=Nat) g.hs (fun m b i=>spec_l24First.l2 k g.hs (fun x1=>some x1) (some (-1)) m i) (fun _ a=> !((a.length:Int)==0)) (fun b _=>b+1) (fun _=>some (-1)) (fun b _=>some (b:Int)) (fun i b=>b=i)
  (fun m b i h hI=>by
    subst hI
    refine (spec_l24First.l2_succ ..).trans ((bif_t (dec_t (by omega))).trans ((chk_t (in_t h)).trans ?_))
    rw[Int.toNat_natCast,getD_lt _ h,wrap_up (by omega)]
    cases ((g.hs[b].length:Int)==0)<;>rfl)
  (fun b i h hI _=>by omega)
  (fun m b hI=>(spec_l24First.l2_succ ..).trans (bif_f (dec_f (by omega))))
  g.hs.length 0 k 0 (by omega) (BIG_lt hk h) rfl
 refine h.trans ?_
 rw[List.drop_zero]
 exact run_first (fun _ _=>rfl) g.hs 0
theorem impl_Winner.loop {k:Nat} (hk:BIG<=k) {l:List (List Int)} (h:l.length<1048577):impl_Winner.l4 k l (l.length:Int) (fun x2=>some x2) (some (-1:Int)) k (0:Int)=some (firstE 0 l):=by
 have h:=scan (B:=Nat) l (fun m b i=>impl_Winner.l4 k l (l.length:Int) (fun x1=>some x1) (some (-1)) m i) (fun _ a=> !((a.length:Int)==0)) (fun b _=>b+1) (fun _=>some (-1)) (fun b _=>some (b:Int)) (fun i b=>b=i)
  (fun m b i h hI=>by
    subst hI
    refine (impl_Winner.l4_succ ..).trans ((bif_t (dec_t (by omega))).trans ((chk_t (in_t h)).trans ?_))
    rw[Int.toNat_natCast,getD_lt _ h,wrap_up (by omega)]
    cases ((l[b].length:Int)==0)<;>rfl)
  (fun b i h hI _=>by omega)
  (fun m b hI=>(impl_Winner.l4_succ ..).trans (bif_f (dec_f (by omega))))
  l.length 0 k 0 (by omega) (BIG_lt hk h) rfl
 refine h.trans ?_
 rw[List.drop_zero]
 exact run_first (fun _ _=>rfl) l 0
theorem spec_l24Over.eq {k:Nat} (hk:BIG<=k) (g:Gm) (h:g.hs.length<1048577):g.ap (spec_l24Over.f k)=some (overG g):=by
 refine (bind_s (spec_l24First.eq hk g h)).trans ?_
 unfold overG
 cases decide (firstE 0 g.hs>=0)<;>cases (g.mv==g.r.l)<;>rfl
theorem flat_len_le: ∀(l:List (List Int)),(∀y∈l,y.length<1048577)->l.flatten.length<=l.length*1048576
 | [],_=>by simp
 |a::l,h=>by
  have:=flat_len_le l (fun y hy=>h y (by simp[hy]))
  have:=h a (by simp)
  rw[List.flatten_cons,List.length_append,List.length_cons]
  omega
theorem impl_AllApart.eq {k:Nat} (hk:BIG<=k) {l:List (List Int)} (hl:smII l) (hf:l.flatten.length<1073741824):impl_AllApart.f k l=some (isHand l.flatten):=by
 have h:=scan (B:=List Int) l (fun m b i=>impl_AllApart.l3 k l (l.length:Int) (fun x1=>(impl_IsHand.f k x1).bind fun r2=>some r2) m i b) (fun _ _=>true) (fun b a=>b++a) (fun x1=>(impl_IsHand.f k x1).bind fun r2=>some r2) (fun _ _=>none) (fun i b=>b.length<=i*1048576)
  (fun m b i h hI=>by
    have:=hl.1
    have:=hl.2 _ (List.getElem_mem h)
    refine (impl_AllApart.l3_succ ..).trans ((bif_t (dec_t (by omega))).trans ((chk_t (in_t h)).trans ?_))
    rw[Int.toNat_natCast,getD_lt _ h,wrap_up (by omega)]
    exact chk_t (rm8 (by omega)))
  (fun b i h hI _=>by
    have:=hl.2 _ (List.getElem_mem h)
    rw[List.length_append];omega)
  (fun m b hI=>(impl_AllApart.l3_succ ..).trans (bif_f (dec_f (by omega))))
  l.length 0 k [] (by omega) (BIG_lt hk hl.1) (by simp)
 refine h.trans ?_
 rw[List.drop_zero,run_fold,foldl_app,List.nil_append]
 exact bind_s (impl_IsHand.eq hk hf)
theorem foldl_len: ∀(l:List (List Int)) (b:Int),l.foldl (fun b a=>b+(a.length:Int)) b=b+(l.flatten.length:Int)
 | [],b=>by simp
 |a::l,b=>by
  rw[List.foldl_cons,foldl_len l,List.flatten_cons,List.length_append];omega
theorem impl_TotalCards.eq {k:Nat} (hk:BIG<=k) {l:List (List Int)} (hl:smII l):impl_TotalCards.f k l=some (l.flatten.length:Int):=by
 have h:=scan (B:=Int) l (fun m b i=>impl_TotalCards.l3 k l (l.length:Int) (fun x1=>some x1) m b i) (fun _ _=>true) (fun b a=>b+(a.length:Int)) (fun x1=>some x1) (fun _ _=>none) (fun i b=>0<=b/\b<=(i:Int)*1048576)
  (fun m b i h hI=>by
    have:=hl.1
    have:=hl.2 _ (List.getElem_mem h)
    refine (impl_TotalCards.l3_succ ..).trans ((bif_t (dec_t (by omega))).trans ((chk_t (in_t h)).trans ?_))
    rw[Int.toNat_natCast,getD_lt _ h,wrap_up (by omega),wrap_i64 (by omega) (by omega)]
    rfl)
  (fun b i h hI _=>by
    have:=hl.2 _ (List.getElem_mem h)
    omega)
  (fun m b hI=>(impl_TotalCards.l3_succ ..).trans (bif_f (dec_f (by omega))))
  l.length 0 k 0 (by omega) (BIG_lt hk hl.1) (by simp)
 refine h.trans ?_
 rw[List.drop_zero,run_fold,foldl_len,Int.zero_add]
theorem impl_isWhole.eq {k:Nat} (hk:BIG<=k) {l:List (List Int)} (hl:smII l) (hf:l.flatten.length<1073741824):impl_isWhole.f k l=some (whole l):=by
 refine (bind_s (impl_AllApart.eq hk hl hf)).trans ?_
 unfold whole
 cases isHand l.flatten with
 |false=>rfl
 |true=>exact (bif_t rfl).trans (bind_s (impl_TotalCards.eq hk hl))
theorem spec_IsGame.loop {k:Nat} (hk:BIG<=k) {g:Gm} (h:g.sm) (hn:g.hs.length<=6):spec_IsGame.l5 k g.hs (fun x5=>bif ((x5.length:Int)==(52:Int)) then (spec_IsHand.f k x5).bind fun r6=>some r6 else some false) k (0:Int) (([]++g.st)++g.hp)=some (whole (g.hs++[g.st,g.hp])):=by
 obtain ⟨h1,h2,h3,h4⟩:=h
 have h3:g.st.length<1048577:=h3
 have h4:g.hp.length<1048577:=h4
 have h:=scan (B:=List Int) g.hs (fun m b i=>spec_IsGame.l5 k g.hs (fun x5=>bif ((x5.length:Int)==(52:Int)) then (spec_IsHand.f k x5).bind fun r6=>some r6 else some false) m i b) (fun _ _=>true) (fun b a=>b++a) (fun x5=>bif ((x5.length:Int)==(52:Int)) then (spec_IsHand.f k x5).bind fun r6=>some r6 else some false) (fun _ _=>none) (fun i b=>b.length<=(i+2)*1048576)
  (fun m b i h hI=>by
    have:=h2.2 _ (List.getElem_mem h)
    refine (spec_IsGame.l5_succ ..).trans ((bif_t (dec_t (by omega))).trans ((chk_t (in_t h)).trans ?_))
    rw[Int.toNat_natCast,getD_lt _ h,wrap_up (by omega)]
    exact chk_t (rm8 (by omega)))
  (fun b i h hI _=>by
    have:=h2.2 _ (List.getElem_mem h)
    rw[List.length_append];omega)
  (fun m b hI=>(spec_IsGame.l5_succ ..).trans (bif_f (dec_f (by omega))))
  g.hs.length 0 k (([]++g.st)++g.hp) (by omega) (BIG_lt hk h2.1) (by simp;omega)
 refine h.trans ?_
 rw[List.drop_zero,run_fold,foldl_app,List.nil_append]
 have hp:(g.st++g.hp++g.hs.flatten).Perm (g.hs++[g.st,g.hp]).flatten:=by
  rw[isGame_flat];exact List.perm_append_comm
 unfold whole
 rw[<- isHand_perm hp,<- hp.length_eq]
 cases e:(((g.st++g.hp++g.hs.flatten).length:Int)==52) with
 |false=>simp
 |true=>
  have:((g.st++g.hp++g.hs.flatten).length:Int)=52:=by simpa using e
  refine (bif_t rfl).trans ((bind_s (spec_IsHand.eq hk (by omega))).trans ?_)
  simp
theorem spec_IsGame.eq {k:Nat} (hk:BIG<=k) {g:Gm} (h:g.sm):g.ap (spec_IsGame.f k)=some (isGame g):=by
 refine (bind_s (spec_rl hk h.1)).trans ?_
 unfold isGame
 cases hr:g.r.ok with
 |false=>rfl
 |true=>
  have hrl:=rl_ok hr
  refine (bif_f rfl).trans ?_
  cases hn:((g.hs.length:Int)==g.r.n) with
  |false=>exact (bif_t (by rw[bne,hn];rfl)).trans (by simp)
  |true=>
   have hn2:(g.hs.length:Int)=g.r.n:=by simpa using hn
   refine (bif_f (by rw[bne,hn];rfl)).trans ?_
   cases hh:((g.hp.length:Int)==0) with
   |true=>
    have:(g.hp.length:Int)=0:=by simpa using hh
    refine (bif_t rfl).trans ?_
    rw[dec_f (p:=0<g.hp.length) (by omega)];simp
   |false=>
    have: ¬(g.hp.length:Int)=0:=by simpa using hh
    rw[dec_t (p:=0<g.hp.length) (by omega)]
    refine (bif_f rfl).trans ((bind_s (spec_l1In.eq ..)).trans ?_)
    rw[wrap_i64 (by omega) (by omega)]
    cases inR g.tn 0 (g.r.n-1) with
    |false=>simp
    |true=>
     refine (bif_f rfl).trans ((bind_s (spec_l1In.eq ..)).trans ?_)
     cases inR g.mv 0 g.r.l with
     |false=>simp
     |true=>
      refine (bif_f rfl).trans ((bind_s (spec_l1In.eq ..)).trans ?_)
      cases inR g.ps 0 g.mv with
      |false=>simp
      |true=>
       have h3:g.st.length<1048577:=h.2.2.1
       have h4:g.hp.length<1048577:=h.2.2.2
       refine (bif_f rfl).trans ((chk_t (rm8 (by omega))).trans ((chk_t (rm8 (by simp;omega))).trans ((spec_IsGame.loop hk h (by omega)).trans ?_)))
       simp
theorem impl_IsGame.eq {k:Nat} (hk:BIG<=k) {g:Gm} (h:g.sm):g.ap (impl_IsGame.f k)=some (isGame g):=by
 refine (bind_s (impl_rl hk h.1)).trans ?_
 unfold isGame
 cases hr:g.r.ok with
 |false=>rfl
 |true=>
  have hrl:=rl_ok hr
  refine (bif_t rfl).trans ?_
  cases hn:((g.hs.length:Int)==g.r.n) with
  |false=>rfl
  |true=>
   have hn2:(g.hs.length:Int)=g.r.n:=by simpa using hn
   have h3:g.st.length<1048577:=h.2.2.1
   have h4:g.hp.length<1048577:=h.2.2.2
   have hfl:=flat_len_le g.hs h.2.1.2
   refine (bif_t rfl).trans ((bind_s (impl_copyRows.eq hk h.2.1)).trans ((chk_t (rm24 (by omega))).trans ((bind_s (impl_isWhole.eq hk ⟨by simp;omega,fun y hy=> ?_⟩ ?_)).trans ?_)))
   ·rcases List.mem_append.1 hy with hy|hy
    ·exact h.2.1.2 y hy
    ·simp only[List.mem_cons,List.not_mem_nil,or_false] at hy
     rcases hy with rfl|rfl
     ·exact h3
     ·exact h4
   ·rw[isGame_flat];simp only[List.length_append];omega
   ·cases whole (g.hs++[g.st,g.hp]) with
    |false=>rfl
    |true=>
     refine (bif_t rfl).trans ?_
     have e:decide ((g.hp.length:Int)>0)=decide (0<g.hp.length):=by simp
     rw[e]
     cases decide (0<g.hp.length) with
     |false=>rfl
     |true=>
      refine (bif_t rfl).trans ((bind_s (impl_InRange.eq ..)).trans ?_)
      rw[hn2,wrap_i64 (by omega) (by omega)]
      cases inR g.tn 0 (g.r.n-1) with
      |false=>rfl
      |true=>
       refine (bif_t rfl).trans ((bind_s (impl_InRange.eq ..)).trans ?_)
       cases inR g.mv 0 g.r.l with
       |false=>rfl
       |true=>exact (bif_t rfl).trans (bind_s (impl_InRange.eq ..))
theorem impl_Winner.eq {k:Nat} (hk:BIG<=k) {g:Gm} (h:g.sm):g.ap (impl_Winner.f k)=some (winner g):=by
 refine (bind_s (impl_IsGame.eq hk h)).trans ?_
 unfold winner
 cases isGame g with
 |false=>rfl
 |true=>exact (bif_f rfl).trans (impl_Winner.loop hk h.2.1.1)
theorem impl_IsEnded.eq {k:Nat} (hk:BIG<=k) {g:Gm} (h:g.sm):g.ap (impl_IsEnded.f k)=some (isEnded g):=by
 refine (bind_s (impl_IsGame.eq hk h)).trans ?_
 unfold isEnded
 cases hg:isGame g with
 |false=>rfl
 |true=>
  refine (bif_t rfl).trans ((bind_s (impl_Winner.eq hk h)).trans ?_)
  unfold winner overG
  rw[hg]
  simp only[cond_true]
  cases decide (firstE 0 g.hs>=0)<;>cases (g.mv==g.r.l)<;>rfl
end Go.Proofs.YtbmmhdmljajcfaaGreatDoor
