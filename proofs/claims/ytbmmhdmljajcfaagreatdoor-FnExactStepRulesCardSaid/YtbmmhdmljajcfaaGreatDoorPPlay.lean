/- Cards that can be played, and playing them, in plain Lean. Conditions: enough rounds, lists of at most 2^20. -/
import Derived.Test.YtbmmhdmljajcfaaGreatDoorKit
import Derived.Test.YtbmmhdmljajcfaaGreatDoorFFnExactStepRules
import Derived.Test.YtbmmhdmljajcfaaGreatDoorPGame
import Derived.Test.YtbmmhdmljajcfaaGreatDoorPMatch
set_option linter.unusedVariables false
set_option linter.unusedSimpArgs false
namespace Go.Proofs.YtbmmhdmljajcfaaGreatDoor
open Go Go.Proofs.YtbmmhdmljajcfaaGreatDoor.V
theorem spec_Sorted.inner {R:Type} (k:Nat) {l:List Int} {i:Nat} (h:i<l.length) (v:List Int) (e0:Int->Option R) (hv:v.length<1048577): ∀(j n:Nat),j<=v.length->j<n->spec_Sorted.l6 k l (i:Int) v e0 n (j:Int)=e0 ((posF l[i] v j:Nat):Int):=by
 intro j
 induction j with
 |zero=>
  intro n hj hn
  obtain ⟨n,rfl⟩: ∃n',n=n' +1:=⟨n-1,by omega⟩
  exact (spec_Sorted.l6_succ ..).trans (bif_f (dec_f (by omega)))
 |succ j ih=>
  intro n hj hn
  obtain ⟨n,rfl⟩: ∃n',n=n' +1:=⟨n-1,by omega⟩
  refine (spec_Sorted.l6_succ ..).trans ((bif_t (dec_t (by omega))).trans ?_)
  have e:IntKind.wrap .i64 (((j+1:Nat):Int)-1)=(j:Int):=by rw[wrap_i64 (by omega) (by omega)];omega
  rw[e]
  refine (chk_t (in_t (by omega))).trans ((chk_t (in_t h)).trans ?_)
  rw[Int.toNat_natCast,Int.toNat_natCast,getD_lt (l:=l) _ h]
  unfold posF
  cases h:decide (v.getD j 0>l[i]) with
  |true=>exact (bif_t rfl).trans (ih n (by omega) (by omega))
  |false=>rfl
theorem spec_Sorted.eq {k:Nat} (hk:BIG<=k) {l:List Int} (hl:l.length<1048577):spec_Sorted.f k l=some (sortedI l):=by
 have h:=scan (B:=List Int) l (fun m b i=>spec_Sorted.l3 k l (fun x2=>some x2) m i b) (fun _ _=>true) insI (fun x2=>some x2) (fun _ _=>none) (fun i b=>b.length=i)
  (fun m b i h hI=>by
    have hp:=posF_le l[i] b b.length
    have hb:b.length<1048577:=by omega
    refine (spec_Sorted.l3_succ ..).trans ((bif_t (dec_t (by omega))).trans ?_)
    refine (spec_Sorted.inner k h b _ hb b.length k (Nat.le_refl _) (BIG_lt hk hb)).trans ?_
    have t1:((b.take (posF l[i] b b.length)).drop 0).length=posF l[i] b b.length:=by simp;omega
    have t2:((b.take ((b.length:Int).toNat)).drop (posF l[i] b b.length))=b.drop (posF l[i] b b.length):=by rw[Int.toNat_natCast,List.take_length]
    refine (chk_t (and_t (dec_t (by omega)) (dec_t (by omega)))).trans ((chk_t (dec_t (by omega))).trans ?_)
    rw[Int.toNat_natCast]
    refine (chk_t (rm8 (by omega))).trans ((chk_t (in_t h)).trans ?_)
    rw[t2]
    refine (chk_t (rm8 (by simp;omega))).trans ((chk_t (and_t (dec_t (by omega)) (dec_t (by omega)))).trans ((chk_t (and_t (dec_t (by omega)) (dec_t (by omega)))).trans ((chk_t (rm8 (by simp;omega))).trans ?_)))
    rw[wrap_up (by omega),Int.toNat_natCast,getD_lt (l:=l) _ h]
    unfold insI
    simp)
  (fun b i h hI _=>by rw[insI_len];omega)
  (fun m b hI=>(spec_Sorted.l3_succ ..).trans (bif_f (dec_f (by omega))))
  l.length 0 k [] (by omega) (BIG_lt hk hl) rfl
 refine h.trans ?_
 rw[List.drop_zero,run_fold]
 rfl
theorem spec_FitsOn.eq {k:Nat} (hk:BIG<=k) {r:Rl} (h:r.sm) (top c:Int):r.ap (spec_FitsOn.f k) top c=some (fits r top c):=by
 refine (bind_s (spec_rl hk h)).trans ?_
 unfold fits
 cases r.ok with
 |false=>rfl
 |true=>
  refine (bif_f rfl).trans ((bind_s (spec_IsCard.eq ..)).trans ?_)
  cases isCard top with
  |false=>rfl
  |true=>
   refine (bif_f rfl).trans ((bind_s (spec_IsCard.eq ..)).trans ?_)
   cases isCard c with
   |false=>rfl
   |true=>
    refine (bif_f rfl).trans ?_
    simp only[spec_SuitOf.eq,spec_RankOf.eq,spec_Matches.eq hk _ h.1,Option.bind_some]
    cases r.b1<;>cases r.b2<;>cases (suitOf c==suitOf top)<;>cases (rankOf c==rankOf top)<;>cases matchB r.w c<;>rfl
theorem impl_FitsOn.eq {k:Nat} (hk:BIG<=k) {r:Rl} (h:r.sm) (top c:Int):r.ap (impl_FitsOn.f k) top c=some (fits r top c):=by
 refine (bind_s (impl_rl hk h)).trans ?_
 unfold fits
 cases r.ok with
 |false=>rfl
 |true=>
  refine (bif_f rfl).trans ((bind_s (impl_IsCard.eq ..)).trans ?_)
  cases isCard top with
  |false=>rfl
  |true=>
   refine (bif_f rfl).trans ((bind_s (impl_IsCard.eq ..)).trans ?_)
   cases isCard c with
   |false=>rfl
   |true=>
    refine (bif_f rfl).trans ?_
    simp only[impl_SuitOf.eq,impl_RankOf.eq,impl_Matches.eq hk _ h.1,Option.bind_some]
    cases r.b1<;>cases r.b2<;>cases (suitOf c==suitOf top)<;>cases (rankOf c==rankOf top)<;>cases matchB r.w c<;>rfl
theorem spec_DoesSkip.eq {k:Nat} (hk:BIG<=k) {r:Rl} (h:r.sm) (c:Int):r.ap (spec_DoesSkip.f k) c=some (doesSkip r c):=by
 refine (bind_s (spec_rl hk h)).trans ?_
 unfold doesSkip
 cases r.ok with
 |false=>rfl
 |true=>exact (bif_t rfl).trans (bind_s (spec_Matches.eq hk c h.2))
theorem impl_DoesSkip.eq {k:Nat} (hk:BIG<=k) {r:Rl} (h:r.sm) (c:Int):r.ap (impl_DoesSkip.f k) c=some (doesSkip r c):=by
 refine (bind_s (impl_rl hk h)).trans ?_
 unfold doesSkip
 cases r.ok with
 |false=>rfl
 |true=>exact (bif_t rfl).trans (bind_s (impl_Matches.eq hk c h.2))
theorem run_place (c:Int) {z:Nat->Int->Option Int} (hz: ∀b a,z b a=some (b:Int)): ∀(l:List Int) (b:Nat),∃r:Int,run (fun (_:Nat) (a:Int)=> !(a==c)) (fun b _=>b+1) (fun _=>some (-1)) z l b=some r/\decide (r>=0)=hasCard l c
 | [],b=>⟨-1,rfl,rfl⟩
 |a::l,b=>by
  obtain ⟨r,h1,h2⟩:=run_place c hz l (b+1)
  have e:run (fun (_:Nat) (a:Int)=> !(a==c)) (fun b _=>b+1) (fun _=>some (-1)) z (a::l) b=bif !(a==c) then run (fun (_:Nat) (a:Int)=> !(a==c)) (fun b _=>b+1) (fun _=>some (-1)) z l (b+1) else z b a:=rfl
  unfold hasCard
  rw[List.any_cons]
  cases hac:(a==c) with
  |true=>exact ⟨(b:Int),by rw[e,hac,hz];rfl,by simp⟩
  |false=>exact ⟨r,by rw[e,hac];exact h1,by rw[Bool.false_or];exact h2⟩
theorem impl_HasCard.eq {k:Nat} (hk:BIG<=k) {l:List Int} (c:Int) (hl:l.length<1048577):impl_HasCard.f k l c=some (hasCard l c):=by
 have h:=scan (B:=Nat) l (fun m b i=>impl_PlaceOf.l2 k c l (l.length:Int) (fun x1=>some x1) (some (-1)) m i) (fun _ a=> !(a==c)) (fun b _=>b+1) (fun _=>some (-1)) (fun b _=>some (b:Int)) (fun i b=>b=i)
  (fun m b i h hI=>by
    subst hI
    refine (impl_PlaceOf.l2_succ ..).trans ((bif_t (dec_t (by omega))).trans ((chk_t (in_t h)).trans ?_))
    rw[Int.toNat_natCast,getD_lt _ h,wrap_up (by omega)]
    cases (l[b]==c)<;>rfl)
  (fun b i h hI _=>by omega)
  (fun m b hI=>(impl_PlaceOf.l2_succ ..).trans (bif_f (dec_f (by omega))))
  l.length 0 k 0 (by omega) (BIG_lt hk hl) rfl
 obtain ⟨r,h1,h2⟩:=run_place c (z:=fun b _=>some (b:Int)) (fun _ _=>rfl) l 0
 rw[List.drop_zero,h1] at h
 refine (bind_s (show impl_PlaceOf.f k l c=some r from h)).trans ?_
 rw[h2]
theorem impl_Without.eq {k:Nat} (hk:BIG<=k) {l:List Int} (c:Int) (hl:l.length<1048577):impl_Without.f k l c=some (without l c):=by
 have h:=scan (B:=List Int) l (fun m b i=>impl_Without.l3 k c l (l.length:Int) (fun x1=>some x1) m i b) (fun _ _=>true) (fun b a=>bif a != c then b++[a] else b) (fun x1=>some x1) (fun _ _=>none) (fun i b=>b.length<=i)
  (fun m b i h hI=>by
    refine (impl_Without.l3_succ ..).trans ((bif_t (dec_t (by omega))).trans ((chk_t (in_t h)).trans ?_))
    rw[Int.toNat_natCast,getD_lt _ h,wrap_up (by omega)]
    cases (l[i] != c) with
    |false=>rfl
    |true=>exact (bif_t rfl).trans (chk_t (rm8 (by omega))))
  (fun b i h hI _=>by cases (l[i] != c)<;>simp<;>omega)
  (fun m b hI=>(impl_Without.l3_succ ..).trans (bif_f (dec_f (by omega))))
  l.length 0 k [] (by omega) (BIG_lt hk hl) (by simp)
 refine h.trans ?_
 rw[List.drop_zero,run_fold,foldl_filter (fun a=>a != c),List.nil_append]
 rfl
theorem wrap_pred {n:Nat} (h:0<n) (h2:n<4611686018427387904):IntKind.wrap .i64 ((n:Int)-1)=((n-1:Nat):Int):=by rw[wrap_i64 (by omega) (by omega)];omega
theorem hand_sm {g:Gm} (h:g.sm):g.hand.length<1048577:=by
 unfold Gm.hand
 rw[List.getD_eq_getElem?_getD]
 cases e:g.hs[g.tn.toNat]? with
 |none=>simp
 |some x=>exact h.2.1.2 x (List.mem_of_getElem? e)
theorem game_turn {g:Gm} (h:isGame g=true):0<=g.tn/\g.tn<(g.hs.length:Int):=by
 obtain ⟨h1,h2,h3,h4,h5,h6,h7⟩:=isGame_iff.1 h
 omega
theorem spec_Playable.eq {k:Nat} (hk:BIG<=k) {g:Gm} (h:g.sm):g.ap (spec_Playable.f k)=some (playable g):=by
 refine (bind_s (spec_IsGame.eq hk h)).trans ?_
 unfold playable
 cases hg:isGame g with
 |false=>rfl
 |true=>
  refine (bif_f rfl).trans ((bind_s (spec_l24Over.eq hk g h.2.1.1)).trans ?_)
  cases ho:overG g with
  |true=>rfl
  |false=>
   have ht:=game_turn hg
   have h4:g.hp.length<1048577:=h.2.2.2
   have hp:=(isGame_iff.1 hg).2.2.2.1
   have hs:=sortedI_len g.hand
   have hh:=hand_sm h
   refine (bif_f rfl).trans ((chk_t (and_t (dec_t ht.1) (dec_t ht.2))).trans ((bind_s (spec_Sorted.eq hk hh)).trans ?_))
   have h:=scan (B:=List Int) (sortedI g.hand) (fun m b i=>spec_Playable.l6 k g.r.n g.r.e g.r.b1 g.r.b2 g.r.w g.r.f g.r.t g.r.l g.hp (sortedI g.hand) (fun x5=>some x5) m i b) (fun _ _=>true) (fun b a=>bif fits g.r g.top a then b++[a] else b) (fun x5=>some x5) (fun _ _=>none) (fun i b=>b.length<=i)
    (fun m b i h' hI=>by
      refine (spec_Playable.l6_succ ..).trans ((bif_t (dec_t (by omega))).trans ?_)
      rw[wrap_pred (by omega) (by omega)]
      refine (chk_t (in_t (by omega))).trans ((chk_t (in_t h')).trans ?_)
      rw[Int.toNat_natCast,Int.toNat_natCast,getD_lt (l:=sortedI g.hand) _ h',wrap_up (by omega)]
      refine (bind_s (spec_FitsOn.eq hk h.1 _ _)).trans ?_
      show (bif fits g.r g.top (sortedI g.hand)[i] then _ else _)=_
      cases fits g.r g.top (sortedI g.hand)[i] with
      |false=>rfl
      |true=>exact (bif_t rfl).trans ((chk_t (in_t h')).trans (chk_t (rm8 (by omega)))))
    (fun b i h' hI _=>by cases fits g.r g.top (sortedI g.hand)[i]<;>simp<;>omega)
    (fun m b hI=>(spec_Playable.l6_succ ..).trans (bif_f (dec_f (by omega))))
    (sortedI g.hand).length 0 k [] (by omega) (BIG_lt hk (by omega)) (by simp)
   refine h.trans ?_
   rw[List.drop_zero,run_fold,foldl_filter (fits g.r g.top),List.nil_append]
   rfl
theorem isEnded_over {g:Gm} (h:isGame g=true):isEnded g=overG g:=by unfold isEnded;rw[h];rfl
theorem impl_Playable.eq {k:Nat} (hk:BIG<=k) {g:Gm} (h:g.sm):g.ap (impl_Playable.f k)=some (playable g):=by
 refine (bind_s (impl_IsGame.eq hk h)).trans ?_
 unfold playable
 cases hg:isGame g with
 |false=>rfl
 |true=>
  refine (bif_f rfl).trans ((bind_s (impl_IsEnded.eq hk h)).trans ?_)
  rw[isEnded_over hg]
  cases ho:overG g with
  |true=>rfl
  |false=>
   have ht:=game_turn hg
   have h4:g.hp.length<1048577:=h.2.2.2
   have hp:=(isGame_iff.1 hg).2.2.2.1
   have hs:=sortedI_len g.hand
   have hh:=hand_sm h
   refine (bif_f rfl).trans ((chk_t (and_t (dec_t ht.1) (dec_t ht.2))).trans ((bind_s (impl_Sorted.eq hk hh)).trans ?_))
   have h:=scan (B:=List Int) (sortedI g.hand) (fun m b i=>impl_Playable.l5 k ((sortedI g.hand).length:Int) g.r.n g.r.e g.r.b1 g.r.b2 g.r.w g.r.f g.r.t g.r.l g.hp (sortedI g.hand) (fun x5=>some x5) m i b) (fun _ _=>true) (fun b a=>bif fits g.r g.top a then b++[a] else b) (fun x5=>some x5) (fun _ _=>none) (fun i b=>b.length<=i)
    (fun m b i h' hI=>by
      refine (impl_Playable.l5_succ ..).trans ((bif_t (dec_t (by omega))).trans ?_)
      rw[wrap_pred (by omega) (by omega)]
      refine (chk_t (in_t h')).trans ((chk_t (in_t (by omega))).trans ?_)
      rw[Int.toNat_natCast,Int.toNat_natCast,getD_lt (l:=sortedI g.hand) _ h',wrap_up (by omega)]
      refine (bind_s (impl_FitsOn.eq hk h.1 _ _)).trans ?_
      show (bif fits g.r g.top (sortedI g.hand)[i] then _ else _)=_
      cases fits g.r g.top (sortedI g.hand)[i] with
      |false=>rfl
      |true=>exact (bif_t rfl).trans (chk_t (rm8 (by omega))))
    (fun b i h' hI _=>by cases fits g.r g.top (sortedI g.hand)[i]<;>simp<;>omega)
    (fun m b hI=>(impl_Playable.l5_succ ..).trans (bif_f (dec_f (by omega))))
    (sortedI g.hand).length 0 k [] (by omega) (BIG_lt hk (by omega)) (by simp)
   refine h.trans ?_
   rw[List.drop_zero,run_fold,foldl_filter (fits g.r g.top),List.nil_append]
   rfl
theorem spec_PlayOn.eq {k:Nat} (hk:BIG<=k) {g:Gm} (h:g.sm) (c:Int):g.ap (spec_PlayOn.f k) c=some ((playOn g c).1.tpb (playOn g c).2):=by
 have hpl:=playable_len g
 refine (bind_s (spec_l24Copy.eq hk h)).trans ((bind_s (spec_Playable.eq hk h)).trans ((bind_s (spec_HasCard.eq hk c (by omega))).trans ?_))
 unfold playOn
 cases hc:hasCard (playable g) c with
 |false=>rfl
 |true=>
  obtain ⟨hg,ho,hm,hcard⟩:=playable_mem hc
  have ht:=game_turn hg
  obtain ⟨h1,h2,h3,h4,h5,h6,h7⟩:=isGame_iff.1 hg
  have hrl:=rl_ok h1
  have h8:g.hp.length<1048577:=h.2.2.2
  refine (bif_f rfl).trans ((chk_t (and_t (dec_t ht.1) (dec_t ht.2))).trans ((bind_s (spec_Without.eq hk c (hand_sm h))).trans ((chk_t (and_t (dec_t ht.1) (dec_t ht.2))).trans ((chk_t (rm8 (show g.hp.length+1<=_ by omega))).trans ((bind_s (spec_DoesSkip.eq hk h.1 c)).trans ?_)))))
  rw[wrap_i64 (n:=g.tn+2) (by omega) (by omega),wrap_i64 (n:=g.tn+1) (by omega) (by omega),wrap_i64 (n:=g.mv+1) (by omega) (by omega)]
  cases doesSkip g.r c with
  |true=>exact (bif_t rfl).trans (chk_t (by rw[dec_f (p:=g.r.n=0) (by omega)];rfl))
  |false=>exact (bif_f rfl).trans (chk_t (by rw[dec_f (p:=g.r.n=0) (by omega)];rfl))
theorem impl_PlayOn.eq {k:Nat} (hk:BIG<=k) {g:Gm} (h:g.sm) (c:Int):g.ap (impl_PlayOn.f k) c=some ((playOn g c).1.tpb (playOn g c).2):=by
 have hpl:=playable_len g
 refine (bind_s (impl_Game_copied.eq hk h)).trans ((bind_s (impl_Playable.eq hk h)).trans ((bind_s (impl_HasCard.eq hk c (by omega))).trans ?_))
 unfold playOn
 cases hc:hasCard (playable g) c with
 |false=>rfl
 |true=>
  obtain ⟨hg,ho,hm,hcard⟩:=playable_mem hc
  have ht:=game_turn hg
  obtain ⟨h1,h2,h3,h4,h5,h6,h7⟩:=isGame_iff.1 hg
  have hrl:=rl_ok h1
  have h8:g.hp.length<1048577:=h.2.2.2
  refine (bif_f rfl).trans ((chk_t (and_t (dec_t ht.1) (dec_t ht.2))).trans ((bind_s (impl_Without.eq hk c (hand_sm h))).trans ((chk_t (and_t (dec_t ht.1) (dec_t ht.2))).trans ((chk_t (rm8 (show g.hp.length+1<=_ by omega))).trans ((bind_s (impl_DoesSkip.eq hk h.1 c)).trans ?_)))))
  rw[h2,wrap_i64 (n:=g.tn+2) (by omega) (by omega),wrap_i64 (n:=g.tn+1) (by omega) (by omega),wrap_i64 (n:=g.mv+1) (by omega) (by omega)]
  cases doesSkip g.r c with
  |true=>exact (bif_t rfl).trans (chk_t (by rw[dec_f (p:=g.r.n=0) (by omega)];rfl))
  |false=>exact (bif_f rfl).trans (chk_t (by rw[dec_f (p:=g.r.n=0) (by omega)];rfl))
end Go.Proofs.YtbmmhdmljajcfaaGreatDoor
