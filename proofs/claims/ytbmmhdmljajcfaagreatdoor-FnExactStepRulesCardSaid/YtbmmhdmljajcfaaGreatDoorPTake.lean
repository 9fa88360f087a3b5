/- Taking cards, in plain Lean. Conditions: enough rounds, lists of at most 2^20. -/
import Derived.Test.YtbmmhdmljajcfaaGreatDoorKit
import Derived.Test.YtbmmhdmljajcfaaGreatDoorFFnExactStepRules
import Derived.Test.YtbmmhdmljajcfaaGreatDoorPPlay
set_option linter.unusedVariables false
set_option linter.unusedSimpArgs false
namespace Go.Proofs.YtbmmhdmljajcfaaGreatDoor
open Go Go.Proofs.YtbmmhdmljajcfaaGreatDoor.V
theorem takeN_nil (t m:Nat) (hs:List (List Int)) {st hp:List Int} (n:Nat) (h:(bif ((st.length:Int)==0) then hp.take (hp.length-1) else st)=[]):takeN t (m+1) hs st hp n=(hs,[],(bif ((st.length:Int)==0) then hp.drop (hp.length-1) else hp),n):=by
 rw[takeN,h]
theorem takeN_cons (t m:Nat) (hs:List (List Int)) {st hp:List Int} (n:Nat) {c:Int} {st2:List Int} (h:(bif ((st.length:Int)==0) then hp.take (hp.length-1) else st)=c::st2):takeN t (m+1) hs st hp n=takeN t m (hs.set t (hs.getD t []++[c])) st2 (bif ((st.length:Int)==0) then hp.drop (hp.length-1) else hp) (n+1):=by
 rw[takeN,h]
theorem set_snoc_len {hs:List (List Int)} {t:Nat} (c:Int) (h:t<hs.length):(hs.set t (hs.getD t []++[c])).flatten.length=hs.flatten.length+1:=by
 obtain ⟨q,q1,q2⟩:=flat_set hs t (hs.getD t []++[c]) h
 rw[q1.length_eq,q2.length_eq,getD_lt _ h]
 simp only[List.length_append,List.length_singleton]
 omega
theorem getD_flat (hs:List (List Int)) (t:Nat):(hs.getD t []).length<=hs.flatten.length:=by
 rw[List.getD_eq_getElem?_getD]
 cases e:hs[t]? with
 |none=>simp
 |some x=>exact len_flat (List.mem_of_getElem? e)
theorem take_drop0 (l:List Int) (n:Nat):[]++((l.take n).drop 0)=l.take n:=by simp
theorem take_all_drop (l:List Int) (n:Nat):[]++((l.take ((l.length:Int).toNat)).drop n)=l.drop n:=by rw[Int.toNat_natCast,List.take_length];rfl
def takeE {R:Type} (e0:Int->List (List Int)->List Int->List Int->Option R) (q:List (List Int)×List Int×List Int×Nat):Option R:=e0 (q.2.2.2:Int) q.1 q.2.1 q.2.2.1
theorem spec_TakeCards.loop {R:Type} (k:Nat) (T t:Nat) (hT:T<1000) (e0:Int->List (List Int)->List Int->List Int->Option R): ∀(m i n a:Nat) (hs:List (List Int)) (st hp:List Int),i+m=T->m<n->a<=i->t<hs.length->0<hp.length->hs.flatten.length+(st.length+hp.length)<1000000->
 spec_TakeCards.l6 k (T:Int) (t:Int) e0 n (a:Int) (i:Int) hs st hp=takeE e0 (takeN t m hs st hp a):=by
 intro m
 induction m with
 |zero=>
  intro i n a hs st hp hi hn ha ht hh hl
  obtain ⟨n,rfl⟩: ∃n',n=n' +1:=⟨n-1,by omega⟩
  exact (spec_TakeCards.l6_succ ..).trans (bif_f (dec_f (by omega)))
 |succ m ih=>
  intro i n a hs st hp hi hn ha ht hh hl
  obtain ⟨n,rfl⟩: ∃n',n=n' +1:=⟨n-1,by omega⟩
  refine (spec_TakeCards.l6_succ ..).trans ((bif_t (dec_t (by omega))).trans ?_)
  rw[wrap_pred hh (by omega),Int.toNat_natCast,wrap_up (by omega),wrap_up (by omega)]
  have hg:=getD_flat hs t
  cases hst:((st.length:Int)==0) with
  |true=>
   have hst0:(st.length:Int)=0:=by simpa using hst
   have l1:(hp.take (hp.length-1)).length=hp.length-1:=by simp
   have l2:(hp.drop (hp.length-1)).length=1:=by simp;omega
   refine (bif_t rfl).trans ((chk_t (and_t (dec_t (by omega)) (dec_t (by omega)))).trans ((chk_t (dec_t (by omega))).trans ((chk_t (rm8 (by simp;omega))).trans ((chk_t (and_t (dec_t (by omega)) (dec_t (by omega)))).trans ((chk_t (and_t (dec_t (by omega)) (dec_t (by omega)))).trans ((chk_t (rm8 (by simp;omega))).trans ?_))))))
   rw[take_drop0,take_all_drop]
   cases hx:hp.take (hp.length-1) with
   |nil=>
    rw[takeN_nil t m hs a (by rw[hst];exact hx),hst]
    rfl
   |cons c st2=>
    rw[hx] at l1
    rw[List.length_cons] at l1
    rw[takeN_cons t m hs a (c:=c) (st2:=st2) (by rw[hst];exact hx),hst]
    have hne:(((c::st2).length:Int)==0)=false:=by
     have q: ¬(((c::st2).length:Int)=0):=by rw[List.length_cons];omega
     simpa using q
    refine (bif_f hne).trans ((chk_t (in_t ht)).trans ((chk_t (dec_t (by rw[List.length_cons];omega))).trans ((chk_t (rm8 (by simp only[Int.toNat_natCast];omega))).trans ((chk_t (in_t ht)).trans ((chk_t (by simp)).trans ((chk_t (and_t (dec_t (by omega)) (dec_t (by omega)))).trans ((chk_t (dec_t (by rw[List.length_cons];omega))).trans ((chk_t (rm8 (by simp;omega))).trans ?_))))))))
    rw[take_all_drop,Int.toNat_natCast]
    refine ih (i+1) n (a+1) _ st2 _ (by omega) (by omega) (by omega) (by simpa using ht) (by show 0<(hp.drop (hp.length-1)).length;omega) ?_
    rw[show (c::st2).getD 0 0=c from rfl,set_snoc_len c ht]
    show _+(st2.length+(hp.drop (hp.length-1)).length)<_
    omega
  |false=>
   have hst0: ¬(st.length:Int)=0:=by simpa using hst
   refine (bif_f rfl).trans ((bif_f rfl).trans ?_)
   cases st with
   |nil=>simp at hst0
   |cons c st2=>
    rw[takeN_cons t m hs a (c:=c) (st2:=st2) (by rw[hst];rfl),hst]
    rw[List.length_cons] at hl
    refine ((chk_t (in_t ht)).trans ((chk_t (dec_t (by rw[List.length_cons];omega))).trans ((chk_t (rm8 (by simp only[Int.toNat_natCast];omega))).trans ((chk_t (in_t ht)).trans ((chk_t (by simp)).trans ((chk_t (and_t (dec_t (by omega)) (dec_t (by omega)))).trans ((chk_t (dec_t (by rw[List.length_cons];omega))).trans ((chk_t (rm8 (by simp;omega))).trans ?_))))))))
    rw[take_all_drop,Int.toNat_natCast]
    refine ih (i+1) n (a+1) _ st2 _ (by omega) (by omega) (by omega) (by simpa using ht) hh ?_
    rw[show (c::st2).getD 0 0=c from rfl,set_snoc_len c ht]
    show _+(st2.length+hp.length)<_
    omega
theorem impl_TakeCards.loop {R:Type} (k:Nat) (T t:Nat) (hT:T<1000) (e0:Int->List (List Int)->List Int->List Int->Option R): ∀(m i n a:Nat) (hs:List (List Int)) (st hp:List Int),i+m=T->m<n->a<=i->t<hs.length->0<hp.length->hs.flatten.length+(st.length+hp.length)<1000000->
 impl_TakeCards.l6 k (T:Int) (t:Int) e0 n (a:Int) (i:Int) hs st hp=takeE e0 (takeN t m hs st hp a):=by
 intro m
 induction m with
 |zero=>
  intro i n a hs st hp hi hn ha ht hh hl
  obtain ⟨n,rfl⟩: ∃n',n=n' +1:=⟨n-1,by omega⟩
  exact (impl_TakeCards.l6_succ ..).trans (bif_f (dec_f (by omega)))
 |succ m ih=>
  intro i n a hs st hp hi hn ha ht hh hl
  obtain ⟨n,rfl⟩: ∃n',n=n' +1:=⟨n-1,by omega⟩
  refine (impl_TakeCards.l6_succ ..).trans ((bif_t (dec_t (by omega))).trans ?_)
  rw[wrap_pred hh (by omega),Int.toNat_natCast,wrap_up (by omega),wrap_up (by omega)]
  have hg:=getD_flat hs t
  cases hst:((st.length:Int)==0) with
  |true=>
   have hst0:(st.length:Int)=0:=by simpa using hst
   have l1:(hp.take (hp.length-1)).length=hp.length-1:=by simp
   have l2:(hp.drop (hp.length-1)).length=1:=by simp;omega
   refine (bif_t rfl).trans ((chk_t (and_t (dec_t (by omega)) (dec_t (by omega)))).trans ((chk_t (dec_t (by omega))).trans ((bind_s (impl_copyOf.eq k (by simp;omega))).trans ((chk_t (and_t (dec_t (by omega)) (dec_t (by omega)))).trans ((chk_t (and_t (dec_t (by omega)) (dec_t (by omega)))).trans ((bind_s (impl_copyOf.eq k (by simp;omega))).trans ?_))))))
   rw[show (hp.take (hp.length-1)).drop 0=hp.take (hp.length-1) by simp,show (hp.take ((hp.length:Int).toNat)).drop (hp.length-1)=hp.drop (hp.length-1) by simp]
   cases hx:hp.take (hp.length-1) with
   |nil=>
    rw[takeN_nil t m hs a (by rw[hst];exact hx),hst]
    rfl
   |cons c st2=>
    rw[hx] at l1
    rw[List.length_cons] at l1
    rw[takeN_cons t m hs a (c:=c) (st2:=st2) (by rw[hst];exact hx),hst]
    have hne:(((c::st2).length:Int)==0)=false:=by
     have q: ¬(((c::st2).length:Int)=0):=by rw[List.length_cons];omega
     simpa using q
    refine (bif_f hne).trans ((chk_t (in_t ht)).trans ((chk_t (dec_t (by rw[List.length_cons];omega))).trans ((chk_t (rm8 (by simp only[Int.toNat_natCast];omega))).trans ((chk_t (in_t ht)).trans ((chk_t (by simp)).trans ((chk_t (and_t (dec_t (by omega)) (dec_t (by omega)))).trans ((chk_t (dec_t (by rw[List.length_cons];omega))).trans ((bind_s (impl_copyOf.eq k (by simp;omega))).trans ?_))))))))
    rw[show ((c::st2).take (((c::st2).length:Int).toNat)).drop 1=st2 by simp,Int.toNat_natCast]
    refine ih (i+1) n (a+1) _ st2 _ (by omega) (by omega) (by omega) (by simpa using ht) (by show 0<(hp.drop (hp.length-1)).length;omega) ?_
    rw[show (c::st2).getD 0 0=c from rfl,set_snoc_len c ht]
    show _+(st2.length+(hp.drop (hp.length-1)).length)<_
    omega
  |false=>
   have hst0: ¬(st.length:Int)=0:=by simpa using hst
   refine (bif_f rfl).trans ((bif_f rfl).trans ?_)
   cases st with
   |nil=>simp at hst0
   |cons c st2=>
    rw[takeN_cons t m hs a (c:=c) (st2:=st2) (by rw[hst];rfl),hst]
    rw[List.length_cons] at hl
    refine ((chk_t (in_t ht)).trans ((chk_t (dec_t (by rw[List.length_cons];omega))).trans ((chk_t (rm8 (by simp only[Int.toNat_natCast];omega))).trans ((chk_t (in_t ht)).trans ((chk_t (by simp)).trans ((chk_t (and_t (dec_t (by omega)) (dec_t (by omega)))).trans ((chk_t (dec_t (by rw[List.length_cons];omega))).trans ((bind_s (impl_copyOf.eq k (by simp;omega))).trans ?_))))))))
    rw[show ((c::st2).take (((c::st2).length:Int).toNat)).drop 1=st2 by simp,Int.toNat_natCast]
    refine ih (i+1) n (a+1) _ st2 _ (by omega) (by omega) (by omega) (by simpa using ht) hh ?_
    rw[show (c::st2).getD 0 0=c from rfl,set_snoc_len c ht]
    show _+(st2.length+hp.length)<_
    omega
theorem game_total {g:Gm} (h:isGame g=true):g.hs.flatten.length+(g.st.length+g.hp.length)=52:=by
 have:=whole_len (isGame_iff.1 h).2.2.1
 rw[isGame_flat,List.length_append,List.length_append] at this
 exact this
theorem spec_TakeCards.eq {k:Nat} (hk:BIG<=k) {g:Gm} (h:g.sm):g.ap (spec_TakeCards.f k)=some ((takeCards g).1.tpb (takeCards g).2):=by
 refine (bind_s (spec_l24Copy.eq hk h)).trans ((bind_s (spec_IsGame.eq hk h)).trans ?_)
 unfold takeCards
 cases hg:isGame g with
 |false=>rfl
 |true=>
  refine (bif_f rfl).trans ((bind_s (spec_l24Over.eq hk g h.2.1.1)).trans ?_)
  cases ho:overG g with
  |true=>rfl
  |false=>
   have ht:=game_turn hg
   have htot:=game_total hg
   obtain ⟨h1,h2,h3,h4,h5,h6,h7⟩:=isGame_iff.1 hg
   have hrl:=rl_ok h1
   refine (bif_f rfl).trans ?_
   have e1:g.r.t=((g.r.t.toNat:Nat):Int):=by omega
   have e2:g.tn=((g.tn.toNat:Nat):Int):=by omega
   have lp:=spec_TakeCards.loop k g.r.t.toNat g.tn.toNat (by omega) (fun x4 x5 x6 x7=>
    bif (x4==(0:Int)) then
     chk (!(decide (g.r.n=(0:Int))))<|
     some (g.r.n,g.r.e,g.r.b1,g.r.b2,g.r.w,g.r.f,g.r.t,g.r.l,x5,x6,x7,(IntKind.wrap .i64 (g.tn+(1:Int))).tmod g.r.n,IntKind.wrap .i64 (g.mv+(1:Int)),IntKind.wrap .i64 (g.ps+(1:Int)),true)
    else
     chk (!(decide (g.r.n=(0:Int))))<|
     some (g.r.n,g.r.e,g.r.b1,g.r.b2,g.r.w,g.r.f,g.r.t,g.r.l,x5,x6,x7,(IntKind.wrap .i64 (g.tn+(1:Int))).tmod g.r.n,IntKind.wrap .i64 (g.mv+(1:Int)),(0:Int),true)) g.r.t.toNat 0 k 0 g.hs g.st g.hp (by omega) (by simp[BIG] at hk;omega) (by omega) (by omega) h4 (by omega)
   rw[<- e1,<- e2] at lp
   refine Eq.trans lp ?_
   unfold takeE
   rw[wrap_i64 (n:=g.tn+1) (by omega) (by omega),wrap_i64 (n:=g.mv+1) (by omega) (by omega),wrap_i64 (n:=g.ps+1) (by omega) (by omega),dec_f (p:=g.r.n=0) (by omega)]
   have e3:(((takeN g.tn.toNat g.r.t.toNat g.hs g.st g.hp 0).2.2.2:Int)==0)=((takeN g.tn.toNat g.r.t.toNat g.hs g.st g.hp 0).2.2.2==0):=by
    rw[Bool.eq_iff_iff,beq_iff_eq,beq_iff_eq];omega
   dsimp only
   rw[e3]
   simp only[Bool.not_false,Bool.and_self,cond_true]
   cases ((takeN g.tn.toNat g.r.t.toNat g.hs g.st g.hp 0).2.2.2==0)<;>rfl
theorem impl_TakeCards.eq {k:Nat} (hk:BIG<=k) {g:Gm} (h:g.sm):g.ap (impl_TakeCards.f k)=some ((takeCards g).1.tpb (takeCards g).2):=by
 refine (bind_s (impl_Game_copied.eq hk h)).trans ((bind_s (impl_IsGame.eq hk h)).trans ?_)
 unfold takeCards
 cases hg:isGame g with
 |false=>rfl
 |true=>
  refine (bif_f rfl).trans ((bind_s (impl_IsEnded.eq hk h)).trans ?_)
  rw[isEnded_over hg]
  cases ho:overG g with
  |true=>rfl
  |false=>
   have ht:=game_turn hg
   have htot:=game_total hg
   obtain ⟨h1,h2,h3,h4,h5,h6,h7⟩:=isGame_iff.1 hg
   have hrl:=rl_ok h1
   refine (bif_f rfl).trans ?_
   have e1:g.r.t=((g.r.t.toNat:Nat):Int):=by omega
   have e2:g.tn=((g.tn.toNat:Nat):Int):=by omega
   have lp:=impl_TakeCards.loop k g.r.t.toNat g.tn.toNat (by omega) (fun x4 x5 x6 x7=>
    bif decide (x4>(0:Int)) then
     chk (!(decide ((g.hs.length:Int)=(0:Int))))<|
     some (g.r.n,g.r.e,g.r.b1,g.r.b2,g.r.w,g.r.f,g.r.t,g.r.l,x5,x6,x7,(IntKind.wrap .i64 (g.tn+(1:Int))).tmod (g.hs.length:Int),IntKind.wrap .i64 (g.mv+(1:Int)),(0:Int),true)
    else
     chk (!(decide ((g.hs.length:Int)=(0:Int))))<|
     some (g.r.n,g.r.e,g.r.b1,g.r.b2,g.r.w,g.r.f,g.r.t,g.r.l,x5,x6,x7,(IntKind.wrap .i64 (g.tn+(1:Int))).tmod (g.hs.length:Int),IntKind.wrap .i64 (g.mv+(1:Int)),IntKind.wrap .i64 (g.ps+(1:Int)),true)) g.r.t.toNat 0 k 0 g.hs g.st g.hp (by omega) (by simp[BIG] at hk;omega) (by omega) (by omega) h4 (by omega)
   rw[<- e1,<- e2] at lp
   refine Eq.trans lp ?_
   unfold takeE
   rw[h2,wrap_i64 (n:=g.tn+1) (by omega) (by omega),wrap_i64 (n:=g.mv+1) (by omega) (by omega),wrap_i64 (n:=g.ps+1) (by omega) (by omega),dec_f (p:=g.r.n=0) (by omega)]
   have e3:decide (((takeN g.tn.toNat g.r.t.toNat g.hs g.st g.hp 0).2.2.2:Int)>0)= !((takeN g.tn.toNat g.r.t.toNat g.hs g.st g.hp 0).2.2.2==0):=by
    cases e:((takeN g.tn.toNat g.r.t.toNat g.hs g.st g.hp 0).2.2.2==0) with
    |true=>rw[beq_iff_eq] at e;rw[e];rfl
    |false=>
     have: ¬(takeN g.tn.toNat g.r.t.toNat g.hs g.st g.hp 0).2.2.2=0:=by simpa using e
     exact dec_t (by omega)
   dsimp only
   rw[e3]
   simp only[Bool.not_false,Bool.and_self,cond_true]
   cases ((takeN g.tn.toNat g.r.t.toNat g.hs g.st g.hp 0).2.2.2==0)<;>rfl
theorem impl_ReplayMove.eq {k:Nat} (hk:BIG<=k) {g:Gm} (h:g.sm) (c:Int):g.ap (impl_ReplayMove.f k) c=some ((replayMove g c).1.tpb (replayMove g c).2):=by
 unfold replayMove
 cases hc:(c== -1) with
 |true=>exact (bif_t hc).trans ((bind_s (impl_TakeCards.eq hk h)).trans rfl)
 |false=>exact (bif_f hc).trans ((bind_s (impl_PlayOn.eq hk h c)).trans rfl)
end Go.Proofs.YtbmmhdmljajcfaaGreatDoor
