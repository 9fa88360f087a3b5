/- Cards that are dealt, new games, in plain Lean. Conditions: enough rounds, lists of at most 2^20. -/
import Derived.Test.YtbmmhdmljajcfaaGreatDoorKit
import Derived.Test.YtbmmhdmljajcfaaGreatDoorFFnExactStepRules
import Derived.Test.YtbmmhdmljajcfaaGreatDoorPCopies
import Derived.Test.YtbmmhdmljajcfaaGreatDoorPGame
set_option linter.unusedVariables false
set_option linter.unusedSimpArgs false
namespace Go.Proofs.YtbmmhdmljajcfaaGreatDoor
open Go Go.Proofs.YtbmmhdmljajcfaaGreatDoor.V
def handAt (d:List Int) (n q p:Nat):List Int:=(List.range ((q+n-1-p)/n)).map fun i=>d.getD (i*n+p) 0
def handsAt (d:List Int) (n q:Nat):List (List Int):=(List.range n).map (handAt d n q)
def dealt (d:List Int) (n e:Nat):List (List Int):=(List.range n).map fun p=>(List.range e).map fun i=>d.getD (i*n+p) 0
def dealP (n:Nat) (b:List (List Int)×Nat) (c:Int):List (List Int)×Nat:=(b.1.set (b.2%n) (b.1.getD (b.2%n) []++[c]),b.2+1)
theorem cnt_step {n q p:Nat} (h1:1<=n) (h2:n<=6) (hp:p<n):(q+1+n-1-p)/n=if p=q%n then (q+n-1-p)/n+1 else (q+n-1-p)/n:=by
 have:n=1\/n=2\/n=3\/n=4\/n=5\/n=6:=by omega
 rcases this with rfl|rfl|rfl|rfl|rfl|rfl<;>split<;>omega
theorem cnt_at {n q:Nat} (h1:1<=n) (h2:n<=6):(q+n-1-q%n)/n*n+q%n=q:=by
 have:n=1\/n=2\/n=3\/n=4\/n=5\/n=6:=by omega
 rcases this with rfl|rfl|rfl|rfl|rfl|rfl<;>omega
theorem cnt_end {n e p:Nat} (h1:1<=n) (h2:n<=6) (hp:p<n):(n*e+n-1-p)/n=e:=by
 have:n=1\/n=2\/n=3\/n=4\/n=5\/n=6:=by omega
 rcases this with rfl|rfl|rfl|rfl|rfl|rfl<;>omega
theorem handsAt_step {d:List Int} {n q:Nat} (h1:1<=n) (h2:n<=6) (hq:q<d.length):(handsAt d n q).set (q%n) ((handsAt d n q).getD (q%n) []++[d[q]])=handsAt d n (q+1):=by
 have hm:q%n<n:=Nat.mod_lt _ (by omega)
 have e1:(handsAt d n q).getD (q%n) [] =handAt d n q (q%n):=by
  rw[getD_lt _ (by simpa[handsAt] using hm)];simp[handsAt]
 rw[e1]
 refine List.ext_getElem (by simp[handsAt]) (fun p hp1 hp2=> ?_)
 have hp:p<n:=by simpa[handsAt] using hp2
 rw[List.getElem_set]
 have e2:(handsAt d n (q+1))[p] =handAt d n (q+1) p:=by simp[handsAt]
 rw[e2]
 unfold handAt
 rw[cnt_step h1 h2 hp]
 by_cases hpq:q%n=p
 ·subst hpq
  rw[if_pos rfl,if_pos rfl,List.range_succ,List.map_append]
  simp only[List.map_cons,List.map_nil]
  rw[cnt_at h1 h2,getD_lt _ hq]
 ·rw[if_neg hpq,if_neg (fun e=>hpq e.symm)]
  simp[handsAt,handAt]
theorem deal_fold {d:List Int} {n:Nat} (h1:1<=n) (h2:n<=6): ∀(q:Nat),q<=d.length->(d.take q).foldl (dealP n) (List.replicate n [],0)=(handsAt d n q,q)
 |0,_=>by
  have e:handsAt d n 0=List.replicate n []:=by
   refine List.ext_getElem (by simp[handsAt]) (fun p hp1 hp2=> ?_)
   have hp:p<n:=by simpa using hp2
   simp only[handsAt,handAt,List.getElem_map,List.getElem_range,List.getElem_replicate]
   rw[show (0+n-1-p)/n=0 from Nat.div_eq_of_lt (by omega)]
   rfl
  rw[e];rfl
 |q+1,h=>by
  rw[List.take_succ_eq_append_getElem (by omega),List.foldl_append,deal_fold h1 h2 q (by omega)]
  show dealP n (handsAt d n q,q) d[q] =_
  unfold dealP
  rw[handsAt_step h1 h2 (by omega)]
theorem handsAt_end {d:List Int} {n e:Nat} (h1:1<=n) (h2:n<=6):handsAt d n (n*e)=dealt d n e:=by
 unfold handsAt dealt
 refine List.map_congr_left (fun p hp=> ?_)
 unfold handAt
 rw[cnt_end h1 h2 (List.mem_range.1 hp)]
theorem deal_perm {n:Nat} (h1:1<=n): ∀(l:List Int) (b:List (List Int)×Nat),b.1.length=n->((l.foldl (dealP n) b).1.flatten).Perm (b.1.flatten++l)
 | [],b,_=>by simp
 |c::l,b,h=>by
  have hm:b.2%n<b.1.length:=by rw[h];exact Nat.mod_lt _ (by omega)
  rw[List.foldl_cons]
  refine (deal_perm h1 l _ (by simpa[dealP] using h)).trans ?_
  obtain ⟨q,q1,q2⟩:=flat_set b.1 (b.2%n) (b.1.getD (b.2%n) []++[c]) hm
  show ((b.1.set (b.2%n) (b.1.getD (b.2%n) []++[c])).flatten++l).Perm _
  refine (q2.append_right l).trans (List.Perm.trans ?_ (q1.append_right (c::l)).symm)
  rw[getD_lt _ hm]
  have e1:b.1[b.2%n]++[c]++q++l=b.1[b.2%n]++([c]++(q++l)):=by simp
  have e2:b.1[b.2%n]++q++c::l=b.1[b.2%n]++(q++([c]++l)):=by simp
  rw[e1,e2]
  exact List.Perm.append_left _ (List.perm_append_comm_assoc _ _ _)
theorem dealt_perm {d:List Int} {n e:Nat} (h1:1<=n) (h2:n<=6) (h:n*e<=d.length):(dealt d n e).flatten.Perm (d.take (n*e)):=by
 have:=deal_perm h1 (d.take (n*e)) (List.replicate n [],0) (by simp)
 rw[deal_fold h1 h2 _ h,handsAt_end h1 h2] at this
 simpa using this
theorem dealt_len (d:List Int) (n e:Nat):(dealt d n e).length=n:=by simp[dealt]
theorem impl_Dealt.loop {R:Type} {k n:Nat} (hk:BIG<=k) (h1:1<=n) {v:List Int} (hv:v.length<1048577) (e0:List (List Int)->Option R):impl_Dealt.l5 k (n:Int) v (v.length:Int) e0 k (0:Int) (List.replicate n [])=e0 (v.foldl (dealP n) (List.replicate n [],0)).1:=by
 have h:=scan (B:=List (List Int)×Nat) v (fun m b i=>impl_Dealt.l5 k (n:Int) v (v.length:Int) e0 m i b.1) (fun _ _=>true) (dealP n) (fun b=>e0 b.1) (fun _ _=>none) (fun i b=>b.2=i/\b.1.length=n/\ ∀y∈b.1,y.length<=i)
  (fun m b i h hI=>by
    obtain ⟨hI1,hI2,hI3⟩:=hI
    have hm:i%n<n:=Nat.mod_lt _ (by omega)
    have e:((i:Int)).tmod (n:Int)=((i%n:Nat):Int):=rfl
    have hl:(b.1.getD (i%n) []).length<=i:=by rw[getD_lt _ (by omega)];exact hI3 _ (List.getElem_mem _)
    have hz:(!decide ((n:Int)=0))=true:=by rw[dec_f (p:=(n:Int)=0) (by omega)];rfl
    refine (impl_Dealt.l5_succ ..).trans ((bif_t (dec_t (by omega))).trans ((chk_t (in_t h)).trans ((chk_t hz).trans ((chk_t hz).trans ?_))))
    rw[e,Int.toNat_natCast,Int.toNat_natCast,getD_lt (l:=v) _ h,wrap_up (by omega)]
    refine (chk_t (in_t (by omega))).trans ((chk_t (rm8 (by omega))).trans ((chk_t (in_t (by omega))).trans ((chk_t (by simp)).trans ?_)))
    unfold dealP
    rw[hI1]
    rfl)
  (fun b i h hI _=>by
    obtain ⟨hI1,hI2,hI3⟩:=hI
    have hm:b.2%n<n:=Nat.mod_lt _ (by omega)
    refine ⟨by show b.2+1=i+1;omega,by simpa[dealP] using hI2,fun y hy=> ?_⟩
    rcases List.mem_or_eq_of_mem_set (show y∈b.1.set (b.2%n) _ from hy) with hy|rfl
    ·have:=hI3 y hy;omega
    ·have:(b.1.getD (b.2%n) []).length<=i:=by rw[getD_lt _ (by omega)];exact hI3 _ (List.getElem_mem _)
     rw[List.length_append,List.length_singleton];omega)
  (fun m b hI=>(impl_Dealt.l5_succ ..).trans (bif_f (dec_f (by omega))))
  v.length 0 k (List.replicate n [],0) (by omega) (BIG_lt hk hv) ⟨rfl,by simp,fun y hy=>by
   obtain rfl:=List.eq_of_mem_replicate hy;simp⟩
 refine h.trans ?_
 rw[List.drop_zero,run_fold]
theorem mul_le_120 {n e:Nat} (h1:n<=6) (h2:e<=20):n*e<=120:=Nat.mul_le_mul h1 h2
theorem impl_Dealt.eq {k:Nat} (hk:BIG<=k) {d:List Int} {n e:Nat} (h1:1<=n) (h2:n<=6) (h3:e<=20) (hd:isHand d=true) (hl:d.length<1048577) (h:n*e<=d.length):impl_Dealt.f k d (n:Int) (e:Int)=some (dealt d n e,d.drop (n*e),true):=by
 have h4:=mul_le_120 h2 h3
 have hw:IntKind.wrap .i64 ((n:Int)*(e:Int))=((n*e:Nat):Int):=by
  have:(n:Int)*(e:Int)=((n*e:Nat):Int):=by simp
  rw[this,wrap_i64 (by omega) (by omega)]
 refine (bind_s (impl_IsHand.eq hk (by omega))).trans ?_
 rw[hd]
 refine (bif_f rfl).trans ((bind_s (impl_InRange.eq ..)).trans ?_)
 rw[inR_iff.2 (⟨by omega,by omega⟩:(1:Int)<=(n:Int)/\(n:Int)<=6)]
 refine (bif_f rfl).trans ((bind_s (impl_InRange.eq ..)).trans ?_)
 rw[inR_iff.2 (⟨by omega,by omega⟩:(0:Int)<=(e:Int)/\(e:Int)<=20),hw,Int.toNat_natCast,Int.toNat_natCast]
 refine (bif_f rfl).trans ((bif_f (dec_f (by omega))).trans ((chk_t (and_t (dec_t (by omega)) (rm24 (by omega)))).trans ((chk_t (and_t (dec_t (by omega)) (dec_t (by omega)))).trans ?_)))
 refine (impl_Dealt.loop hk h1 (by rw[List.length_take];omega) _).trans ((chk_t (and_t (dec_t (by omega)) (dec_t (by omega)))).trans ((bind_s (impl_copyOf.eq k (by simp;omega))).trans ?_))
 rw[deal_fold h1 h2 _ h,handsAt_end h1 h2]
theorem upN_map {α:Type} (f:Nat->α): ∀(m i:Nat) (b:List α),upN (fun i b=>b++[f i]) m i b=b++(List.range' i m).map f
 |0,i,b=>by simp[upN]
 |m+1,i,b=>by
  show upN (fun i b=>b++[f i]) m (i+1) (b++[f i])=_
  rw[upN_map f m (i+1),List.range'_succ,List.map_cons,List.append_assoc]
  rfl
theorem upN_map0 {α:Type} (f:Nat->α) (m:Nat):upN (fun i b=>b++[f i]) m 0 [] =(List.range m).map f:=by
 rw[upN_map,List.nil_append,List.range_eq_range']
theorem spec_Dealt.inner {R:Type} {k n e p:Nat} (hk:BIG<=k) (h2:n<=6) (h3:e<=20) (hp:p<n) {d:List Int} (hl:d.length<1048577) (h:n*e<=d.length) (e0:List Int->Option R):spec_Dealt.l9 k d (n:Int) (e:Int) (p:Int) e0 k (0:Int) [] =e0 ((List.range e).map fun i=>d.getD (i*n+p) 0):=by
 have h:=upto (B:=List Int) e (fun m b i=>spec_Dealt.l9 k d (n:Int) (e:Int) (p:Int) e0 m i b) (fun i b=>b++[d.getD (i*n+p) 0]) e0 (fun i b=>b.length=i)
  (fun m b i hi hI=>by
    have q1:i*n+n<=e*n:=by
     have:(i+1)*n<=e*n:=Nat.mul_le_mul_right _ hi
     rw[Nat.add_mul,Nat.one_mul] at this
     exact this
    have q2:e*n=n*e:=Nat.mul_comm _ _
    have q3:=mul_le_120 h2 h3
    have e1:IntKind.wrap .i64 ((i:Int)*(n:Int))=((i*n:Nat):Int):=by
     have:(i:Int)*(n:Int)=((i*n:Nat):Int):=by simp
     rw[this,wrap_i64 (by omega) (by omega)]
    have e2:IntKind.wrap .i64 (((i*n:Nat):Int)+(p:Int))=((i*n+p:Nat):Int):=by
     rw[wrap_i64 (by omega) (by omega)];omega
    refine (spec_Dealt.l9_succ ..).trans ((bif_t (dec_t (by omega))).trans ?_)
    rw[e1,e2,Int.toNat_natCast,wrap_up (by omega)]
    exact (chk_t (in_t (by omega))).trans (chk_t (rm8 (by omega))))
  (fun b i hi hI=>by simp;omega)
  (fun m b hI=>(spec_Dealt.l9_succ ..).trans (bif_f (dec_f (by omega))))
  e 0 k [] (by omega) (by simp[BIG] at hk;omega) rfl
 refine h.trans ?_
 rw[upN_map0 (fun i=>d.getD (i*n+p) 0)]
theorem spec_Dealt.eq {k:Nat} (hk:BIG<=k) {d:List Int} {n e:Nat} (h1:1<=n) (h2:n<=6) (h3:e<=20) (hd:isHand d=true) (hl:d.length<1048577) (h:n*e<=d.length):spec_Dealt.f k d (n:Int) (e:Int)=some (dealt d n e,d.drop (n*e),true):=by
 have h4:=mul_le_120 h2 h3
 have hw:IntKind.wrap .i64 ((n:Int)*(e:Int))=((n*e:Nat):Int):=by
  have:(n:Int)*(e:Int)=((n*e:Nat):Int):=by simp
  rw[this,wrap_i64 (by omega) (by omega)]
 refine (bind_s (spec_IsHand.eq hk (by omega))).trans ?_
 rw[hd]
 refine (bif_f rfl).trans ((bind_s (spec_l1In.eq ..)).trans ?_)
 rw[inR_iff.2 (⟨by omega,by omega⟩:(1:Int)<=(n:Int)/\(n:Int)<=6)]
 refine (bif_f rfl).trans ((bind_s (spec_l1In.eq ..)).trans ?_)
 rw[inR_iff.2 (⟨by omega,by omega⟩:(0:Int)<=(e:Int)/\(e:Int)<=20),hw,Int.toNat_natCast]
 refine (bif_f rfl).trans ((bif_f (dec_f (by omega))).trans ?_)
 have hL:=upto (B:=List (List Int)) n (fun m b i=>spec_Dealt.l5 k d (n:Int) (e:Int) (fun x5=>chk ((decide ((0:Int)<=((n*e:Nat):Int)))&&(decide (((n*e:Nat):Int)<=(d.length:Int))))<|chk (decide ((0+((d.drop (n*e)).length))*8<=room))<|some (x5,[]++(d.drop (n*e)),true)) m i b) (fun p b=>b++[(List.range e).map fun i=>d.getD (i*n+p) 0]) (fun x5=>chk ((decide ((0:Int)<=((n*e:Nat):Int)))&&(decide (((n*e:Nat):Int)<=(d.length:Int))))<|chk (decide ((0+((d.drop (n*e)).length))*8<=room))<|some (x5,[]++(d.drop (n*e)),true)) (fun i b=>b.length=i)
  (fun m b i hi hI=>by
    refine (spec_Dealt.l5_succ ..).trans ((bif_t (dec_t (by omega))).trans ((spec_Dealt.inner hk h2 h3 hi hl h _).trans ((chk_t (rm24 (by omega))).trans ?_)))
    rw[wrap_up (by omega)])
  (fun b i hi hI=>by simp;omega)
  (fun m b hI=>(spec_Dealt.l5_succ ..).trans (bif_f (dec_f (by omega))))
  n 0 k [] (by omega) (by simp[BIG] at hk;omega) rfl
 refine hL.trans ((chk_t (and_t (dec_t (by omega)) (dec_t (by omega)))).trans ((chk_t (rm8 (by simp;omega))).trans ?_))
 rw[upN_map0 (fun p=>(List.range e).map fun i=>d.getD (i*n+p) 0)]
 rfl
def zeroG:Gm:=⟨⟨0,0,false,false,[],[],0,0⟩,[],[],[],0,0,0⟩
def newGame (r:Rl) (d:List Int):Gm×Bool:=bif r.ok&&isHand d&&((d.length:Int)==52) then (⟨r,dealt d r.n.toNat r.e.toNat,(d.drop (r.n.toNat*r.e.toNat)).drop 1,(d.drop (r.n.toNat*r.e.toNat)).take 1,0,0,0⟩,true) else (zeroG,false)
theorem newGame_bd {r:Rl} (h:r.ok=true):r.n.toNat*r.e.toNat<=48/\1<=r.n.toNat/\r.n.toNat<=6/\r.e.toNat<=8/\r.n=(r.n.toNat:Int)/\r.e=(r.e.toNat:Int):=by
 have:=rl_ok h
 exact ⟨Nat.mul_le_mul (show r.n.toNat<=6 by omega) (show r.e.toNat<=8 by omega),by omega,by omega,by omega,by omega,by omega⟩
theorem zeroG_sm:zeroG.sm:=⟨⟨by decide,by decide⟩,⟨by decide,fun y hy=>by cases hy⟩,by decide,by decide⟩
theorem newGame_game {r:Rl} {d:List Int} (h:(newGame r d).2=true):isGame (newGame r d).1=true/\(newGame r d).1.r=r:=by
 unfold newGame at h ⊢
 cases hc:(r.ok&&isHand d&&((d.length:Int)==52)) with
 |false=>rw[hc] at h;cases h
 |true=>
  simp only[Bool.and_eq_true,beq_iff_eq] at hc
  obtain ⟨⟨h1,h2⟩,h3⟩:=hc
  obtain ⟨b1,b2,b3,b4,b5,b6⟩:=newGame_bd h1
  have hrl:=rl_ok h1
  refine ⟨isGame_iff.2 ⟨h1,by show ((dealt _ _ _).length:Int)=r.n;rw[dealt_len];omega,?_,by show 0<((d.drop _).take 1).length;simp;omega,⟨by show (0:Int)<=0;omega,by show (0:Int)<=r.n-1;omega⟩,⟨by show (0:Int)<=0;omega,by show (0:Int)<=r.l;omega⟩,⟨by show (0:Int)<=0;omega,by show (0:Int)<=0;omega⟩⟩,rfl⟩
  show whole (dealt d r.n.toNat r.e.toNat++[(d.drop (r.n.toNat*r.e.toNat)).drop 1,(d.drop (r.n.toNat*r.e.toNat)).take 1])=true
  have hp:(dealt d r.n.toNat r.e.toNat++[(d.drop (r.n.toNat*r.e.toNat)).drop 1,(d.drop (r.n.toNat*r.e.toNat)).take 1]).flatten.Perm d:=by
   rw[List.flatten_append]
   simp only[List.flatten_cons,List.flatten_nil,List.append_nil]
   refine ((dealt_perm b2 b3 (by omega)).append_right _).trans ?_
   refine (List.Perm.append_left _ List.perm_append_comm).trans ?_
   rw[List.take_append_drop,List.take_append_drop]
  unfold whole
  rw[isHand_perm hp,hp.length_eq,h2,h3]
  rfl
theorem newGame_sm {r:Rl} (hr:r.sm) (d:List Int):(newGame r d).1.sm:=by
 cases h:(newGame r d).2 with
 |true=>
  obtain ⟨h1,h2⟩:=newGame_game h
  exact isGame_sm h1 (by rw[h2];exact hr)
 |false=>
  unfold newGame at h ⊢
  cases hc:(r.ok&&isHand d&&((d.length:Int)==52)) with
  |false=>exact zeroG_sm
  |true=>rw[hc] at h;cases h
theorem spec_NewGame.eq {k:Nat} (hk:BIG<=k) {r:Rl} (hr:r.sm) {d:List Int} (hl:d.length<1048577):r.ap (spec_NewGame.f k) d=some ((newGame r d).1.tpb (newGame r d).2):=by
 refine (bind_s (spec_rl hk hr)).trans ?_
 unfold newGame
 cases h1:r.ok with
 |false=>rfl
 |true=>
  refine (bif_f rfl).trans ((bind_s (spec_IsHand.eq hk (by omega))).trans ?_)
  cases h2:isHand d with
  |false=>rfl
  |true=>
   refine (bif_f rfl).trans ?_
   cases h3:((d.length:Int)==52) with
   |false=>exact (bif_t (by rw[bne,h3];rfl)).trans rfl
   |true=>
    have h3':(d.length:Int)=52:=by simpa using h3
    obtain ⟨b1,b2,b3,b4,b5,b6⟩:=newGame_bd h1
    have hd:=spec_Dealt.eq hk (d:=d) (n:=r.n.toNat) (e:=r.e.toNat) b2 b3 (by omega) h2 hl (by omega)
    rw[<- b5,<- b6] at hd
    have hl2:(d.drop (r.n.toNat*r.e.toNat)).length=52-r.n.toNat*r.e.toNat:=by rw[List.length_drop];omega
    refine (bif_f (by rw[bne,h3];rfl)).trans ((bind_s hd).trans ((bind_s (spec_l22Copy.eq k hr)).trans ?_))
    refine (chk_t (dec_t (show (1:Int)<=((d.drop (r.n.toNat*r.e.toNat)).length:Int) by omega))).trans ((chk_t (rm8 (by simp;omega))).trans ((chk_t (and_t (dec_t (by omega)) (dec_t (by omega)))).trans ((chk_t (dec_t (show (1:Int)<=((d.drop (r.n.toNat*r.e.toNat)).length:Int) by omega))).trans ((chk_t (rm8 (by simp;omega))).trans ?_))))
    have e1:[]++(((d.drop (r.n.toNat*r.e.toNat)).take (((d.drop (r.n.toNat*r.e.toNat)).length:Int).toNat)).drop 1)=(d.drop (r.n.toNat*r.e.toNat)).drop 1:=by rw[Int.toNat_natCast,List.take_length];rfl
    show some (_,_,_,_,_,_,_,_,_,[]++(((d.drop (r.n.toNat*r.e.toNat)).take (((d.drop (r.n.toNat*r.e.toNat)).length:Int).toNat)).drop 1),_)=_
    rw[e1]
    rfl
theorem take_one {l:List Int} (h:0<l.length):[l.getD 0 0] =l.take 1:=by
 cases l with
 |nil=>simp at h
 |cons a l=>rfl
theorem impl_NewGame.eq {k:Nat} (hk:BIG<=k) {r:Rl} (hr:r.sm) {d:List Int} (hl:d.length<1048577):r.ap (impl_NewGame.f k) d=some ((newGame r d).1.tpb (newGame r d).2):=by
 refine (bind_s (impl_rl hk hr)).trans ?_
 unfold newGame
 cases h1:r.ok with
 |false=>rfl
 |true=>
  refine (bif_f rfl).trans ((bind_s (impl_IsHand.eq hk (by omega))).trans ?_)
  cases h2:isHand d with
  |false=>rfl
  |true=>
   refine (bif_f rfl).trans ?_
   cases h3:((d.length:Int)==52) with
   |false=>exact (bif_t (by rw[bne,h3];rfl)).trans rfl
   |true=>
    have h3':(d.length:Int)=52:=by simpa using h3
    obtain ⟨b1,b2,b3,b4,b5,b6⟩:=newGame_bd h1
    have hd:=impl_Dealt.eq hk (d:=d) (n:=r.n.toNat) (e:=r.e.toNat) b2 b3 (by omega) h2 hl (by omega)
    rw[<- b5,<- b6] at hd
    have hl2:(d.drop (r.n.toNat*r.e.toNat)).length=52-r.n.toNat*r.e.toNat:=by rw[List.length_drop];omega
    refine (bif_f (by rw[bne,h3];rfl)).trans ((bind_s hd).trans ((bind_s (impl_Rules_copied.eq k hr)).trans ?_))
    have e1:(((d.drop (r.n.toNat*r.e.toNat)).take (((d.drop (r.n.toNat*r.e.toNat)).length:Int).toNat)).drop 1)=(d.drop (r.n.toNat*r.e.toNat)).drop 1:=by rw[Int.toNat_natCast,List.take_length]
    refine (chk_t (and_t (dec_t (by omega)) (dec_t (by omega)))).trans ((chk_t (dec_t (show (1:Int)<=((d.drop (r.n.toNat*r.e.toNat)).length:Int) by omega))).trans ((bind_s (impl_copyOf.eq k (by simp;omega))).trans ((chk_t (dec_t (show (0:Int)<((d.drop (r.n.toNat*r.e.toNat)).length:Int) by omega))).trans ?_)))
    show some (_,_,_,_,_,_,_,_,_,(((d.drop (r.n.toNat*r.e.toNat)).take (((d.drop (r.n.toNat*r.e.toNat)).length:Int).toNat)).drop 1),[(d.drop (r.n.toNat*r.e.toNat)).getD 0 0],_)=_
    rw[e1,take_one (by omega)]
    rfl
end Go.Proofs.YtbmmhdmljajcfaaGreatDoor
