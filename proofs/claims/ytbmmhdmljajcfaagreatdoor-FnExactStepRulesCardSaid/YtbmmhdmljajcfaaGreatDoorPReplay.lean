/- Moves made again, in plain Lean. Conditions: enough rounds, lists of at most 2^20. -/
import Derived.Test.YtbmmhdmljajcfaaGreatDoorKit
import Derived.Test.YtbmmhdmljajcfaaGreatDoorFFnExactStepRules
import Derived.Test.YtbmmhdmljajcfaaGreatDoorPTake
set_option linter.unusedVariables false
set_option linter.unusedSimpArgs false
namespace Go.Proofs.YtbmmhdmljajcfaaGreatDoor
open Go Go.Proofs.YtbmmhdmljajcfaaGreatDoor.V
theorem spec_ReplayMove.eq {k:Nat} (hk:BIG<=k) {g:Gm} (h:g.sm) (c:Int):g.ap (spec_ReplayMove.f k) c=some ((replayMove g c).1.tpb (replayMove g c).2):=by
 unfold replayMove
 cases hc:(c== -1) with
 |true=>exact (bif_t hc).trans ((bind_s (spec_TakeCards.eq hk h)).trans rfl)
 |false=>exact (bif_f hc).trans ((bind_s (spec_PlayOn.eq hk h c)).trans rfl)
abbrev Gm.tpi (g:Gm) (b:Int):Int×Int×Bool×Bool×List Int×List Int×Int×Int×List (List Int)×List Int×List Int×Int×Int×Int×Int:=(g.r.n,g.r.e,g.r.b1,g.r.b2,g.r.w,g.r.f,g.r.t,g.r.l,g.hs,g.st,g.hp,g.tn,g.mv,g.ps,b)
abbrev E15:=Option (Int×Int×Bool×Bool×List Int×List Int×Int×Int×List (List Int)×List Int×List Int×Int×Int×Int×Int)
theorem spec_Replayed.loop {k:Nat} (hk:BIG<=k) {l:List Int} (hl:l.length<1073741824): ∀(m i n:Nat) (g:Gm),i+m=l.length->m<n->g.sm->
 spec_Replayed.l3 k l (fun x3 x4 x5 x6 x7 x8 x9 x10 x11 x12 x13 x14 x15 x16 x17=>(some (x4,x5,x6,x7,x13,x14,x8,x9,x15,x16,x17,x10,x11,x12,x3):E15)) (fun x18 x19 x20 x21 x22 x23 x24 x25 x26 x27 x28 x29 x30 x31=>some (x18,x19,x20,x21,x27,x28,x22,x23,x29,x30,x31,x24,x25,x26,(l.length:Int))) n (i:Int) g.r.n g.r.e g.r.b1 g.r.b2 g.r.t g.r.l g.tn g.mv g.ps g.r.w g.r.f g.hs g.st g.hp=some ((replayed (l.drop i) (i:Int) g).1.tpi (replayed (l.drop i) (i:Int) g).2):=by
 intro m
 induction m with
 |zero=>
  intro i n g hi hn hg
  obtain ⟨n,rfl⟩: ∃n',n=n' +1:=⟨n-1,by omega⟩
  rw[List.drop_eq_nil_of_le (by omega)]
  refine (spec_Replayed.l3_succ ..).trans ((bif_f (dec_f (by omega))).trans ?_)
  rw[show (l.length:Int)=(i:Int) by omega]
  rfl
 |succ m ih=>
  intro i n g hi hn hg
  obtain ⟨n,rfl⟩: ∃n',n=n' +1:=⟨n-1,by omega⟩
  have h:i<l.length:=by omega
  refine (spec_Replayed.l3_succ ..).trans ((bif_t (dec_t (by omega))).trans ((chk_t (in_t h)).trans ?_))
  rw[Int.toNat_natCast,getD_lt _ h,wrap_up (by omega),drop_cons h]
  refine (bind_s (spec_ReplayMove.eq hk hg l[i])).trans ?_
  show (bif !(replayMove g l[i]).2 then _ else _)=some ((bif (replayMove g l[i]).2 then replayed (l.drop (i+1)) ((i:Int)+1) (replayMove g l[i]).1 else (g,(i:Int))).1.tpi (bif (replayMove g l[i]).2 then replayed (l.drop (i+1)) ((i:Int)+1) (replayMove g l[i]).1 else (g,(i:Int))).2)
  cases hm:(replayMove g l[i]).2 with
  |false=>rfl
  |true=>
   refine (bif_f rfl).trans ((ih (i+1) n _ (by omega) (by omega) (replayMove_sm hg)).trans ?_)
   rw[show ((i+1:Nat):Int)=(i:Int)+1 by omega]
   rfl
theorem impl_Replayed.loop {k:Nat} (hk:BIG<=k) {l:List Int} (hl:l.length<1073741824): ∀(m i n:Nat) (g:Gm),i+m=l.length->m<n->g.sm->
 impl_Replayed.l3 k l (l.length:Int) (fun x3 x4 x5 x6 x7 x8 x9 x10 x11 x12 x13 x14 x15 x16 x17=>(some (x4,x5,x6,x7,x13,x14,x8,x9,x15,x16,x17,x10,x11,x12,x3):E15)) (fun x18 x19 x20 x21 x22 x23 x24 x25 x26 x27 x28 x29 x30 x31=>some (x18,x19,x20,x21,x27,x28,x22,x23,x29,x30,x31,x24,x25,x26,(l.length:Int))) n (i:Int) g.r.n g.r.e g.r.b1 g.r.b2 g.r.t g.r.l g.tn g.mv g.ps g.r.w g.r.f g.hs g.st g.hp=some ((replayed (l.drop i) (i:Int) g).1.tpi (replayed (l.drop i) (i:Int) g).2):=by
 intro m
 induction m with
 |zero=>
  intro i n g hi hn hg
  obtain ⟨n,rfl⟩: ∃n',n=n' +1:=⟨n-1,by omega⟩
  rw[List.drop_eq_nil_of_le (by omega)]
  refine (impl_Replayed.l3_succ ..).trans ((bif_f (dec_f (by omega))).trans ?_)
  rw[show (l.length:Int)=(i:Int) by omega]
  rfl
 |succ m ih=>
  intro i n g hi hn hg
  obtain ⟨n,rfl⟩: ∃n',n=n' +1:=⟨n-1,by omega⟩
  have h:i<l.length:=by omega
  refine (impl_Replayed.l3_succ ..).trans ((bif_t (dec_t (by omega))).trans ((chk_t (in_t h)).trans ?_))
  rw[Int.toNat_natCast,getD_lt _ h,wrap_up (by omega),drop_cons h]
  refine (bind_s (impl_ReplayMove.eq hk hg l[i])).trans ?_
  show (bif !(replayMove g l[i]).2 then _ else _)=some ((bif (replayMove g l[i]).2 then replayed (l.drop (i+1)) ((i:Int)+1) (replayMove g l[i]).1 else (g,(i:Int))).1.tpi (bif (replayMove g l[i]).2 then replayed (l.drop (i+1)) ((i:Int)+1) (replayMove g l[i]).1 else (g,(i:Int))).2)
  cases hm:(replayMove g l[i]).2 with
  |false=>rfl
  |true=>
   refine (bif_f rfl).trans ((ih (i+1) n _ (by omega) (by omega) (replayMove_sm hg)).trans ?_)
   rw[show ((i+1:Nat):Int)=(i:Int)+1 by omega]
   rfl
theorem spec_Replayed.eq {k:Nat} (hk:BIG<=k) {l:List Int} (hl:l.length<1073741824) {g:Gm} (hg:g.sm):g.ap (spec_Replayed.f k) l=some ((replayed l 0 g).1.tpi (replayed l 0 g).2):=
 (bind_s (spec_l24Copy.eq hk hg)).trans (spec_Replayed.loop hk hl l.length 0 k g (by omega) (BIG_lt' hk hl) hg)
theorem impl_Replayed.eq {k:Nat} (hk:BIG<=k) {l:List Int} (hl:l.length<1073741824) {g:Gm} (hg:g.sm):g.ap (impl_Replayed.f k) l=some ((replayed l 0 g).1.tpi (replayed l 0 g).2):=
 (bind_s (impl_Game_copied.eq hk hg)).trans (impl_Replayed.loop hk hl l.length 0 k g (by omega) (BIG_lt' hk hl) hg)
theorem replayed_sm: ∀(l:List Int) (i:Int) {g:Gm},g.sm->(replayed l i g).1.sm
 | [],i,g,h=>h
 |m::l,i,g,h=>by
  unfold replayed
  cases (replayMove g m).2 with
  |true=>exact replayed_sm l (i+1) (replayMove_sm h)
  |false=>exact h
theorem replayed_all: ∀(l:List Int) (i:Int) {g:Gm},(replayed l i g).2=i+(l.length:Int)->(replayed l i g).1.mv=g.mv+(l.length:Int)/\(replayed l i g).1.r=g.r/\(isGame g=true->isGame (replayed l i g).1=true)
 | [],i,g,_=>⟨by simp[replayed],rfl,fun h=>h⟩
 |m::l,i,g,h=>by
  unfold replayed at h ⊢
  cases hm:(replayMove g m).2 with
  |true=>
   rw[hm] at h
   rw[List.length_cons] at h
   obtain ⟨g1,g2,g3⟩:=replayMove_game hm
   obtain ⟨h1,h2,h3⟩:=replayed_all l (i+1) (g:=(replayMove g m).1) (by simp only[cond_true] at h;omega)
   refine ⟨?_,?_,fun _=>h3 g1⟩
   ·simp only[cond_true];rw[h1,g2,List.length_cons];omega
   ·simp only[cond_true];rw[h2,g3]
  |false=>
   rw[hm] at h
   rw[List.length_cons] at h
   simp only[cond_false] at h
   omega
end Go.Proofs.YtbmmhdmljajcfaaGreatDoor
