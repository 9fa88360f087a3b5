/- Hands in plain Lean. Conditions: enough rounds, lists of at most 2^20. -/
import Derived.Test.YtbmmhdmljajcfaaGreatDoorKit
import Derived.Test.YtbmmhdmljajcfaaGreatDoorFFnExactStepRules
import Derived.Test.YtbmmhdmljajcfaaGreatDoorPCard
set_option linter.unusedVariables false
set_option linter.unusedSimpArgs false
namespace Go.Proofs.YtbmmhdmljajcfaaGreatDoor
open Go Go.Proofs.YtbmmhdmljajcfaaGreatDoor.V
def hasCard (l:List Int) (c:Int):Bool:=l.any fun x=>x==c
theorem all_not_any (l:List Int) (c:Int):(l.all fun x=> !(x==c))= !hasCard l c:=by
 unfold hasCard
 induction l with
 |nil=>rfl
 |cons a l ih=>rw[List.all_cons,List.any_cons,ih,Bool.not_or]
theorem spec_HasCard.eq {k:Nat} (hk:BIG<=k) {l:List Int} (c:Int) (hl:l.length<1073741824):spec_HasCard.f k l c=some (hasCard l c):=by
 have h:=scan (B:=Unit) l (fun m b i=>spec_HasCard.l2 k l c (some true) (some false) m i) (fun _ a=> !(a==c)) (fun b a=>b) (fun _=>some false) (fun _ _=>some true) (fun i b=>True)
  (fun m b i h hI=>by
    refine (spec_HasCard.l2_succ ..).trans ((bif_t (dec_t (by omega))).trans ((chk_t (in_t h)).trans ?_))
    rw[Int.toNat_natCast,getD_lt _ h,wrap_up (by omega)]
    cases l[i]==c<;>rfl)
  (fun b i h hI hp=>trivial)
  (fun m b hI=>(spec_HasCard.l2_succ ..).trans (bif_f (dec_f (by omega))))
  l.length 0 k () (by omega) (BIG_lt' hk hl) trivial
 refine h.trans ?_
 rw[List.drop_zero,run_all,all_not_any]
 cases hasCard l c<;>rfl
def handOK:List Int->List Int->Bool
 |_,[]=>true
 |seen,a::l=>isCard a&& !hasCard seen a&&handOK (seen++[a]) l
def isHand (l:List Int):Bool:=handOK [] l
theorem run_hand {B:Type} (sn:B->List Int) (g:B->Int->B) (hg: ∀b a,sn (g b a)=sn b++[a]): ∀(l:List Int) (b:B),run (fun b a=>isCard a&& !hasCard (sn b) a) g (fun _=>some true) (fun _ _=>some false) l b=some (handOK (sn b) l)
 | [],b=>rfl
 |a::l,b=>by
  show (bif (isCard a&& !hasCard (sn b) a) then run _ g _ _ l (g b a) else some false)=some (isCard a&& !hasCard (sn b) a&&handOK (sn b++[a]) l)
  rw[run_hand sn g hg l (g b a),hg]
  cases (isCard a&& !hasCard (sn b) a)<;>rfl
theorem spec_IsHand.eq {k:Nat} (hk:BIG<=k) {l:List Int} (hl:l.length<1073741824):spec_IsHand.f k l=some (isHand l):=by
 have h:=scan (B:=List Int) l (fun m b i=>spec_IsHand.l2 k l (some false) (some true) m i) (fun b a=>isCard a&& !hasCard b a) (fun b a=>b++[a]) (fun _=>some true) (fun _ _=>some false) (fun i b=>b=l.take i)
  (fun m b i h hI=>by
    subst hI
    refine (spec_IsHand.l2_succ ..).trans ((bif_t (dec_t (by omega))).trans ((chk_t (in_t h)).trans ?_))
    rw[Int.toNat_natCast,getD_lt _ h,wrap_up (by omega)]
    refine (bind_s (spec_IsCard.eq ..)).trans ?_
    cases isCard l[i] with
    |false=>rfl
    |true=>
     refine (bif_f rfl).trans ((chk_t (and_t (dec_t (by omega)) (dec_t (by omega)))).trans ((chk_t (in_t h)).trans ((bind_s (spec_HasCard.eq hk _ (by rw[List.length_take];omega))).trans ?_)))
     cases hasCard (l.take i) l[i]<;>rfl)
  (fun b i h hI hp=>by subst hI;exact (List.take_succ_eq_append_getElem h).symm)
  (fun m b hI=>(spec_IsHand.l2_succ ..).trans (bif_f (dec_f (by omega))))
  l.length 0 k [] (by omega) (BIG_lt' hk hl) rfl
 refine h.trans ?_
 rw[List.drop_zero,run_hand (fun b=>b) _ (fun _ _=>rfl)]
 rfl
theorem hasCard_snoc (l:List Int) (a c:Int):hasCard (l++[a]) c=(hasCard l c||(a==c)):=by simp[hasCard]
theorem impl_IsHand.eq {k:Nat} (hk:BIG<=k) {l:List Int} (hl:l.length<1073741824):impl_IsHand.f k l=some (isHand l):=by
 have h:=scan (B:=List Bool×List Int) l (fun m b i=>impl_IsHand.l3 k l (l.length:Int) (some false) (some true) m i b.1) (fun b a=>isCard a&& !hasCard b.2 a) (fun b a=>(b.1.set a.toNat true,b.2++[a])) (fun _=>some true) (fun _ _=>some false)
  (fun i b=>b.1.length=52/\ ∀c,isCard c=true->b.1.getD c.toNat false=hasCard b.2 c)
  (fun m b i h hI=>by
    refine (impl_IsHand.l3_succ ..).trans ((bif_t (dec_t (by omega))).trans ((chk_t (in_t h)).trans ?_))
    rw[Int.toNat_natCast,getD_lt _ h,wrap_up (by omega)]
    refine (bind_s (impl_IsCard.eq ..)).trans ?_
    cases hc:isCard l[i] with
    |false=>rfl
    |true=>
     have hb:=isCard_iff.1 hc
     refine (bif_f rfl).trans ((chk_t (and_t (dec_t (by omega)) (dec_t (by omega)))).trans ?_)
     rw[hI.2 _ hc]
     cases hasCard b.2 l[i] with
     |true=>rfl
     |false=>exact (bif_f rfl).trans (chk_t (and_t (dec_t (by omega)) (dec_t (by omega)))))
  (fun b i h hI hp=>by
    obtain ⟨hc,_⟩:=Bool.and_eq_true_iff.1 hp
    have hb:=isCard_iff.1 hc
    refine ⟨by simpa using hI.1,fun c hc'=> ?_⟩
    have hb':=isCard_iff.1 hc'
    rw[hasCard_snoc,<- hI.2 c hc']
    by_cases e:l[i] =c
    ·subst e
     rw[set_getD _ _ (by omega)]
     simp
    ·have e1:(l[i]==c)=false:=by simp[e]
     have e2: ¬l[i].toNat=c.toNat:=by omega
     rw[e1,Bool.or_false,List.getD_eq_getElem?_getD,List.getElem?_set,if_neg e2,<- List.getD_eq_getElem?_getD])
  (fun m b hI=>(impl_IsHand.l3_succ ..).trans (bif_f (dec_f (by omega))))
  l.length 0 k (List.replicate 52 false,[]) (by omega) (BIG_lt' hk hl) ⟨by simp,fun c hc=>by
   have hb:=isCard_iff.1 hc
   rw[List.getD_eq_getElem?_getD,List.getElem?_replicate]
   have:c.toNat<52:=by omega
   simp[this,hasCard]⟩
 refine Eq.trans ?_ (h.trans ?_)
 ·rfl
 ·rw[List.drop_zero]
  exact run_hand (fun b:List Bool×List Int=>b.2) _ (fun _ _=>rfl) l _
def without (l:List Int) (c:Int):List Int:=l.filter fun x=>x != c
theorem spec_Without.eq {k:Nat} (hk:BIG<=k) {l:List Int} (c:Int) (hl:l.length<1048577):spec_Without.f k l c=some (without l c):=by
 have h:=scan (B:=List Int) l (fun m b i=>spec_Without.l3 k l c (fun x1=>some x1) m i b) (fun _ _=>true) (fun b a=>bif a != c then b++[a] else b) (fun x1=>some x1) (fun _ _=>none) (fun i b=>b.length<=i)
  (fun m b i h hI=>by
    refine (spec_Without.l3_succ ..).trans ((bif_t (dec_t (by omega))).trans ((chk_t (in_t h)).trans ?_))
    rw[Int.toNat_natCast,getD_lt _ h,wrap_up (by omega)]
    cases (l[i] != c) with
    |false=>rfl
    |true=>exact (bif_t rfl).trans ((chk_t (in_t h)).trans (chk_t (dec_t (by simp[room];omega)))))
  (fun b i h hI _=>by cases (l[i] != c)<;>simp<;>omega)
  (fun m b hI=>(spec_Without.l3_succ ..).trans (bif_f (dec_f (by omega))))
  l.length 0 k [] (by omega) (BIG_lt hk hl) (by simp)
 refine h.trans ?_
 rw[List.drop_zero,run_fold]
 have key: ∀(l b:List Int),l.foldl (fun b a=>bif a != c then b++[a] else b) b=b++without l c:=by
  intro l
  induction l with
  |nil=>intro b;simp[without]
  |cons a l ih=>
   intro b
   rw[List.foldl_cons,ih]
   unfold without
   rw[List.filter_cons]
   cases (a != c)<;>simp
 rw[key,List.nil_append]
end Go.Proofs.YtbmmhdmljajcfaaGreatDoor
