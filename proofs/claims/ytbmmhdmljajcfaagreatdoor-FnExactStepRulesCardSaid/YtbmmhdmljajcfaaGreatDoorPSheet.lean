/- Rounds, sheets in plain Lean. Conditions: enough rounds, lists of at most 2^20. -/
import Derived.Test.YtbmmhdmljajcfaaGreatDoorKit
import Derived.Test.YtbmmhdmljajcfaaGreatDoorFFnExactStepRules
import Derived.Test.YtbmmhdmljajcfaaGreatDoorPRange
set_option linter.unusedVariables false
set_option linter.unusedSimpArgs false
namespace Go.Proofs.YtbmmhdmljajcfaaGreatDoor
open Go Go.Proofs.YtbmmhdmljajcfaaGreatDoor.V
def points (r:List Int):Bool:=r.all fun x=>inR x (-1000) 1000
def isRound (n:Int) (r:List Int):Bool:=inR n 2 6&&((r.length:Int)==n)&&points r&&(r.sum==0)
theorem spec_IsRound.eq {k:Nat} (hk:BIG<=k) (n:Int) {r:List Int} (hr:r.length<1048577):spec_IsRound.f k n r=some (isRound n r):=by
 have h:=scan (B:=Int) r (fun m b i=>spec_IsRound.l3 k r (fun _=>some false) (fun x3=>(spec_l1In.f k n 2 6).bind fun r4=>bif r4 then bif ((r.length:Int)==n) then some (x3==(0:Int)) else some false else some false) m b i) (fun _ a=>inR a (-1000) 1000) (fun b a=>b+a) (fun x3=>(spec_l1In.f k n 2 6).bind fun r4=>bif r4 then bif ((r.length:Int)==n) then some (x3==(0:Int)) else some false else some false) (fun _ _=>some false)
  (fun i b=> -1000*(i:Int)<=b/\b<=1000*(i:Int))
  (fun m b i h hI=>by
    refine (spec_IsRound.l3_succ ..).trans ?_
    refine (bif_t (dec_t (by omega))).trans ?_
    refine (chk_t (in_t h)).trans ?_
    rw[Int.toNat_natCast,getD_lt _ h]
    refine (bind_s (spec_l1In.eq ..)).trans ?_
    cases hp:inR r[i] (-1000) 1000 with
    |false=>rfl
    |true=>
     have:=inR_iff.1 hp
     refine (bif_f rfl).trans ?_
     refine (chk_t (in_t h)).trans ?_
     rw[wrap_i64 (by omega) (by omega),wrap_up (by omega)]
     rfl)
  (fun b i h hI hp=>by have:=inR_iff.1 hp;constructor<;>omega)
  (fun m b hI=>(spec_IsRound.l3_succ ..).trans (bif_f (dec_f (by omega))))
  r.length 0 k 0 (by omega) (BIG_lt hk hr) (by simp)
 refine h.trans ?_
 rw[List.drop_zero,run_all,foldl_add,spec_l1In.eq,Int.zero_add]
 unfold isRound points
 cases r.all (fun x=>inR x (-1000) 1000)<;>cases inR n 2 6<;>cases ((r.length:Int)==n)<;>simp
theorem impl_allIn.eq {k:Nat} (hk:BIG<=k) {r:List Int} (lo hi:Int) (hr:r.length<1048577):impl_allIn.f k r lo hi=some (r.all fun x=>inR x lo hi):=by
 have h:=scan (B:=Unit) r (fun m b i=>impl_allIn.l2 k lo hi r (r.length:Int) (some false) (some true) m i) (fun _ a=>inR a lo hi) (fun b a=>b) (fun _=>some true) (fun _ _=>some false) (fun i b=>True)
  (fun m b i h hI=>by
    refine (impl_allIn.l2_succ ..).trans ?_
    refine (bif_t (dec_t (by omega))).trans ?_
    refine (chk_t (in_t h)).trans ?_
    rw[Int.toNat_natCast,getD_lt _ h]
    refine (bind_s (impl_InRange.eq ..)).trans ?_
    rw[wrap_up (by omega)]
    cases inR r[i] lo hi<;>rfl)
  (fun b i h hI hp=>trivial)
  (fun m b hI=>(impl_allIn.l2_succ ..).trans (bif_f (dec_f (by omega))))
  r.length 0 k () (by omega) (BIG_lt hk hr) trivial
 refine h.trans ?_
 rw[List.drop_zero,run_all]
 cases r.all (fun x=>inR x lo hi)<;>rfl
theorem impl_sum.eq {k:Nat} (hk:BIG<=k) {r:List Int} (hr:r.length<1048577) (hp:points r=true):impl_sum.f k r=some r.sum:=by
 have h:=scan (B:=Int) r (fun m b i=>impl_sum.l3 k r (r.length:Int) (fun x=>some x) m b i) (fun _ _=>true) (fun b a=>b+a) (fun x=>some x) (fun _ _=>none) (fun i b=> -1000*(i:Int)<=b/\b<=1000*(i:Int))
  (fun m b i h hI=>by
    have:=inR_iff.1 (List.all_eq_true.1 hp _ (List.getElem_mem h))
    refine (impl_sum.l3_succ ..).trans ?_
    refine (bif_t (dec_t (by omega))).trans ?_
    refine (chk_t (in_t h)).trans ?_
    rw[Int.toNat_natCast,getD_lt _ h,wrap_i64 (by omega) (by omega),wrap_up (by omega)]
    rfl)
  (fun b i h hI _=>by have:=inR_iff.1 (List.all_eq_true.1 hp _ (List.getElem_mem h));constructor<;>omega)
  (fun m b hI=>(impl_sum.l3_succ ..).trans (bif_f (dec_f (by omega))))
  r.length 0 k 0 (by omega) (BIG_lt hk hr) (by simp)
 refine h.trans ?_
 rw[List.drop_zero,run_fold,foldl_add,Int.zero_add]
theorem impl_IsRound.eq {k:Nat} (hk:BIG<=k) (n:Int) {r:List Int} (hr:r.length<1048577):impl_IsRound.f k n r=some (isRound n r):=by
 refine (bind_s (impl_InRange.eq ..)).trans ?_
 unfold isRound
 cases inR n 2 6 with
 |false=>rfl
 |true=>
  refine (bif_t rfl).trans ?_
  cases ((r.length:Int)==n) with
  |false=>rfl
  |true=>
   refine (bif_t rfl).trans ?_
   refine (bind_s (impl_allIn.eq hk _ _ hr)).trans ?_
   cases hp:points r with
   |false=>exact (bif_f hp).trans (by simp)
   |true=>
    refine (bif_t hp).trans ?_
    exact (bind_s (impl_sum.eq hk hr hp)).trans (by simp)
def isSheet (n:Int) (s:List (List Int)):Bool:=inR n 2 6&&decide ((s.length:Int)<=50)&&s.all (isRound n)
theorem spec_IsSheet.eqg {k:Nat} (hk:BIG<=k) (n:Int) {s:List (List Int)} (hs:s.length<1073741824) (hs2: ∀y∈s,y.length<1048577):spec_IsSheet.f k n s=some (isSheet n s):=by
 have h:=scan (B:=Unit) s (fun m b i=>spec_IsSheet.l2 k n s (some false) ((spec_l1In.f k n 2 6).bind fun r2=>bif r2 then some (decide ((s.length:Int)<=50)) else some false) m i) (fun _ a=>isRound n a) (fun b a=>b) (fun _=>some (inR n 2 6&&decide ((s.length:Int)<=50))) (fun _ _=>some false) (fun i b=>True)
  (fun m b i h hI=>by
    refine (spec_IsSheet.l2_succ ..).trans ?_
    refine (bif_t (dec_t (by omega))).trans ?_
    refine (chk_t (in_t h)).trans ?_
    rw[Int.toNat_natCast,getD_lt _ h]
    refine (bind_s (spec_IsRound.eq hk n (hs2 _ (List.getElem_mem h)))).trans ?_
    rw[wrap_up (by omega)]
    cases isRound n s[i]<;>rfl)
  (fun b i h hI hp=>trivial)
  (fun m b hI=>(spec_IsSheet.l2_succ ..).trans ((bif_f (dec_f (by omega))).trans ((bind_s (spec_l1In.eq ..)).trans (by cases inR n 2 6<;>rfl))))
  s.length 0 k () (by omega) (BIG_lt' hk hs) trivial
 refine h.trans ?_
 rw[List.drop_zero,run_all]
 unfold isSheet
 cases s.all (isRound n)<;>simp
theorem spec_IsSheet.eq {k:Nat} (hk:BIG<=k) (n:Int) {s:List (List Int)} (hs:s.length<1048577) (hs2: ∀y∈s,y.length<1048577):spec_IsSheet.f k n s=some (isSheet n s):=spec_IsSheet.eqg hk n (by omega) hs2
theorem impl_IsSheet.eqg {k:Nat} (hk:BIG<=k) (n:Int) {s:List (List Int)} (hs:s.length<1073741824) (hs2: ∀y∈s,y.length<1048577):impl_IsSheet.f k n s=some (isSheet n s):=by
 have h:=scan (B:=Unit) s (fun m b i=>impl_IsSheet.l2 k n s (s.length:Int) (some false) ((impl_InRange.f k n 2 6).bind fun r2=>bif r2 then some (decide ((s.length:Int)<=50)) else some false) m i) (fun _ a=>isRound n a) (fun b a=>b) (fun _=>some (inR n 2 6&&decide ((s.length:Int)<=50))) (fun _ _=>some false) (fun i b=>True)
  (fun m b i h hI=>by
    refine (impl_IsSheet.l2_succ ..).trans ?_
    refine (bif_t (dec_t (by omega))).trans ?_
    refine (chk_t (in_t h)).trans ?_
    rw[Int.toNat_natCast,getD_lt _ h]
    refine (bind_s (impl_IsRound.eq hk n (hs2 _ (List.getElem_mem h)))).trans ?_
    rw[wrap_up (by omega)]
    cases isRound n s[i]<;>rfl)
  (fun b i h hI hp=>trivial)
  (fun m b hI=>(impl_IsSheet.l2_succ ..).trans ((bif_f (dec_f (by omega))).trans ((bind_s (impl_InRange.eq ..)).trans (by cases inR n 2 6<;>rfl))))
  s.length 0 k () (by omega) (BIG_lt' hk hs) trivial
 refine h.trans ?_
 rw[List.drop_zero,run_all]
 unfold isSheet
 cases s.all (isRound n)<;>simp
theorem impl_IsSheet.eq {k:Nat} (hk:BIG<=k) (n:Int) {s:List (List Int)} (hs:s.length<1048577) (hs2: ∀y∈s,y.length<1048577):impl_IsSheet.f k n s=some (isSheet n s):=impl_IsSheet.eqg hk n (by omega) hs2
end Go.Proofs.YtbmmhdmljajcfaaGreatDoor
