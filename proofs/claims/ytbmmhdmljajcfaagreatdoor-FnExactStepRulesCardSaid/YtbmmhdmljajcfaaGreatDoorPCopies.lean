/- Copies of rules and games in plain Lean. Conditions: enough rounds, lists of at most 2^20. -/
import Derived.Test.YtbmmhdmljajcfaaGreatDoorKit
import Derived.Test.YtbmmhdmljajcfaaGreatDoorFFnExactStepRules
import Derived.Test.YtbmmhdmljajcfaaGreatDoorPModel
import Derived.Test.YtbmmhdmljajcfaaGreatDoorPCopy
set_option linter.unusedVariables false
set_option linter.unusedSimpArgs false
namespace Go.Proofs.YtbmmhdmljajcfaaGreatDoor
open Go Go.Proofs.YtbmmhdmljajcfaaGreatDoor.V
theorem spec_l22Copy.eq (k:Nat) {r:Rl} (h:r.sm):r.ap (spec_l22Copy.f k)=some r.tp:=by
 have h1:=h.1
 have h2:=h.2
 exact (chk_t (rm8 (by omega))).trans ((chk_t (rm8 (by omega))).trans rfl)
theorem impl_Rules_copied.eq (k:Nat) {r:Rl} (h:r.sm):r.ap (impl_Rules_copied.f k)=some r.tp:=(bind_s (impl_copyOf.eq k h.1)).trans (bind_s (impl_copyOf.eq k h.2))
theorem spec_l15Copy.eq {k:Nat} (hk:BIG<=k) {l:List (List Int)} (hl:smII l):spec_l15Copy.f k l=some l:=by
 have h:=scan (B:=List (List Int)) l (fun m b i=>spec_l15Copy.l3 k l (fun x=>some x) m i b) (fun _ _=>true) (fun b a=>b++[a]) (fun x=>some x) (fun _ _=>none) (fun i b=>b.length=i)
  (fun m b i h hI=>by
    have:=hl.1
    have:=hl.2 _ (List.getElem_mem h)
    refine (spec_l15Copy.l3_succ ..).trans ((bif_t (dec_t (by omega))).trans ((chk_t (in_t h)).trans ?_))
    rw[Int.toNat_natCast,getD_lt _ h,wrap_up (by omega)]
    exact (chk_t (rm8 (by omega))).trans (chk_t (rm24 (by omega))))
  (fun b i h hI _=>by simp;omega)
  (fun m b hI=>(spec_l15Copy.l3_succ ..).trans (bif_f (dec_f (by omega))))
  l.length 0 k [] (by omega) (BIG_lt hk hl.1) rfl
 refine h.trans ?_
 rw[List.drop_zero,run_fold,foldl_snoc (fun a=>a)]
 simp
theorem impl_copyRows.eq {k:Nat} (hk:BIG<=k) {l:List (List Int)} (hl:smII l):impl_copyRows.f k l=some l:=by
 have h:=scan (B:=List (List Int)) l (fun m b i=>impl_copyRows.l3 k l (l.length:Int) (fun x=>some x) m i b) (fun _ _=>true) (fun b a=>b++[a]) (fun x=>some x) (fun _ _=>none) (fun i b=>b.length=i)
  (fun m b i h hI=>by
    have:=hl.1
    refine (impl_copyRows.l3_succ ..).trans ((bif_t (dec_t (by omega))).trans ((chk_t (in_t h)).trans ?_))
    rw[Int.toNat_natCast,getD_lt _ h,wrap_up (by omega)]
    exact (bind_s (impl_copyOf.eq k (hl.2 _ (List.getElem_mem h)))).trans (chk_t (rm24 (by omega))))
  (fun b i h hI _=>by simp;omega)
  (fun m b hI=>(impl_copyRows.l3_succ ..).trans (bif_f (dec_f (by omega))))
  l.length 0 k [] (by omega) (BIG_lt hk hl.1) rfl
 refine h.trans ?_
 rw[List.drop_zero,run_fold,foldl_snoc (fun a=>a)]
 simp
theorem spec_l24Copy.eq {k:Nat} (hk:BIG<=k) {g:Gm} (h:g.sm):g.ap (spec_l24Copy.f k)=some g.tp:=by
 obtain ⟨h1,h2,h3,h4⟩:=h
 refine (bind_s (spec_l22Copy.eq k h1)).trans ((bind_s (spec_l15Copy.eq hk h2)).trans ?_)
 have h3:g.st.length<1048577:=h3
 have h4:g.hp.length<1048577:=h4
 exact (chk_t (rm8 (by omega))).trans ((chk_t (rm8 (by omega))).trans rfl)
theorem impl_Game_copied.eq {k:Nat} (hk:BIG<=k) {g:Gm} (h:g.sm):g.ap (impl_Game_copied.f k)=some g.tp:=by
 obtain ⟨h1,h2,h3,h4⟩:=h
 exact (bind_s (impl_Rules_copied.eq k h1)).trans ((bind_s (impl_copyRows.eq hk h2)).trans ((bind_s (impl_copyOf.eq k h3)).trans ((bind_s (impl_copyOf.eq k h4)).trans rfl)))
end Go.Proofs.YtbmmhdmljajcfaaGreatDoor
