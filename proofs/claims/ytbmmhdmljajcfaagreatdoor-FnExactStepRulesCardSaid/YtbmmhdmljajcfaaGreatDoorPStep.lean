/- A step of a table, in plain Lean. Conditions: enough rounds, lists of at most 2^20. -/
import Derived.Test.YtbmmhdmljajcfaaGreatDoorKit
import Derived.Test.YtbmmhdmljajcfaaGreatDoorFFnExactStepRules
import Derived.Test.YtbmmhdmljajcfaaGreatDoorPTable
set_option linter.unusedVariables false
set_option linter.unusedSimpArgs false
namespace Go.Proofs.YtbmmhdmljajcfaaGreatDoor
open Go Go.Proofs.YtbmmhdmljajcfaaGreatDoor.V
theorem spec_l33Copy.eq {k:Nat} (hk:BIG<=k) {t:Tb} (h:t.sm):t.ap (spec_l33Copy.f k)=some t.tp:=by
 obtain ⟨h1,h2,h3,h4,h5,h6⟩:=h
 have h2:t.seals.length<1048577:=h2
 have h3:t.deck.length<1048577:=h3
 have h5:t.rd.length<1048577:=h5
 exact (bind_s (spec_l22Copy.eq k h1)).trans ((chk_t (rm8 (by omega))).trans ((chk_t (rm8 (by omega))).trans ((bind_s (spec_l24Copy.eq hk h4)).trans ((chk_t (rm8 (by omega))).trans ((bind_s (spec_l15Copy.eq hk h6)).trans rfl)))))
theorem impl_Table_copied.eq {k:Nat} (hk:BIG<=k) {t:Tb} (h:t.sm):t.ap (impl_Table_copied.f k)=some t.tp:=by
 obtain ⟨h1,h2,h3,h4,h5,h6⟩:=h
 exact (bind_s (impl_Rules_copied.eq k h1)).trans ((bind_s (impl_copyOf.eq k h2)).trans ((bind_s (impl_copyOf.eq k h3)).trans ((bind_s (impl_Game_copied.eq hk h4)).trans ((bind_s (impl_copyOf.eq k h5)).trans ((bind_s (impl_copyRows.eq hk h6)).trans rfl)))))
def done (t u:Tb) (ok:Bool):Tb×Bool:=bif ok&&isTable t&&isTable u then (u,true) else (t,false)
theorem done_sm {t u:Tb} (ok:Bool) (ht:t.sm) (h1:u.r.sm) (h2:smI u.deck) (h3:u.g.sm):(done t u ok).1.sm:=by
 unfold done
 cases h:(ok&&isTable t&&isTable u) with
 |false=>exact ht
 |true=>
  simp only[Bool.and_eq_true] at h
  obtain ⟨k1,k2,k3,k4,k5⟩:=isTable_ok h.2
  have hrl:=rl_ok k1
  unfold isSheet at k3
  simp only[Bool.and_eq_true,decide_eq_true_eq,List.all_eq_true] at k3
  refine ⟨h1,by show u.seals.length<1048577;omega,h2,h3,by show u.rd.length<1048577;omega,by show u.sheet.length<1048577;omega,fun y hy=> ?_⟩
  have hy2:=k3.2 y hy
  unfold isRound at hy2
  simp only[Bool.and_eq_true,beq_iff_eq] at hy2
  show y.length<1048577
  omega
theorem spec_l34Done.eq {k:Nat} (hk:BIG<=k) {t u:Tb} (ok:Bool) (ht:t.sm) (hu:u.sm'):u.ap (t.ap (spec_l34Done.f k)) ok=some ((done t u ok).1.tpb (done t u ok).2):=by
 unfold done
 cases ok with
 |false=>exact (bif_t rfl).trans ((bind_s (spec_l33Copy.eq hk ht)).trans rfl)
 |true=>
  refine (bif_f rfl).trans ((bind_s (spec_IsTable.eq hk (Tb.sm_sm' ht))).trans ?_)
  cases isTable t with
  |false=>exact (bif_t rfl).trans ((bind_s (spec_l33Copy.eq hk ht)).trans rfl)
  |true=>
   refine (bif_f rfl).trans ((bind_s (spec_IsTable.eq hk hu)).trans ?_)
   cases isTable u with
   |false=>exact (bif_t rfl).trans ((bind_s (spec_l33Copy.eq hk ht)).trans rfl)
   |true=>rfl
theorem impl_Table_becomes.eq {k:Nat} (hk:BIG<=k) {t u:Tb} (ok:Bool) (ht:t.sm) (hu:u.sm'):u.ap (t.ap (impl_Table_becomes.f k)) ok=some ((done t u ok).1.tpb (done t u ok).2):=by
 unfold done
 cases ok with
 |false=>exact (bif_t rfl).trans ((bind_s (impl_Table_copied.eq hk ht)).trans rfl)
 |true=>
  refine (bif_f rfl).trans ((bind_s (impl_IsTable.eq hk (Tb.sm_sm' ht))).trans ?_)
  cases isTable t with
  |false=>exact (bif_t rfl).trans ((bind_s (impl_Table_copied.eq hk ht)).trans rfl)
  |true=>
   refine (bif_f rfl).trans ((bind_s (impl_IsTable.eq hk hu)).trans ?_)
   cases isTable u with
   |false=>exact (bif_t rfl).trans ((bind_s (impl_Table_copied.eq hk ht)).trans rfl)
   |true=>rfl
end Go.Proofs.YtbmmhdmljajcfaaGreatDoor
