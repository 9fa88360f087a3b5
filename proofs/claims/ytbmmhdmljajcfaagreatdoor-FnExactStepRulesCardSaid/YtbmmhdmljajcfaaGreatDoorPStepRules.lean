/- Rules set at a table, in plain Lean. Conditions: enough rounds, lists and texts of at most 2^20. -/
import Derived.Test.YtbmmhdmljajcfaaGreatDoorKit
import Derived.Test.YtbmmhdmljajcfaaGreatDoorFFnExactStepRules
import Derived.Test.YtbmmhdmljajcfaaGreatDoorPStep
import Derived.Test.YtbmmhdmljajcfaaGreatDoorPParseRules
set_option linter.unusedVariables false
set_option linter.unusedSimpArgs false
namespace Go.Proofs.YtbmmhdmljajcfaaGreatDoor
open Go Go.Proofs.YtbmmhdmljajcfaaGreatDoor.V
def ruledT (t:Tb) (r:Rl):Tb:=bif r.n != t.r.n then ⟨r,[],t.on,t.deck,t.g,t.rd,[]⟩ else ⟨r,t.seals,t.on,t.deck,t.g,t.rd,t.sheet⟩
def stepRules (t:Tb) (s:ByteArray):Tb×Bool:=done t (ruledT t (parseRules s).1) ((parseRules s).2&& !t.on)
theorem ruledT_sm' {t:Tb} (h:t.sm) {r:Rl} (hr:r.sm):(ruledT t r).sm':=by
 have h':=Tb.sm_sm' h
 unfold ruledT
 cases r.n != t.r.n with
 |true=>exact ⟨hr,h'.2.1,h'.2.2.1,h'.2.2.2.1,show ([]:List (List Int)).length<1073741824 by decide,fun y hy=>by cases hy⟩
 |false=>exact ⟨hr,h'.2.1,h'.2.2.1,h'.2.2.2.1,h'.2.2.2.2.1,h'.2.2.2.2.2⟩
theorem stepRules_sm {t:Tb} (h:t.sm) (s:ByteArray):(stepRules t s).1.sm:=by
 have hr:=parseRules_sm s
 refine done_sm _ h ?_ ?_ ?_
 ·unfold ruledT;cases (parseRules s).1.n != t.r.n<;>exact hr
 ·unfold ruledT;cases (parseRules s).1.n != t.r.n<;>exact h.2.2.1
 ·unfold ruledT;cases (parseRules s).1.n != t.r.n<;>exact h.2.2.2.1
theorem spec_StepRules.eq {k:Nat} (hk:BIG<=k) {t:Tb} (h:t.sm) {s:ByteArray} (hs:s.size<1048577):t.ap (spec_StepRules.f k) s=some ((stepRules t s).1.tpb (stepRules t s).2):=by
 refine (bind_s (spec_l33Copy.eq hk h)).trans ((bind_s (spec_ParseRules.eq hk hs)).trans ?_)
 have hu:=ruledT_sm' h (parseRules_sm s)
 unfold stepRules
 generalize parseRules s=p at hu
 obtain ⟨r,ok⟩:=p
 have hu:(ruledT t r).sm':=hu
 show (bif r.n != t.r.n then (bif ok then _ else _) else (bif ok then _ else _))=some ((done t (ruledT t r) (ok&& !t.on)).1.tpb (done t (ruledT t r) (ok&& !t.on)).2)
 cases hn:r.n != t.r.n with
 |true=>
  have e:ruledT t r=⟨r,[],t.on,t.deck,t.g,t.rd,[]⟩:=by unfold ruledT;rw[hn];rfl
  rw[e] at hu ⊢
  have d (b:Bool):=spec_l34Done.eq hk b h hu
  cases ok with
  |true=>exact (bif_t rfl).trans ((bif_t rfl).trans ((bind_s (d (!t.on))).trans rfl))
  |false=>exact (bif_t rfl).trans ((bif_f rfl).trans ((bind_s (d false)).trans rfl))
 |false=>
  have e:ruledT t r=⟨r,t.seals,t.on,t.deck,t.g,t.rd,t.sheet⟩:=by unfold ruledT;rw[hn];rfl
  rw[e] at hu ⊢
  have d (b:Bool):=spec_l34Done.eq hk b h hu
  cases ok with
  |true=>exact (bif_f rfl).trans ((bif_t rfl).trans ((bind_s (d (!t.on))).trans rfl))
  |false=>exact (bif_f rfl).trans ((bif_f rfl).trans ((bind_s (d false)).trans rfl))
theorem impl_StepRules.eq {k:Nat} (hk:BIG<=k) {t:Tb} (h:t.sm) {s:ByteArray} (hs:s.size<1048577):t.ap (impl_StepRules.f k) s=some ((stepRules t s).1.tpb (stepRules t s).2):=by
 refine (bind_s (impl_Table_copied.eq hk h)).trans ((bind_s (impl_ParseRules.eq hk hs)).trans ?_)
 have hu:=ruledT_sm' h (parseRules_sm s)
 unfold stepRules
 generalize parseRules s=p at hu
 obtain ⟨r,ok⟩:=p
 have hu:(ruledT t r).sm':=hu
 show (bif r.n != t.r.n then (bif ok then _ else _) else (bif ok then _ else _))=some ((done t (ruledT t r) (ok&& !t.on)).1.tpb (done t (ruledT t r) (ok&& !t.on)).2)
 cases hn:r.n != t.r.n with
 |true=>
  have e:ruledT t r=⟨r,[],t.on,t.deck,t.g,t.rd,[]⟩:=by unfold ruledT;rw[hn];rfl
  rw[e] at hu ⊢
  have d (b:Bool):=impl_Table_becomes.eq hk b h hu
  cases ok with
  |true=>exact (bif_t rfl).trans ((bif_t rfl).trans ((bind_s (d (!t.on))).trans rfl))
  |false=>exact (bif_t rfl).trans ((bif_f rfl).trans ((bind_s (d false)).trans rfl))
 |false=>
  have e:ruledT t r=⟨r,t.seals,t.on,t.deck,t.g,t.rd,t.sheet⟩:=by unfold ruledT;rw[hn];rfl
  rw[e] at hu ⊢
  have d (b:Bool):=impl_Table_becomes.eq hk b h hu
  cases ok with
  |true=>exact (bif_f rfl).trans ((bif_t rfl).trans ((bind_s (d (!t.on))).trans rfl))
  |false=>exact (bif_f rfl).trans ((bif_f rfl).trans ((bind_s (d false)).trans rfl))
theorem stepRules_all {k:Nat} (hk:BIG<=k) {t:Tb} (h:t.sm) {s:ByteArray} (hs:s.size<1048577): ∃(u:Tb) (b:Bool),u.sm/\t.ap (spec_StepRules.f k) s=some (u.tpb b)/\t.ap (impl_StepRules.f k) s=some (u.tpb b):=⟨_,_,stepRules_sm h s,spec_StepRules.eq hk h hs,impl_StepRules.eq hk h hs⟩
end Go.Proofs.YtbmmhdmljajcfaaGreatDoor
