/- Hands up to their order. Conditions: none. -/
import Derived.Test.YtbmmhdmljajcfaaGreatDoorKit
import Derived.Test.YtbmmhdmljajcfaaGreatDoorFFnExactStepRules
import Derived.Test.YtbmmhdmljajcfaaGreatDoorPCard
import Derived.Test.YtbmmhdmljajcfaaGreatDoorPHand
set_option linter.unusedVariables false
set_option linter.unusedSimpArgs false
namespace Go.Proofs.YtbmmhdmljajcfaaGreatDoor
open Go Go.Proofs.YtbmmhdmljajcfaaGreatDoor.V
theorem hasCard_iff {l:List Int} {c:Int}:hasCard l c=true↔c∈l:=by
 unfold hasCard
 rw[List.any_eq_true]
 constructor
 ·rintro ⟨x,hx,e⟩
  rw[beq_iff_eq] at e;subst e;exact hx
 ·intro h;exact ⟨c,h,by simp⟩
theorem hasCard_no {l:List Int} {c:Int}:hasCard l c=false↔c∉l:=by
 rw[<- hasCard_iff];cases hasCard l c<;>simp
theorem handOK_iff: ∀(l seen:List Int),handOK seen l=true↔(∀x∈l,isCard x=true)/\l.Nodup/\ ∀x∈l,x∉seen
 | [],seen=>by simp[handOK]
 |a::l,seen=>by
  rw[handOK,Bool.and_eq_true,Bool.and_eq_true,handOK_iff l (seen++[a])]
  constructor
  ·rintro ⟨⟨h1,h2⟩,h3,h4,h5⟩
   have h2':a∉seen:=hasCard_no.1 (by simpa using h2)
   refine ⟨fun x hx=> ?_,List.nodup_cons.2 ⟨fun h=>h5 a h (by simp),h4⟩,fun x hx=> ?_⟩
   ·rcases List.mem_cons.1 hx with rfl|hx
    ·exact h1
    ·exact h3 x hx
   ·rcases List.mem_cons.1 hx with rfl|hx
    ·exact h2'
    ·exact fun h=>h5 x hx (by simp[h])
  ·rintro ⟨h1,h2,h3⟩
   obtain ⟨h4,h5⟩:=List.nodup_cons.1 h2
   refine ⟨⟨h1 a (by simp),by rw[hasCard_no.2 (h3 a (by simp))];rfl⟩,fun x hx=>h1 x (by simp[hx]),h5,fun x hx h=> ?_⟩
   rcases List.mem_append.1 h with h|h
   ·exact h3 x (by simp[hx]) h
   ·obtain rfl:=List.mem_singleton.1 h;exact h4 hx
theorem isHand_iff {l:List Int}:isHand l=true↔(∀x∈l,isCard x=true)/\l.Nodup:=by
 unfold isHand
 rw[handOK_iff]
 simp
theorem isHand_perm {l l':List Int} (h:l.Perm l'):isHand l=isHand l':=by
 rw[Bool.eq_iff_iff,isHand_iff,isHand_iff,h.nodup_iff]
 simp only[h.mem_iff]
def whole (ls:List (List Int)):Bool:=isHand ls.flatten&&((ls.flatten.length:Int)==52)
theorem whole_perm {a b:List (List Int)} (h:a.flatten.Perm b.flatten):whole a=whole b:=by
 unfold whole
 rw[isHand_perm h,h.length_eq]
theorem whole_len {ls:List (List Int)} (h:whole ls=true):ls.flatten.length=52:=by
 unfold whole at h
 rw[Bool.and_eq_true,beq_iff_eq] at h
 omega
theorem whole_nodup {ls:List (List Int)} (h:whole ls=true):ls.flatten.Nodup:=by
 unfold whole at h
 rw[Bool.and_eq_true] at h
 exact (isHand_iff.1 h.1).2
theorem len_flat {ls:List (List Int)} {l:List Int} (h:l∈ls):l.length<=ls.flatten.length:=by
 induction ls with
 |nil=>cases h
 |cons a ls ih=>
  rw[List.flatten_cons,List.length_append]
  rcases List.mem_cons.1 h with rfl|h
  ·omega
  ·have:=ih h;omega
theorem flat_set: ∀(hs:List (List Int)) (t:Nat) (x:List Int) (h:t<hs.length),∃q:List Int,hs.flatten.Perm (hs[t]++q)/\(hs.set t x).flatten.Perm (x++q)
 |a::l,0,x,h=>⟨l.flatten,by simp,by simp⟩
 |a::l,t+1,x,h=>by
  obtain ⟨q,h1,h2⟩:=flat_set l t x (by simpa using h)
  refine ⟨a++q,?_,?_⟩
  ·rw[List.flatten_cons,List.getElem_cons_succ]
   exact (h1.append_left a).trans (List.perm_append_comm_assoc _ _ _)
  ·rw[List.set_cons_succ,List.flatten_cons]
   exact (h2.append_left a).trans (List.perm_append_comm_assoc _ _ _)
theorem without_perm: ∀ {l:List Int} {c:Int},l.Nodup->c∈l->l.Perm (without l c++[c])
 |a::l,c,h,hc=>by
  obtain ⟨h1,h2⟩:=List.nodup_cons.1 h
  unfold without
  rw[List.filter_cons]
  by_cases e:a=c
  ·subst e
   have e1:(a != a)=false:=by simp
   have e2:l.filter (fun x=>x != a)=l:=List.filter_eq_self.2 (fun x hx=>by
    have:x≠a:=fun q=>h1 (q ▸ hx)
    simpa using this)
   rw[e1,e2]
   exact (List.perm_append_comm (l₁:=[a]) (l₂:=l))
  ·have e1:(a != c)=true:=by simp[e]
   rw[e1]
   have hc':c∈l:=by
    rcases List.mem_cons.1 hc with q|q
    ·exact absurd q.symm e
    ·exact q
   exact (without_perm h2 hc').cons a
end Go.Proofs.YtbmmhdmljajcfaaGreatDoor
