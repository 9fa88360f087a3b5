/- Many events at a table, in plain Lean. Conditions: enough rounds, lists of at most 2^20. -/
import Derived.Test.YtpdkglbbhfhlfaaGreatKit
import Derived.Test.YtpdkglbbhfhlfaaGreatFFnEvents
import Derived.Test.YtpdkglbbhfhlfaaGreatPApplyEvent
set_option linter.unusedVariables false
set_option linter.unusedSimpArgs false
namespace Go.Proofs.YtpdkglbbhfhlfaaGreat
open Go Go.Proofs.YtpdkglbbhfhlfaaGreat.V
/-- A table's parts in the order in which the loops hold them. -/
abbrev Tb.pm {β : Type} (F : Int → Int → Bool → Bool → Int → Int → Bool → Int → Int → Bool → Bool → Int → Int → Int → Int → Int → List Int → List Int → List Int → List Int → List Int → List Int → List (List Int) → List Int → List Int → List Int → List (List Int) → β) (t : Tb) : β := F t.r.n t.r.e t.r.b1 t.r.b2 t.r.t t.r.l t.on t.g.r.n t.g.r.e t.g.r.b1 t.g.r.b2 t.g.r.t t.g.r.l t.g.tn t.g.mv t.g.ps t.r.w t.r.f t.seals t.deck t.g.r.w t.g.r.f t.g.hs t.g.st t.g.hp t.rd t.sheet
def runE : List (List Leaf) → Tb → Tb
  | [], t => t
  | e :: l, t => runE l (applyEvent t (gi e 0) (gi e 1) (gl e 2) (gl e 3)).1
theorem runE_sm : ∀ (l : List (List Leaf)) {t : Tb}, t.sm → (runE l t).sm
  | [], t, h => h
  | e :: l, t, h => runE_sm l (applyEvent_sm h ..)
theorem spec_RunEvents.loop {R : Type} {k : Nat} (hk : BIG ≤ k) (es : List (List Leaf)) (hs : es.length < 1048577) (e0 : Int → Int → Bool → Bool → Int → Int → Bool → Int → Int → Bool → Bool → Int → Int → Int → Int → Int → List Int → List Int → List Int → List Int → List Int → List Int → List (List Int) → List Int → List Int → List Int → List (List Int) → Option R) : ∀ (m i n : Nat) (t : Tb), t.sm → i + m = es.length → m < n → t.pm (spec_RunEvents.l3 k es e0 n (i : Int)) = (runE (es.drop i) t).pm e0
  | m, i, 0, t, _, _, h => absurd h (by omega)
  | 0, i, n + 1, t, ht, hi, _ => by
    rw [List.drop_eq_nil_of_le (by omega)]
    exact (bif_f (dec_f (by omega))).trans rfl
  | m + 1, i, n + 1, t, ht, hi, hn => by
    have hq : i < es.length := by omega
    rw [drop_cons hq]
    have et : es.getD ((i : Int)).toNat [] = es[i] := by rw [Int.toNat_natCast, getD_lt [] hq]
    have ha := spec_ApplyEvent.eq hk ht (gi es[i] 0) (gi es[i] 1) (gl es[i] 2) (gl es[i] 3)
    have hsm := applyEvent_sm ht (gi es[i] 0) (gi es[i] 1) (gl es[i] 2) (gl es[i] 3)
    unfold runE
    generalize applyEvent t (gi es[i] 0) (gi es[i] 1) (gl es[i] 2) (gl es[i] 3) = q at ha hsm ⊢
    have ih := spec_RunEvents.loop hk es hs e0 m (i + 1) n q.1 hsm (by omega) (by omega)
    rw [← wrap_up (by omega)] at ih
    rw [← et] at ha
    exact (bif_t (dec_t (by omega))).trans ((chk_t (in_t hq)).trans ((bind_s ha).trans ih))
theorem impl_RunEvents.loop {R : Type} {k : Nat} (hk : BIG ≤ k) (es : List (List Leaf)) (hs : es.length < 1048577) (e0 : Int → Int → Bool → Bool → Int → Int → Bool → Int → Int → Bool → Bool → Int → Int → Int → Int → Int → List Int → List Int → List Int → List Int → List Int → List Int → List (List Int) → List Int → List Int → List Int → List (List Int) → Option R) : ∀ (m i n : Nat) (t : Tb), t.sm → i + m = es.length → m < n → t.pm (impl_RunEvents.l3 k es (es.length : Int) e0 n (i : Int)) = (runE (es.drop i) t).pm e0
  | m, i, 0, t, _, _, h => absurd h (by omega)
  | 0, i, n + 1, t, ht, hi, _ => by
    rw [List.drop_eq_nil_of_le (by omega)]
    exact (bif_f (dec_f (by omega))).trans rfl
  | m + 1, i, n + 1, t, ht, hi, hn => by
    have hq : i < es.length := by omega
    rw [drop_cons hq]
    have et : es.getD ((i : Int)).toNat [] = es[i] := by rw [Int.toNat_natCast, getD_lt [] hq]
    have ha := impl_ApplyEvent.eq hk ht (gi es[i] 0) (gi es[i] 1) (gl es[i] 2) (gl es[i] 3)
    have hsm := applyEvent_sm ht (gi es[i] 0) (gi es[i] 1) (gl es[i] 2) (gl es[i] 3)
    unfold runE
    generalize applyEvent t (gi es[i] 0) (gi es[i] 1) (gl es[i] 2) (gl es[i] 3) = q at ha hsm ⊢
    have ih := impl_RunEvents.loop hk es hs e0 m (i + 1) n q.1 hsm (by omega) (by omega)
    rw [← wrap_up (by omega)] at ih
    rw [← et] at ha
    exact (bif_t (dec_t (by omega))).trans ((chk_t (in_t hq)).trans ((bind_s ha).trans ih))
theorem runEvents_all {k : Nat} (hk : BIG ≤ k) {t : Tb} (h : t.sm) {es : List (List Leaf)} (hs : es.length < 1048577) : ∃ u : Tb, u.sm ∧ t.ap (spec_RunEvents.f k) es = some u.tp ∧ t.ap (impl_RunEvents.f k) es = some u.tp := by
  have e1 := fun e0 => spec_RunEvents.loop (R := Int × Int × Bool × Bool × List Int × List Int × Int × Int × List Int × Bool × List Int × Int × Int × Bool × Bool × List Int × List Int × Int × Int × List (List Int) × List Int × List Int × Int × Int × Int × List Int × List (List Int)) hk es hs e0 es.length 0 k t h (by omega) (BIG_lt hk hs)
  have e2 := fun e0 => impl_RunEvents.loop (R := Int × Int × Bool × Bool × List Int × List Int × Int × Int × List Int × Bool × List Int × Int × Int × Bool × Bool × List Int × List Int × Int × Int × List (List Int) × List Int × List Int × Int × Int × Int × List Int × List (List Int)) hk es hs e0 es.length 0 k t h (by omega) (BIG_lt hk hs)
  have hu := runE_sm (es.drop 0) h
  generalize runE (es.drop 0) t = u at e1 e2 hu
  exact ⟨u, hu, (bind_s (spec_l33Copy.eq hk h)).trans (e1 _), (bind_s (impl_Table_copied.eq hk h)).trans (e2 _)⟩
theorem runEvents_is {k : Nat} (hk : BIG ≤ k) {t : Tb} (h : t.sm) {es : List (List Leaf)} (hs : es.length < 1048577) : ∃ u : Tb, u = runE es t ∧ u.sm ∧ t.ap (spec_RunEvents.f k) es = some u.tp := by
  have e1 := fun e0 => spec_RunEvents.loop (R := Int × Int × Bool × Bool × List Int × List Int × Int × Int × List Int × Bool × List Int × Int × Int × Bool × Bool × List Int × List Int × Int × Int × List (List Int) × List Int × List Int × Int × Int × Int × List Int × List (List Int)) hk es hs e0 es.length 0 k t h (by omega) (BIG_lt hk hs)
  have hu := runE_sm (es.drop 0) h
  obtain ⟨u, eu⟩ : ∃ u, u = runE (es.drop 0) t := ⟨_, rfl⟩
  rw [← eu] at e1 hu
  exact ⟨u, by rw [eu, List.drop_zero], hu, (bind_s (spec_l33Copy.eq hk h)).trans (e1 _)⟩
theorem runEvents_impl {k : Nat} (hk : BIG ≤ k) {t : Tb} (h : t.sm) {es : List (List Leaf)} (hs : es.length < 1048577) : ∃ u : Tb, u = runE es t ∧ u.sm ∧ t.ap (impl_RunEvents.f k) es = some u.tp := by
  have e1 := fun e0 => impl_RunEvents.loop (R := Int × Int × Bool × Bool × List Int × List Int × Int × Int × List Int × Bool × List Int × Int × Int × Bool × Bool × List Int × List Int × Int × Int × List (List Int) × List Int × List Int × Int × Int × Int × List Int × List (List Int)) hk es hs e0 es.length 0 k t h (by omega) (BIG_lt hk hs)
  have hu := runE_sm (es.drop 0) h
  obtain ⟨u, eu⟩ : ∃ u, u = runE (es.drop 0) t := ⟨_, rfl⟩
  rw [← eu] at e1 hu
  exact ⟨u, by rw [eu, List.drop_zero], hu, (bind_s (impl_Table_copied.eq hk h)).trans (e1 _)⟩
end Go.Proofs.YtpdkglbbhfhlfaaGreat
