/- CountEvents in plain Lean: the program's and the reference's answer alike. Conditions: enough rounds, lists of at most 2^20. -/
import Derived.Test.YtfkejiljabmaaaaXFnExactCountEvents
set_option linter.unusedVariables false
namespace Go.Proofs.Ytfkejiljabmaaaa
open Go Go.Proofs.Ytfkejiljabmaaaa.V
theorem CountEvents.loops {k : Nat} (v : List (List Leaf)) (c : Int) (hv : v.length < 1048577) : ∀ (m i n acc : Nat), i + m = v.length → m < n → acc ≤ i → ∃ r, spec_CountEvents.l3 k v c (fun x => some x) n (acc : Int) (i : Int) = some r ∧ impl_CountEvents.l3 k c v (v.length : Int) (fun x => some x) n (acc : Int) (i : Int) = some r := by
  intro m
  induction m with
  | zero =>
    intro i n acc hi hn ha
    obtain ⟨n, rfl⟩ : ∃ n', n = n' + 1 := ⟨n - 1, by omega⟩
    exact ⟨_, (spec_CountEvents.l3_succ ..).trans (bif_f (dec_f (by omega))), (impl_CountEvents.l3_succ ..).trans (bif_f (dec_f (by omega)))⟩
  | succ m ih =>
    intro i n acc hi hn ha
    obtain ⟨n, rfl⟩ : ∃ n', n = n' + 1 := ⟨n - 1, by omega⟩
    have hil : i < v.length := by omega
    have e1 : spec_CountEvents.l3 k v c (fun x => some x) (n + 1) (acc : Int) (i : Int) = _ := (spec_CountEvents.l3_succ ..).trans ((bif_t (dec_t (by omega))).trans (chk_t (in_t hil)))
    have e2 : impl_CountEvents.l3 k c v (v.length : Int) (fun x => some x) (n + 1) (acc : Int) (i : Int) = _ := (impl_CountEvents.l3_succ ..).trans ((bif_t (dec_t (by omega))).trans (chk_t (in_t hil)))
    rw [e1, e2, wrap_up (by omega), wrap_up (by omega)]
    cases (gi (v.getD (i : Int).toNat []) 0) == c with
    | true => exact ih (i + 1) n (acc + 1) (by omega) (by omega) (by omega)
    | false => exact ih (i + 1) n acc (by omega) (by omega) (by omega)
theorem FnExactCountEvents.same {k : Nat} (hk : BIG ≤ k) (a0 : List (List Leaf)) (a1 : Int) (h0 : a0.length < 1048577) (h1 : ∀ y ∈ a0, smRec y) (h2 : ∀ y ∈ a0, recWf [false, false, true, true] y) (h3 : wfI .i64 a1) : ∃ r : Int, spec_CountEvents.f k a0 a1 = some r ∧ impl_CountEvents.f k a0 a1 = some r :=
  CountEvents.loops a0 a1 h0 a0.length 0 k 0 (by omega) (by simp [BIG] at hk; omega) (by omega)
end Go.Proofs.Ytfkejiljabmaaaa
