/- Sizes, copies, comparisons in plain Lean. Conditions: enough rounds, what the statement's guard lets pass. Printed by a program. -/
import Derived.Test.YtfbafmeeejmgoaaDoorKit
import Derived.Test.YtfbafmeeejmgoaaDoorFFnExactFormatKey
set_option linter.unusedVariables false
set_option linter.unusedSimpArgs false
namespace Go.Proofs.YtfbafmeeejmgoaaDoor
open Go Go.Proofs.YtfbafmeeejmgoaaDoor.V
/-! laws.toIntS -/
theorem laws_toIntS.loop {R : Type} {k : Nat} (hk : BIG ≤ k) (v : List Int) (e0 : List Int → Option R) (hv : v.length < 1048577) : ∀ (m i n : Nat), i + m = v.length → m < n → laws_toIntS.l3 k v e0 n (i : Int) (v.take i ++ List.replicate m 0) = e0 v := by
  intro m
  induction m with
  | zero =>
    intro i n hi hn
    obtain ⟨n, rfl⟩ : ∃ n', n = n' + 1 := ⟨n - 1, by omega⟩
    refine (laws_toIntS.l3_succ ..).trans ?_
    refine (bif_f (dec_f (by omega))).trans ?_
    simp [show i = v.length by omega]
  | succ m ih =>
    intro i n hi hn
    obtain ⟨n, rfl⟩ : ∃ n', n = n' + 1 := ⟨n - 1, by omega⟩
    have hil : i < v.length := by omega
    refine (laws_toIntS.l3_succ ..).trans ?_
    refine (bif_t (dec_t (by omega))).trans ?_
    refine (chk_t (in_t hil)).trans ?_
    refine (chk_t (and_t (dec_t (by omega)) (dec_t (by simp; omega)))).trans ?_
    rw [wrap_up (by omega), Int.toNat_natCast, getD_lt _ hil]
    have := ih (i + 1) n (by omega) (by omega)
    rw [← this, copy_step hil]
theorem laws_toIntS.eq {k : Nat} (hk : BIG ≤ k) {v : List Int} (hv : v.length < 1048577) : laws_toIntS.f k v = some v := by
  refine (chk_t (and_t (dec_t (by omega)) (dec_t (by simp [room]; omega)))).trans ?_
  have := laws_toIntS.loop hk v (fun x => some x) hv v.length 0 k (by omega) (by simp [BIG] at hk; omega)
  simpa using this
/-! laws.eqIntS -/
theorem laws_eqIntS.loop {R : Type} {k : Nat} (hk : BIG ≤ k) (v : List Int) (e0 e1 : Option R) (hv : v.length < 1048577) : ∀ (m i n : Nat), i + m = v.length → m < n → laws_eqIntS.l4 k v v e0 e1 n (i : Int) = e1 := by
  intro m
  induction m with
  | zero =>
    intro i n hi hn
    obtain ⟨n, rfl⟩ : ∃ n', n = n' + 1 := ⟨n - 1, by omega⟩
    refine (laws_eqIntS.l4_succ ..).trans ?_
    exact bif_f (dec_f (by omega))
  | succ m ih =>
    intro i n hi hn
    obtain ⟨n, rfl⟩ : ∃ n', n = n' + 1 := ⟨n - 1, by omega⟩
    have hil : i < v.length := by omega
    refine (laws_eqIntS.l4_succ ..).trans ?_
    refine (bif_t (dec_t (by omega))).trans ?_
    refine (chk_t (in_t hil)).trans ?_
    refine (chk_t (in_t hil)).trans ?_
    refine (bif_f (by simp)).trans ?_
    rw [wrap_up (by omega)]
    exact ih (i + 1) n (by omega) (by omega)
theorem laws_eqIntS.eq {k : Nat} (hk : BIG ≤ k) {v : List Int} (hv : v.length < 1048577) : laws_eqIntS.f k v v = some true := by
  refine (bif_f (by simp)).trans ?_
  exact laws_eqIntS.loop hk v _ _ hv v.length 0 k (by omega) (by simp [BIG] at hk; omega)
end Go.Proofs.YtfbafmeeejmgoaaDoor
