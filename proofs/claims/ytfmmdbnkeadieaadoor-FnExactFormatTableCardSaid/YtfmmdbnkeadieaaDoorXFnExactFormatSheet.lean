/- Sizes, copies, comparisons in plain Lean. Conditions: enough rounds, what the statement's guard lets pass. Printed by a program. -/
import Derived.Test.YtfmmdbnkeadieaaDoorXFnExactFormatNumbers
import Derived.Test.YtfmmdbnkeadieaaDoorKit
import Derived.Test.YtfmmdbnkeadieaaDoorFFnExactFormatSheet
set_option linter.unusedVariables false
set_option linter.unusedSimpArgs false
namespace Go.Proofs.YtfmmdbnkeadieaaDoor
open Go Go.Proofs.YtfmmdbnkeadieaaDoor.V
/-! laws.szIntS -/
theorem laws_szIntS.eq (k : Nat) {v : List Int} {left : Int} (hl : left ≤ 1048576) (hl0 : 0 ≤ left) (hv : v.length ≤ maxLen) : ∃ r, laws_szIntS.f k v left = some r ∧ (r < 0 ∨ (0 ≤ r ∧ r ≤ 1048576 ∧ v.length < 1048577)) := by
  have hv : v.length ≤ 9223372036854775807 := hv
  unfold laws_szIntS.f
  rw [wrap_i64 (by omega) (by omega)]
  by_cases h : left - (v.length : Int) < 0
  · exact ⟨-1, bif_t (dec_t h), .inl (by omega)⟩
  · exact ⟨_, bif_f (dec_f h), .inr ⟨by omega, by omega, by omega⟩⟩
/-! laws.szIntSS -/
theorem laws_szIntSS.loop {k : Nat} (hk : BIG ≤ k) (v : List (List Int)) {R : Type} (e0 e1 : Int → Option R) (hv : v.length < 1048577) (hv2 : ∀ y ∈ v, y.length ≤ maxLen) : ∀ (m i n : Nat) (left : Int), i + m = v.length → m < n → 0 ≤ left → left ≤ 1048576 → ∃ r, (laws_szIntSS.l5 k v e0 e1 n left (i : Int) = e0 r ∧ r < 0) ∨ (laws_szIntSS.l5 k v e0 e1 n left (i : Int) = e1 r ∧ 0 ≤ r ∧ r ≤ 1048576 ∧ ∀ y ∈ v.drop i, y.length < 1048577) := by
  intro m
  induction m with
  | zero =>
    intro i n left hi hn h0 h1
    obtain ⟨n, rfl⟩ : ∃ n', n = n' + 1 := ⟨n - 1, by omega⟩
    exact ⟨left, .inr ⟨(laws_szIntSS.l5_succ ..).trans (bif_f (dec_f (by omega))), h0, h1, by rw [List.drop_eq_nil_of_le (by omega)]; simp⟩⟩
  | succ m ih =>
    intro i n left hi hn h0 h1
    obtain ⟨n, rfl⟩ : ∃ n', n = n' + 1 := ⟨n - 1, by omega⟩
    have hil : i < v.length := by omega
    have hm := hv2 _ (List.getElem_mem hil)
    obtain ⟨r, hr, hc⟩ := laws_szIntS.eq k (v := v[i]) h1 h0 hm
    have step : laws_szIntSS.l5 k v e0 e1 (n + 1) left (i : Int) = (bif decide (r < 0) then e0 r else laws_szIntSS.l5 k v e0 e1 n r (IntKind.wrap .i64 ((i : Int) + 1))) := by
      refine (laws_szIntSS.l5_succ ..).trans ?_
      refine (bif_t (dec_t (by omega))).trans ?_
      refine (chk_t (in_t hil)).trans ?_
      rw [Int.toNat_natCast, getD_lt _ hil]
      exact bind_s hr
    rcases hc with hc | ⟨hc, h2, hs⟩
    · exact ⟨r, .inl ⟨step.trans (bif_t (dec_t hc)), hc⟩⟩
    · rw [bif_f (dec_f (by omega)), wrap_up (by omega)] at step
      obtain ⟨r', hh⟩ := ih (i + 1) n r (by omega) (by omega) hc h2
      refine ⟨r', ?_⟩
      rw [step, drop_cons hil]
      rcases hh with hh | ⟨g1, g2, g3, g4⟩
      · exact .inl hh
      · refine .inr ⟨g1, g2, g3, fun y hy => ?_⟩
        rcases List.mem_cons.1 hy with rfl | hy
        · exact hs
        · exact g4 y hy
theorem laws_szIntSS.eq {k : Nat} (hk : BIG ≤ k) {v : List (List Int)} {left : Int} (hl : left ≤ 1048576) (hl0 : 0 ≤ left) (hv : v.length ≤ maxLen) (hv2 : ∀ y ∈ v, y.length ≤ maxLen) : ∃ r, laws_szIntSS.f k v left = some r ∧ (r < 0 ∨ (0 ≤ r ∧ r ≤ 1048576 ∧ v.length < 1048577 ∧ ∀ y ∈ v, y.length < 1048577)) := by
  have hv : v.length ≤ 9223372036854775807 := hv
  unfold laws_szIntSS.f
  rw [wrap_i64 (by omega) (by omega)]
  by_cases h : left - (v.length : Int) < 0
  · exact ⟨-1, bif_t (dec_t h), .inl (by omega)⟩
  · rw [bif_f (dec_f h)]
    obtain ⟨r, hr⟩ := laws_szIntSS.loop hk v (fun x2 => some (-1 : Int)) (fun x3 => some x3) (by omega) hv2 v.length 0 k (left - (v.length : Int)) (by omega) (by simp [BIG] at hk; omega) (by omega) (by omega)
    rcases hr with ⟨g1, g2⟩ | ⟨g1, g2, g3, g4⟩
    · exact ⟨-1, g1, .inl (by omega)⟩
    · refine ⟨r, g1, .inr ⟨g2, g3, by omega, ?_⟩⟩
      rw [List.drop_zero] at g4; exact g4
/-! laws.toIntSS -/
theorem laws_toIntSS.loop {R : Type} {k : Nat} (hk : BIG ≤ k) (v : List (List Int)) (e0 : List (List Int) → Option R) (hv : v.length < 1048577) (hv2 : ∀ y ∈ v, y.length < 1048577) : ∀ (m i n : Nat), i + m = v.length → m < n → laws_toIntSS.l3 k v e0 n (i : Int) (v.take i ++ List.replicate m []) = e0 v := by
  intro m
  induction m with
  | zero =>
    intro i n hi hn
    obtain ⟨n, rfl⟩ : ∃ n', n = n' + 1 := ⟨n - 1, by omega⟩
    refine (laws_toIntSS.l3_succ ..).trans ?_
    refine (bif_f (dec_f (by omega))).trans ?_
    simp [show i = v.length by omega]
  | succ m ih =>
    intro i n hi hn
    obtain ⟨n, rfl⟩ : ∃ n', n = n' + 1 := ⟨n - 1, by omega⟩
    have hil : i < v.length := by omega
    refine (laws_toIntSS.l3_succ ..).trans ?_
    refine (bif_t (dec_t (by omega))).trans ?_
    refine (chk_t (in_t hil)).trans ?_
    rw [Int.toNat_natCast, getD_lt _ hil]
    refine (bind_s (laws_toIntS.eq hk (hv2 _ (List.getElem_mem hil)))).trans ?_
    refine (chk_t (and_t (dec_t (by omega)) (dec_t (by simp; omega)))).trans ?_
    rw [wrap_up (by omega)]
    have := ih (i + 1) n (by omega) (by omega)
    rw [← this, copy_step hil]
theorem laws_toIntSS.eq {k : Nat} (hk : BIG ≤ k) {v : List (List Int)} (hv : v.length < 1048577) (hv2 : ∀ y ∈ v, y.length < 1048577) : laws_toIntSS.f k v = some v := by
  refine (chk_t (and_t (dec_t (by omega)) (dec_t (by simp [room]; omega)))).trans ?_
  have := laws_toIntSS.loop hk v (fun x => some x) hv hv2 v.length 0 k (by omega) (by simp [BIG] at hk; omega)
  simpa using this
/-! laws.eqIntSS -/
theorem laws_eqIntSS.loop {R : Type} {k : Nat} (hk : BIG ≤ k) (v : List (List Int)) (e0 e1 : Option R) (hv : v.length < 1048577) (hv2 : ∀ y ∈ v, y.length < 1048577) : ∀ (m i n : Nat), i + m = v.length → m < n → laws_eqIntSS.l4 k v v e0 e1 n (i : Int) = e1 := by
  intro m
  induction m with
  | zero =>
    intro i n hi hn
    obtain ⟨n, rfl⟩ : ∃ n', n = n' + 1 := ⟨n - 1, by omega⟩
    refine (laws_eqIntSS.l4_succ ..).trans ?_
    exact bif_f (dec_f (by omega))
  | succ m ih =>
    intro i n hi hn
    obtain ⟨n, rfl⟩ : ∃ n', n = n' + 1 := ⟨n - 1, by omega⟩
    have hil : i < v.length := by omega
    refine (laws_eqIntSS.l4_succ ..).trans ?_
    refine (bif_t (dec_t (by omega))).trans ?_
    refine (chk_t (in_t hil)).trans ?_
    refine (chk_t (in_t hil)).trans ?_
    rw [Int.toNat_natCast, getD_lt _ hil]
    refine (bind_s (laws_eqIntS.eq hk (hv2 _ (List.getElem_mem hil)))).trans ?_
    refine (bif_f rfl).trans ?_
    rw [wrap_up (by omega)]
    exact ih (i + 1) n (by omega) (by omega)
theorem laws_eqIntSS.eq {k : Nat} (hk : BIG ≤ k) {v : List (List Int)} (hv : v.length < 1048577) (hv2 : ∀ y ∈ v, y.length < 1048577) : laws_eqIntSS.f k v v = some true := by
  refine (bif_f (by simp)).trans ?_
  exact laws_eqIntSS.loop hk v _ _ hv hv2 v.length 0 k (by omega) (by simp [BIG] at hk; omega)
end Go.Proofs.YtfmmdbnkeadieaaDoor
