/- The law's pieces, in plain Lean: sizes, copies, comparisons of lists of lists; AverageMoves. Conditions: enough rounds. -/
import Derived.Test.YtfkejiljabmaaaaKit
import Derived.Test.YtfkejiljabmaaaaF
set_option linter.unusedVariables false
namespace Go.Proofs.Ytfkejiljabmaaaa
open Go Go.Proofs.Ytfkejiljabmaaaa.V

/-! ### Copies -/
theorem laws_toIntS.l3_eq {R : Type} (k : Nat) (v : List Int) (e0 : List Int → Option R) (hv : v.length < 1048577) : ∀ (m i n : Nat), i + m = v.length → m < n → laws_toIntS.l3 k v e0 n (i : Int) (v.take i ++ List.replicate m 0) = e0 v := by
  intro m
  induction m with
  | zero =>
    intro i n hi hn
    obtain ⟨n, rfl⟩ : ∃ n', n = n' + 1 := ⟨n - 1, by omega⟩
    refine (laws_toIntS.l3_succ ..).trans ?_
    refine (bif_f (dec_f (by omega))).trans ?_
    simp [show i = v.length by omega]
  | succ m ih =>
    intro i n hi hn
    obtain ⟨n, rfl⟩ : ∃ n', n = n' + 1 := ⟨n - 1, by omega⟩
    have hil : i < v.length := by omega
    refine (laws_toIntS.l3_succ ..).trans ?_
    refine (bif_t (dec_t (by omega))).trans ?_
    refine (chk_t (in_t hil)).trans ?_
    refine (chk_t (and_t (dec_t (by omega)) (dec_t (by simp; omega)))).trans ?_
    rw [wrap_up (by omega), Int.toNat_natCast, getD_lt _ hil]
    have := ih (i + 1) n (by omega) (by omega)
    rw [← this, copy_step hil]
theorem laws_toIntS.eq {k : Nat} (hk : BIG ≤ k) {v : List Int} (hv : v.length < 1048577) : laws_toIntS.f k v = some v := by
  refine (chk_t (and_t (dec_t (by omega)) (dec_t (by simp [room]; omega)))).trans ?_
  have := laws_toIntS.l3_eq k v (fun x => some x) hv v.length 0 k (by omega) (by simp [BIG] at hk; omega)
  simpa using this
theorem laws_toIntSS.l3_eq {R : Type} {k : Nat} (hk : BIG ≤ k) (v : List (List Int)) (e0 : List (List Int) → Option R) (hv : v.length < 1048577) (hv2 : ∀ x ∈ v, x.length < 1048577) : ∀ (m i n : Nat), i + m = v.length → m < n → laws_toIntSS.l3 k v e0 n (i : Int) (v.take i ++ List.replicate m []) = e0 v := by
  intro m
  induction m with
  | zero =>
    intro i n hi hn
    obtain ⟨n, rfl⟩ : ∃ n', n = n' + 1 := ⟨n - 1, by omega⟩
    refine (laws_toIntSS.l3_succ ..).trans ?_
    refine (bif_f (dec_f (by omega))).trans ?_
    simp [show i = v.length by omega]
  | succ m ih =>
    intro i n hi hn
    obtain ⟨n, rfl⟩ : ∃ n', n = n' + 1 := ⟨n - 1, by omega⟩
    have hil : i < v.length := by omega
    refine (laws_toIntSS.l3_succ ..).trans ?_
    refine (bif_t (dec_t (by omega))).trans ?_
    refine (chk_t (in_t hil)).trans ?_
    rw [Int.toNat_natCast, getD_lt _ hil]
    refine (bind_s (laws_toIntS.eq hk (hv2 _ (List.getElem_mem hil)))).trans ?_
    refine (chk_t (and_t (dec_t (by omega)) (dec_t (by simp; omega)))).trans ?_
    rw [wrap_up (by omega)]
    have := ih (i + 1) n (by omega) (by omega)
    rw [← this, copy_step hil]
theorem laws_toIntSS.eq {k : Nat} (hk : BIG ≤ k) {v : List (List Int)} (hv : v.length < 1048577) (hv2 : ∀ x ∈ v, x.length < 1048577) : laws_toIntSS.f k v = some v := by
  refine (chk_t (and_t (dec_t (by omega)) (dec_t (by simp [room]; omega)))).trans ?_
  have := laws_toIntSS.l3_eq hk v (fun x => some x) hv hv2 v.length 0 k (by omega) (by simp [BIG] at hk; omega)
  simpa using this

/-! ### Comparisons -/
theorem laws_eqIntS.l4_eq {R : Type} (k : Nat) (v : List Int) (e0 e1 : Option R) (hv : v.length < 1048577) : ∀ (m i n : Nat), i + m = v.length → m < n → laws_eqIntS.l4 k v v e0 e1 n (i : Int) = e1 := by
  intro m
  induction m with
  | zero =>
    intro i n hi hn
    obtain ⟨n, rfl⟩ : ∃ n', n = n' + 1 := ⟨n - 1, by omega⟩
    refine (laws_eqIntS.l4_succ ..).trans ?_
    exact bif_f (dec_f (by omega))
  | succ m ih =>
    intro i n hi hn
    obtain ⟨n, rfl⟩ : ∃ n', n = n' + 1 := ⟨n - 1, by omega⟩
    have hil : i < v.length := by omega
    refine (laws_eqIntS.l4_succ ..).trans ?_
    refine (bif_t (dec_t (by omega))).trans ?_
    refine (chk_t (in_t hil)).trans ?_
    refine (chk_t (in_t hil)).trans ?_
    refine (bif_f (by simp)).trans ?_
    rw [wrap_up (by omega)]
    exact ih (i + 1) n (by omega) (by omega)
theorem laws_eqIntS.eq {k : Nat} (hk : BIG ≤ k) {v : List Int} (hv : v.length < 1048577) : laws_eqIntS.f k v v = some true := by
  refine (bif_f (by simp)).trans ?_
  exact laws_eqIntS.l4_eq k v _ _ hv v.length 0 k (by omega) (by simp [BIG] at hk; omega)
theorem laws_eqIntSS.l4_eq {R : Type} {k : Nat} (hk : BIG ≤ k) (v : List (List Int)) (e0 e1 : Option R) (hv : v.length < 1048577) (hv2 : ∀ x ∈ v, x.length < 1048577) : ∀ (m i n : Nat), i + m = v.length → m < n → laws_eqIntSS.l4 k v v e0 e1 n (i : Int) = e1 := by
  intro m
  induction m with
  | zero =>
    intro i n hi hn
    obtain ⟨n, rfl⟩ : ∃ n', n = n' + 1 := ⟨n - 1, by omega⟩
    refine (laws_eqIntSS.l4_succ ..).trans ?_
    exact bif_f (dec_f (by omega))
  | succ m ih =>
    intro i n hi hn
    obtain ⟨n, rfl⟩ : ∃ n', n = n' + 1 := ⟨n - 1, by omega⟩
    have hil : i < v.length := by omega
    refine (laws_eqIntSS.l4_succ ..).trans ?_
    refine (bif_t (dec_t (by omega))).trans ?_
    refine (chk_t (in_t hil)).trans ?_
    refine (chk_t (in_t hil)).trans ?_
    rw [Int.toNat_natCast, getD_lt _ hil]
    refine (bind_s (laws_eqIntS.eq hk (hv2 _ (List.getElem_mem hil)))).trans ?_
    refine (bif_f rfl).trans ?_
    rw [wrap_up (by omega)]
    exact ih (i + 1) n (by omega) (by omega)
theorem laws_eqIntSS.eq {k : Nat} (hk : BIG ≤ k) {v : List (List Int)} (hv : v.length < 1048577) (hv2 : ∀ x ∈ v, x.length < 1048577) : laws_eqIntSS.f k v v = some true := by
  refine (bif_f (by simp)).trans ?_
  exact laws_eqIntSS.l4_eq hk v _ _ hv hv2 v.length 0 k (by omega) (by simp [BIG] at hk; omega)

/-! ### Sizes -/
def szR (left size : Int) (r : Int) : Prop := r < 0 ∨ size + r = left
theorem laws_szIntS.eq (k : Nat) {v : List Int} {left : Int} (hl : left ≤ 1048576) (hl0 : 0 ≤ left) (hv : v.length ≤ maxLen) : ∃ r, laws_szIntS.f k v left = some r ∧ (r < 0 ∨ ((v.length : Int) + r = left ∧ 0 ≤ r)) := by
  have hv : v.length ≤ 9223372036854775807 := hv
  unfold laws_szIntS.f
  rw [wrap_i64 (by omega) (by omega)]
  by_cases h : left - (v.length : Int) < 0
  · exact ⟨-1, bif_t (dec_t h), .inl (by omega)⟩
  · exact ⟨_, bif_f (dec_f h), .inr (by omega)⟩
def lens (v : List (List Int)) : Int := (v.map fun x => (x.length : Int)).sum
theorem lens_nonneg : ∀ v, 0 ≤ lens v
  | [] => by simp [lens]
  | x :: v => by have := lens_nonneg v; simp only [lens, List.map_cons, List.sum_cons] at this ⊢; omega
theorem lens_cons (x : List Int) (v : List (List Int)) : lens (x :: v) = x.length + lens v := by simp [lens]
theorem lens_mem : ∀ {v : List (List Int)} {x : List Int}, x ∈ v → (x.length : Int) ≤ lens v
  | y :: v, x, h => by
    rw [lens_cons]
    have := lens_nonneg v
    rcases List.mem_cons.1 h with rfl | h
    · omega
    · have := lens_mem h; omega
theorem laws_szIntSS.l5_eq {k : Nat} (v : List (List Int)) {R : Type} (e0 e1 : Int → Option R) (hv : v.length < 1048577) (hv2 : ∀ x ∈ v, x.length ≤ maxLen) : ∀ (m i n : Nat) (left : Int), i + m = v.length → m < n → 0 ≤ left → left ≤ 1048576 → ∃ r, (laws_szIntSS.l5 k v e0 e1 n left (i : Int) = e0 r ∧ r < 0) ∨ (laws_szIntSS.l5 k v e0 e1 n left (i : Int) = e1 r ∧ lens (v.drop i) + r = left ∧ 0 ≤ r) := by
  intro m
  induction m with
  | zero =>
    intro i n left hi hn h0 h1
    obtain ⟨n, rfl⟩ : ∃ n', n = n' + 1 := ⟨n - 1, by omega⟩
    refine ⟨left, .inr ⟨(laws_szIntSS.l5_succ ..).trans (bif_f (dec_f (by omega))), ?_, h0⟩⟩
    rw [List.drop_eq_nil_of_le (by omega)]
    simp [lens]
  | succ m ih =>
    intro i n left hi hn h0 h1
    obtain ⟨n, rfl⟩ : ∃ n', n = n' + 1 := ⟨n - 1, by omega⟩
    have hil : i < v.length := by omega
    obtain ⟨r, hr, hc⟩ := laws_szIntS.eq k (v := v[i]) h1 h0 (hv2 _ (List.getElem_mem hil))
    have step : laws_szIntSS.l5 k v e0 e1 (n + 1) left (i : Int) = (bif decide (r < 0) then e0 r else laws_szIntSS.l5 k v e0 e1 n r (IntKind.wrap .i64 ((i : Int) + 1))) := by
      refine (laws_szIntSS.l5_succ ..).trans ?_
      refine (bif_t (dec_t (by omega))).trans ?_
      refine (chk_t (in_t hil)).trans ?_
      rw [Int.toNat_natCast, getD_lt _ hil]
      exact bind_s hr
    rcases hc with hc | ⟨hc, h2⟩
    · exact ⟨r, .inl ⟨step.trans (bif_t (dec_t hc)), hc⟩⟩
    · rw [bif_f (dec_f (by omega)), wrap_up (by omega)] at step
      obtain ⟨r', hh⟩ := ih (i + 1) n r (by omega) (by omega) h2 (by omega)
      refine ⟨r', ?_⟩
      rw [step, drop_cons hil, lens_cons]
      rcases hh with hh | ⟨g1, g2, g3⟩
      · exact .inl hh
      · exact .inr ⟨g1, by omega, g3⟩
theorem laws_szIntSS.eq {k : Nat} (hk : BIG ≤ k) {v : List (List Int)} {left : Int} (hl : left ≤ 1048576) (hl0 : 0 ≤ left) (hv : v.length ≤ maxLen) (hv2 : ∀ x ∈ v, x.length ≤ maxLen) : ∃ r, laws_szIntSS.f k v left = some r ∧ (r < 0 ∨ ((v.length : Int) + lens v + r = left ∧ 0 ≤ r)) := by
  have hv : v.length ≤ 9223372036854775807 := hv
  unfold laws_szIntSS.f
  rw [wrap_i64 (by omega) (by omega)]
  by_cases h : left - (v.length : Int) < 0
  · exact ⟨-1, bif_t (dec_t h), .inl (by omega)⟩
  · rw [bif_f (dec_f h)]
    obtain ⟨r, hr⟩ := laws_szIntSS.l5_eq (k := k) v (fun x2 => some (-1 : Int)) (fun x3 => some x3) (by omega) hv2 v.length 0 k (left - (v.length : Int)) (by omega) (by simp [BIG] at hk; omega) (by omega) (by omega)
    rcases hr with ⟨g1, g2⟩ | ⟨g1, g2, g3⟩
    · exact ⟨-1, g1, .inl (by omega)⟩
    · refine ⟨r, g1, .inr ⟨?_, g3⟩⟩
      rw [List.drop_zero] at g2; omega

/-! ### AverageMoves -/
theorem spec_AverageMoves.l3_eq {R : Type} {k : Nat} (v : List (List Int)) (e0 : Int → Option R) (hv : v.length < 1048577) : ∀ (m i n : Nat) (acc : Int), i + m = v.length → m < n → 0 ≤ acc → acc + lens (v.drop i) ≤ 1048576 → spec_AverageMoves.l3 k v e0 n acc (i : Int) = e0 (acc + lens (v.drop i)) := by
  intro m
  induction m with
  | zero =>
    intro i n acc hi hn h0 h1
    obtain ⟨n, rfl⟩ : ∃ n', n = n' + 1 := ⟨n - 1, by omega⟩
    refine (spec_AverageMoves.l3_succ ..).trans ((bif_f (dec_f (by omega))).trans ?_)
    rw [List.drop_eq_nil_of_le (by omega)]
    simp [lens]
  | succ m ih =>
    intro i n acc hi hn h0 h1
    obtain ⟨n, rfl⟩ : ∃ n', n = n' + 1 := ⟨n - 1, by omega⟩
    have hil : i < v.length := by omega
    rw [drop_cons hil, lens_cons] at h1 ⊢
    have := lens_nonneg (v.drop (i + 1))
    refine (spec_AverageMoves.l3_succ ..).trans ?_
    refine (bif_t (dec_t (by omega))).trans ?_
    refine (chk_t (in_t hil)).trans ?_
    rw [wrap_up (by omega), Int.toNat_natCast, getD_lt _ hil, wrap_i64 (by omega) (by omega)]
    rw [ih (i + 1) n _ (by omega) (by omega) (by omega) (by omega)]
    congr 1; omega
theorem impl_TotalCards.l3_eq {R : Type} {k : Nat} (v : List (List Int)) (e0 : Int → Option R) (hv : v.length < 1048577) : ∀ (m i n : Nat) (acc : Int), i + m = v.length → m < n → 0 ≤ acc → acc + lens (v.drop i) ≤ 1048576 → impl_TotalCards.l3 k v (v.length : Int) e0 n acc (i : Int) = e0 (acc + lens (v.drop i)) := by
  intro m
  induction m with
  | zero =>
    intro i n acc hi hn h0 h1
    obtain ⟨n, rfl⟩ : ∃ n', n = n' + 1 := ⟨n - 1, by omega⟩
    refine (impl_TotalCards.l3_succ ..).trans ((bif_f (dec_f (by omega))).trans ?_)
    rw [List.drop_eq_nil_of_le (by omega)]
    simp [lens]
  | succ m ih =>
    intro i n acc hi hn h0 h1
    obtain ⟨n, rfl⟩ : ∃ n', n = n' + 1 := ⟨n - 1, by omega⟩
    have hil : i < v.length := by omega
    rw [drop_cons hil, lens_cons] at h1 ⊢
    have := lens_nonneg (v.drop (i + 1))
    refine (impl_TotalCards.l3_succ ..).trans ?_
    refine (bif_t (dec_t (by omega))).trans ?_
    refine (chk_t (in_t hil)).trans ?_
    rw [wrap_up (by omega), Int.toNat_natCast, getD_lt _ hil, wrap_i64 (by omega) (by omega)]
    rw [ih (i + 1) n _ (by omega) (by omega) (by omega) (by omega)]
    congr 1; omega
theorem AverageMoves.eq {k : Nat} (hk : BIG ≤ k) {v : List (List Int)} (hv : v.length < 1048577) (hl : lens v ≤ 1048576) : ∃ r, spec_AverageMoves.f k v = some r ∧ impl_AverageMoves.f k v = some r := by
  have hb : v.length < k := by simp [BIG] at hk; omega
  have h1 := spec_AverageMoves.l3_eq (k := k) v (fun x1 => bif ((v.length : Int) == (0 : Int)) then some (0 : Int) else chk (!(decide ((v.length : Int) = (0 : Int)))) <| some (IntKind.wrap .i64 (x1.tdiv (v.length : Int)))) hv v.length 0 k 0 (by omega) hb (by omega) (by simpa using hl)
  have h2 := impl_TotalCards.l3_eq (k := k) v (fun x1 => some x1) hv v.length 0 k 0 (by omega) hb (by omega) (by simpa using hl)
  simp only [List.drop_zero, Int.zero_add] at h1 h2
  by_cases h0 : v.length = 0
  · have e : ((v.length : Int) == 0) = true := by simp [h0]
    exact ⟨0, h1.trans (bif_t e), bif_t e⟩
  · have e : ((v.length : Int) == 0) = false := by simp; exact fun h => h0 (by rw [h]; rfl)
    have e2 : (!(decide ((v.length : Int) = (0 : Int)))) = true := by simp; exact fun h => h0 (by rw [h]; rfl)
    exact ⟨_, h1.trans ((bif_f e).trans (chk_t e2)), (bif_f e).trans ((bind_s h2).trans (chk_t e2))⟩
theorem laws_FnExactAverageMoves.eq {k : Nat} (hk : BIG ≤ k) {v : List (List Int)} (hv : v.length ≤ maxLen) (hv2 : ∀ x ∈ v, x.length ≤ maxLen ∧ ∀ n ∈ x, wfI .i64 n) : laws_FnExactAverageMoves.f k v = some true := by
  obtain ⟨r, h1, h2⟩ := laws_szIntSS.eq hk (left := 1048576) (by omega) (by omega) hv (fun x hx => (hv2 x hx).1)
  refine (bind_s h1).trans ?_
  rcases h2 with h2 | ⟨h2, h3⟩
  · exact bif_t (dec_t h2)
  · refine (bif_f (dec_f (by omega))).trans ?_
    have hn := lens_nonneg v
    have hl : v.length < 1048577 := by omega
    have hl2 : ∀ x ∈ v, x.length < 1048577 := fun x hx => by have := lens_mem hx; omega
    obtain ⟨q, e1, e2⟩ := AverageMoves.eq hk hl (by omega)
    have e := laws_toIntSS.eq hk hl hl2
    refine (bind_s e).trans ((bind_s e1).trans ((bind_s e).trans ((bind_s e2).trans ?_)))
    refine (bif_f (by simp)).trans ((bind_s e).trans ((bind_s (laws_eqIntSS.eq hk hl hl2)).trans ?_))
    exact bif_f rfl
end Go.Proofs.Ytfkejiljabmaaaa
