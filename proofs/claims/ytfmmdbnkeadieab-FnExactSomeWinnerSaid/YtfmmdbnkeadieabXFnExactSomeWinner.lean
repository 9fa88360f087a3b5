/- Sizes, copies, comparisons in plain Lean. Conditions: enough rounds, what the statement's guard lets pass. Printed by a program. -/
import Derived.Test.YtfmmdbnkeadieabKit
import Derived.Test.YtfmmdbnkeadieabFFnExactSomeWinner
set_option linter.unusedVariables false
set_option linter.unusedSimpArgs false
namespace Go.Proofs.Ytfmmdbnkeadieab
open Go Go.Proofs.Ytfmmdbnkeadieab.V
/-! laws.szIntS -/
theorem laws_szIntS.eq (k : Nat) {v : List Int} {left : Int} (hl : left ≤ 1048576) (hl0 : 0 ≤ left) (hv : v.length ≤ maxLen) : ∃ r, laws_szIntS.f k v left = some r ∧ (r < 0 ∨ (0 ≤ r ∧ r ≤ 1048576 ∧ v.length < 1048577)) := by
  have hv : v.length ≤ 9223372036854775807 := hv
  unfold laws_szIntS.f
  rw [wrap_i64 (by omega) (by omega)]
  by_cases h : left - (v.length : Int) < 0
  · exact ⟨-1, bif_t (dec_t h), .inl (by omega)⟩
  · exact ⟨_, bif_f (dec_f h), .inr ⟨by omega, by omega, by omega⟩⟩
/-! laws.szRules -/
theorem laws_szRules.eq {k : Nat} (hk : BIG ≤ k) {a0 : Int} {a1 : Int} {a2 : Bool} {a3 : Bool} {a4 : List Int} {a5 : List Int} {a6 : Int} {a7 : Int} {left : Int} (hl : left ≤ 1048576) (hl0 : 0 ≤ left) (h0 : a4.length ≤ maxLen) (h1 : a5.length ≤ maxLen) : ∃ r, laws_szRules.f k a0 a1 a2 a3 a4 a5 a6 a7 left = some r ∧ (r < 0 ∨ (0 ≤ r ∧ r ≤ 1048576 ∧ (a4.length < 1048577) ∧ (a5.length < 1048577))) := by
  obtain ⟨r0, e0, c0⟩ := laws_szIntS.eq k hl hl0 h0
  rcases c0 with c0 | ⟨p0, q0, s0_0⟩
  · exact ⟨-1, (bind_s e0).trans (bif_t (dec_t c0)), .inl (by omega)⟩
  obtain ⟨r1, e1, c1⟩ := laws_szIntS.eq k q0 p0 h1
  rcases c1 with c1 | ⟨p1, q1, s1_0⟩
  · exact ⟨-1, (bind_s e0).trans <| (bif_f (dec_f (by omega))).trans <| (bind_s e1).trans (bif_t (dec_t c1)), .inl (by omega)⟩
  exact ⟨r1, (bind_s e0).trans <| (bif_f (dec_f (by omega))).trans <| (bind_s e1).trans <| (bif_f (dec_f (by omega))).trans <| rfl, .inr ⟨p1, q1, s0_0, s1_0⟩⟩
/-! laws.toIntS -/
theorem laws_toIntS.loop {R : Type} {k : Nat} (hk : BIG ≤ k) (v : List Int) (e0 : List Int → Option R) (hv : v.length < 1048577) : ∀ (m i n : Nat), i + m = v.length → m < n → laws_toIntS.l3 k v e0 n (i : Int) (v.take i ++ List.replicate m 0) = e0 v := by
  intro m
  induction m with
  | zero =>
    intro i n hi hn
    obtain ⟨n, rfl⟩ : ∃ n', n = n' + 1 := ⟨n - 1, by omega⟩
    refine (laws_toIntS.l3_succ ..).trans ?_
    refine (bif_f (dec_f (by omega))).trans ?_
    simp [show i = v.length by omega]
  | succ m ih =>
    intro i n hi hn
    obtain ⟨n, rfl⟩ : ∃ n', n = n' + 1 := ⟨n - 1, by omega⟩
    have hil : i < v.length := by omega
    refine (laws_toIntS.l3_succ ..).trans ?_
    refine (bif_t (dec_t (by omega))).trans ?_
    refine (chk_t (in_t hil)).trans ?_
    refine (chk_t (and_t (dec_t (by omega)) (dec_t (by simp; omega)))).trans ?_
    rw [wrap_up (by omega), Int.toNat_natCast, getD_lt _ hil]
    have := ih (i + 1) n (by omega) (by omega)
    rw [← this, copy_step hil]
theorem laws_toIntS.eq {k : Nat} (hk : BIG ≤ k) {v : List Int} (hv : v.length < 1048577) : laws_toIntS.f k v = some v := by
  refine (chk_t (and_t (dec_t (by omega)) (dec_t (by simp [room]; omega)))).trans ?_
  have := laws_toIntS.loop hk v (fun x => some x) hv v.length 0 k (by omega) (by simp [BIG] at hk; omega)
  simpa using this
/-! laws.toRules -/
theorem laws_toRules.eq {k : Nat} (hk : BIG ≤ k) {a0 : Int} {a1 : Int} {a2 : Bool} {a3 : Bool} {a4 : List Int} {a5 : List Int} {a6 : Int} {a7 : Int} (h0 : a4.length < 1048577) (h1 : a5.length < 1048577) : laws_toRules.f k a0 a1 a2 a3 a4 a5 a6 a7 = some (a0, a1, a2, a3, a4, a5, a6, a7) := by
  exact (bind_s (laws_toIntS.eq hk h0)).trans <| (bind_s (laws_toIntS.eq hk h1)).trans <| rfl
/-! laws.eqIntS -/
theorem laws_eqIntS.loop {R : Type} {k : Nat} (hk : BIG ≤ k) (v : List Int) (e0 e1 : Option R) (hv : v.length < 1048577) : ∀ (m i n : Nat), i + m = v.length → m < n → laws_eqIntS.l4 k v v e0 e1 n (i : Int) = e1 := by
  intro m
  induction m with
  | zero =>
    intro i n hi hn
    obtain ⟨n, rfl⟩ : ∃ n', n = n' + 1 := ⟨n - 1, by omega⟩
    refine (laws_eqIntS.l4_succ ..).trans ?_
    exact bif_f (dec_f (by omega))
  | succ m ih =>
    intro i n hi hn
    obtain ⟨n, rfl⟩ : ∃ n', n = n' + 1 := ⟨n - 1, by omega⟩
    have hil : i < v.length := by omega
    refine (laws_eqIntS.l4_succ ..).trans ?_
    refine (bif_t (dec_t (by omega))).trans ?_
    refine (chk_t (in_t hil)).trans ?_
    refine (chk_t (in_t hil)).trans ?_
    refine (bif_f (by simp)).trans ?_
    rw [wrap_up (by omega)]
    exact ih (i + 1) n (by omega) (by omega)
theorem laws_eqIntS.eq {k : Nat} (hk : BIG ≤ k) {v : List Int} (hv : v.length < 1048577) : laws_eqIntS.f k v v = some true := by
  refine (bif_f (by simp)).trans ?_
  exact laws_eqIntS.loop hk v _ _ hv v.length 0 k (by omega) (by simp [BIG] at hk; omega)
/-! laws.eqRules -/
theorem laws_eqRules.eq {k : Nat} (hk : BIG ≤ k) {a0 : Int} {a1 : Int} {a2 : Bool} {a3 : Bool} {a4 : List Int} {a5 : List Int} {a6 : Int} {a7 : Int} (h0 : a4.length < 1048577) (h1 : a5.length < 1048577) : laws_eqRules.f k a0 a1 a2 a3 a4 a5 a6 a7 a0 a1 a2 a3 a4 a5 a6 a7 = some true := by
  exact (bif_f (by simp)).trans <| (bif_f (by simp)).trans <| (bif_f (by simp)).trans <| (bif_f (by simp)).trans <| (bind_s (laws_eqIntS.eq hk h0)).trans <| (bif_f rfl).trans <| (bind_s (laws_eqIntS.eq hk h1)).trans <| (bif_f rfl).trans <| (bif_f (by simp)).trans <| (bif_f (by simp)).trans <| rfl
/-! laws.markIntS -/
theorem laws_markIntS.loop {R : Type} {k : Nat} (N : Nat) (m : Int) (e0 : Int → List Int → Option R) (hN : N < 1048577) (h0 : 0 ≤ m) (hm : m ≤ 2305843009213693952) : ∀ (r i n : Nat) (x : List Int), i + r = N → r < n → x.length = N → (∀ j, j < i → x[j]? = some (m + (j : Int))) → ∃ y, laws_markIntS.l2 k e0 n (m + (i : Int)) (i : Int) x = e0 (m + (N : Int)) y ∧ y.length = N ∧ ∀ j, j < N → y[j]? = some (m + (j : Int)) := by
  intro r
  induction r with
  | zero =>
    intro i n x hi hn hx hj
    obtain ⟨n, rfl⟩ : ∃ n', n = n' + 1 := ⟨n - 1, by omega⟩
    obtain rfl : i = N := by omega
    exact ⟨x, (laws_markIntS.l2_succ ..).trans (bif_f (dec_f (by omega))), hx, hj⟩
  | succ r ih =>
    intro i n x hi hn hx hj
    obtain ⟨n, rfl⟩ : ∃ n', n = n' + 1 := ⟨n - 1, by omega⟩
    have hil : i < x.length := by omega
    obtain ⟨y, g1, g2, g3⟩ := ih (i + 1) n (x.set i (m + (i : Int))) (by omega) (by omega) (by simpa using hx) (fun j hj' => by
      rw [List.getElem?_set]
      by_cases e : i = j
      · subst e; simp [hil]
      · rw [if_neg e]; exact hj j (by omega))
    refine ⟨y, ?_, g2, g3⟩
    refine (laws_markIntS.l2_succ ..).trans ((bif_t (dec_t (by omega))).trans ((chk_t (in_t hil)).trans ?_))
    rw [Int.toNat_natCast, wrap_up (by omega), wrap_i64 (by omega) (by omega), show m + (i : Int) + 1 = m + ((i + 1 : Nat) : Int) by omega]
    exact g1
theorem laws_markIntS.eq {k : Nat} (hk : BIG ≤ k) (v : List Int) (m : Int) (hv : v.length < 1048577) (h0 : 0 ≤ m) (hm : m ≤ 2305843009213693952) : ∃ m' w, laws_markIntS.f k v m = some (m', w) ∧ mkI w m m' := by
  obtain ⟨y, g1, g2, g3⟩ := laws_markIntS.loop (k := k) v.length m (fun x1 x2 => some (x1, x2)) hv h0 hm v.length 0 k v (by omega) (BIG_lt hk hv) rfl (fun j hj => by omega)
  refine ⟨m + (v.length : Int), y, ?_, ⟨by omega, by omega, fun j hj => g3 j (by omega)⟩⟩
  rw [show m + ((0 : Nat) : Int) = m by simp] at g1
  exact g1
/-! laws.markRules -/
theorem laws_markRules.eq {k : Nat} (hk : BIG ≤ k) (a0 : Int) (a1 : Int) (a2 : Bool) (a3 : Bool) (a4 : List Int) (a5 : List Int) (a6 : Int) (a7 : Int) (m : Int) (h0 : a4.length < 1048577) (h1 : a5.length < 1048577) (hm0 : 0 ≤ m) (hm : m ≤ 1152921504606846976) : ∃ m1 m2 a4' a5', laws_markRules.f k a0 a1 a2 a3 a4 a5 a6 a7 m = some (m2, a0, a1, a2, a3, a4', a5', a6, a7) ∧ mkI a4' m m1 ∧ mkI a5' m1 m2 := by
  obtain ⟨m1, a4', e0, q0⟩ := laws_markIntS.eq hk a4 m h0 (by omega) (by omega)
  have b0 := mkI_le q0
  obtain ⟨m2, a5', e1, q1⟩ := laws_markIntS.eq hk a5 m1 h1 (by omega) (by omega)
  have b1 := mkI_le q1
  exact ⟨m1, m2, a4', a5', (bind_s e0).trans <| (bind_s e1).trans <| rfl, q0, q1⟩
/-! laws.heldIntS -/
theorem laws_heldIntS.eq {k : Nat} (hk : BIG ≤ k) (w : List Int) (m m' : Int) (hw : mkI w m m') (h0 : 0 ≤ m) (hm : m ≤ 2305843009213693952) : laws_heldIntS.f k w m = some m' := by
  obtain ⟨hl, rfl, hj⟩ := hw
  have key : ∀ (r i n : Nat), i + r = w.length → r < n → laws_heldIntS.l2 k w (fun x1 => some (-1 : Int)) (fun x2 => some x2) n (m + (i : Int)) (i : Int) = some (m + (w.length : Int)) := by
    intro r
    induction r with
    | zero =>
      intro i n hi hn
      obtain ⟨n, rfl⟩ : ∃ n', n = n' + 1 := ⟨n - 1, by omega⟩
      obtain rfl : i = w.length := by omega
      exact (laws_heldIntS.l2_succ ..).trans (bif_f (dec_f (by omega)))
    | succ r ih =>
      intro i n hi hn
      obtain ⟨n, rfl⟩ : ∃ n', n = n' + 1 := ⟨n - 1, by omega⟩
      have hil : i < w.length := by omega
      refine (laws_heldIntS.l2_succ ..).trans ((bif_t (dec_t (by omega))).trans ((chk_t (in_t hil)).trans ?_))
      rw [Int.toNat_natCast, List.getD_eq_getElem?_getD, hj i hil]
      refine (bif_f (by simp)).trans ?_
      rw [wrap_up (by omega), wrap_i64 (by omega) (by omega), show m + (i : Int) + 1 = m + ((i + 1 : Nat) : Int) by omega]
      exact ih (i + 1) n (by omega) (by omega)
  have := key w.length 0 k (by omega) (BIG_lt hk hl)
  rw [show m + ((0 : Nat) : Int) = m by simp] at this
  exact this
end Go.Proofs.Ytfmmdbnkeadieab
