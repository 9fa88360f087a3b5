/- Sizes, copies, comparisons in plain Lean. Conditions: enough rounds, what the statement's guard lets pass. Printed by a program. -/
import Derived.Test.YtmdfedjdnjaaiaaGreatXFnExactMatchRound
import Derived.Test.YtmdfedjdnjaaiaaGreatKit
import Derived.Test.YtmdfedjdnjaaiaaGreatFFnExactMatchSheet
set_option linter.unusedVariables false
set_option linter.unusedSimpArgs false
namespace Go.Proofs.YtmdfedjdnjaaiaaGreat
open Go Go.Proofs.YtmdfedjdnjaaiaaGreat.V
/-! laws.eqIntSS -/
theorem laws_eqIntSS.loop {R : Type} {k : Nat} (hk : BIG ≤ k) (v : List (List Int)) (e0 e1 : Option R) (hv : v.length < 1048577) (hv2 : ∀ y ∈ v, y.length < 1048577) : ∀ (m i n : Nat), i + m = v.length → m < n → laws_eqIntSS.l4 k v v e0 e1 n (i : Int) = e1 := by
  intro m
  induction m with
  | zero =>
    intro i n hi hn
    obtain ⟨n, rfl⟩ : ∃ n', n = n' + 1 := ⟨n - 1, by omega⟩
    refine (laws_eqIntSS.l4_succ ..).trans ?_
    exact bif_f (dec_f (by omega))
  | succ m ih =>
    intro i n hi hn
    obtain ⟨n, rfl⟩ : ∃ n', n = n' + 1 := ⟨n - 1, by omega⟩
    have hil : i < v.length := by omega
    refine (laws_eqIntSS.l4_succ ..).trans ?_
    refine (bif_t (dec_t (by omega))).trans ?_
    refine (chk_t (in_t hil)).trans ?_
    refine (chk_t (in_t hil)).trans ?_
    rw [Int.toNat_natCast, getD_lt _ hil]
    refine (bind_s (laws_eqIntS.eq hk (hv2 _ (List.getElem_mem hil)))).trans ?_
    refine (bif_f rfl).trans ?_
    rw [wrap_up (by omega)]
    exact ih (i + 1) n (by omega) (by omega)
theorem laws_eqIntSS.eq {k : Nat} (hk : BIG ≤ k) {v : List (List Int)} (hv : v.length < 1048577) (hv2 : ∀ y ∈ v, y.length < 1048577) : laws_eqIntSS.f k v v = some true := by
  refine (bif_f (by simp)).trans ?_
  exact laws_eqIntSS.loop hk v _ _ hv hv2 v.length 0 k (by omega) (by simp [BIG] at hk; omega)
/-! laws.markIntSS -/
theorem laws_markIntSS.loop {R : Type} {k : Nat} (hk : BIG ≤ k) (N : Nat) (e0 : Int → List (List Int) → Option R) (hN : N < 1048577) : ∀ (r i n : Nat) (m : Int) (x : List (List Int)), i + r = N → r < n → x.length = N → (∀ j (h : j < x.length), i ≤ j → x[j].length < 1048577) → 0 ≤ m → m ≤ 1154047404513689600 + (i : Int) * 1048576 → ∃ m' y, laws_markIntSS.l2 k e0 n m (i : Int) x = e0 m' y ∧ y.length = N ∧ y.take i = x.take i ∧ mkIIs (y.drop i) m m' ∧ m ≤ m' ∧ m' ≤ m + (r : Int) * 1048576 := by
  intro r
  induction r with
  | zero =>
    intro i n m x hi hn hx hs h0 hm
    obtain ⟨n, rfl⟩ : ∃ n', n = n' + 1 := ⟨n - 1, by omega⟩
    exact ⟨m, x, (laws_markIntSS.l2_succ ..).trans (bif_f (dec_f (by omega))), hx, rfl, by rw [List.drop_eq_nil_of_le (by omega)]; exact rfl, by omega, by omega⟩
  | succ r ih =>
    intro i n m x hi hn hx hs h0 hm
    obtain ⟨n, rfl⟩ : ∃ n', n = n' + 1 := ⟨n - 1, by omega⟩
    have hil : i < x.length := by omega
    obtain ⟨q, w, e, hq⟩ := laws_markIntS.eq hk x[i] m (hs i hil (Nat.le_refl _)) h0 (by omega)
    have hb := mkI_le hq
    obtain ⟨m', y, g1, g2, g3, g4, g5, g6⟩ := ih (i + 1) n q (x.set i w) (by omega) (by omega) (by simpa using hx) (fun j hj hij => by
      rw [List.getElem_set_ne (by omega)]
      exact hs j (by simpa using hj) (by omega)) (by omega) (by omega)
    obtain ⟨k1, k2⟩ := drop_of_take (by omega) hil g3
    refine ⟨m', y, ?_, g2, k1, by rw [k2]; exact ⟨q, hq, g4⟩, by omega, by omega⟩
    refine (laws_markIntSS.l2_succ ..).trans ((bif_t (dec_t (by omega))).trans ((chk_t (in_t hil)).trans ?_))
    rw [Int.toNat_natCast, getD_lt _ hil]
    refine (chk_t (blt_t hil)).trans ((bind_s e).trans ?_)
    rw [wrap_up (by omega)]
    exact g1
theorem laws_markIntSS.eq {k : Nat} (hk : BIG ≤ k) (v : List (List Int)) (m : Int) (hv : v.length < 1048577) (hv2 : ∀ y ∈ v, y.length < 1048577) (h0 : 0 ≤ m) (hm : m ≤ 1154047404513689600) : ∃ m' w, laws_markIntSS.f k v m = some (m', w) ∧ mkII w m m' := by
  obtain ⟨m', y, g1, g2, g3, g4, g5, g6⟩ := laws_markIntSS.loop hk v.length (fun x2 x3 => some (x2, x3)) hv v.length 0 k m v (by omega) (BIG_lt hk hv) rfl (fun j hj _ => hv2 _ (List.getElem_mem hj)) h0 (by omega)
  exact ⟨m', y, g1, by omega, g5, by omega, by simpa using g4⟩
/-! laws.heldIntSS -/
theorem laws_heldIntSS.eq {k : Nat} (hk : BIG ≤ k) (w : List (List Int)) (m m' : Int) (hw : mkII w m m') (h0 : 0 ≤ m) (hm : m ≤ 1154047404513689600) : laws_heldIntSS.f k w m = some m' := by
  obtain ⟨hl, _, _, hj⟩ := hw
  have key : ∀ (r i n : Nat) (m : Int), i + r = w.length → r < n → mkIIs (w.drop i) m m' → 0 ≤ m → m ≤ 1154047404513689600 + (i : Int) * 1048576 → laws_heldIntSS.l2 k w (fun x1 => some (-1 : Int)) (fun x2 => some x2) n m (i : Int) = some m' := by
    intro r
    induction r with
    | zero =>
      intro i n m hi hn hj h0 hm
      obtain ⟨n, rfl⟩ : ∃ n', n = n' + 1 := ⟨n - 1, by omega⟩
      rw [List.drop_eq_nil_of_le (by omega)] at hj
      have hj : m' = m := hj
      subst hj
      exact (laws_heldIntSS.l2_succ ..).trans (bif_f (dec_f (by omega)))
    | succ r ih =>
      intro i n m hi hn hj h0 hm
      obtain ⟨n, rfl⟩ : ∃ n', n = n' + 1 := ⟨n - 1, by omega⟩
      have hil : i < w.length := by omega
      rw [drop_cons hil] at hj
      obtain ⟨q, hq, hj⟩ := hj
      have hb := mkI_le hq
      refine (laws_heldIntSS.l2_succ ..).trans ((bif_t (dec_t (by omega))).trans ((chk_t (in_t hil)).trans ?_))
      rw [Int.toNat_natCast, getD_lt _ hil]
      refine (bind_s (laws_heldIntS.eq hk _ _ _ hq h0 (by omega))).trans ((bif_f (dec_f (by omega))).trans ?_)
      rw [wrap_up (by omega)]
      exact ih (i + 1) n q (by omega) (by omega) hj (by omega) (by omega)
  exact key w.length 0 k m (by omega) (BIG_lt hk hl) (by simpa using hj) h0 (by omega)
end Go.Proofs.YtmdfedjdnjaaiaaGreat
