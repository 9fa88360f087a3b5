/- Sizes, copies, comparisons in plain Lean. Conditions: enough rounds, what the statement's guard lets pass. Printed by a program. -/
import Derived.Test.YtfmmdbnkeadieaaXFnExactRecordOut
import Derived.Test.YtfmmdbnkeadieaaKit
import Derived.Test.YtfmmdbnkeadieaaFFnExactOpenShare
set_option linter.unusedVariables false
set_option linter.unusedSimpArgs false
namespace Go.Proofs.Ytfmmdbnkeadieaa
open Go Go.Proofs.Ytfmmdbnkeadieaa.V
/-! laws.szPile -/
theorem laws_szPile.eq {k : Nat} (hk : BIG ≤ k) {a0 : List Int} {a1 : Int} {left : Int} (hl : left ≤ 1048576) (hl0 : 0 ≤ left) (h0 : a0.length ≤ maxLen) : ∃ r, laws_szPile.f k a0 a1 left = some r ∧ (r < 0 ∨ (0 ≤ r ∧ r ≤ 1048576 ∧ (a0.length < 1048577))) := by
  obtain ⟨r0, e0, c0⟩ := laws_szIntS.eq k hl hl0 h0
  rcases c0 with c0 | ⟨p0, q0, s0_0⟩
  · exact ⟨-1, (bind_s e0).trans (bif_t (dec_t c0)), .inl (by omega)⟩
  exact ⟨r0, (bind_s e0).trans <| (bif_f (dec_f (by omega))).trans <| rfl, .inr ⟨p0, q0, s0_0⟩⟩
/-! laws.szPileS -/
theorem laws_szPileS.loop {k : Nat} (hk : BIG ≤ k) (v : List (List Leaf)) {R : Type} (e0 e1 : Int → Option R) (hv : v.length < 1048577) (hv2 : ∀ y ∈ v, recWf [true, false] y) : ∀ (m i n : Nat) (left : Int), i + m = v.length → m < n → 0 ≤ left → left ≤ 1048576 → ∃ r, (laws_szPileS.l5 k v e0 e1 n left (i : Int) = e0 r ∧ r < 0) ∨ (laws_szPileS.l5 k v e0 e1 n left (i : Int) = e1 r ∧ 0 ≤ r ∧ r ≤ 1048576 ∧ ∀ y ∈ v.drop i, smRec y) := by
  intro m
  induction m with
  | zero =>
    intro i n left hi hn h0 h1
    obtain ⟨n, rfl⟩ : ∃ n', n = n' + 1 := ⟨n - 1, by omega⟩
    exact ⟨left, .inr ⟨(laws_szPileS.l5_succ ..).trans (bif_f (dec_f (by omega))), h0, h1, by rw [List.drop_eq_nil_of_le (by omega)]; simp⟩⟩
  | succ m ih =>
    intro i n left hi hn h0 h1
    obtain ⟨n, rfl⟩ : ∃ n', n = n' + 1 := ⟨n - 1, by omega⟩
    have hil : i < v.length := by omega
    have hm := hv2 _ (List.getElem_mem hil)
    obtain ⟨r, hr, hc⟩ := laws_szPile.eq hk h1 h0 (recWf_gl hm (j := 0) rfl)
    have step : laws_szPileS.l5 k v e0 e1 (n + 1) left (i : Int) = (bif decide (r < 0) then e0 r else laws_szPileS.l5 k v e0 e1 n r (IntKind.wrap .i64 ((i : Int) + 1))) := by
      refine (laws_szPileS.l5_succ ..).trans ?_
      refine (bif_t (dec_t (by omega))).trans ?_
      refine (chk_t (in_t hil)).trans ?_
      rw [Int.toNat_natCast, getD_lt _ hil]
      exact bind_s hr
    rcases hc with hc | ⟨hc, h2, hs⟩
    · exact ⟨r, .inl ⟨step.trans (bif_t (dec_t hc)), hc⟩⟩
    · rw [bif_f (dec_f (by omega)), wrap_up (by omega)] at step
      obtain ⟨r', hh⟩ := ih (i + 1) n r (by omega) (by omega) hc h2
      refine ⟨r', ?_⟩
      rw [step, drop_cons hil]
      rcases hh with hh | ⟨g1, g2, g3, g4⟩
      · exact .inl hh
      · refine .inr ⟨g1, g2, g3, fun y hy => ?_⟩
        rcases List.mem_cons.1 hy with rfl | hy
        · generalize v[i] = z at hm hs
          obtain ⟨z0, z_0, rfl, zw0, zh0⟩ := recWf_ints hm
          obtain ⟨z1, z_1, rfl, zw1, zh1⟩ := recWf_int zh0
          obtain rfl := recWf_nil zh1
          have s0 := hs
          exact smRec_cons s0 (smRec_cons trivial smRec_nil)
        · exact g4 y hy
theorem laws_szPileS.eq {k : Nat} (hk : BIG ≤ k) {v : List (List Leaf)} {left : Int} (hl : left ≤ 1048576) (hl0 : 0 ≤ left) (hv : v.length ≤ maxLen) (hv2 : ∀ y ∈ v, recWf [true, false] y) : ∃ r, laws_szPileS.f k v left = some r ∧ (r < 0 ∨ (0 ≤ r ∧ r ≤ 1048576 ∧ v.length < 1048577 ∧ ∀ y ∈ v, smRec y)) := by
  have hv : v.length ≤ 9223372036854775807 := hv
  unfold laws_szPileS.f
  rw [wrap_i64 (by omega) (by omega)]
  by_cases h : left - (v.length : Int) < 0
  · exact ⟨-1, bif_t (dec_t h), .inl (by omega)⟩
  · rw [bif_f (dec_f h)]
    obtain ⟨r, hr⟩ := laws_szPileS.loop hk v (fun x2 => some (-1 : Int)) (fun x3 => some x3) (by omega) hv2 v.length 0 k (left - (v.length : Int)) (by omega) (by simp [BIG] at hk; omega) (by omega) (by omega)
    rcases hr with ⟨g1, g2⟩ | ⟨g1, g2, g3, g4⟩
    · exact ⟨-1, g1, .inl (by omega)⟩
    · refine ⟨r, g1, .inr ⟨g2, g3, by omega, ?_⟩⟩
      rw [List.drop_zero] at g4; exact g4
/-! laws.szPatience -/
theorem laws_szPatience.eq {k : Nat} (hk : BIG ≤ k) {a0 : List (List Leaf)} {a1 : List Int} {a2 : List Int} {a3 : List Int} {left : Int} (hl : left ≤ 1048576) (hl0 : 0 ≤ left) (h0 : a0.length ≤ maxLen) (h1 : ∀ y ∈ a0, recWf [true, false] y) (h2 : a1.length ≤ maxLen) (h3 : a2.length ≤ maxLen) (h4 : a3.length ≤ maxLen) : ∃ r, laws_szPatience.f k a0 a1 a2 a3 left = some r ∧ (r < 0 ∨ (0 ≤ r ∧ r ≤ 1048576 ∧ (a0.length < 1048577) ∧ (∀ y ∈ a0, smRec y) ∧ (a1.length < 1048577) ∧ (a2.length < 1048577) ∧ (a3.length < 1048577))) := by
  obtain ⟨r0, e0, c0⟩ := laws_szPileS.eq hk hl hl0 h0 h1
  rcases c0 with c0 | ⟨p0, q0, s0_0, s0_1⟩
  · exact ⟨-1, (bind_s e0).trans (bif_t (dec_t c0)), .inl (by omega)⟩
  obtain ⟨r1, e1, c1⟩ := laws_szIntS.eq k q0 p0 h2
  rcases c1 with c1 | ⟨p1, q1, s1_0⟩
  · exact ⟨-1, (bind_s e0).trans <| (bif_f (dec_f (by omega))).trans <| (bind_s e1).trans (bif_t (dec_t c1)), .inl (by omega)⟩
  obtain ⟨r2, e2, c2⟩ := laws_szIntS.eq k q1 p1 h3
  rcases c2 with c2 | ⟨p2, q2, s2_0⟩
  · exact ⟨-1, (bind_s e0).trans <| (bif_f (dec_f (by omega))).trans <| (bind_s e1).trans <| (bif_f (dec_f (by omega))).trans <| (bind_s e2).trans (bif_t (dec_t c2)), .inl (by omega)⟩
  obtain ⟨r3, e3, c3⟩ := laws_szIntS.eq k q2 p2 h4
  rcases c3 with c3 | ⟨p3, q3, s3_0⟩
  · exact ⟨-1, (bind_s e0).trans <| (bif_f (dec_f (by omega))).trans <| (bind_s e1).trans <| (bif_f (dec_f (by omega))).trans <| (bind_s e2).trans <| (bif_f (dec_f (by omega))).trans <| (bind_s e3).trans (bif_t (dec_t c3)), .inl (by omega)⟩
  exact ⟨r3, (bind_s e0).trans <| (bif_f (dec_f (by omega))).trans <| (bind_s e1).trans <| (bif_f (dec_f (by omega))).trans <| (bind_s e2).trans <| (bif_f (dec_f (by omega))).trans <| (bind_s e3).trans <| (bif_f (dec_f (by omega))).trans <| rfl, .inr ⟨p3, q3, s0_0, s0_1, s1_0, s2_0, s3_0⟩⟩
/-! laws.toPile -/
theorem laws_toPile.eq {k : Nat} (hk : BIG ≤ k) {a0 : List Int} {a1 : Int} (h0 : a0.length < 1048577) : laws_toPile.f k a0 a1 = some (a0, a1) := by
  exact (bind_s (laws_toIntS.eq hk h0)).trans <| rfl
/-! laws.toPileS -/
theorem laws_toPileS.loop {R : Type} {k : Nat} (hk : BIG ≤ k) (v : List (List Leaf)) (e0 : List (List Leaf) → Option R) (hv : v.length < 1048577) (hv2 : ∀ y ∈ v, smRec y ∧ recWf [true, false] y) : ∀ (m i n : Nat), i + m = v.length → m < n → laws_toPileS.l3 k v e0 n (i : Int) (v.take i ++ List.replicate m ([true, false].map zeroLeaf)) = e0 v := by
  intro m
  induction m with
  | zero =>
    intro i n hi hn
    obtain ⟨n, rfl⟩ : ∃ n', n = n' + 1 := ⟨n - 1, by omega⟩
    refine (laws_toPileS.l3_succ ..).trans ?_
    refine (bif_f (dec_f (by omega))).trans ?_
    simp [show i = v.length by omega]
  | succ m ih =>
    intro i n hi hn
    obtain ⟨n, rfl⟩ : ∃ n', n = n' + 1 := ⟨n - 1, by omega⟩
    have hil : i < v.length := by omega
    refine (laws_toPileS.l3_succ ..).trans ?_
    refine (bif_t (dec_t (by omega))).trans ?_
    refine (chk_t (in_t hil)).trans ?_
    rw [Int.toNat_natCast, getD_lt _ hil]
    refine (bind_s (laws_toPile.eq hk (smRec_gl (hv2 _ (List.getElem_mem hil)).1 0))).trans ?_
    refine (chk_t (and_t (dec_t (by omega)) (dec_t (by simp; omega)))).trans ?_
    refine (bind_s rfl).trans ?_
    rw [wrap_up (by omega)]
    have hz : ([.ints (gl v[i] 0), .int (gi v[i] 1)] : List Leaf) = v[i] := by
      have hm := (hv2 _ (List.getElem_mem hil)).2
      generalize v[i] = z at hm
      obtain ⟨z0, z_0, rfl, zw0, zh0⟩ := recWf_ints hm
      obtain ⟨z1, z_1, rfl, zw1, zh1⟩ := recWf_int zh0
      obtain rfl := recWf_nil zh1
      rfl
    refine (congrArg (fun z => laws_toPileS.l3 k v e0 n ((i + 1 : Nat) : Int) ((v.take i ++ List.replicate (m + 1) ([true, false].map zeroLeaf)).set i z)) hz).trans ?_
    have := ih (i + 1) n (by omega) (by omega)
    rw [← this, copy_step hil]
theorem laws_toPileS.eq {k : Nat} (hk : BIG ≤ k) {v : List (List Leaf)} (hv : v.length < 1048577) (hv2 : ∀ y ∈ v, smRec y ∧ recWf [true, false] y) : laws_toPileS.f k v = some v := by
  refine (chk_t (and_t (dec_t (by omega)) (dec_t (by simp [room]; omega)))).trans ?_
  have := laws_toPileS.loop hk v (fun x => some x) hv hv2 v.length 0 k (by omega) (by simp [BIG] at hk; omega)
  simpa using this
/-! laws.toPatience -/
theorem laws_toPatience.eq {k : Nat} (hk : BIG ≤ k) {a0 : List (List Leaf)} {a1 : List Int} {a2 : List Int} {a3 : List Int} (h0 : a0.length < 1048577) (h1 : ∀ y ∈ a0, smRec y ∧ recWf [true, false] y) (h2 : a1.length < 1048577) (h3 : a2.length < 1048577) (h4 : a3.length < 1048577) : laws_toPatience.f k a0 a1 a2 a3 = some (a0, a1, a2, a3) := by
  exact (bind_s (laws_toPileS.eq hk h0 h1)).trans <| (bind_s (laws_toIntS.eq hk h2)).trans <| (bind_s (laws_toIntS.eq hk h3)).trans <| (bind_s (laws_toIntS.eq hk h4)).trans <| rfl
/-! laws.eqPile -/
theorem laws_eqPile.eq {k : Nat} (hk : BIG ≤ k) {a0 : List Int} {a1 : Int} (h0 : a0.length < 1048577) : laws_eqPile.f k a0 a1 a0 a1 = some true := by
  exact (bind_s (laws_eqIntS.eq hk h0)).trans <| (bif_f rfl).trans <| (bif_f (by simp)).trans <| rfl
/-! laws.eqPileS -/
theorem laws_eqPileS.loop {R : Type} {k : Nat} (hk : BIG ≤ k) (v : List (List Leaf)) (e0 e1 : Option R) (hv : v.length < 1048577) (hv2 : ∀ y ∈ v, smRec y) : ∀ (m i n : Nat), i + m = v.length → m < n → laws_eqPileS.l4 k v v e0 e1 n (i : Int) = e1 := by
  intro m
  induction m with
  | zero =>
    intro i n hi hn
    obtain ⟨n, rfl⟩ : ∃ n', n = n' + 1 := ⟨n - 1, by omega⟩
    refine (laws_eqPileS.l4_succ ..).trans ?_
    exact bif_f (dec_f (by omega))
  | succ m ih =>
    intro i n hi hn
    obtain ⟨n, rfl⟩ : ∃ n', n = n' + 1 := ⟨n - 1, by omega⟩
    have hil : i < v.length := by omega
    refine (laws_eqPileS.l4_succ ..).trans ?_
    refine (bif_t (dec_t (by omega))).trans ?_
    refine (chk_t (in_t hil)).trans ?_
    refine (chk_t (in_t hil)).trans ?_
    rw [Int.toNat_natCast, getD_lt _ hil]
    refine (bind_s (laws_eqPile.eq hk (smRec_gl (hv2 _ (List.getElem_mem hil)) 0))).trans ?_
    refine (bif_f rfl).trans ?_
    rw [wrap_up (by omega)]
    exact ih (i + 1) n (by omega) (by omega)
theorem laws_eqPileS.eq {k : Nat} (hk : BIG ≤ k) {v : List (List Leaf)} (hv : v.length < 1048577) (hv2 : ∀ y ∈ v, smRec y) : laws_eqPileS.f k v v = some true := by
  refine (bif_f (by simp)).trans ?_
  exact laws_eqPileS.loop hk v _ _ hv hv2 v.length 0 k (by omega) (by simp [BIG] at hk; omega)
/-! laws.eqPatience -/
theorem laws_eqPatience.eq {k : Nat} (hk : BIG ≤ k) {a0 : List (List Leaf)} {a1 : List Int} {a2 : List Int} {a3 : List Int} (h0 : a0.length < 1048577) (h1 : ∀ y ∈ a0, smRec y) (h2 : a1.length < 1048577) (h3 : a2.length < 1048577) (h4 : a3.length < 1048577) : laws_eqPatience.f k a0 a1 a2 a3 a0 a1 a2 a3 = some true := by
  exact (bind_s (laws_eqPileS.eq hk h0 h1)).trans <| (bif_f rfl).trans <| (bind_s (laws_eqIntS.eq hk h2)).trans <| (bif_f rfl).trans <| (bind_s (laws_eqIntS.eq hk h3)).trans <| (bif_f rfl).trans <| (bind_s (laws_eqIntS.eq hk h4)).trans <| (bif_f rfl).trans <| rfl
end Go.Proofs.Ytfmmdbnkeadieaa
