/- Sizes, copies, comparisons in plain Lean. Conditions: enough rounds, what the statement's guard lets pass. Printed by a program. -/
import Derived.Test.YtfkejiljabmaaaaXFnExactAverageMoves
import Derived.Test.YtfkejiljabmaaaaKit
import Derived.Test.YtfkejiljabmaaaaFFnExactCountEvents
set_option linter.unusedVariables false
set_option linter.unusedSimpArgs false
namespace Go.Proofs.Ytfkejiljabmaaaa
open Go Go.Proofs.Ytfkejiljabmaaaa.V
/-! laws.szEvent -/
theorem laws_szEvent.eq {k : Nat} (hk : BIG ≤ k) {a0 : Int} {a1 : Int} {a2 : List Int} {a3 : List Int} {left : Int} (hl : left ≤ 1048576) (hl0 : 0 ≤ left) (h0 : a2.length ≤ maxLen) (h1 : a3.length ≤ maxLen) : ∃ r, laws_szEvent.f k a0 a1 a2 a3 left = some r ∧ (r < 0 ∨ (0 ≤ r ∧ r ≤ 1048576 ∧ (a2.length < 1048577) ∧ (a3.length < 1048577))) := by
  obtain ⟨r0, e0, c0⟩ := laws_szIntS.eq k hl hl0 h0
  rcases c0 with c0 | ⟨p0, q0, s0_0⟩
  · exact ⟨-1, (bind_s e0).trans (bif_t (dec_t c0)), .inl (by omega)⟩
  obtain ⟨r1, e1, c1⟩ := laws_szIntS.eq k q0 p0 h1
  rcases c1 with c1 | ⟨p1, q1, s1_0⟩
  · exact ⟨-1, (bind_s e0).trans <| (bif_f (dec_f (by omega))).trans <| (bind_s e1).trans (bif_t (dec_t c1)), .inl (by omega)⟩
  exact ⟨r1, (bind_s e0).trans <| (bif_f (dec_f (by omega))).trans <| (bind_s e1).trans <| (bif_f (dec_f (by omega))).trans <| rfl, .inr ⟨p1, q1, s0_0, s1_0⟩⟩
/-! laws.szEventS -/
theorem laws_szEventS.loop {k : Nat} (hk : BIG ≤ k) (v : List (List Leaf)) {R : Type} (e0 e1 : Int → Option R) (hv : v.length < 1048577) (hv2 : ∀ y ∈ v, recWf [false, false, true, true] y) : ∀ (m i n : Nat) (left : Int), i + m = v.length → m < n → 0 ≤ left → left ≤ 1048576 → ∃ r, (laws_szEventS.l5 k v e0 e1 n left (i : Int) = e0 r ∧ r < 0) ∨ (laws_szEventS.l5 k v e0 e1 n left (i : Int) = e1 r ∧ 0 ≤ r ∧ r ≤ 1048576 ∧ ∀ y ∈ v.drop i, smRec y) := by
  intro m
  induction m with
  | zero =>
    intro i n left hi hn h0 h1
    obtain ⟨n, rfl⟩ : ∃ n', n = n' + 1 := ⟨n - 1, by omega⟩
    exact ⟨left, .inr ⟨(laws_szEventS.l5_succ ..).trans (bif_f (dec_f (by omega))), h0, h1, by rw [List.drop_eq_nil_of_le (by omega)]; simp⟩⟩
  | succ m ih =>
    intro i n left hi hn h0 h1
    obtain ⟨n, rfl⟩ : ∃ n', n = n' + 1 := ⟨n - 1, by omega⟩
    have hil : i < v.length := by omega
    have hm := hv2 _ (List.getElem_mem hil)
    obtain ⟨r, hr, hc⟩ := laws_szEvent.eq hk h1 h0 (recWf_gl hm (j := 2) rfl) (recWf_gl hm (j := 3) rfl)
    have step : laws_szEventS.l5 k v e0 e1 (n + 1) left (i : Int) = (bif decide (r < 0) then e0 r else laws_szEventS.l5 k v e0 e1 n r (IntKind.wrap .i64 ((i : Int) + 1))) := by
      refine (laws_szEventS.l5_succ ..).trans ?_
      refine (bif_t (dec_t (by omega))).trans ?_
      refine (chk_t (in_t hil)).trans ?_
      rw [Int.toNat_natCast, getD_lt _ hil]
      exact bind_s hr
    rcases hc with hc | ⟨hc, h2, hs⟩
    · exact ⟨r, .inl ⟨step.trans (bif_t (dec_t hc)), hc⟩⟩
    · rw [bif_f (dec_f (by omega)), wrap_up (by omega)] at step
      obtain ⟨r', hh⟩ := ih (i + 1) n r (by omega) (by omega) hc h2
      refine ⟨r', ?_⟩
      rw [step, drop_cons hil]
      rcases hh with hh | ⟨g1, g2, g3, g4⟩
      · exact .inl hh
      · refine .inr ⟨g1, g2, g3, fun y hy => ?_⟩
        rcases List.mem_cons.1 hy with rfl | hy
        · generalize v[i] = z at hm hs
          obtain ⟨z0, z_0, rfl, zw0, zh0⟩ := recWf_int hm
          obtain ⟨z1, z_1, rfl, zw1, zh1⟩ := recWf_int zh0
          obtain ⟨z2, z_2, rfl, zw2, zh2⟩ := recWf_ints zh1
          obtain ⟨z3, z_3, rfl, zw3, zh3⟩ := recWf_ints zh2
          obtain rfl := recWf_nil zh3
          obtain ⟨s0, s1⟩ := hs
          exact smRec_cons trivial (smRec_cons trivial (smRec_cons s0 (smRec_cons s1 smRec_nil)))
        · exact g4 y hy
theorem laws_szEventS.eq {k : Nat} (hk : BIG ≤ k) {v : List (List Leaf)} {left : Int} (hl : left ≤ 1048576) (hl0 : 0 ≤ left) (hv : v.length ≤ maxLen) (hv2 : ∀ y ∈ v, recWf [false, false, true, true] y) : ∃ r, laws_szEventS.f k v left = some r ∧ (r < 0 ∨ (0 ≤ r ∧ r ≤ 1048576 ∧ v.length < 1048577 ∧ ∀ y ∈ v, smRec y)) := by
  have hv : v.length ≤ 9223372036854775807 := hv
  unfold laws_szEventS.f
  rw [wrap_i64 (by omega) (by omega)]
  by_cases h : left - (v.length : Int) < 0
  · exact ⟨-1, bif_t (dec_t h), .inl (by omega)⟩
  · rw [bif_f (dec_f h)]
    obtain ⟨r, hr⟩ := laws_szEventS.loop hk v (fun x2 => some (-1 : Int)) (fun x3 => some x3) (by omega) hv2 v.length 0 k (left - (v.length : Int)) (by omega) (by simp [BIG] at hk; omega) (by omega) (by omega)
    rcases hr with ⟨g1, g2⟩ | ⟨g1, g2, g3, g4⟩
    · exact ⟨-1, g1, .inl (by omega)⟩
    · refine ⟨r, g1, .inr ⟨g2, g3, by omega, ?_⟩⟩
      rw [List.drop_zero] at g4; exact g4
/-! laws.toEvent -/
theorem laws_toEvent.eq {k : Nat} (hk : BIG ≤ k) {a0 : Int} {a1 : Int} {a2 : List Int} {a3 : List Int} (h0 : a2.length < 1048577) (h1 : a3.length < 1048577) : laws_toEvent.f k a0 a1 a2 a3 = some (a0, a1, a2, a3) := by
  exact (bind_s (laws_toIntS.eq hk h0)).trans <| (bind_s (laws_toIntS.eq hk h1)).trans <| rfl
/-! laws.toEventS -/
theorem laws_toEventS.loop {R : Type} {k : Nat} (hk : BIG ≤ k) (v : List (List Leaf)) (e0 : List (List Leaf) → Option R) (hv : v.length < 1048577) (hv2 : ∀ y ∈ v, smRec y ∧ recWf [false, false, true, true] y) : ∀ (m i n : Nat), i + m = v.length → m < n → laws_toEventS.l3 k v e0 n (i : Int) (v.take i ++ List.replicate m ([false, false, true, true].map zeroLeaf)) = e0 v := by
  intro m
  induction m with
  | zero =>
    intro i n hi hn
    obtain ⟨n, rfl⟩ : ∃ n', n = n' + 1 := ⟨n - 1, by omega⟩
    refine (laws_toEventS.l3_succ ..).trans ?_
    refine (bif_f (dec_f (by omega))).trans ?_
    simp [show i = v.length by omega]
  | succ m ih =>
    intro i n hi hn
    obtain ⟨n, rfl⟩ : ∃ n', n = n' + 1 := ⟨n - 1, by omega⟩
    have hil : i < v.length := by omega
    refine (laws_toEventS.l3_succ ..).trans ?_
    refine (bif_t (dec_t (by omega))).trans ?_
    refine (chk_t (in_t hil)).trans ?_
    rw [Int.toNat_natCast, getD_lt _ hil]
    refine (bind_s (laws_toEvent.eq hk (smRec_gl (hv2 _ (List.getElem_mem hil)).1 2) (smRec_gl (hv2 _ (List.getElem_mem hil)).1 3))).trans ?_
    refine (chk_t (and_t (dec_t (by omega)) (dec_t (by simp; omega)))).trans ?_
    refine (bind_s rfl).trans ?_
    rw [wrap_up (by omega)]
    have hz : ([.int (gi v[i] 0), .int (gi v[i] 1), .ints (gl v[i] 2), .ints (gl v[i] 3)] : List Leaf) = v[i] := by
      have hm := (hv2 _ (List.getElem_mem hil)).2
      generalize v[i] = z at hm
      obtain ⟨z0, z_0, rfl, zw0, zh0⟩ := recWf_int hm
      obtain ⟨z1, z_1, rfl, zw1, zh1⟩ := recWf_int zh0
      obtain ⟨z2, z_2, rfl, zw2, zh2⟩ := recWf_ints zh1
      obtain ⟨z3, z_3, rfl, zw3, zh3⟩ := recWf_ints zh2
      obtain rfl := recWf_nil zh3
      rfl
    refine (congrArg (fun z => laws_toEventS.l3 k v e0 n ((i + 1 : Nat) : Int) ((v.take i ++ List.replicate (m + 1) ([false, false, true, true].map zeroLeaf)).set i z)) hz).trans ?_
    have := ih (i + 1) n (by omega) (by omega)
    rw [← this, copy_step hil]
theorem laws_toEventS.eq {k : Nat} (hk : BIG ≤ k) {v : List (List Leaf)} (hv : v.length < 1048577) (hv2 : ∀ y ∈ v, smRec y ∧ recWf [false, false, true, true] y) : laws_toEventS.f k v = some v := by
  refine (chk_t (and_t (dec_t (by omega)) (dec_t (by simp [room]; omega)))).trans ?_
  have := laws_toEventS.loop hk v (fun x => some x) hv hv2 v.length 0 k (by omega) (by simp [BIG] at hk; omega)
  simpa using this
/-! laws.eqEvent -/
theorem laws_eqEvent.eq {k : Nat} (hk : BIG ≤ k) {a0 : Int} {a1 : Int} {a2 : List Int} {a3 : List Int} (h0 : a2.length < 1048577) (h1 : a3.length < 1048577) : laws_eqEvent.f k a0 a1 a2 a3 a0 a1 a2 a3 = some true := by
  exact (bif_f (by simp)).trans <| (bif_f (by simp)).trans <| (bind_s (laws_eqIntS.eq hk h0)).trans <| (bif_f rfl).trans <| (bind_s (laws_eqIntS.eq hk h1)).trans <| (bif_f rfl).trans <| rfl
/-! laws.eqEventS -/
theorem laws_eqEventS.loop {R : Type} {k : Nat} (hk : BIG ≤ k) (v : List (List Leaf)) (e0 e1 : Option R) (hv : v.length < 1048577) (hv2 : ∀ y ∈ v, smRec y) : ∀ (m i n : Nat), i + m = v.length → m < n → laws_eqEventS.l4 k v v e0 e1 n (i : Int) = e1 := by
  intro m
  induction m with
  | zero =>
    intro i n hi hn
    obtain ⟨n, rfl⟩ : ∃ n', n = n' + 1 := ⟨n - 1, by omega⟩
    refine (laws_eqEventS.l4_succ ..).trans ?_
    exact bif_f (dec_f (by omega))
  | succ m ih =>
    intro i n hi hn
    obtain ⟨n, rfl⟩ : ∃ n', n = n' + 1 := ⟨n - 1, by omega⟩
    have hil : i < v.length := by omega
    refine (laws_eqEventS.l4_succ ..).trans ?_
    refine (bif_t (dec_t (by omega))).trans ?_
    refine (chk_t (in_t hil)).trans ?_
    refine (chk_t (in_t hil)).trans ?_
    rw [Int.toNat_natCast, getD_lt _ hil]
    refine (bind_s (laws_eqEvent.eq hk (smRec_gl (hv2 _ (List.getElem_mem hil)) 2) (smRec_gl (hv2 _ (List.getElem_mem hil)) 3))).trans ?_
    refine (bif_f rfl).trans ?_
    rw [wrap_up (by omega)]
    exact ih (i + 1) n (by omega) (by omega)
theorem laws_eqEventS.eq {k : Nat} (hk : BIG ≤ k) {v : List (List Leaf)} (hv : v.length < 1048577) (hv2 : ∀ y ∈ v, smRec y) : laws_eqEventS.f k v v = some true := by
  refine (bif_f (by simp)).trans ?_
  exact laws_eqEventS.loop hk v _ _ hv hv2 v.length 0 k (by omega) (by simp [BIG] at hk; omega)
end Go.Proofs.Ytfkejiljabmaaaa
