/- Sizes, copies, comparisons in plain Lean. Conditions: enough rounds, what the statement's guard lets pass. Printed by a program. -/
import Derived.Test.YtfmmdbnkeadieaaDoorXFnExactFormatSheet
import Derived.Test.YtfmmdbnkeadieaaDoorXFnExactFormatNumbers
import Derived.Test.YtfmmdbnkeadieaaDoorKit
import Derived.Test.YtfmmdbnkeadieaaDoorFFnExactFormatTable
set_option linter.unusedVariables false
set_option linter.unusedSimpArgs false
namespace Go.Proofs.YtfmmdbnkeadieaaDoor
open Go Go.Proofs.YtfmmdbnkeadieaaDoor.V
/-! laws.szRules -/
theorem laws_szRules.eq {k : Nat} (hk : BIG ≤ k) {a0 : Int} {a1 : Int} {a2 : Bool} {a3 : Bool} {a4 : List Int} {a5 : List Int} {a6 : Int} {a7 : Int} {left : Int} (hl : left ≤ 1048576) (hl0 : 0 ≤ left) (h0 : a4.length ≤ maxLen) (h1 : a5.length ≤ maxLen) : ∃ r, laws_szRules.f k a0 a1 a2 a3 a4 a5 a6 a7 left = some r ∧ (r < 0 ∨ (0 ≤ r ∧ r ≤ 1048576 ∧ (a4.length < 1048577) ∧ (a5.length < 1048577))) := by
  obtain ⟨r0, e0, c0⟩ := laws_szIntS.eq k hl hl0 h0
  rcases c0 with c0 | ⟨p0, q0, s0_0⟩
  · exact ⟨-1, (bind_s e0).trans (bif_t (dec_t c0)), .inl (by omega)⟩
  obtain ⟨r1, e1, c1⟩ := laws_szIntS.eq k q0 p0 h1
  rcases c1 with c1 | ⟨p1, q1, s1_0⟩
  · exact ⟨-1, (bind_s e0).trans <| (bif_f (dec_f (by omega))).trans <| (bind_s e1).trans (bif_t (dec_t c1)), .inl (by omega)⟩
  exact ⟨r1, (bind_s e0).trans <| (bif_f (dec_f (by omega))).trans <| (bind_s e1).trans <| (bif_f (dec_f (by omega))).trans <| rfl, .inr ⟨p1, q1, s0_0, s1_0⟩⟩
/-! laws.szGame -/
theorem laws_szGame.eq {k : Nat} (hk : BIG ≤ k) {a0 : Int} {a1 : Int} {a2 : Bool} {a3 : Bool} {a4 : List Int} {a5 : List Int} {a6 : Int} {a7 : Int} {a8 : List (List Int)} {a9 : List Int} {a10 : List Int} {a11 : Int} {a12 : Int} {a13 : Int} {left : Int} (hl : left ≤ 1048576) (hl0 : 0 ≤ left) (h0 : a4.length ≤ maxLen) (h1 : a5.length ≤ maxLen) (h2 : a8.length ≤ maxLen) (h3 : ∀ y ∈ a8, y.length ≤ maxLen) (h4 : a9.length ≤ maxLen) (h5 : a10.length ≤ maxLen) : ∃ r, laws_szGame.f k a0 a1 a2 a3 a4 a5 a6 a7 a8 a9 a10 a11 a12 a13 left = some r ∧ (r < 0 ∨ (0 ≤ r ∧ r ≤ 1048576 ∧ (a4.length < 1048577) ∧ (a5.length < 1048577) ∧ (a8.length < 1048577) ∧ (∀ y ∈ a8, y.length < 1048577) ∧ (a9.length < 1048577) ∧ (a10.length < 1048577))) := by
  obtain ⟨r0, e0, c0⟩ := laws_szRules.eq hk hl hl0 h0 h1
  rcases c0 with c0 | ⟨p0, q0, s0_0, s0_1⟩
  · exact ⟨-1, (bind_s e0).trans (bif_t (dec_t c0)), .inl (by omega)⟩
  obtain ⟨r1, e1, c1⟩ := laws_szIntSS.eq hk q0 p0 h2 h3
  rcases c1 with c1 | ⟨p1, q1, s1_0, s1_1⟩
  · exact ⟨-1, (bind_s e0).trans <| (bif_f (dec_f (by omega))).trans <| (bind_s e1).trans (bif_t (dec_t c1)), .inl (by omega)⟩
  obtain ⟨r2, e2, c2⟩ := laws_szIntS.eq k q1 p1 h4
  rcases c2 with c2 | ⟨p2, q2, s2_0⟩
  · exact ⟨-1, (bind_s e0).trans <| (bif_f (dec_f (by omega))).trans <| (bind_s e1).trans <| (bif_f (dec_f (by omega))).trans <| (bind_s e2).trans (bif_t (dec_t c2)), .inl (by omega)⟩
  obtain ⟨r3, e3, c3⟩ := laws_szIntS.eq k q2 p2 h5
  rcases c3 with c3 | ⟨p3, q3, s3_0⟩
  · exact ⟨-1, (bind_s e0).trans <| (bif_f (dec_f (by omega))).trans <| (bind_s e1).trans <| (bif_f (dec_f (by omega))).trans <| (bind_s e2).trans <| (bif_f (dec_f (by omega))).trans <| (bind_s e3).trans (bif_t (dec_t c3)), .inl (by omega)⟩
  exact ⟨r3, (bind_s e0).trans <| (bif_f (dec_f (by omega))).trans <| (bind_s e1).trans <| (bif_f (dec_f (by omega))).trans <| (bind_s e2).trans <| (bif_f (dec_f (by omega))).trans <| (bind_s e3).trans <| (bif_f (dec_f (by omega))).trans <| rfl, .inr ⟨p3, q3, s0_0, s0_1, s1_0, s1_1, s2_0, s3_0⟩⟩
/-! laws.szTable -/
theorem laws_szTable.eq {k : Nat} (hk : BIG ≤ k) {a0 : Int} {a1 : Int} {a2 : Bool} {a3 : Bool} {a4 : List Int} {a5 : List Int} {a6 : Int} {a7 : Int} {a8 : List Int} {a9 : Bool} {a10 : List Int} {a11 : Int} {a12 : Int} {a13 : Bool} {a14 : Bool} {a15 : List Int} {a16 : List Int} {a17 : Int} {a18 : Int} {a19 : List (List Int)} {a20 : List Int} {a21 : List Int} {a22 : Int} {a23 : Int} {a24 : Int} {a25 : List Int} {a26 : List (List Int)} {left : Int} (hl : left ≤ 1048576) (hl0 : 0 ≤ left) (h0 : a4.length ≤ maxLen) (h1 : a5.length ≤ maxLen) (h2 : a8.length ≤ maxLen) (h3 : a10.length ≤ maxLen) (h4 : a15.length ≤ maxLen) (h5 : a16.length ≤ maxLen) (h6 : a19.length ≤ maxLen) (h7 : ∀ y ∈ a19, y.length ≤ maxLen) (h8 : a20.length ≤ maxLen) (h9 : a21.length ≤ maxLen) (h10 : a25.length ≤ maxLen) (h11 : a26.length ≤ maxLen) (h12 : ∀ y ∈ a26, y.length ≤ maxLen) : ∃ r, laws_szTable.f k a0 a1 a2 a3 a4 a5 a6 a7 a8 a9 a10 a11 a12 a13 a14 a15 a16 a17 a18 a19 a20 a21 a22 a23 a24 a25 a26 left = some r ∧ (r < 0 ∨ (0 ≤ r ∧ r ≤ 1048576 ∧ (a4.length < 1048577) ∧ (a5.length < 1048577) ∧ (a8.length < 1048577) ∧ (a10.length < 1048577) ∧ (a15.length < 1048577) ∧ (a16.length < 1048577) ∧ (a19.length < 1048577) ∧ (∀ y ∈ a19, y.length < 1048577) ∧ (a20.length < 1048577) ∧ (a21.length < 1048577) ∧ (a25.length < 1048577) ∧ (a26.length < 1048577) ∧ (∀ y ∈ a26, y.length < 1048577))) := by
  obtain ⟨r0, e0, c0⟩ := laws_szRules.eq hk hl hl0 h0 h1
  rcases c0 with c0 | ⟨p0, q0, s0_0, s0_1⟩
  · exact ⟨-1, (bind_s e0).trans (bif_t (dec_t c0)), .inl (by omega)⟩
  obtain ⟨r1, e1, c1⟩ := laws_szIntS.eq k q0 p0 h2
  rcases c1 with c1 | ⟨p1, q1, s1_0⟩
  · exact ⟨-1, (bind_s e0).trans <| (bif_f (dec_f (by omega))).trans <| (bind_s e1).trans (bif_t (dec_t c1)), .inl (by omega)⟩
  obtain ⟨r2, e2, c2⟩ := laws_szIntS.eq k q1 p1 h3
  rcases c2 with c2 | ⟨p2, q2, s2_0⟩
  · exact ⟨-1, (bind_s e0).trans <| (bif_f (dec_f (by omega))).trans <| (bind_s e1).trans <| (bif_f (dec_f (by omega))).trans <| (bind_s e2).trans (bif_t (dec_t c2)), .inl (by omega)⟩
  obtain ⟨r3, e3, c3⟩ := laws_szGame.eq hk q2 p2 h4 h5 h6 h7 h8 h9
  rcases c3 with c3 | ⟨p3, q3, s3_0, s3_1, s3_2, s3_3, s3_4, s3_5⟩
  · exact ⟨-1, (bind_s e0).trans <| (bif_f (dec_f (by omega))).trans <| (bind_s e1).trans <| (bif_f (dec_f (by omega))).trans <| (bind_s e2).trans <| (bif_f (dec_f (by omega))).trans <| (bind_s e3).trans (bif_t (dec_t c3)), .inl (by omega)⟩
  obtain ⟨r4, e4, c4⟩ := laws_szIntS.eq k q3 p3 h10
  rcases c4 with c4 | ⟨p4, q4, s4_0⟩
  · exact ⟨-1, (bind_s e0).trans <| (bif_f (dec_f (by omega))).trans <| (bind_s e1).trans <| (bif_f (dec_f (by omega))).trans <| (bind_s e2).trans <| (bif_f (dec_f (by omega))).trans <| (bind_s e3).trans <| (bif_f (dec_f (by omega))).trans <| (bind_s e4).trans (bif_t (dec_t c4)), .inl (by omega)⟩
  obtain ⟨r5, e5, c5⟩ := laws_szIntSS.eq hk q4 p4 h11 h12
  rcases c5 with c5 | ⟨p5, q5, s5_0, s5_1⟩
  · exact ⟨-1, (bind_s e0).trans <| (bif_f (dec_f (by omega))).trans <| (bind_s e1).trans <| (bif_f (dec_f (by omega))).trans <| (bind_s e2).trans <| (bif_f (dec_f (by omega))).trans <| (bind_s e3).trans <| (bif_f (dec_f (by omega))).trans <| (bind_s e4).trans <| (bif_f (dec_f (by omega))).trans <| (bind_s e5).trans (bif_t (dec_t c5)), .inl (by omega)⟩
  exact ⟨r5, (bind_s e0).trans <| (bif_f (dec_f (by omega))).trans <| (bind_s e1).trans <| (bif_f (dec_f (by omega))).trans <| (bind_s e2).trans <| (bif_f (dec_f (by omega))).trans <| (bind_s e3).trans <| (bif_f (dec_f (by omega))).trans <| (bind_s e4).trans <| (bif_f (dec_f (by omega))).trans <| (bind_s e5).trans <| (bif_f (dec_f (by omega))).trans <| rfl, .inr ⟨p5, q5, s0_0, s0_1, s1_0, s2_0, s3_0, s3_1, s3_2, s3_3, s3_4, s3_5, s4_0, s5_0, s5_1⟩⟩
/-! laws.toRules -/
theorem laws_toRules.eq {k : Nat} (hk : BIG ≤ k) {a0 : Int} {a1 : Int} {a2 : Bool} {a3 : Bool} {a4 : List Int} {a5 : List Int} {a6 : Int} {a7 : Int} (h0 : a4.length < 1048577) (h1 : a5.length < 1048577) : laws_toRules.f k a0 a1 a2 a3 a4 a5 a6 a7 = some (a0, a1, a2, a3, a4, a5, a6, a7) := by
  exact (bind_s (laws_toIntS.eq hk h0)).trans <| (bind_s (laws_toIntS.eq hk h1)).trans <| rfl
/-! laws.toGame -/
theorem laws_toGame.eq {k : Nat} (hk : BIG ≤ k) {a0 : Int} {a1 : Int} {a2 : Bool} {a3 : Bool} {a4 : List Int} {a5 : List Int} {a6 : Int} {a7 : Int} {a8 : List (List Int)} {a9 : List Int} {a10 : List Int} {a11 : Int} {a12 : Int} {a13 : Int} (h0 : a4.length < 1048577) (h1 : a5.length < 1048577) (h2 : a8.length < 1048577) (h3 : ∀ y ∈ a8, y.length < 1048577) (h4 : a9.length < 1048577) (h5 : a10.length < 1048577) : laws_toGame.f k a0 a1 a2 a3 a4 a5 a6 a7 a8 a9 a10 a11 a12 a13 = some (a0, a1, a2, a3, a4, a5, a6, a7, a8, a9, a10, a11, a12, a13) := by
  exact (bind_s (laws_toRules.eq hk h0 h1)).trans <| (bind_s (laws_toIntSS.eq hk h2 h3)).trans <| (bind_s (laws_toIntS.eq hk h4)).trans <| (bind_s (laws_toIntS.eq hk h5)).trans <| rfl
/-! laws.toTable -/
theorem laws_toTable.eq {k : Nat} (hk : BIG ≤ k) {a0 : Int} {a1 : Int} {a2 : Bool} {a3 : Bool} {a4 : List Int} {a5 : List Int} {a6 : Int} {a7 : Int} {a8 : List Int} {a9 : Bool} {a10 : List Int} {a11 : Int} {a12 : Int} {a13 : Bool} {a14 : Bool} {a15 : List Int} {a16 : List Int} {a17 : Int} {a18 : Int} {a19 : List (List Int)} {a20 : List Int} {a21 : List Int} {a22 : Int} {a23 : Int} {a24 : Int} {a25 : List Int} {a26 : List (List Int)} (h0 : a4.length < 1048577) (h1 : a5.length < 1048577) (h2 : a8.length < 1048577) (h3 : a10.length < 1048577) (h4 : a15.length < 1048577) (h5 : a16.length < 1048577) (h6 : a19.length < 1048577) (h7 : ∀ y ∈ a19, y.length < 1048577) (h8 : a20.length < 1048577) (h9 : a21.length < 1048577) (h10 : a25.length < 1048577) (h11 : a26.length < 1048577) (h12 : ∀ y ∈ a26, y.length < 1048577) : laws_toTable.f k a0 a1 a2 a3 a4 a5 a6 a7 a8 a9 a10 a11 a12 a13 a14 a15 a16 a17 a18 a19 a20 a21 a22 a23 a24 a25 a26 = some (a0, a1, a2, a3, a4, a5, a6, a7, a8, a9, a10, a11, a12, a13, a14, a15, a16, a17, a18, a19, a20, a21, a22, a23, a24, a25, a26) := by
  exact (bind_s (laws_toRules.eq hk h0 h1)).trans <| (bind_s (laws_toIntS.eq hk h2)).trans <| (bind_s (laws_toIntS.eq hk h3)).trans <| (bind_s (laws_toGame.eq hk h4 h5 h6 h7 h8 h9)).trans <| (bind_s (laws_toIntS.eq hk h10)).trans <| (bind_s (laws_toIntSS.eq hk h11 h12)).trans <| rfl
/-! laws.eqRules -/
theorem laws_eqRules.eq {k : Nat} (hk : BIG ≤ k) {a0 : Int} {a1 : Int} {a2 : Bool} {a3 : Bool} {a4 : List Int} {a5 : List Int} {a6 : Int} {a7 : Int} (h0 : a4.length < 1048577) (h1 : a5.length < 1048577) : laws_eqRules.f k a0 a1 a2 a3 a4 a5 a6 a7 a0 a1 a2 a3 a4 a5 a6 a7 = some true := by
  exact (bif_f (by simp)).trans <| (bif_f (by simp)).trans <| (bif_f (by simp)).trans <| (bif_f (by simp)).trans <| (bind_s (laws_eqIntS.eq hk h0)).trans <| (bif_f rfl).trans <| (bind_s (laws_eqIntS.eq hk h1)).trans <| (bif_f rfl).trans <| (bif_f (by simp)).trans <| (bif_f (by simp)).trans <| rfl
/-! laws.eqGame -/
theorem laws_eqGame.eq {k : Nat} (hk : BIG ≤ k) {a0 : Int} {a1 : Int} {a2 : Bool} {a3 : Bool} {a4 : List Int} {a5 : List Int} {a6 : Int} {a7 : Int} {a8 : List (List Int)} {a9 : List Int} {a10 : List Int} {a11 : Int} {a12 : Int} {a13 : Int} (h0 : a4.length < 1048577) (h1 : a5.length < 1048577) (h2 : a8.length < 1048577) (h3 : ∀ y ∈ a8, y.length < 1048577) (h4 : a9.length < 1048577) (h5 : a10.length < 1048577) : laws_eqGame.f k a0 a1 a2 a3 a4 a5 a6 a7 a8 a9 a10 a11 a12 a13 a0 a1 a2 a3 a4 a5 a6 a7 a8 a9 a10 a11 a12 a13 = some true := by
  exact (bind_s (laws_eqRules.eq hk h0 h1)).trans <| (bif_f rfl).trans <| (bind_s (laws_eqIntSS.eq hk h2 h3)).trans <| (bif_f rfl).trans <| (bind_s (laws_eqIntS.eq hk h4)).trans <| (bif_f rfl).trans <| (bind_s (laws_eqIntS.eq hk h5)).trans <| (bif_f rfl).trans <| (bif_f (by simp)).trans <| (bif_f (by simp)).trans <| (bif_f (by simp)).trans <| rfl
/-! laws.eqTable -/
theorem laws_eqTable.eq {k : Nat} (hk : BIG ≤ k) {a0 : Int} {a1 : Int} {a2 : Bool} {a3 : Bool} {a4 : List Int} {a5 : List Int} {a6 : Int} {a7 : Int} {a8 : List Int} {a9 : Bool} {a10 : List Int} {a11 : Int} {a12 : Int} {a13 : Bool} {a14 : Bool} {a15 : List Int} {a16 : List Int} {a17 : Int} {a18 : Int} {a19 : List (List Int)} {a20 : List Int} {a21 : List Int} {a22 : Int} {a23 : Int} {a24 : Int} {a25 : List Int} {a26 : List (List Int)} (h0 : a4.length < 1048577) (h1 : a5.length < 1048577) (h2 : a8.length < 1048577) (h3 : a10.length < 1048577) (h4 : a15.length < 1048577) (h5 : a16.length < 1048577) (h6 : a19.length < 1048577) (h7 : ∀ y ∈ a19, y.length < 1048577) (h8 : a20.length < 1048577) (h9 : a21.length < 1048577) (h10 : a25.length < 1048577) (h11 : a26.length < 1048577) (h12 : ∀ y ∈ a26, y.length < 1048577) : laws_eqTable.f k a0 a1 a2 a3 a4 a5 a6 a7 a8 a9 a10 a11 a12 a13 a14 a15 a16 a17 a18 a19 a20 a21 a22 a23 a24 a25 a26 a0 a1 a2 a3 a4 a5 a6 a7 a8 a9 a10 a11 a12 a13 a14 a15 a16 a17 a18 a19 a20 a21 a22 a23 a24 a25 a26 = some true := by
  exact (bind_s (laws_eqRules.eq hk h0 h1)).trans <| (bif_f rfl).trans <| (bind_s (laws_eqIntS.eq hk h2)).trans <| (bif_f rfl).trans <| (bif_f (by simp)).trans <| (bind_s (laws_eqIntS.eq hk h3)).trans <| (bif_f rfl).trans <| (bind_s (laws_eqGame.eq hk h4 h5 h6 h7 h8 h9)).trans <| (bif_f rfl).trans <| (bind_s (laws_eqIntS.eq hk h10)).trans <| (bif_f rfl).trans <| (bind_s (laws_eqIntSS.eq hk h11 h12)).trans <| (bif_f rfl).trans <| rfl
end Go.Proofs.YtfmmdbnkeadieaaDoor
