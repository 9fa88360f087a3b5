/- Draws, in plain Lean: that they answer, and what is sure of their answers. Conditions: enough rounds, a code of at most 2^20 bytes. -/
import Derived.Test.YtfbafmeeejmgoaaGreatKit
import Derived.Test.YtfbafmeeejmgoaaGreatFFnMeasured
import Derived.Test.YtfbafmeeejmgoaaGreatPDeck
import Derived.Test.YtfbafmeeejmgoaaGreatPDealt
set_option linter.unusedVariables false
set_option linter.unusedSimpArgs false
namespace Go.Proofs.YtfbafmeeejmgoaaGreat
open Go Go.Proofs.YtfbafmeeejmgoaaGreat.V
/-- A cursor that stands within. -/
structure Cur (b : List Int) (i : Int) : Prop where
  len : b.length < 1048577
  at0 : 0 ≤ i
theorem and255 (a : Int) : 0 ≤ ibits .and .i64 a 255 ∧ ibits .and .i64 a 255 ≤ 255 := by
  have e : (BitVec.ofInt 64 a &&& BitVec.ofInt 64 255).toNat ≤ 255 := by
    rw [BitVec.toNat_and]
    exact Nat.and_le_right
  show 0 ≤ IntKind.wrap .i64 (((BitVec.ofInt 64 a &&& BitVec.ofInt 64 255).toNat : Nat) : Int) ∧ IntKind.wrap .i64 (((BitVec.ofInt 64 a &&& BitVec.ofInt 64 255).toNat : Nat) : Int) ≤ 255
  rw [wrap_i64 (by omega) (by omega)]
  omega
theorem spec_l1Byte.ok (k : Nat) {b : List Int} {i : Int} (h : Int) (hc : Cur b i) : ∃ x i' h', spec_l1Byte.f k b i h = some (x, b, i', h') ∧ Cur b i' ∧ 0 ≤ x ∧ x ≤ 255 := by
  have h1 := hc.len
  have h2 := hc.at0
  by_cases hi : i < (b.length : Int)
  · refine ⟨_, _, _, (bif_t (dec_t hi)).trans ((chk_t (and_t (dec_t h2) (dec_t hi))).trans rfl), ⟨h1, ?_⟩, and255 _⟩
    rw [wrap_i64 (by omega) (by omega)]; omega
  · exact ⟨_, _, _, (bif_f (dec_f hi)).trans rfl, hc, and255 _⟩
theorem tmodN_bd {x n : Int} (h0 : 0 ≤ x) (hn : 0 < n) : 0 ≤ x.tmod n ∧ x.tmod n < n := by
  rw [Int.tmod_eq_emod_of_nonneg h0]
  exact ⟨Int.emod_nonneg _ (by omega), Int.emod_lt_of_pos _ hn⟩
theorem spec_l1Below.ok (k : Nat) {b : List Int} {i : Int} (h n : Int) (hc : Cur b i) : ∃ x i' h', spec_l1Below.f k b i h n = some (x, b, i', h') ∧ Cur b i' ∧ 0 ≤ x ∧ (0 < n → x < n) ∧ (n ≤ 0 → x = 0) := by
  by_cases h0 : n ≤ 0
  · exact ⟨0, i, h, (bif_t (dec_t h0)).trans rfl, hc, by omega, by omega, fun _ => rfl⟩
  · have hn : (!decide (n = 0)) = true := by rw [dec_f (by omega)]; rfl
    by_cases h1 : n ≤ 256
    · obtain ⟨x, i', h', e, c1, p1, p2⟩ := spec_l1Byte.ok k h hc
      have hb := tmodN_bd p1 (n := n) (by omega)
      exact ⟨_, _, _, (bif_f (dec_f h0)).trans ((bif_t (dec_t h1)).trans ((bind_s e).trans (chk_t hn))), c1, hb.1, fun _ => hb.2, by omega⟩
    · obtain ⟨x, i', h', e, c1, p1, p2⟩ := spec_l1Byte.ok k h hc
      obtain ⟨y, i2, h2, e2, c2, q1, q2⟩ := spec_l1Byte.ok k h' c1
      obtain ⟨z, i3, h3, e3, c3, r1, r2⟩ := spec_l1Byte.ok k h2 c2
      refine ⟨_, _, _, (bif_f (dec_f h0)).trans ((bif_f (dec_f h1)).trans ((bind_s e).trans ((bind_s e2).trans ((bind_s e3).trans (chk_t hn))))), c3, ?_⟩
      rw [wrap_i64 (n := x * 65536) (by omega) (by omega), wrap_i64 (n := y * 256) (by omega) (by omega), wrap_i64 (n := x * 65536 + y * 256) (by omega) (by omega), wrap_i64 (by omega) (by omega)]
      have hb := tmodN_bd (x := x * 65536 + y * 256 + z) (n := n) (by omega) (by omega)
      exact ⟨hb.1, fun _ => hb.2, by omega⟩
theorem spec_l1Once.ok (k : Nat) {b : List Int} {i : Int} (h n : Int) (hc : Cur b i) : ∃ x i' h', spec_l1Once.f k b i h n = some (x, b, i', h') ∧ Cur b i' := by
  obtain ⟨x, i', h', e, c1, _⟩ := spec_l1Below.ok k h n hc
  exact ⟨_, _, _, bind_s e, c1⟩
theorem spec_l1Int.ok (k : Nat) {b : List Int} {i : Int} (h : Int) {l : List Int} (hl : 0 < l.length) (hc : Cur b i) : ∃ x i' h', spec_l1Int.f k b i h l = some (x, b, i', h') ∧ Cur b i' ∧ x ∈ l := by
  obtain ⟨x, i', h', e, c1, p1, p2, _⟩ := spec_l1Below.ok k h (l.length : Int) hc
  have p2 := p2 (by omega)
  exact ⟨_, _, _, (bind_s e).trans (chk_t (and_t (dec_t p1) (dec_t p2))), c1, getD_mem 0 (by omega)⟩
theorem spec_l1New.ok {k : Nat} (hk : BIG ≤ k) {a : List Int} (ha : a.length < 1048577) : ∃ h, spec_l1New.f k a = some (a, 0, h) ∧ Cur a 0 := by
  have key : ∀ (e0 : Int → Option (List Int × Int × Int)) (m i n : Nat) (h : Int), i + m = a.length → m < n → ∃ h', spec_l1New.l3 k a e0 n h (i : Int) = e0 h' := by
    intro e0 m
    induction m with
    | zero =>
      intro i n h hi hn
      obtain ⟨n, rfl⟩ : ∃ n', n = n' + 1 := ⟨n - 1, by omega⟩
      exact ⟨h, (spec_l1New.l3_succ ..).trans (bif_f (dec_f (by omega)))⟩
    | succ m ih =>
      intro i n h hi hn
      obtain ⟨n, rfl⟩ : ∃ n', n = n' + 1 := ⟨n - 1, by omega⟩
      by_cases h4 : (i : Int) < 4000
      · obtain ⟨h', e⟩ := ih (i + 1) n _ (by omega) (by omega)
        refine ⟨h', (spec_l1New.l3_succ ..).trans ((bif_t (dec_t (by omega))).trans ((bif_t (dec_t h4)).trans ((chk_t (in_t (by omega))).trans ?_)))⟩
        rw [wrap_up (by omega)]; exact e
      · exact ⟨h, (spec_l1New.l3_succ ..).trans ((bif_t (dec_t (by omega))).trans (bif_f (dec_f h4)))⟩
  obtain ⟨h, e⟩ := key _ a.length 0 k _ (by omega) (BIG_lt hk ha)
  exact ⟨h, e, ha, by omega⟩
theorem spec_l4Card.ok (k : Nat) {b : List Int} {i : Int} (h : Int) (hc : Cur b i) : ∃ x i' h', spec_l4Card.f k b i h = some (x, b, i', h') ∧ Cur b i' := by
  obtain ⟨x, i1, h1, e1, c1, _⟩ := spec_l1Below.ok k h 52 hc
  obtain ⟨y, i2, h2, e2, c2, _⟩ := spec_l1Below.ok k h1 52 c1
  obtain ⟨z, i3, h3, e3, c3, _⟩ := spec_l1Below.ok k h2 52 c2
  obtain ⟨u, i4, h4, e4, c4, _⟩ := spec_l1Int.ok k h3 (l := [x, y, z, 0, 51, 52, (-1), 9223372036854775807]) (by simp) c3
  exact ⟨_, _, _, (bind_s e1).trans ((bind_s e2).trans ((bind_s e3).trans (bind_s e4))), c4⟩
theorem spec_l8Leaves.ok (k : Nat) {b : List Int} {i : Int} (h : Int) (hc : Cur b i) : ∃ x i' h', spec_l8Leaves.f k b i h = some (x, b, i', h') ∧ Cur b i' ∧ (100 ≤ x ∧ x ≤ 103 ∨ 200 ≤ x ∧ x ≤ 212 ∨ 300 ≤ x ∧ x ≤ 312 ∨ x = 400) := by
  obtain ⟨x, i1, h1, e1, c1, x1, x2, _⟩ := spec_l1Below.ok k h 4 hc
  obtain ⟨y, i2, h2, e2, c2, y1, y2, _⟩ := spec_l1Below.ok k h1 13 c1
  obtain ⟨z, i3, h3, e3, c3, z1, z2, _⟩ := spec_l1Below.ok k h2 13 c2
  have x2 := x2 (by omega)
  have y2 := y2 (by omega)
  have z2 := z2 (by omega)
  obtain ⟨u, i4, h4, e4, c4, u1⟩ := spec_l1Int.ok k h3 (l := [IntKind.wrap .i64 (100 + x), IntKind.wrap .i64 (200 + y), IntKind.wrap .i64 (300 + z), 400]) (by simp) c3
  refine ⟨_, _, _, (bind_s e1).trans ((bind_s e2).trans ((bind_s e3).trans (bind_s e4))), c4, ?_⟩
  rw [wrap_i64 (n := 100 + x) (by omega) (by omega), wrap_i64 (n := 200 + y) (by omega) (by omega), wrap_i64 (n := 300 + z) (by omega) (by omega)] at u1
  simp only [List.mem_cons, List.not_mem_nil, or_false] at u1
  show 100 ≤ u ∧ u ≤ 103 ∨ _
  omega
/-- A text that is one test. -/
def pat1 (x : List Int) : Prop := ∀ (l : List Int) (e : Int), 0 ≤ e → okPat (x ++ l) e = okPat l (e + 1)
theorem pat1_leaf {x : Int} (h : leafB x = true) : pat1 [x] := fun l e he => by
  show (patOK e x && okPat l (patD e x)) = _
  unfold patOK patD
  rw [h]; rfl
theorem pat1_not {x : List Int} (h : pat1 x) : pat1 (x ++ [-1]) := fun l e he => by
  rw [List.append_assoc, h _ _ he]
  show (patOK (e + 1) (-1) && okPat l (patD (e + 1) (-1))) = _
  have e1 : patOK (e + 1) (-1) = true := by unfold patOK; rw [dec_t (show (1 : Int) ≤ e + 1 by omega)]; rfl
  rw [e1]; rfl
theorem pat1_two {x y : List Int} {z : Int} (hx : pat1 x) (hy : pat1 y) (hz : z = -2 ∨ z = -3) : pat1 ((x ++ y) ++ [z]) := fun l e he => by
  rw [List.append_assoc, List.append_assoc, hx _ _ he, hy _ _ (by omega)]
  show (patOK (e + 1 + 1) z && okPat l (patD (e + 1 + 1) z)) = _
  have e1 : patOK (e + 1 + 1) z = true ∧ patD (e + 1 + 1) z = e + 1 := by
    rcases hz with rfl | rfl
    · unfold patOK patD; rw [dec_t (show (2 : Int) ≤ e + 1 + 1 by omega)]; exact ⟨rfl, show e + 1 + 1 - 1 = e + 1 by omega⟩
    · unfold patOK patD; rw [dec_t (show (2 : Int) ≤ e + 1 + 1 by omega)]; exact ⟨rfl, show e + 1 + 1 - 1 = e + 1 by omega⟩
  rw [e1.1, e1.2]; rfl
theorem pat1_ok {x : List Int} (h : pat1 x) (hl : x.length ≤ 20) : isPattern x = true := by
  have := h [] 0 (by omega)
  rw [List.append_nil] at this
  unfold isPattern
  rw [this, dec_t (by omega)]; rfl
theorem leaf_of {x : Int} (h : 100 ≤ x ∧ x ≤ 103 ∨ 200 ≤ x ∧ x ≤ 212 ∨ 300 ≤ x ∧ x ≤ 312 ∨ x = 400) : leafB x = true := by
  unfold leafB
  rcases h with h | h | h | h
  · rw [inR_iff.2 h]; rfl
  · rw [inR_iff.2 h]; simp
  · rw [inR_iff.2 h]; simp
  · rw [h]; simp
/-- A drawn pattern: its length by its depth. -/
theorem spec_l8Draw.ok (k : Nat) : ∀ (d n : Nat) {b : List Int} {i : Int} (h : Int), Cur b i → d < n → d ≤ 20 → ∃ x i' h', spec_l8Draw.g k n b i h (d : Int) = some (x, b, i', h') ∧ Cur b i' ∧ 0 < x.length ∧ x.length + 1 ≤ 2 ^ (d + 1) ∧ pat1 x
  | d, 0, b, i, h, _, hn, _ => absurd hn (by omega)
  | 0, n + 1, b, i, h, hc, _, _ => by
    obtain ⟨x, i1, h1, e1, c1, q⟩ := spec_l8Leaves.ok k h hc
    exact ⟨[x], i1, h1, show (spec_l8Leaves.f k b i h).bind (fun r1 => some ([r1.1], r1.2.1, (t2 r1).1, (t3 r1))) = some ([x], b, i1, h1) from bind_s e1, c1, by simp, by simp, pat1_leaf (leaf_of q)⟩
  | d + 1, n + 1, b, i, h, hc, hn, hd => by
    have hp : (2 : Nat) ^ (d + 1) ≤ 2097152 := by
      have := Nat.pow_le_pow_right (n := 2) (by omega) (show d + 1 ≤ 21 by omega)
      simpa using this
    have hp2 : (2 : Nat) ^ (d + 1 + 1) = 2 * 2 ^ (d + 1) := by rw [Nat.pow_succ]; omega
    have hp1 : 1 ≤ (2 : Nat) ^ d := Nat.one_le_two_pow
    have hp3 : (2 : Nat) ^ (d + 1) = 2 * 2 ^ d := by rw [Nat.pow_succ]; omega
    have ew : IntKind.wrap .i64 (((d + 1 : Nat) : Int) - 1) = (d : Int) := by rw [wrap_i64 (by omega) (by omega)]; omega
    obtain ⟨t, i1, h1, e1, c1⟩ := spec_l1Once.ok k h 4 hc
    have h0 : (((d + 1 : Nat) : Int) == 0) = false := by simp; omega
    have step : spec_l8Draw.g k (n + 1) b i h ((d + 1 : Nat) : Int) = (spec_l1Once.f k b i h 4).bind fun r2 =>
      bif r2.1 then
       (spec_l8Leaves.f k r2.2.1 (t2 r2).1 (t3 r2)).bind fun r3 =>
       some ([r3.1], r3.2.1, (t2 r3).1, (t3 r3))
      else
       (spec_l1Once.f k r2.2.1 (t2 r2).1 (t3 r2) 4).bind fun r4 =>
       bif r4.1 then
        (spec_l8Draw.g k n r4.2.1 (t2 r4).1 (t3 r4) (IntKind.wrap .i64 (((d + 1 : Nat) : Int) - 1))).bind fun r5 =>
        chk (decide ((r5.1.length + 1) * 8 ≤ room)) <|
        some (r5.1 ++ [(-1)], r5.2.1, (t2 r5).1, (t3 r5))
       else
        (spec_l8Draw.g k n r4.2.1 (t2 r4).1 (t3 r4) (IntKind.wrap .i64 (((d + 1 : Nat) : Int) - 1))).bind fun r6 =>
        (spec_l8Draw.g k n r6.2.1 (t2 r6).1 (t3 r6) (IntKind.wrap .i64 (((d + 1 : Nat) : Int) - 1))).bind fun r7 =>
        chk (decide ((r6.1.length + r7.1.length) * 8 ≤ room)) <|
        (spec_l1Below.f k r7.2.1 (t2 r7).1 (t3 r7) 2).bind fun r8 =>
        chk (decide ((((r6.1 ++ r7.1).length) + 1) * 8 ≤ room)) <|
        some ((r6.1 ++ r7.1) ++ [IntKind.wrap .i64 ((-2) - r8.1)], r8.2.1, (t2 r8).1, (t3 r8)) := by
      show spec_l8Draw.b k (spec_l8Draw.g k n) b i h _ = _
      unfold spec_l8Draw.b
      rw [h0]; rfl
    rw [ew] at step
    rw [step]
    clear step
    cases t with
    | true =>
      obtain ⟨x, i2, h2, e2, c2, q⟩ := spec_l8Leaves.ok k h1 c1
      exact ⟨[x], i2, h2, (bind_s e1).trans ((bif_t rfl).trans (bind_s e2)), c2, by simp, by rw [hp2]; simp; omega, pat1_leaf (leaf_of q)⟩
    | false =>
      obtain ⟨t2, i2, h2, e2, c2⟩ := spec_l1Once.ok k h1 4 c1
      obtain ⟨x, i3, h3, e3, c3, l1, l2, q1⟩ := spec_l8Draw.ok k d n h2 c2 (by omega) (by omega)
      cases t2 with
      | true =>
        refine ⟨x ++ [-1], i3, h3, (bind_s e1).trans ((bif_f rfl).trans ((bind_s e2).trans ((bif_t rfl).trans ?_))), c3, by simp, by rw [List.length_append, hp2]; simp; omega, pat1_not q1⟩
        exact (bind_s e3).trans (chk_t (rm8 (show x.length + 1 ≤ 17592186044416 by omega)))
      | false =>
        obtain ⟨y, i4, h4, e4, c4, m1, m2, q2⟩ := spec_l8Draw.ok k d n h3 c3 (by omega) (by omega)
        obtain ⟨z, i5, h5, e5, c5, z1, z2, _⟩ := spec_l1Below.ok k h4 2 c4
        have z2 := z2 (by omega)
        have ez : IntKind.wrap .i64 ((-2) - z) = -2 - z := wrap_i64 (by omega) (by omega)
        refine ⟨(x ++ y) ++ [IntKind.wrap .i64 ((-2) - z)], i5, h5, (bind_s e1).trans ((bif_f rfl).trans ((bind_s e2).trans ((bif_f rfl).trans ?_))), c5, by rw [List.length_append, List.length_singleton]; omega, by rw [List.length_append, List.length_append, hp2, List.length_singleton]; omega, ?_⟩
        · exact (bind_s e3).trans ((bind_s e4).trans ((chk_t (rm8 (show x.length + y.length ≤ 17592186044416 by omega))).trans ((bind_s e5).trans (chk_t (rm8 (show (x ++ y).length + 1 ≤ 17592186044416 by rw [List.length_append]; omega))))))
        · rw [ez]; exact pat1_two q1 q2 (by omega)
theorem spec_l8Draw.two {k : Nat} (hk : BIG ≤ k) {d : Nat} (hd : d ≤ 2) {b : List Int} {i : Int} (h : Int) (hc : Cur b i) : ∃ x i' h', spec_l8Draw.f k b i h (d : Int) = some (x, b, i', h') ∧ Cur b i' ∧ 0 < x.length ∧ x.length ≤ 7 ∧ isPattern x = true := by
  obtain ⟨x, i', h', e, c, l1, l2, q⟩ := spec_l8Draw.ok k d k h hc (by simp [BIG] at hk; omega) (by omega)
  have : (2 : Nat) ^ (d + 1) ≤ 8 := by
    have := Nat.pow_le_pow_right (n := 2) (by omega) (show d + 1 ≤ 3 by omega)
    simpa using this
  exact ⟨x, i', h', e, c, l1, by omega, pat1_ok q (by omega)⟩
theorem maybePat_nil : maybePat [] = true := rfl
theorem maybePat_of {x : List Int} (h : isPattern x = true) : maybePat x = true := by unfold maybePat; rw [h, Bool.or_true]
/-- Drawn rules are rules. -/
theorem spec_l22Draw.ok {k : Nat} (hk : BIG ≤ k) {b : List Int} {i : Int} (h : Int) (hc : Cur b i) : ∃ (r : Rl) (i' h' : Int), spec_l22Draw.f k b i h = some (r.n, r.e, r.b1, r.b2, r.w, r.f, r.t, r.l, b, i', h') ∧ Cur b i' ∧ r.ok = true ∧ r.w.length ≤ 7 ∧ r.f.length ≤ 7 := by
  obtain ⟨x1, i1, h1, e1, c1, p1, q1, _⟩ := spec_l1Below.ok k h 4 hc
  obtain ⟨x2, i2, h2, e2, c2, p2, q2, _⟩ := spec_l1Below.ok k h1 6 c1
  obtain ⟨x3, i3, h3, e3, c3⟩ := spec_l1Once.ok k h2 2 c2
  obtain ⟨x4, i4, h4, e4, c4, p4, q4, _⟩ := spec_l1Below.ok k h3 2 c3
  obtain ⟨x5, i5, h5, e5, c5, p5, q5, _⟩ := spec_l1Below.ok k h4 60 c4
  obtain ⟨x6, i6, h6, e6, c6⟩ := spec_l1Once.ok k h5 2 c5
  have q1 := q1 (by omega)
  have q2 := q2 (by omega)
  have q4 := q4 (by omega)
  have q5 := q5 (by omega)
  have w1 : IntKind.wrap .i64 (2 + x1) = 2 + x1 := wrap_i64 (by omega) (by omega)
  have w2 : IntKind.wrap .i64 (1 + x2) = 1 + x2 := wrap_i64 (by omega) (by omega)
  have w4 : IntKind.wrap .i64 (1 + x4) = 1 + x4 := wrap_i64 (by omega) (by omega)
  have w5 : IntKind.wrap .i64 (20 + x5) = 20 + x5 := wrap_i64 (by omega) (by omega)
  have fin : ∀ (w f : List Int) (i' h' : Int), Cur b i' → maybePat w = true → maybePat f = true → w.length ≤ 7 → f.length ≤ 7 → spec_l22Draw.f k b i h = some (IntKind.wrap .i64 (2 + x1), IntKind.wrap .i64 (1 + x2), x3, true, w, f, IntKind.wrap .i64 (1 + x4), IntKind.wrap .i64 (20 + x5), b, i', h') → ∃ (r : Rl) (i' h' : Int), spec_l22Draw.f k b i h = some (r.n, r.e, r.b1, r.b2, r.w, r.f, r.t, r.l, b, i', h') ∧ Cur b i' ∧ r.ok = true ∧ r.w.length ≤ 7 ∧ r.f.length ≤ 7 := fun w f i' h' c hw hf lw lf e => by
    refine ⟨⟨2 + x1, 1 + x2, x3, true, w, f, 1 + x4, 20 + x5⟩, i', h', by rw [e, w1, w2, w4, w5], c, ?_, lw, lf⟩
    unfold Rl.ok isRules
    rw [inR_iff.2 (show 2 ≤ 2 + x1 ∧ 2 + x1 ≤ 6 by omega), inR_iff.2 (show 1 ≤ 1 + x2 ∧ 1 + x2 ≤ 8 by omega), inR_iff.2 (show 1 ≤ 1 + x4 ∧ 1 + x4 ≤ 4 by omega), inR_iff.2 (show 1 ≤ 20 + x5 ∧ 20 + x5 ≤ 400 by omega), hw, hf]
    cases x3 <;> rfl
  have pre : ∀ X, (bif x6 then
      (spec_l8Draw.f k b i6 h6 1).bind fun r7 =>
      (spec_l1Once.f k r7.2.1 (t2 r7).1 (t3 r7) 2).bind fun r8 =>
      bif r8.1 then
       (spec_l8Draw.f k r8.2.1 (t2 r8).1 (t3 r8) 1).bind fun r9 =>
       some (IntKind.wrap .i64 (2 + x1), IntKind.wrap .i64 (1 + x2), x3, true, r7.1, r9.1, IntKind.wrap .i64 (1 + x4), IntKind.wrap .i64 (20 + x5), r9.2.1, (t2 r9).1, (t3 r9))
      else
       some (IntKind.wrap .i64 (2 + x1), IntKind.wrap .i64 (1 + x2), x3, true, r7.1, [], IntKind.wrap .i64 (1 + x4), IntKind.wrap .i64 (20 + x5), r8.2.1, (t2 r8).1, (t3 r8))
     else
      (spec_l1Once.f k b i6 h6 2).bind fun r10 =>
      bif r10.1 then
       (spec_l8Draw.f k r10.2.1 (t2 r10).1 (t3 r10) 1).bind fun r11 =>
       some (IntKind.wrap .i64 (2 + x1), IntKind.wrap .i64 (1 + x2), x3, true, [], r11.1, IntKind.wrap .i64 (1 + x4), IntKind.wrap .i64 (20 + x5), r11.2.1, (t2 r11).1, (t3 r11))
      else
       some (IntKind.wrap .i64 (2 + x1), IntKind.wrap .i64 (1 + x2), x3, true, [], [], IntKind.wrap .i64 (1 + x4), IntKind.wrap .i64 (20 + x5), r10.2.1, (t2 r10).1, (t3 r10))) = X → spec_l22Draw.f k b i h = X := fun X hX =>
    (bind_s e1).trans ((bind_s e2).trans ((bind_s e3).trans ((bind_s e4).trans ((bind_s e5).trans ((bind_s e6).trans hX)))))
  cases x6 with
  | true =>
    obtain ⟨w, i7, h7, e7, c7, _, lw, hw⟩ := spec_l8Draw.two hk (d := 1) (by omega) h6 c6
    obtain ⟨x8, i8, h8, e8, c8⟩ := spec_l1Once.ok k h7 2 c7
    cases x8 with
    | true =>
      obtain ⟨f, i9, h9, e9, c9, _, lf, hf⟩ := spec_l8Draw.two hk (d := 1) (by omega) h8 c8
      exact fin w f i9 h9 c9 (maybePat_of hw) (maybePat_of hf) lw lf (pre _ ((bif_t rfl).trans ((bind_s e7).trans ((bind_s e8).trans ((bif_t rfl).trans (bind_s e9))))))
    | false => exact fin w [] i8 h8 c8 (maybePat_of hw) maybePat_nil lw (by simp) (pre _ ((bif_t rfl).trans ((bind_s e7).trans ((bind_s e8).trans (bif_f rfl)))))
  | false =>
    obtain ⟨x8, i8, h8, e8, c8⟩ := spec_l1Once.ok k h6 2 c6
    cases x8 with
    | true =>
      obtain ⟨f, i9, h9, e9, c9, _, lf, hf⟩ := spec_l8Draw.two hk (d := 1) (by omega) h8 c8
      exact fin [] f i9 h9 c9 maybePat_nil (maybePat_of hf) (by simp) lf (pre _ ((bif_f rfl).trans ((bind_s e8).trans ((bif_t rfl).trans (bind_s e9)))))
    | false => exact fin [] [] i8 h8 c8 maybePat_nil maybePat_nil (by simp) (by simp) (pre _ ((bif_f rfl).trans ((bind_s e8).trans (bif_f rfl))))
def easyRules : Rl := ⟨3, 5, true, true, [206], [212], 1, 200⟩
theorem easyRules_ok : easyRules.ok = true := by decide +kernel
theorem newGame_made {r : Rl} (h : r.ok = true) (s : Int) : (newGame r (shuffled fullDeck s)).2 = true := by
  have hp := shuffled_perm fullDeck s
  unfold newGame
  rw [h, isHand_perm hp, fullDeck_hand, hp.length_eq, fullDeck_len]
  rfl
theorem shuffled52 (s : Int) : (shuffled fullDeck s).length < 1048577 := by rw [(shuffled_perm _ _).length_eq, fullDeck_len]; decide
end Go.Proofs.YtfbafmeeejmgoaaGreat
