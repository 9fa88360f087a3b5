/- What is settled at the end of a game, in plain Lean. Conditions: enough rounds, lists of at most 2^20. -/
import Derived.Test.YtpdkglbbhfhlfaaGreatKit
import Derived.Test.YtpdkglbbhfhlfaaGreatFFnEvents
import Derived.Test.YtpdkglbbhfhlfaaGreatPGame
set_option linter.unusedVariables false
set_option linter.unusedSimpArgs false
namespace Go.Proofs.YtpdkglbbhfhlfaaGreat
open Go Go.Proofs.YtpdkglbbhfhlfaaGreat.V
def valueOf (c : Int) : Int := bif decide (rankOf c < 0) then 0 else bif decide (rankOf c ≤ 8) then rankOf c + 2 else bif rankOf c == 12 then 1 else 10
theorem valueOf_bd (c : Int) : 0 ≤ valueOf c ∧ valueOf c ≤ 10 := by
  have := rankOf_le c
  unfold valueOf
  cases h : decide (rankOf c < 0) with
  | true => simp
  | false =>
    have := of_decide_eq_false h
    cases h2 : decide (rankOf c ≤ 8) with
    | true => have := of_decide_eq_true h2; simp only [cond_true, cond_false]; omega
    | false => cases (rankOf c == 12) <;> simp
theorem spec_ValueOf.eq (k : Nat) (c : Int) : spec_ValueOf.f k c = some (valueOf c) := by
  have := rankOf_le c
  refine (bind_s (spec_RankOf.eq ..)).trans ?_
  rw [wrap_i64 (by omega) (by omega)]
  unfold valueOf
  cases decide (rankOf c < 0) <;> cases decide (rankOf c ≤ 8) <;> cases (rankOf c == 12) <;> rfl
theorem impl_ValueOf.eq (k : Nat) (c : Int) : impl_ValueOf.f k c = some (valueOf c) := by
  have := rankOf_le c
  refine (bind_s (impl_RankOf.eq ..)).trans ?_
  rw [wrap_i64 (by omega) (by omega)]
  unfold valueOf
  cases decide (rankOf c < 0) <;> cases decide (rankOf c ≤ 8) <;> cases (rankOf c == 12) <;> rfl
def handPts (h : List Int) : Int := (h.map valueOf).sum
theorem foldl_pts : ∀ (l : List Int) (b : Int), l.foldl (fun b a => b + valueOf a) b = b + handPts l
  | [], b => by simp [handPts]
  | a :: l, b => by
    rw [List.foldl_cons, foldl_pts l]
    unfold handPts
    rw [List.map_cons, List.sum_cons]; omega
theorem handPts_bd : ∀ (l : List Int), 0 ≤ handPts l ∧ handPts l ≤ 10 * (l.length : Int)
  | [] => by simp [handPts]
  | a :: l => by
    have := handPts_bd l
    have := valueOf_bd a
    unfold handPts at *
    rw [List.map_cons, List.sum_cons, List.length_cons]
    omega
theorem spec_l10Sum.eq {k : Nat} (hk : BIG ≤ k) {l : List Int} (hl : l.length < 1048577) : spec_l10Sum.f k l = some (handPts l) := by
  have h := scan (B := Int) l (fun m b i => spec_l10Sum.l3 k l (fun x => some x) m b i) (fun _ _ => true) (fun b a => b + valueOf a) (fun x => some x) (fun _ _ => none) (fun i b => 0 ≤ b ∧ b ≤ 10 * (i : Int))
    (fun m b i h hI => by
      have := valueOf_bd l[i]
      refine (spec_l10Sum.l3_succ ..).trans ((bif_t (dec_t (by omega))).trans ((chk_t (in_t h)).trans ?_))
      rw [Int.toNat_natCast, getD_lt _ h, wrap_up (by omega)]
      refine (bind_s (spec_ValueOf.eq ..)).trans ?_
      rw [wrap_i64 (by omega) (by omega)]
      rfl)
    (fun b i h hI _ => by have := valueOf_bd l[i]; omega)
    (fun m b hI => (spec_l10Sum.l3_succ ..).trans (bif_f (dec_f (by omega))))
    l.length 0 k 0 (by omega) (BIG_lt hk hl) (by simp)
  refine h.trans ?_
  rw [List.drop_zero, run_fold, foldl_pts, Int.zero_add]
theorem impl_values.eq {k : Nat} (hk : BIG ≤ k) {l : List Int} (hl : l.length < 1048577) : impl_values.f k l = some (handPts l) := by
  have h := scan (B := Int) l (fun m b i => impl_values.l3 k l (l.length : Int) (fun x => some x) m b i) (fun _ _ => true) (fun b a => b + valueOf a) (fun x => some x) (fun _ _ => none) (fun i b => 0 ≤ b ∧ b ≤ 10 * (i : Int))
    (fun m b i h hI => by
      have := valueOf_bd l[i]
      refine (impl_values.l3_succ ..).trans ((bif_t (dec_t (by omega))).trans ((chk_t (in_t h)).trans ?_))
      rw [Int.toNat_natCast, getD_lt _ h, wrap_up (by omega)]
      refine (bind_s (impl_ValueOf.eq ..)).trans ?_
      rw [wrap_i64 (by omega) (by omega)]
      rfl)
    (fun b i h hI _ => by have := valueOf_bd l[i]; omega)
    (fun m b hI => (impl_values.l3_succ ..).trans (bif_f (dec_f (by omega))))
    l.length 0 k 0 (by omega) (BIG_lt hk hl) (by simp)
  refine h.trans ?_
  rw [List.drop_zero, run_fold, foldl_pts, Int.zero_add]
def leftPoints (g : Gm) : List Int := g.hs.map handPts
theorem leftPoints_bd {g : Gm} (h : ∀ y ∈ g.hs, y.length < 1048577) : ∀ x ∈ leftPoints g, 0 ≤ x ∧ x ≤ 10485760 := by
  intro x hx
  obtain ⟨y, hy, rfl⟩ := List.mem_map.1 hx
  have := handPts_bd y
  have := h y hy
  omega
theorem spec_LeftPoints.eq {k : Nat} (hk : BIG ≤ k) {g : Gm} (h : g.sm) : g.ap (spec_LeftPoints.f k) = some (leftPoints g) := by
  have hl := h.2.1
  have h := scan (B := List Int) g.hs (fun m b i => spec_LeftPoints.l3 k g.hs (fun x => some x) m i b) (fun _ _ => true) (fun b a => b ++ [handPts a]) (fun x => some x) (fun _ _ => none) (fun i b => b.length = i)
    (fun m b i h hI => by
      have := hl.1
      refine (spec_LeftPoints.l3_succ ..).trans ((bif_t (dec_t (by omega))).trans ((chk_t (in_t h)).trans ?_))
      rw [Int.toNat_natCast, getD_lt _ h, wrap_up (by omega)]
      exact (bind_s (spec_l10Sum.eq hk (hl.2 _ (List.getElem_mem h)))).trans (chk_t (rm8 (by omega))))
    (fun b i h hI _ => by simp; omega)
    (fun m b hI => (spec_LeftPoints.l3_succ ..).trans (bif_f (dec_f (by omega))))
    g.hs.length 0 k [] (by omega) (BIG_lt hk hl.1) rfl
  refine h.trans ?_
  rw [List.drop_zero, run_fold, foldl_snoc handPts]
  rfl
theorem impl_LeftPoints.eq {k : Nat} (hk : BIG ≤ k) {g : Gm} (h : g.sm) : g.ap (impl_LeftPoints.f k) = some (leftPoints g) := by
  have hl := h.2.1
  have h := scan (B := List Int) g.hs (fun m b i => impl_LeftPoints.l3 k g.hs (g.hs.length : Int) (fun x => some x) m i b) (fun _ _ => true) (fun b a => b ++ [handPts a]) (fun x => some x) (fun _ _ => none) (fun i b => b.length = i)
    (fun m b i h hI => by
      have := hl.1
      refine (impl_LeftPoints.l3_succ ..).trans ((bif_t (dec_t (by omega))).trans ((chk_t (in_t h)).trans ?_))
      rw [Int.toNat_natCast, getD_lt _ h, wrap_up (by omega)]
      exact (bind_s (impl_values.eq hk (hl.2 _ (List.getElem_mem h)))).trans (chk_t (rm8 (by omega))))
    (fun b i h hI _ => by simp; omega)
    (fun m b hI => (impl_LeftPoints.l3_succ ..).trans (bif_f (dec_f (by omega))))
    g.hs.length 0 k [] (by omega) (BIG_lt hk hl.1) rfl
  refine h.trans ?_
  rw [List.drop_zero, run_fold, foldl_snoc handPts]
  rfl
theorem spec_Winner.eq {k : Nat} (hk : BIG ≤ k) {g : Gm} (h : g.sm) : g.ap (spec_Winner.f k) = some (winner g) := by
  refine (bind_s (spec_IsGame.eq hk h)).trans ?_
  unfold winner
  cases isGame g with
  | false => rfl
  | true => exact (bif_f rfl).trans (bind_s (spec_l24First.eq hk g h.2.1.1))
/-! ### Sums -/
theorem impl_sum.eqg {k : Nat} (hk : BIG ≤ k) {r : List Int} (hr : r.length < 1048577) (hp : ∀ x ∈ r, 0 ≤ x ∧ x ≤ 10485760) : impl_sum.f k r = some r.sum := by
  have h := scan (B := Int) r (fun m b i => impl_sum.l3 k r (r.length : Int) (fun x => some x) m b i) (fun _ _ => true) (fun b a => b + a) (fun x => some x) (fun _ _ => none) (fun i b => 0 ≤ b ∧ b ≤ 10485760 * (i : Int))
    (fun m b i h hI => by
      have := hp _ (List.getElem_mem h)
      refine (impl_sum.l3_succ ..).trans ((bif_t (dec_t (by omega))).trans ((chk_t (in_t h)).trans ?_))
      rw [Int.toNat_natCast, getD_lt _ h, wrap_i64 (by omega) (by omega), wrap_up (by omega)]
      rfl)
    (fun b i h hI _ => by have := hp _ (List.getElem_mem h); omega)
    (fun m b hI => (impl_sum.l3_succ ..).trans (bif_f (dec_f (by omega))))
    r.length 0 k 0 (by omega) (BIG_lt hk hr) (by simp)
  refine h.trans ?_
  rw [List.drop_zero, run_fold, foldl_add, Int.zero_add]
theorem spec_Settled.sum {R : Type} {k : Nat} (hk : BIG ≤ k) {r : List Int} (hr : r.length < 1048577) (hp : ∀ x ∈ r, 0 ≤ x ∧ x ≤ 10485760) (e0 : Int → Option R) : spec_Settled.l13 k r e0 k (0 : Int) (0 : Int) = e0 r.sum := by
  have h := scan (B := Int) r (fun m b i => spec_Settled.l13 k r e0 m b i) (fun _ _ => true) (fun b a => b + a) e0 (fun _ _ => none) (fun i b => 0 ≤ b ∧ b ≤ 10485760 * (i : Int))
    (fun m b i h hI => by
      have := hp _ (List.getElem_mem h)
      refine (spec_Settled.l13_succ ..).trans ((bif_t (dec_t (by omega))).trans ((chk_t (in_t h)).trans ?_))
      rw [Int.toNat_natCast, getD_lt _ h, wrap_i64 (by omega) (by omega), wrap_up (by omega)]
      rfl)
    (fun b i h hI _ => by have := hp _ (List.getElem_mem h); omega)
    (fun m b hI => (spec_Settled.l13_succ ..).trans (bif_f (dec_f (by omega))))
    r.length 0 k 0 (by omega) (BIG_lt hk hr) (by simp)
  refine h.trans ?_
  rw [List.drop_zero, run_fold, foldl_add, Int.zero_add]
/-! ### What each player gets -/
def settled (g : Gm) : List Int := bif isGame g then bif decide (winner g < 0) then List.replicate g.hs.length 0 else ((leftPoints g).map fun x => 0 - x).set (winner g).toNat (leftPoints g).sum else []
theorem set_fold (w : Nat) (S : Int) : ∀ (l b : List Int), l.foldl (fun b a => b ++ [bif ((b.length : Int) == (w : Int)) then S else 0 - a]) b = b ++ (if b.length ≤ w then (l.map fun x => 0 - x).set (w - b.length) S else l.map fun x => 0 - x)
  | [], b => by simp
  | a :: l, b => by
    rw [List.foldl_cons, set_fold w S l, List.length_append, List.length_singleton, List.append_assoc]
    congr 1
    by_cases h : b.length = w
    · rw [if_neg (by omega), if_pos (by omega), show w - b.length = 0 by omega]
      rw [show ((b.length : Int) == (w : Int)) = true by simp [h]]
      rfl
    · rw [show ((b.length : Int) == (w : Int)) = false by simp; omega]
      by_cases h2 : b.length ≤ w
      · rw [if_pos (by omega), if_pos h2, show w - b.length = (w - (b.length + 1)) + 1 by omega]
        rfl
      · rw [if_neg (by omega), if_neg h2]
        rfl
theorem zero_fold : ∀ (l b : List Int), l.foldl (fun b _ => b ++ [(0 : Int)]) b = b ++ List.replicate l.length 0
  | [], b => by simp
  | a :: l, b => by
    rw [List.foldl_cons, zero_fold l, List.length_cons, List.replicate_succ, List.append_assoc]; rfl
theorem spec_Settled.eq {k : Nat} (hk : BIG ≤ k) {g : Gm} (h : g.sm) : g.ap (spec_Settled.f k) = some (settled g) := by
  have hb := leftPoints_bd (g := g) h.2.1.2
  have hll : (leftPoints g).length = g.hs.length := by simp [leftPoints]
  have hls : (leftPoints g).length < 1048577 := by rw [hll]; exact h.2.1.1
  refine (bind_s (spec_LeftPoints.eq hk h)).trans ((bind_s (spec_Winner.eq hk h)).trans ?_)
  unfold settled
  cases hg : isGame g with
  | false =>
    obtain ⟨n, rfl⟩ : ∃ n', k = n' + 1 := ⟨k - 1, by simp [BIG] at hk; omega⟩
    refine (spec_Settled.l5_succ ..).trans ?_
    by_cases hz : (0 : Int) < ((leftPoints g).length : Int)
    · refine (bif_t (dec_t hz)).trans ((bind_s (spec_IsGame.eq hk h)).trans ?_)
      rw [hg]; rfl
    · exact bif_f (dec_f hz)
  | true =>
    have hgm := spec_IsGame.eq hk h
    rw [hg] at hgm
    cases hw : decide (winner g < 0) with
    | true =>
      have h := scan (B := List Int) (leftPoints g) (fun m b i => spec_Settled.l5 k (winner g) g.r.n g.r.e g.r.b1 g.r.b2 g.r.w g.r.f g.r.t g.r.l g.hs g.st g.hp g.tn g.mv g.ps (leftPoints g) (fun x => some x) m i b) (fun _ _ => true) (fun b _ => b ++ [0]) (fun x => some x) (fun _ _ => none) (fun i b => b.length = i)
        (fun m b i h hI => by
          refine (spec_Settled.l5_succ ..).trans ((bif_t (dec_t (by omega))).trans ((bind_s hgm).trans ((bif_t rfl).trans ((bif_t hw).trans ((chk_t (rm8 (by omega))).trans ?_)))))
          rw [wrap_up (by omega)]
          rfl)
        (fun b i h hI _ => by simp; omega)
        (fun m b hI => (spec_Settled.l5_succ ..).trans (bif_f (dec_f (by omega))))
        (leftPoints g).length 0 k [] (by omega) (BIG_lt hk hls) rfl
      refine h.trans ?_
      rw [List.drop_zero, run_fold, zero_fold, hll]
      rfl
    | false =>
      have hw' := of_decide_eq_false hw
      have h := scan (B := List Int) (leftPoints g) (fun m b i => spec_Settled.l5 k (winner g) g.r.n g.r.e g.r.b1 g.r.b2 g.r.w g.r.f g.r.t g.r.l g.hs g.st g.hp g.tn g.mv g.ps (leftPoints g) (fun x => some x) m i b) (fun _ _ => true) (fun b a => b ++ [bif ((b.length : Int) == (((winner g).toNat : Nat) : Int)) then (leftPoints g).sum else 0 - a]) (fun x => some x) (fun _ _ => none) (fun i b => b.length = i)
        (fun m b i h hI => by
          have hx := hb _ (List.getElem_mem h)
          refine (spec_Settled.l5_succ ..).trans ((bif_t (dec_t (by omega))).trans ((bind_s hgm).trans ((bif_t rfl).trans ((bif_f hw).trans ?_))))
          rw [wrap_up (by omega), hI, show (((winner g).toNat : Nat) : Int) = winner g by omega]
          cases ((i : Int) == winner g) with
          | true => exact (bif_t rfl).trans ((spec_Settled.sum hk hls hb _).trans (chk_t (rm8 (by omega))))
          | false =>
            refine (bif_f rfl).trans ((chk_t (in_t h)).trans ((chk_t (rm8 (by omega))).trans ?_))
            rw [Int.toNat_natCast, getD_lt _ h, wrap_i64 (by omega) (by omega)]
            rfl)
        (fun b i h hI _ => by simp; omega)
        (fun m b hI => (spec_Settled.l5_succ ..).trans (bif_f (dec_f (by omega))))
        (leftPoints g).length 0 k [] (by omega) (BIG_lt hk hls) rfl
      refine h.trans ?_
      rw [List.drop_zero, run_fold, set_fold]
      simp
theorem winner_lt {g : Gm} (h : 0 ≤ winner g) : winner g < (g.hs.length : Int) := by
  unfold winner at *
  cases hg : isGame g <;> rw [hg] at h
  · simp at h
  · simp only [cond_true] at *
    rcases firstE_le g.hs 0 with h1 | h1 <;> omega
theorem impl_Settled.fill {R : Type} (k : Nat) (l : List Int) (hl : l.length < 1048577) (hb : ∀ x ∈ l, 0 ≤ x ∧ x ≤ 10485760) (e0 : List Int → Option R) : ∀ (m i n : Nat), i + m = l.length → m < n → impl_Settled.l8 k (l.length : Int) l e0 n (i : Int) ((l.map fun x => 0 - x).take i ++ List.replicate m 0) = e0 (l.map fun x => 0 - x) := by
  intro m
  induction m with
  | zero =>
    intro i n hi hn
    obtain ⟨n, rfl⟩ : ∃ n', n = n' + 1 := ⟨n - 1, by omega⟩
    refine (impl_Settled.l8_succ ..).trans ((bif_f (dec_f (by omega))).trans ?_)
    rw [show (l.map fun x => 0 - x).take i = l.map fun x => 0 - x from List.take_of_length_le (by rw [List.length_map]; omega), List.replicate_zero, List.append_nil]
  | succ m ih =>
    intro i n hi hn
    obtain ⟨n, rfl⟩ : ∃ n', n = n' + 1 := ⟨n - 1, by omega⟩
    have h : i < l.length := by omega
    have hx := hb _ (List.getElem_mem h)
    have hml : (l.map fun x => 0 - x).length = l.length := List.length_map _
    refine (impl_Settled.l8_succ ..).trans ((bif_t (dec_t (by omega))).trans ((chk_t (in_t h)).trans ((chk_t (in_t (by rw [copy_len (by omega)]; omega))).trans ?_)))
    rw [wrap_up (by omega), Int.toNat_natCast, getD_lt _ h, wrap_i64 (by omega) (by omega)]
    have hc := copy_step (l := l.map fun x => 0 - x) (i := i) (m := m) (d := 0) (by omega)
    rw [List.getElem_map] at hc
    rw [hc]
    exact ih (i + 1) n (by omega) (by omega)
theorem impl_Settled.eq {k : Nat} (hk : BIG ≤ k) {g : Gm} (h : g.sm) : g.ap (impl_Settled.f k) = some (settled g) := by
  have hb := leftPoints_bd (g := g) h.2.1.2
  have hll : (leftPoints g).length = g.hs.length := by simp [leftPoints]
  have hls : (leftPoints g).length < 1048577 := by rw [hll]; exact h.2.1.1
  refine (bind_s (impl_IsGame.eq hk h)).trans ?_
  unfold settled
  cases hg : isGame g with
  | false => rfl
  | true =>
    refine (bif_f rfl).trans ((bind_s (impl_Winner.eq hk h)).trans ((bind_s (impl_LeftPoints.eq hk h)).trans ((chk_t (and_t (dec_t (by omega)) (rm8 (by omega)))).trans ?_)))
    rw [Int.toNat_natCast]
    cases hw : decide (winner g < 0) with
    | true => rw [hll]; rfl
    | false =>
      have hw' := of_decide_eq_false hw
      have hwl := winner_lt (g := g) (by omega)
      refine (bif_f rfl).trans ?_
      have hml : ((leftPoints g).map fun x => 0 - x).length = (leftPoints g).length := List.length_map _
      have hf := impl_Settled.fill k (leftPoints g) hls hb (fun x4 => (impl_sum.f k (leftPoints g)).bind fun r5 => chk ((decide ((0 : Int) ≤ winner g)) && (decide (winner g < (x4.length : Int)))) <| some (x4.set (winner g).toNat r5)) (leftPoints g).length 0 k (by omega) (BIG_lt hk hls)
      rw [List.take_zero, List.nil_append] at hf
      refine Eq.trans hf ?_
      refine (bind_s (impl_sum.eqg hk hls hb)).trans ((chk_t (and_t (dec_t (by omega)) (dec_t (by rw [hml]; omega)))).trans ?_)
      rfl
theorem settled_len {g : Gm} (h : isGame g = true) : (settled g).length = g.hs.length := by
  unfold settled
  rw [h]
  cases decide (winner g < 0) with
  | true => simp
  | false => simp [leftPoints]
end Go.Proofs.YtpdkglbbhfhlfaaGreat
