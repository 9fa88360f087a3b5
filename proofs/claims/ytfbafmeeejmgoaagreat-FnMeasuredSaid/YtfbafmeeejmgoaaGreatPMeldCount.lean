/- How many melds the program and the reference find, in plain Lean. Conditions: enough rounds, lists of at most 2^20. -/
import Derived.Test.YtfbafmeeejmgoaaGreatKit
import Derived.Test.YtfbafmeeejmgoaaGreatFFnMeasured
import Derived.Test.YtfbafmeeejmgoaaGreatPMelds
set_option linter.unusedVariables false
set_option linter.unusedSimpArgs false
namespace Go.Proofs.YtfbafmeeejmgoaaGreat
open Go Go.Proofs.YtfbafmeeejmgoaaGreat.V
theorem wrap_dn {i : Nat} (h : i < 4611686018427387904) : IntKind.wrap .i64 (((i + 1 : Nat) : Int) - 1) = (i : Int) := by
  rw [wrap_i64 (by omega) (by omega)]; omega
/-! ### The reference -/
theorem l10Before_some {k : Nat} (hk : BIG ≤ k) {x : List Int} (y : List Int) (hx : x.length < 1048577) : ∃ b, spec_l10Before.f k x y = some b := by
  have key : ∀ (c : Bool) (m i n : Nat), i + m = x.length → m < n → ∃ b, spec_l10Before.l2 k x y (fun x1 => some x1) (some c) n (i : Int) = some b := by
    intro c m
    induction m with
    | zero =>
      intro i n hi hn
      obtain ⟨n, rfl⟩ : ∃ n', n = n' + 1 := ⟨n - 1, by omega⟩
      exact ⟨c, (spec_l10Before.l2_succ ..).trans (bif_f (dec_f (by omega)))⟩
    | succ m ih =>
      intro i n hi hn
      obtain ⟨n, rfl⟩ : ∃ n', n = n' + 1 := ⟨n - 1, by omega⟩
      have hix : i < x.length := by omega
      by_cases hy : i < y.length
      · by_cases e : x.getD i 0 = y.getD i 0
        · obtain ⟨b, hb⟩ := ih (i + 1) n (by omega) (by omega)
          refine ⟨b, (spec_l10Before.l2_succ ..).trans ((bif_t (dec_t (by omega))).trans ((bif_t (dec_t (by omega))).trans ((chk_t (in_t hix)).trans ((chk_t (in_t hy)).trans ((bif_f (by rw [Int.toNat_natCast, e]; simp)).trans ?_)))))⟩
          rw [wrap_up (by omega)]; exact hb
        · exact ⟨_, (spec_l10Before.l2_succ ..).trans ((bif_t (dec_t (by omega))).trans ((bif_t (dec_t (by omega))).trans ((chk_t (in_t hix)).trans ((chk_t (in_t hy)).trans ((bif_t (by rw [Int.toNat_natCast]; simpa using e)).trans ((chk_t (in_t hix)).trans (chk_t (in_t hy))))))))⟩
      · exact ⟨c, (spec_l10Before.l2_succ ..).trans ((bif_t (dec_t (by omega))).trans (bif_f (dec_f (by omega))))⟩
  exact key _ x.length 0 k (by omega) (BIG_lt hk hx)
theorem l10Put_some {k : Nat} (hk : BIG ≤ k) {v : List (List Int)} {x : List Int} (hv : v.length < 1048576) (hx : x.length < 1048577) : ∃ w, spec_l10Put.f k v x = some w ∧ w.length = v.length + 1 := by
  have key : ∀ (e0 : Int → Option (List (List Int))) (j n : Nat), j ≤ v.length → j < n → ∃ i : Nat, i ≤ v.length ∧ spec_l10Put.l2 k v x e0 n (j : Int) = e0 (i : Int) := by
    intro e0 j
    induction j with
    | zero =>
      intro n hj hn
      obtain ⟨n, rfl⟩ : ∃ n', n = n' + 1 := ⟨n - 1, by omega⟩
      exact ⟨0, by omega, (spec_l10Put.l2_succ ..).trans (bif_f (dec_f (by omega)))⟩
    | succ j ih =>
      intro n hj hn
      obtain ⟨n, rfl⟩ : ∃ n', n = n' + 1 := ⟨n - 1, by omega⟩
      obtain ⟨b, hb⟩ := l10Before_some hk (v.getD j []) hx
      have step : spec_l10Put.l2 k v x e0 (n + 1) ((j + 1 : Nat) : Int) = bif b then spec_l10Put.l2 k v x e0 n (j : Int) else e0 ((j + 1 : Nat) : Int) := by
        refine (spec_l10Put.l2_succ ..).trans ((bif_t (dec_t (by omega))).trans ?_)
        rw [wrap_dn (by omega)]
        exact (chk_t (in_t (by omega))).trans (bind_s (by rw [Int.toNat_natCast]; exact hb))
      rw [step]
      cases b with
      | true => exact ih n (by omega) (by omega)
      | false => exact ⟨j + 1, hj, rfl⟩
  obtain ⟨i, hi, h⟩ := key _ v.length k (Nat.le_refl _) (BIG_lt hk (by omega))
  refine ⟨_, h.trans ((chk_t (and_t (dec_t (by omega)) (dec_t (by omega)))).trans ((chk_t (rm24 ?_)).trans ((chk_t (rm24 ?_)).trans ((chk_t (and_t (dec_t (by omega)) (dec_t (by omega)))).trans (chk_t (rm24 ?_)))))), ?_⟩
  · rw [List.length_take]; omega
  · simp only [List.nil_append, List.length_take]; omega
  · simp only [List.nil_append, List.length_append, List.length_take, List.length_drop, List.length_singleton]; omega
  · simp only [List.nil_append, List.length_append, List.length_take, List.length_drop, List.length_singleton, Int.toNat_natCast]; omega
def four (l : List Int) (r : Int) (s : Nat) (acc : List Int) : List Int := bif hasCard l ((s : Int) * 13 + r) then acc ++ [(s : Int) * 13 + r] else acc
def setN (l : List Int) (r : Int) : Nat := setNum (hasCard l r) (hasCard l (r + 13)) (hasCard l (r + 26)) (hasCard l (r + 39))
theorem four_all (l : List Int) (r : Int) : (upN (four l r) 4 0 []).length = (hasCard l r).toNat + (hasCard l (r + 13)).toNat + (hasCard l (r + 26)).toNat + (hasCard l (r + 39)).toNat := by
  have st : ∀ (s : Nat) (acc : List Int) (c : Int), (s : Int) * 13 + r = c → (four l r s acc).length = acc.length + (hasCard l c).toNat := fun s acc c e => by
    unfold four
    rw [e]
    cases hasCard l c <;> simp
  show (four l r 3 (four l r 2 (four l r 1 (four l r 0 [])))).length = _
  rw [st 3 _ (r + 39) (by omega), st 2 _ (r + 26) (by omega), st 1 _ (r + 13) (by omega), st 0 _ r (by omega)]
  simp
theorem setN_four (l : List Int) (r : Int) : setN l r = (if 3 ≤ (upN (four l r) 4 0 []).length then 1 else 0) + (if (upN (four l r) 4 0 []).length = 4 then 4 else 0) := by
  rw [four_all]
  unfold setN
  generalize hasCard l r = a
  generalize hasCard l (r + 13) = b
  generalize hasCard l (r + 26) = c
  generalize hasCard l (r + 39) = d
  cases a <;> cases b <;> cases c <;> cases d <;> rfl
theorem spec_MeldsIn.four {R : Type} {k : Nat} (hk : BIG ≤ k) {l : List Int} (hl : l.length < 1048577) {r : Nat} (hr : r < 13) (e0 : List Int → Option R) : spec_MeldsIn.l9 k l (r : Int) e0 k 0 [] = e0 (upN (four l (r : Int)) 4 0 []) := by
  have h := upto (B := List Int) 4 (fun m b i => spec_MeldsIn.l9 k l (r : Int) e0 m i b) (Go.Proofs.YtfbafmeeejmgoaaGreat.four l (r : Int)) e0 (fun i b => b.length ≤ i)
    (fun m b i h hI => by
      have ew : IntKind.wrap .i64 (IntKind.wrap .i64 ((i : Int) * 13) + (r : Int)) = (i : Int) * 13 + (r : Int) := by
        rw [wrap_i64 (n := (i : Int) * 13) (by omega) (by omega), wrap_i64 (by omega) (by omega)]
      refine (spec_MeldsIn.l9_succ ..).trans ((bif_t (dec_t (by omega))).trans ?_)
      rw [ew, wrap_up (by omega)]
      refine (bind_s (spec_HasCard.eq hk _ (by omega))).trans ?_
      unfold Go.Proofs.YtfbafmeeejmgoaaGreat.four
      cases hasCard l ((i : Int) * 13 + (r : Int)) with
      | false => rfl
      | true => exact (bif_t rfl).trans (chk_t (rm8 (by omega))))
    (fun b i h hI => by
      unfold Go.Proofs.YtfbafmeeejmgoaaGreat.four
      cases hasCard l ((i : Int) * 13 + (r : Int)) <;> simp <;> omega)
    (fun m b hI => (spec_MeldsIn.l9_succ ..).trans (bif_f (dec_f (by omega))))
    4 0 k [] (by omega) (by simp [BIG] at hk; omega) (by simp)
  exact h
theorem spec_MeldsIn.subs {R : Type} {k : Nat} (hk : BIG ≤ k) {s : List Int} (h4 : s.length = 4) (e0 : List (List Int) → Option R) : ∀ (m i n : Nat) (v : List (List Int)), i + m = 4 → m < n → v.length + m < 1048576 → ∃ w, spec_MeldsIn.l16 k s e0 n v (i : Int) = e0 w ∧ w.length = v.length + m
  | 0, i, 0, v, _, h, _ => absurd h (by omega)
  | 0, i, n + 1, v, hi, _, _ => ⟨v, (spec_MeldsIn.l16_succ ..).trans (bif_f (dec_f (by omega))), rfl⟩
  | m + 1, i, 0, v, _, h, _ => absurd h (by omega)
  | m + 1, i, n + 1, v, hi, hn, hv => by
    have hw := without_len s (s.getD i 0)
    obtain ⟨w, h1, h2⟩ := l10Put_some hk (v := v) (x := without s (s.getD i 0)) (by omega) (by omega)
    obtain ⟨w', h3, h5⟩ := spec_MeldsIn.subs hk h4 e0 m (i + 1) n w (by omega) (by omega) (by omega)
    refine ⟨w', ?_, by omega⟩
    refine (spec_MeldsIn.l16_succ ..).trans ((bif_t (dec_t (by omega))).trans ((bif_t (by rw [h4]; rfl)).trans ((chk_t (in_t (by omega))).trans ?_)))
    rw [Int.toNat_natCast, wrap_up (by omega)]
    exact (bind_s (spec_Without.eq hk _ (by omega))).trans ((bind_s h1).trans h3)
theorem spec_MeldsIn.sub {R : Type} {k : Nat} (hk : BIG ≤ k) {s : List Int} (hs : s.length ≤ 4) (e0 : List (List Int) → Option R) {v : List (List Int)} (hv : v.length < 1048000) : ∃ w, spec_MeldsIn.l16 k s e0 k v 0 = e0 w ∧ w.length = v.length + (if s.length = 4 then 4 else 0) := by
  by_cases h4 : s.length = 4
  · rw [if_pos h4]
    exact spec_MeldsIn.subs hk h4 e0 4 0 k v (by omega) (by simp [BIG] at hk; omega) (by omega)
  · rw [if_neg h4]
    obtain ⟨n, rfl⟩ : ∃ n', k = n' + 1 := ⟨k - 1, by simp [BIG] at hk; omega⟩
    refine ⟨v, (spec_MeldsIn.l16_succ ..).trans ?_, rfl⟩
    by_cases h0 : s.length = 0
    · exact bif_f (dec_f (by omega))
    · exact (bif_t (dec_t (by omega))).trans (bif_f (by simp; omega))
theorem setN_le (l : List Int) (r : Int) : setN l r ≤ 5 := by rw [setN_four]; split <;> split <;> omega
theorem spec_MeldsIn.ranks {R : Type} {k : Nat} (hk : BIG ≤ k) {l : List Int} (hl : l.length < 1048577) (e0 : List (List Int) → Option R) : ∀ (m r n : Nat) (v : List (List Int)), r + m = 13 → m < n → v.length + 5 * m < 1047000 → ∃ w, spec_MeldsIn.l5 k l e0 n v (r : Int) = e0 w ∧ w.length = v.length + ((List.range' r m).map fun (r : Nat) => setN l (r : Int)).sum
  | 0, r, 0, v, _, h, _ => absurd h (by omega)
  | 0, r, n + 1, v, hi, _, _ => ⟨v, (spec_MeldsIn.l5_succ ..).trans (bif_f (dec_f (by omega))), by simp⟩
  | m + 1, r, 0, v, _, h, _ => absurd h (by omega)
  | m + 1, r, n + 1, v, hi, hn, hv => by
    have hle := setN_le l (r : Int)
    have h4 := four_all l (r : Int)
    have hs4 : (upN (Go.Proofs.YtfbafmeeejmgoaaGreat.four l (r : Int)) 4 0 []).length ≤ 4 := by
      rw [h4]
      generalize hasCard l (r : Int) = a
      generalize hasCard l ((r : Int) + 13) = b
      generalize hasCard l ((r : Int) + 26) = c
      generalize hasCard l ((r : Int) + 39) = d
      cases a <;> cases b <;> cases c <;> cases d <;> decide
    have es := setN_four l (r : Int)
    have step : ∀ E : List Int → Option R, spec_MeldsIn.l9 k l (r : Int) E k 0 [] = E (upN (Go.Proofs.YtfbafmeeejmgoaaGreat.four l (r : Int)) 4 0 []) := fun E => spec_MeldsIn.four hk hl (by omega) E
    rw [List.range'_succ, List.map_cons, List.sum_cons]
    generalize upN (Go.Proofs.YtfbafmeeejmgoaaGreat.four l (r : Int)) 4 0 [] = s at hs4 es step
    have go : ∀ (u : List (List Int)), u.length = v.length + (if 3 ≤ s.length then 1 else 0) → ∃ w, spec_MeldsIn.l16 k s (fun x => spec_MeldsIn.l5 k l e0 n x ((r + 1 : Nat) : Int)) k u 0 = e0 w ∧ w.length = v.length + (setN l (r : Int) + ((List.range' (r + 1) m).map fun (r : Nat) => setN l (r : Int)).sum) := fun u hu => by
      obtain ⟨w1, h1, h2⟩ := spec_MeldsIn.sub hk hs4 (fun x => spec_MeldsIn.l5 k l e0 n x ((r + 1 : Nat) : Int)) (v := u) (by rw [hu]; split <;> omega)
      have hw1 : w1.length = v.length + setN l (r : Int) := by omega
      obtain ⟨w, h3, h5⟩ := spec_MeldsIn.ranks hk hl e0 m (r + 1) n w1 (by omega) (by omega) (by omega)
      exact ⟨w, h1.trans h3, by omega⟩
    have ew := wrap_up (i := r) (by omega)
    by_cases h3 : 3 ≤ s.length
    · obtain ⟨u, hu, hul⟩ := l10Put_some hk (v := v) (x := s) (by omega) (by omega)
      obtain ⟨w, g1, g2⟩ := go u (by rw [hul, if_pos h3])
      refine ⟨w, (spec_MeldsIn.l5_succ ..).trans ((bif_t (dec_t (by omega))).trans ((step _).trans ((bif_t (dec_t (by omega))).trans ((bind_s hu).trans ?_)))), g2⟩
      rw [ew]; exact g1
    · obtain ⟨w, g1, g2⟩ := go v (by rw [if_neg h3]; rfl)
      refine ⟨w, (spec_MeldsIn.l5_succ ..).trans ((bif_t (dec_t (by omega))).trans ((step _).trans ((bif_f (dec_f (by omega))).trans ?_))), g2⟩
      rw [ew]; exact g1
/-- Runs from a card on, whose first j cards are there. -/
def runC (h : Int → Bool) (c : Nat) : Nat → Nat → Nat
  | 0, _ => 0
  | m + 1, j => bif h ((c : Int) + (j : Int)) then (if 3 ≤ j + 1 then 1 else 0) + runC h c m (j + 1) else 0
theorem runC_le (h : Int → Bool) (c : Nat) : ∀ m j, runC h c m j ≤ m
  | 0, _ => Nat.le_refl _
  | m + 1, j => by
    have := runC_le h c m (j + 1)
    unfold runC
    cases h ((c : Int) + (j : Int)) with
    | false => simp
    | true => simp only [cond_true]; split <;> omega
theorem suit_same {c j : Nat} (hc : c < 52) (hj : j < 13 - c % 13) : suitOf ((c : Int) + (j : Int)) = suitOf (c : Int) := by
  have h1 := suit_div (c := (c : Int)) (isCard_iff.2 (by omega))
  have h2 := suit_div (c := (c : Int) + (j : Int)) (isCard_iff.2 (by omega))
  rw [h1.1, h2.1]; omega
theorem suit_end {c : Nat} (hc : c < 52) : suitOf ((c : Int) + ((13 - c % 13 : Nat) : Int)) ≠ suitOf (c : Int) := by
  have h1 := suit_div (c := (c : Int)) (isCard_iff.2 (by omega))
  rw [h1.1]
  cases hq : isCard ((c : Int) + ((13 - c % 13 : Nat) : Int)) with
  | true =>
    have h2 := suit_div hq
    rw [h2.1]; omega
  | false =>
    unfold suitOf
    rw [hq, cond_false]; omega
theorem spec_MeldsIn.run {R : Type} {k : Nat} (hk : BIG ≤ k) {l : List Int} (hl : l.length < 1048577) {c : Nat} (hc : c < 52) (e0 : List (List Int) → Option R) : ∀ (m j n : Nat) (v : List (List Int)) (u : List Int), j + m = 13 - c % 13 → m < n → v.length + m < 1047500 → u.length = j → ∃ w, spec_MeldsIn.l24 k l (c : Int) e0 n v ((c : Int) + (j : Int)) u = e0 w ∧ w.length = v.length + runC (hasCard l) c m j
  | m, j, 0, v, u, _, h, _, _ => absurd h (by omega)
  | 0, j, n + 1, v, u, hj, _, _, _ => by
    refine ⟨v, ?_, rfl⟩
    refine (spec_MeldsIn.l24_succ ..).trans ((bind_s (spec_HasCard.eq hk _ (by omega))).trans ?_)
    cases hasCard l ((c : Int) + (j : Int)) with
    | false => rfl
    | true =>
      refine (bif_t rfl).trans ((bind_s (spec_SuitOf.eq ..)).trans ((bind_s (spec_SuitOf.eq ..)).trans (bif_f ?_)))
      have := suit_end hc
      rw [show j = 13 - c % 13 by omega]
      simpa using this
  | m + 1, j, n + 1, v, u, hj, hn, hv, hu => by
    have hwr : IntKind.wrap .i64 ((c : Int) + (j : Int) + 1) = (c : Int) + ((j + 1 : Nat) : Int) := by rw [wrap_i64 (by omega) (by omega)]; omega
    unfold runC
    cases hh : hasCard l ((c : Int) + (j : Int)) with
    | false => exact ⟨v, (spec_MeldsIn.l24_succ ..).trans ((bind_s (spec_HasCard.eq hk _ (by omega))).trans (bif_f hh)), rfl⟩
    | true =>
      have hul : (u ++ [(c : Int) + (j : Int)]).length = j + 1 := by simp [hu]
      have pre : ∀ x, (bif decide (((u ++ [(c : Int) + (j : Int)]).length : Int) ≥ 3) then
          chk (decide ((0 + ((u ++ [(c : Int) + (j : Int)]).length)) * 8 ≤ room)) <|
          (spec_l10Put.f k v ([] ++ (u ++ [(c : Int) + (j : Int)]))).bind fun r13 =>
          spec_MeldsIn.l24 k l (c : Int) e0 n r13 (IntKind.wrap .i64 ((c : Int) + (j : Int) + 1)) (u ++ [(c : Int) + (j : Int)])
        else spec_MeldsIn.l24 k l (c : Int) e0 n v (IntKind.wrap .i64 ((c : Int) + (j : Int) + 1)) (u ++ [(c : Int) + (j : Int)])) = x → spec_MeldsIn.l24 k l (c : Int) e0 (n + 1) v ((c : Int) + (j : Int)) u = x := fun x hx => by
        refine (spec_MeldsIn.l24_succ ..).trans ((bind_s (spec_HasCard.eq hk _ (by omega))).trans ((bif_t hh).trans ((bind_s (spec_SuitOf.eq ..)).trans ((bind_s (spec_SuitOf.eq ..)).trans ((bif_t ?_).trans ((chk_t (rm8 (by omega))).trans hx))))))
        rw [suit_same hc (by omega)]; simp
      rw [hwr] at pre
      simp only [cond_true]
      by_cases h3 : 3 ≤ j + 1
      · obtain ⟨w1, g1, g2⟩ := l10Put_some hk (v := v) (x := [] ++ (u ++ [(c : Int) + (j : Int)])) (by omega) (by rw [List.nil_append, hul]; omega)
        obtain ⟨w, g3, g4⟩ := spec_MeldsIn.run hk hl hc e0 m (j + 1) n w1 (u ++ [(c : Int) + (j : Int)]) (by omega) (by omega) (by omega) hul
        refine ⟨w, pre _ ((bif_t (dec_t (by rw [hul]; omega))).trans ((chk_t (rm8 (by rw [hul]; omega))).trans ((bind_s g1).trans g3))), ?_⟩
        rw [if_pos h3]; omega
      · obtain ⟨w, g3, g4⟩ := spec_MeldsIn.run hk hl hc e0 m (j + 1) n v (u ++ [(c : Int) + (j : Int)]) (by omega) (by omega) (by omega) hul
        refine ⟨w, pre _ ((bif_f (dec_f (by rw [hul]; omega))).trans g3), ?_⟩
        rw [if_neg h3]; omega
theorem spec_MeldsIn.firsts {R : Type} {k : Nat} (hk : BIG ≤ k) {l : List Int} (hl : l.length < 1048577) (e0 : List (List Int) → Option R) : ∀ (m c n : Nat) (v : List (List Int)), c + m = 52 → m < n → v.length + 13 * m < 1047000 → ∃ w, spec_MeldsIn.l20 k l e0 n v (c : Int) = e0 w ∧ w.length = v.length + ((List.range' c m).map fun (c : Nat) => runC (hasCard l) c (13 - c % 13) 0).sum
  | 0, r, 0, v, _, h, _ => absurd h (by omega)
  | 0, r, n + 1, v, hi, _, _ => ⟨v, (spec_MeldsIn.l20_succ ..).trans (bif_f (dec_f (by omega))), by simp⟩
  | m + 1, r, 0, v, _, h, _ => absurd h (by omega)
  | m + 1, c, n + 1, v, hi, hn, hv => by
    have hle := runC_le (hasCard l) c (13 - c % 13) 0
    obtain ⟨w1, h1, h2⟩ := spec_MeldsIn.run hk hl (c := c) (by omega) (fun x => spec_MeldsIn.l20 k l e0 n x ((c + 1 : Nat) : Int)) (13 - c % 13) 0 k v [] (by omega) (by simp [BIG] at hk; omega) (by omega) rfl
    obtain ⟨w, h3, h5⟩ := spec_MeldsIn.firsts hk hl e0 m (c + 1) n w1 (by omega) (by omega) (by omega)
    rw [List.range'_succ, List.map_cons, List.sum_cons]
    refine ⟨w, (spec_MeldsIn.l20_succ ..).trans ((bif_t (dec_t (by omega))).trans ?_), by omega⟩
    rw [wrap_up (by omega)]
    have e : (c : Int) + ((0 : Nat) : Int) = (c : Int) := by omega
    rw [e] at h1
    exact h1.trans h3
theorem runC_sum (h : Int → Bool) (c : Nat) : ∀ m j, ((List.range' (j + 1) m).map fun t => if 3 ≤ t then ((List.range t).all fun (i : Nat) => h ((c : Int) + (i : Int))).toNat else 0).sum = bif ((List.range j).all fun (i : Nat) => h ((c : Int) + (i : Int))) then runC h c m j else 0
  | 0, j => by cases ((List.range j).all fun (i : Nat) => h ((c : Int) + (i : Int))) <;> rfl
  | m + 1, j => by
    rw [List.range'_succ, List.map_cons, List.sum_cons, runC_sum h c m (j + 1)]
    have e : ((List.range (j + 1)).all fun (i : Nat) => h ((c : Int) + (i : Int))) = (((List.range j).all fun (i : Nat) => h ((c : Int) + (i : Int))) && h ((c : Int) + (j : Int))) := by
      rw [List.range_succ, List.all_append]; simp
    rw [e]
    conv => rhs; unfold runC
    cases ((List.range j).all fun (i : Nat) => h ((c : Int) + (i : Int))) with
    | false => simp
    | true =>
      cases h ((c : Int) + (j : Int)) with
      | false => simp
      | true => simp
theorem runNum_runC (h : Int → Bool) (c : Nat) : runNum h c = runC h c (13 - c % 13) 0 := by
  have e := runC_sum h c (13 - c % 13) 0
  rw [show ((List.range 0).all fun (i : Nat) => h ((c : Int) + (i : Int))) = true from rfl, cond_true] at e
  rw [← e]
  unfold runNum
  by_cases h2 : 13 - c % 13 = 1
  · rw [h2, show 11 - c % 13 = 0 by omega]; rfl
  · obtain ⟨n, hn⟩ : ∃ n, 13 - c % 13 = n + 2 := ⟨11 - c % 13, by omega⟩
    rw [hn, show 11 - c % 13 = n by omega, List.range'_succ, List.range'_succ]
    simp only [List.map_cons, List.sum_cons]
    rw [List.range'_eq_map_range, List.map_map]
    have : (fun (j : Nat) => ((List.range (j + 3)).all fun (i : Nat) => h ((c : Int) + (i : Int))).toNat) = ((fun t => if 3 ≤ t then ((List.range t).all fun (i : Nat) => h ((c : Int) + (i : Int))).toNat else 0) ∘ fun x => 0 + 1 + 1 + 1 + x) := by
      funext j
      simp only [Function.comp_apply]
      rw [if_pos (by omega), show 0 + 1 + 1 + 1 + j = j + 3 by omega]
    rw [this]
    simp
def meldOK (l : List Int) : Bool := isHand l && decide ((l.length : Int) ≤ 12)
def meldCount (l : List Int) : Nat := bif meldOK l then meldNum l else 0
theorem spec_MeldsIn.ex {k : Nat} (hk : BIG ≤ k) {l : List Int} (hl : l.length < 1048577) : ∃ w, spec_MeldsIn.f k l = some w ∧ w.length = meldCount l := by
  have e1 : spec_l10Ok.f k l = some (meldOK l) := by
    refine (bind_s (spec_IsHand.eq hk (by omega))).trans ?_
    unfold meldOK
    cases isHand l <;> rfl
  unfold meldCount
  cases h : meldOK l with
  | false => exact ⟨[], (bind_s e1).trans (bif_t (by rw [h]; rfl)), rfl⟩
  | true =>
    have hs : ∀ m r, ((List.range' r m).map fun (r : Nat) => setN l (r : Int)).sum ≤ 5 * m := by
      intro m
      induction m with
      | zero => intro r; simp
      | succ m ih =>
        intro r
        have h1 := ih (r + 1)
        have h2 := setN_le l (r : Int)
        rw [List.range'_succ, List.map_cons, List.sum_cons]; omega
    obtain ⟨w1, g1, g2⟩ := spec_MeldsIn.ranks hk hl (fun x9 => spec_MeldsIn.l20 k l (fun x15 => Option.some x15) k x9 0) 13 0 k [] (by omega) (by simp [BIG] at hk; omega) (by simp)
    have hs1 := hs 13 0
    obtain ⟨w, g3, g4⟩ := spec_MeldsIn.firsts hk hl (fun x15 => Option.some x15) 52 0 k w1 (by omega) (by simp [BIG] at hk; omega) (by simp at g2; omega)
    refine ⟨w, (bind_s e1).trans ((bif_f (by rw [h]; rfl)).trans (g1.trans g3)), ?_⟩
    rw [cond_true, g4, g2, meldNum_by, List.range_eq_range', List.range_eq_range']
    have : (fun c => runNum (hasCard l) c) = fun (c : Nat) => runC (hasCard l) c (13 - c % 13) 0 := funext fun c => runNum_runC _ c
    rw [this]
    simp [setN]
/-! ### The program -/
theorem isBefore_some {k : Nat} (hk : BIG ≤ k) {x : List Int} (y : List Int) (hx : x.length < 1048577) : ∃ b, impl_isBefore.f k x y = some b := by
  have key : ∀ (c : Bool) (m i n : Nat), i + m = x.length → m < n → i ≤ y.length → ∃ b, impl_isBefore.l2 k x y (x.length : Int) (fun x1 => some x1) (some c) n (i : Int) = some b := by
    intro c m
    induction m with
    | zero =>
      intro i n hi hn _
      obtain ⟨n, rfl⟩ : ∃ n', n = n' + 1 := ⟨n - 1, by omega⟩
      exact ⟨c, (impl_isBefore.l2_succ ..).trans (bif_f (dec_f (by omega)))⟩
    | succ m ih =>
      intro i n hi hn hy
      obtain ⟨n, rfl⟩ : ∃ n', n = n' + 1 := ⟨n - 1, by omega⟩
      have hix : i < x.length := by omega
      by_cases hy2 : i = y.length
      · exact ⟨false, (impl_isBefore.l2_succ ..).trans ((bif_t (dec_t (by omega))).trans (bif_t (by simp [hy2])))⟩
      · have hy3 : i < y.length := by omega
        have hne : ((i : Int) == (y.length : Int)) = false := by simp; omega
        by_cases e : x.getD i 0 = y.getD i 0
        · obtain ⟨b, hb⟩ := ih (i + 1) n (by omega) (by omega) (by omega)
          refine ⟨b, (impl_isBefore.l2_succ ..).trans ((bif_t (dec_t (by omega))).trans ((bif_f hne).trans ((chk_t (in_t hix)).trans ((chk_t (in_t hy3)).trans ((bif_f (by rw [Int.toNat_natCast, e]; simp)).trans ?_)))))⟩
          rw [wrap_up (by omega)]; exact hb
        · exact ⟨_, (impl_isBefore.l2_succ ..).trans ((bif_t (dec_t (by omega))).trans ((bif_f hne).trans ((chk_t (in_t hix)).trans ((chk_t (in_t hy3)).trans ((bif_t (by rw [Int.toNat_natCast]; simpa using e)).trans ((chk_t (in_t hix)).trans (chk_t (in_t hy3))))))))⟩
  exact key _ x.length 0 k (by omega) (BIG_lt hk hx) (by omega)
theorem impl_MeldsIn.put {R : Type} {k : Nat} (hk : BIG ≤ k) {v : List (List Int)} {x : List Int} (hv : v.length < 1048576) (hx : x.length < 1048577) (e0 : Int → Option R) : ∀ (j n : Nat), j ≤ v.length → j < n → ∃ i : Nat, i ≤ v.length ∧ impl_MeldsIn.l16 k v x e0 n (j : Int) = e0 (i : Int) := by
  intro j
  induction j with
  | zero =>
    intro n hj hn
    obtain ⟨n, rfl⟩ : ∃ n', n = n' + 1 := ⟨n - 1, by omega⟩
    exact ⟨0, by omega, (impl_MeldsIn.l16_succ ..).trans (bif_f (dec_f (by omega)))⟩
  | succ j ih =>
    intro n hj hn
    obtain ⟨n, rfl⟩ : ∃ n', n = n' + 1 := ⟨n - 1, by omega⟩
    obtain ⟨b, hb⟩ := isBefore_some hk (v.getD j []) hx
    have step : impl_MeldsIn.l16 k v x e0 (n + 1) ((j + 1 : Nat) : Int) = bif b then impl_MeldsIn.l16 k v x e0 n (j : Int) else e0 ((j + 1 : Nat) : Int) := by
      refine (impl_MeldsIn.l16_succ ..).trans ((bif_t (dec_t (by omega))).trans ?_)
      rw [wrap_dn (by omega)]
      exact (chk_t (in_t (by omega))).trans (bind_s (by rw [Int.toNat_natCast]; exact hb))
    rw [step]
    cases b with
    | true => exact ih n (by omega) (by omega)
    | false => exact ⟨j + 1, hj, rfl⟩
theorem impl_IsSetMeld.eq {k : Nat} (hk : BIG ≤ k) {x : List Int} (hx : x.length < 1048577) : impl_IsSetMeld.f k x = some (isSetMeld x) := by
  unfold isSetMeld
  refine (bind_s (impl_IsHand.eq hk (by omega))).trans ?_
  cases isHand x with
  | false => rfl
  | true =>
    refine (bif_f rfl).trans ((bind_s (impl_InRange.eq ..)).trans ?_)
    cases hr : inR (x.length : Int) 3 4 with
    | false => rfl
    | true =>
      have hr := inR_iff.1 hr
      refine (bif_f rfl).trans ?_
      have h := scan (B := Unit) x (fun m _ i => impl_IsSetMeld.l4 k x x (x.length : Int) (some false) (some true) m i) (fun _ a => rankOf a == rankOf (x.getD 0 0)) (fun b _ => b) (fun _ => some true) (fun _ _ => some false) (fun _ _ => True)
        (fun m b i h hI => by
          refine (impl_IsSetMeld.l4_succ ..).trans ((bif_t (dec_t (by omega))).trans ((chk_t (in_t h)).trans ((bind_s (impl_RankOf.eq ..)).trans ((chk_t (dec_t (by omega))).trans ((bind_s (impl_RankOf.eq ..)).trans ?_)))))
          rw [Int.toNat_natCast, getD_lt _ h, wrap_up (by omega)]
          unfold bne
          cases (rankOf x[i] == rankOf (x.getD 0 0)) <;> rfl)
        (fun b i h hI hp => trivial)
        (fun m b hI => (impl_IsSetMeld.l4_succ ..).trans (bif_f (dec_f (by omega))))
        x.length 0 k () (by omega) (BIG_lt hk hx) trivial
      refine h.trans ?_
      rw [List.drop_zero, run_all]
      unfold sameRank
      cases (x.all fun c => rankOf c == rankOf (x.getD 0 0)) <;> rfl
theorem impl_IsRunMeld.loop {k : Nat} (hk : BIG ≤ k) (v : List Int) (hv : v.length < 1048577) (hc : ∀ c ∈ v, isCard c = true) (h0 : 0 < v.length) : ∀ (m i n : Nat), i + m = v.length → m < n → impl_IsRunMeld.l5 k (v.length : Int) v (some false) (some true) n (i : Int) = some (((v.drop i).zipIdx i).all fun y => (suitOf y.1 == suitOf (v.getD 0 0)) && (y.1 == v.getD 0 0 + (y.2 : Int)))
  | m, i, 0, _, h => absurd h (by omega)
  | 0, i, n + 1, hi, _ => by
    rw [List.drop_eq_nil_of_le (by omega)]
    exact (impl_IsRunMeld.l5_succ ..).trans ((bif_f (dec_f (by omega))).trans rfl)
  | m + 1, i, n + 1, hi, hn => by
    have hil : i < v.length := by omega
    have ih := impl_IsRunMeld.loop hk v hv hc h0 m (i + 1) n (by omega) (by omega)
    have c0 := isCard_iff.1 (hc (v.getD 0 0) (getD_mem 0 h0))
    rw [drop_cons hil, List.zipIdx_cons, List.all_cons, ← Option.some_inj.2 rfl]
    refine (impl_IsRunMeld.l5_succ ..).trans ((bif_t (dec_t (by omega))).trans ((chk_t (in_t hil)).trans ((bind_s (impl_SuitOf.eq ..)).trans ((chk_t (dec_t (by omega))).trans ((bind_s (impl_SuitOf.eq ..)).trans ?_)))))
    rw [Int.toNat_natCast, getD_lt _ hil, wrap_up (by omega), wrap_i64 (n := v.getD 0 0 + (i : Int)) (by omega) (by omega)]
    unfold bne
    cases (suitOf v[i] == suitOf (v.getD 0 0)) with
    | false => rfl
    | true =>
      refine (bif_f rfl).trans ((chk_t (dec_t (by omega))).trans ?_)
      cases (v[i] == v.getD 0 0 + (i : Int)) with
      | false => rfl
      | true => exact (bif_f rfl).trans (by rw [ih]; rfl)
theorem impl_IsRunMeld.eq {k : Nat} (hk : BIG ≤ k) {x : List Int} (hx : x.length < 1048577) : impl_IsRunMeld.f k x = some (isRunMeld x) := by
  unfold isRunMeld
  refine (bind_s (impl_IsHand.eq hk (by omega))).trans ?_
  cases hh : isHand x with
  | false => rfl
  | true =>
    refine (bif_f rfl).trans ?_
    by_cases h3 : (x.length : Int) < 3
    · rw [dec_t h3]; rfl
    · rw [dec_f h3]
      have hp := sortedI_permM x
      have hl := hp.length_eq
      refine (bif_f rfl).trans ((bind_s (impl_Sorted.eq hk hx)).trans ?_)
      refine (impl_IsRunMeld.loop hk (sortedI x) (by omega) (fun c hc => (isHand_iff.1 hh).1 c (hp.mem_iff.1 hc)) (by omega) (sortedI x).length 0 k (by omega) (BIG_lt hk (by omega))).trans ?_
      rw [List.drop_zero]
      rfl
theorem and1 (q : Nat) (h : q < 4096) : ibits .and .i64 (q : Int) 1 = ((q % 2 : Nat) : Int) := by
  have e : (BitVec.ofInt 64 (q : Int) &&& BitVec.ofInt 64 1).toNat = q % 2 := by
    rw [BitVec.ofInt_natCast, show (BitVec.ofInt 64 1) = BitVec.ofNat 64 1 from rfl, BitVec.toNat_and, BitVec.toNat_ofNat, BitVec.toNat_ofNat, Nat.mod_eq_of_lt (show q < 2 ^ 64 by omega), show 1 % 2 ^ 64 = 1 from rfl, Nat.and_one_is_mod]
  show IntKind.wrap .i64 (((BitVec.ofInt 64 (q : Int) &&& BitVec.ofInt 64 1).toNat : Nat) : Int) = _
  rw [e, wrap_i64 (by omega) (by omega)]
theorem impl_MeldsIn.own {R : Type} {k : Nat} (hk : BIG ≤ k) {s : List Int} (hs : s.length ≤ 12) {q : Nat} (hq : q < 4096) (e0 : List Int → Option R) : ∀ (m i n : Nat) (u : List Int), i + m = s.length → m < n → u.length ≤ i → impl_MeldsIn.l9 k (q : Int) (s.length : Int) s e0 n (i : Int) u = e0 (u ++ pick (q / 2 ^ i) (s.drop i))
  | m, i, 0, u, _, h, _ => absurd h (by omega)
  | 0, i, n + 1, u, hi, _, _ => by
    rw [List.drop_eq_nil_of_le (by omega)]
    have e : pick (q / 2 ^ i) [] = [] := by unfold pick; rfl
    rw [e, List.append_nil]
    exact (impl_MeldsIn.l9_succ ..).trans (bif_f (dec_f (by omega)))
  | m + 1, i, n + 1, u, hi, hn, hu => by
    have hil : i < s.length := by omega
    have hqi : q / 2 ^ i < 4096 := Nat.lt_of_le_of_lt (Nat.div_le_self _ _) hq
    have ew : ((q : Int)).fdiv (2 ^ (min ((i : Int)).toNat (IntKind.bits .i64))) = ((q / 2 ^ i : Nat) : Int) := by
      rw [Int.toNat_natCast, show min i (IntKind.bits .i64) = i from Nat.min_eq_left (by show i ≤ 64; omega)]
      rw [Int.fdiv_eq_ediv_of_nonneg _ (by exact Int.pow_nonneg (by decide))]
      rw [show ((2 : Int) ^ i) = ((2 ^ i : Nat) : Int) by simp]
      exact (Int.natCast_ediv q (2 ^ i)).symm
    have ed : q / 2 ^ i / 2 = q / 2 ^ (i + 1) := by rw [Nat.div_div_eq_div_mul, Nat.pow_succ]
    rw [drop_cons hil]
    have ep : pick (q / 2 ^ i) (s[i] :: s.drop (i + 1)) = bif q / 2 ^ i % 2 == 1 then s[i] :: pick (q / 2 ^ (i + 1)) (s.drop (i + 1)) else pick (q / 2 ^ (i + 1)) (s.drop (i + 1)) := by
      rw [← ed]; rfl
    rw [ep]
    refine (impl_MeldsIn.l9_succ ..).trans ((bif_t (dec_t (by omega))).trans ((chk_t (in_t hil)).trans ((chk_t (dec_t (by omega))).trans ?_)))
    rw [ew, and1 _ hqi, Int.toNat_natCast, getD_lt _ hil, wrap_up (by omega)]
    by_cases hb : q / 2 ^ i % 2 = 1
    · rw [hb]
      refine (bif_t rfl).trans ((chk_t (rm8 (by omega))).trans ((impl_MeldsIn.own hk hs hq e0 m (i + 1) n (u ++ [s[i]]) (by omega) (by omega) (by simp; omega)).trans ?_))
      simp
    · have hb0 : q / 2 ^ i % 2 = 0 := by omega
      rw [hb0]
      exact (bif_f rfl).trans (impl_MeldsIn.own hk hs hq e0 m (i + 1) n u (by omega) (by omega) (by omega))
theorem impl_MeldsIn.masks {R : Type} {k : Nat} (hk : BIG ≤ k) {s : List Int} (hs : s.length ≤ 12) {T : Nat} (hT : T ≤ 4096) (e0 : List (List Int) → Option R) : ∀ (m q n : Nat) (v : List (List Int)), q + m = T → m < n → v.length ≤ q → ∃ w, impl_MeldsIn.l5 k (T : Int) s e0 n (q : Int) v = e0 w ∧ w.length + sumM (fun i => (isMeld (pick i s)).toNat) q = v.length + sumM (fun i => (isMeld (pick i s)).toNat) T
  | m, q, 0, v, _, h, _ => absurd h (by omega)
  | 0, q, n + 1, v, hi, _, _ => ⟨v, (impl_MeldsIn.l5_succ ..).trans (bif_f (dec_f (by omega))), by rw [show q = T by omega]⟩
  | m + 1, q, n + 1, v, hi, hn, hv => by
    have hpl : (pick q s).length ≤ 12 := Nat.le_trans (pick_sub q s).length_le hs
    have hown : ∀ E : List Int → Option R, impl_MeldsIn.l9 k (q : Int) (s.length : Int) s E k 0 [] = E (pick q s) := fun E => by
      have := impl_MeldsIn.own hk hs (q := q) (by omega) E s.length 0 k [] (by omega) (by simp [BIG] at hk; omega) (by simp)
      rw [Nat.pow_zero, Nat.div_one, List.drop_zero, List.nil_append] at this
      exact this
    have ew := wrap_up (i := q) (by omega)
    -- what a meld adds
    have add : ∃ j : Nat, j ≤ v.length ∧ ∀ E : Int → Option R, True := ⟨0, by omega, fun _ => trivial⟩
    have put : ∀ E : Int → Option R, ∃ j : Nat, j ≤ v.length ∧ impl_MeldsIn.l16 k v (pick q s) E k (v.length : Int) = E (j : Int) := fun E => impl_MeldsIn.put hk (by omega) (by omega) E v.length k (Nat.le_refl _) (BIG_lt hk (by omega))
    have hX : (v ++ ([[]] : List (List Int))).length = v.length + 1 := by simp
    have body : ∀ (j : Nat), j ≤ v.length → ∀ (rec : Int → List (List Int) → Option R), ∃ w, w.length = v.length + 1 ∧
        (chk (decide ((v.length + 1) * 24 ≤ room)) <|
        chk ((decide (0 ≤ ((v ++ ([[]] : List (List Int))).length : Int))) && (decide (((v ++ ([[]] : List (List Int))).length : Int) ≤ ((v ++ ([[]] : List (List Int))).length : Int)))) <|
        chk ((decide (0 ≤ (IntKind.wrap .i64 ((j : Int) + 1)))) && (decide ((IntKind.wrap .i64 ((j : Int) + 1)) ≤ ((v ++ ([[]] : List (List Int))).length : Int)))) <|
        chk ((decide (0 ≤ ((v ++ ([[]] : List (List Int))).length : Int))) && (decide (((v ++ ([[]] : List (List Int))).length : Int) ≤ ((v ++ ([[]] : List (List Int))).length : Int)))) <|
        chk ((decide (0 ≤ (j : Int))) && (decide ((j : Int) ≤ ((v ++ ([[]] : List (List Int))).length : Int)))) <|
        chk (((IntKind.wrap .i64 ((j : Int) + 1)).toNat) == (j : Int).toNat + 1 && (((v ++ ([[]] : List (List Int))).length : Int).toNat) == ((v ++ ([[]] : List (List Int))).length) && (((v ++ ([[]] : List (List Int))).length : Int).toNat) == ((v ++ ([[]] : List (List Int))).length) && decide ((j : Int).toNat < ((v ++ ([[]] : List (List Int))).length))) <|
        chk ((decide (0 ≤ (j : Int))) && (decide ((j : Int) < ((((v ++ ([[]] : List (List Int))).take (j : Int).toNat) ++ [] :: ((v ++ ([[]] : List (List Int))).drop (j : Int).toNat).dropLast).length : Int)))) <|
        chk ((j : Int).toNat == (j : Int).toNat) <|
        rec (IntKind.wrap .i64 ((q : Int) + 1)) ((((v ++ ([[]] : List (List Int))).take (j : Int).toNat) ++ [] :: ((v ++ ([[]] : List (List Int))).drop (j : Int).toNat).dropLast).set (j : Int).toNat (pick q s))) = rec ((q + 1 : Nat) : Int) w := fun j hj rec => by
      have hlen : (((v ++ ([[]] : List (List Int))).take j) ++ [] :: ((v ++ ([[]] : List (List Int))).drop j).dropLast).length = v.length + 1 := by
        simp only [List.length_append, List.length_take, List.length_cons, List.length_dropLast, List.length_drop, List.length_nil]; omega
      rw [wrap_up (i := j) (by omega), ew, Int.toNat_natCast, Int.toNat_natCast, Int.toNat_natCast, hX]
      refine ⟨_, ?_, (chk_t (rm24 (by omega))).trans ((chk_t (and_t (dec_t (by omega)) (dec_t (by omega)))).trans ((chk_t (and_t (dec_t (by omega)) (dec_t (by omega)))).trans ((chk_t (and_t (dec_t (by omega)) (dec_t (by omega)))).trans ((chk_t (and_t (dec_t (by omega)) (dec_t (by omega)))).trans ((chk_t (and_t (and_t (and_t (by simp) (by simp)) (by simp)) (dec_t (by omega)))).trans ((chk_t (and_t (dec_t (by omega)) (dec_t (by rw [hlen]; omega)))).trans (chk_t (by simp))))))))⟩
      rw [List.length_set, hlen]
    have next : ∀ (w1 : List (List Int)), w1.length = v.length + (isMeld (pick q s)).toNat → ∃ w, impl_MeldsIn.l5 k (T : Int) s e0 n ((q + 1 : Nat) : Int) w1 = e0 w ∧ w.length + sumM (fun i => (isMeld (pick i s)).toNat) q = v.length + sumM (fun i => (isMeld (pick i s)).toNat) T := fun w1 hw1 => by
      have hb : (isMeld (pick q s)).toNat ≤ 1 := by cases isMeld (pick q s) <;> decide
      obtain ⟨w, g1, g2⟩ := impl_MeldsIn.masks hk hs hT e0 m (q + 1) n w1 (by omega) (by omega) (by omega)
      refine ⟨w, g1, ?_⟩
      have e : sumM (fun i => (isMeld (pick i s)).toNat) (q + 1) = sumM (fun i => (isMeld (pick i s)).toNat) q + (isMeld (pick q s)).toNat := rfl
      rw [e] at g2; omega
    have h0 : impl_MeldsIn.l5 k (T : Int) s e0 (n + 1) (q : Int) v = _ := (impl_MeldsIn.l5_succ ..).trans ((bif_t (dec_t (by omega))).trans ((hown _).trans (bind_s (impl_IsSetMeld.eq hk (by omega)))))
    rw [h0]
    cases h1 : isSetMeld (pick q s) with
    | true =>
      have hm : isMeld (pick q s) = true := by unfold isMeld; rw [h1]; rfl
      obtain ⟨j, hj, hj2⟩ := put _
      obtain ⟨w1, b1, b2⟩ := body j hj (impl_MeldsIn.l5 k (T : Int) s e0 n)
      obtain ⟨w, g1, g2⟩ := next w1 (by rw [b1, hm]; rfl)
      exact ⟨w, (bif_f rfl).trans (hj2.trans (b2.trans g1)), g2⟩
    | false =>
      simp only [impl_IsRunMeld.eq hk (show (pick q s).length < 1048577 by omega)]
      cases h2 : isRunMeld (pick q s) with
      | true =>
        have hm : isMeld (pick q s) = true := by unfold isMeld; rw [h1, h2]; rfl
        obtain ⟨j, hj, hj2⟩ := put _
        obtain ⟨w1, b1, b2⟩ := body j hj (impl_MeldsIn.l5 k (T : Int) s e0 n)
        obtain ⟨w, g1, g2⟩ := next w1 (by rw [b1, hm]; rfl)
        exact ⟨w, (bif_t rfl).trans ((bind_s rfl).trans ((bif_f rfl).trans (hj2.trans (b2.trans g1)))), g2⟩
      | false =>
        have hm : isMeld (pick q s) = false := by unfold isMeld; rw [h1, h2]; rfl
        obtain ⟨w, g1, g2⟩ := next v (by rw [hm]; rfl)
        exact ⟨w, (bif_t rfl).trans ((bind_s rfl).trans ((bif_t rfl).trans (by rw [ew]; exact g1))), g2⟩
theorem impl_MeldsIn.ex {k : Nat} (hk : BIG ≤ k) {l : List Int} (hl : l.length < 1048577) : ∃ w, impl_MeldsIn.f k l = some w ∧ w.length = meldCount l := by
  unfold meldCount meldOK
  cases hh : isHand l with
  | false => exact ⟨[], (bind_s (impl_IsHand.eq hk (by omega))).trans (bif_t (by rw [hh]; rfl)), rfl⟩
  | true =>
    by_cases h12 : (l.length : Int) ≤ 12
    · have hp := sortedI_permM l
      have hsl := hp.length_eq
      have hnd := (isHand_iff.1 hh).2
      have hasc : Asc (sortedI l) := asc_of (sortedI_ascE l) (hp.nodup_iff.2 hnd)
      have hpow : (2 : Nat) ^ (sortedI l).length ≤ 4096 := by
        have := Nat.pow_le_pow_right (n := 2) (by omega) (show (sortedI l).length ≤ 12 by omega)
        simpa using this
      have ew : IntKind.wrap .i64 (1 * 2 ^ (min ((((sortedI l).length : Nat) : Int).toNat) (IntKind.bits .i64))) = ((2 ^ (sortedI l).length : Nat) : Int) := by
        rw [Int.toNat_natCast, show min (sortedI l).length (IntKind.bits .i64) = (sortedI l).length from Nat.min_eq_left (by show _ ≤ 64; omega), Int.one_mul]
        rw [show ((2 : Int) ^ (sortedI l).length) = ((2 ^ (sortedI l).length : Nat) : Int) by simp]
        generalize 2 ^ (sortedI l).length = P at hpow
        rw [wrap_i64 (by omega) (by omega)]
      obtain ⟨w, g1, g2⟩ := impl_MeldsIn.masks hk (s := sortedI l) (by omega) hpow (fun x9 => Option.some x9) (2 ^ (sortedI l).length) 0 k [] (by omega) (by simp [BIG] at hk; omega) (by simp)
      refine ⟨w, (bind_s (impl_IsHand.eq hk (by omega))).trans ((bif_f (by rw [hh]; rfl)).trans ((bif_f (dec_f (by omega))).trans ((bind_s (impl_Sorted.eq hk hl)).trans ((chk_t (dec_t (by omega))).trans (by rw [ew]; exact g1))))), ?_⟩
      rw [dec_t h12, ← meldNum_perm hp, ← meldNum_parts hasc, ← sumM_pick]
      simp only [sumM, List.length_nil, Nat.add_zero, Nat.zero_add] at g2
      rw [g2]; rfl
    · refine ⟨[], (bind_s (impl_IsHand.eq hk (by omega))).trans ((bif_f (by rw [hh]; rfl)).trans (bif_t (dec_t (by omega)))), ?_⟩
      rw [dec_f h12]; rfl
end Go.Proofs.YtfbafmeeejmgoaaGreat
