/- The reference's melds, one by one, in plain Lean. Conditions: enough rounds, lists of at most 2^20. -/
import Derived.Test.YtfbafmeeejmgoaaDoorKit
import Derived.Test.YtfbafmeeejmgoaaDoorFFnViews
import Derived.Test.YtfbafmeeejmgoaaDoorPMelds
set_option linter.unusedVariables false
set_option linter.unusedSimpArgs false
namespace Go.Proofs.YtfbafmeeejmgoaaDoor
open Go Go.Proofs.YtfbafmeeejmgoaaDoor.V
/-! ### The order of lists -/
def lexB : List Int → List Int → Bool
  | [], [] => false
  | [], _ :: _ => true
  | _ :: _, [] => false
  | a :: x, b :: y => bif a == b then lexB x y else decide (a < b)
theorem lex_drop (x y : List Int) : ∀ i, i ≤ x.length → i ≤ y.length → (∀ j, j < i → x.getD j 0 = y.getD j 0) → lexB x y = lexB (x.drop i) (y.drop i) := by
  intro i
  induction i with
  | zero => intro _ _ _; rfl
  | succ i ih =>
    intro hx hy he
    rw [ih (by omega) (by omega) (fun j hj => he j (by omega)), drop_cons (l := x) (by omega), drop_cons (l := y) (by omega)]
    have := he i (by omega)
    rw [getD_lt _ (by omega), getD_lt _ (by omega)] at this
    rw [lexB, this]
    simp
theorem spec_l10Before.eq {k : Nat} (hk : BIG ≤ k) {x : List Int} (y : List Int) (hx : x.length < 1048577) : spec_l10Before.f k x y = some (lexB x y) := by
  have key : ∀ (m i n : Nat), i + m = x.length → m < n → i ≤ y.length → (∀ j, j < i → x.getD j 0 = y.getD j 0) → spec_l10Before.l2 k x y (fun x1 => some x1) (some (decide ((x.length : Int) < (y.length : Int)))) n (i : Int) = some (lexB x y) := by
    intro m
    induction m with
    | zero =>
      intro i n hi hn hy he
      obtain ⟨n, rfl⟩ : ∃ n', n = n' + 1 := ⟨n - 1, by omega⟩
      refine (spec_l10Before.l2_succ ..).trans ((bif_f (dec_f (by omega))).trans ?_)
      rw [lex_drop x y i (by omega) hy he, List.drop_of_length_le (by omega)]
      by_cases h : i = y.length
      · rw [List.drop_of_length_le (by omega), dec_f (by omega)]; rfl
      · rw [drop_cons (l := y) (by omega), dec_t (by omega)]; rfl
    | succ m ih =>
      intro i n hi hn hy he
      obtain ⟨n, rfl⟩ : ∃ n', n = n' + 1 := ⟨n - 1, by omega⟩
      have hix : i < x.length := by omega
      by_cases hy2 : i < y.length
      · by_cases e : x.getD i 0 = y.getD i 0
        · refine (spec_l10Before.l2_succ ..).trans ((bif_t (dec_t (by omega))).trans ((bif_t (dec_t (by omega))).trans ((chk_t (in_t hix)).trans ((chk_t (in_t hy2)).trans ((bif_f (by rw [Int.toNat_natCast, e]; simp)).trans ?_)))))
          rw [wrap_up (by omega)]
          exact ih (i + 1) n (by omega) (by omega) (by omega) (fun j hj => by
            by_cases h : j = i
            · subst h; exact e
            · exact he j (by omega))
        · refine (spec_l10Before.l2_succ ..).trans ((bif_t (dec_t (by omega))).trans ((bif_t (dec_t (by omega))).trans ((chk_t (in_t hix)).trans ((chk_t (in_t hy2)).trans ((bif_t (by rw [Int.toNat_natCast]; simpa using e)).trans ((chk_t (in_t hix)).trans ((chk_t (in_t hy2)).trans ?_)))))))
          rw [Int.toNat_natCast, lex_drop x y i (by omega) hy he, drop_cons (l := x) hix, drop_cons (l := y) hy2, lexB]
          rw [getD_lt _ hix, getD_lt _ hy2] at e ⊢
          have : (x[i] == y[i]) = false := by simpa using e
          rw [this]; rfl
      · refine (spec_l10Before.l2_succ ..).trans ((bif_t (dec_t (by omega))).trans ((bif_f (dec_f (by omega))).trans ?_))
        rw [lex_drop x y i (by omega) hy he, drop_cons (l := x) hix, List.drop_of_length_le (l := y) (by omega), dec_f (by omega)]; rfl
  exact key x.length 0 k (by omega) (BIG_lt hk hx) (Nat.zero_le _) (fun j hj => by omega)
/-! ### Put in order -/
def posM (x : List Int) (v : List (List Int)) : Nat → Nat
  | 0 => 0
  | j + 1 => bif lexB x (v.getD j []) then posM x v j else j + 1
theorem posM_le (x : List Int) (v : List (List Int)) : ∀ j, posM x v j ≤ j
  | 0 => Nat.le_refl _
  | j + 1 => by
    have := posM_le x v j
    unfold posM
    cases lexB x (v.getD j []) <;> simp only [cond_true, cond_false] <;> omega
def insM (v : List (List Int)) (x : List Int) : List (List Int) := v.take (posM x v v.length) ++ x :: v.drop (posM x v v.length)
theorem insM_len (v : List (List Int)) (x : List Int) : (insM v x).length = v.length + 1 := by
  have := posM_le x v v.length
  unfold insM
  simp only [List.length_append, List.length_take, List.length_cons, List.length_drop]
  omega
theorem insM_mem {v : List (List Int)} {x y : List Int} (h : y ∈ insM v x) : y = x ∨ y ∈ v := by
  unfold insM at h
  rcases List.mem_append.1 h with h | h
  · exact .inr (List.mem_of_mem_take h)
  · rcases List.mem_cons.1 h with h | h
    · exact .inl h
    · exact .inr (List.mem_of_mem_drop h)
theorem foldM_len (l : List (List Int)) : ∀ v, (l.foldl insM v).length = v.length + l.length := by
  induction l with
  | nil => intro v; simp
  | cons x l ih => intro v; rw [List.foldl_cons, ih, insM_len, List.length_cons]; omega
theorem foldM_mem {y : List Int} : ∀ {l v : List (List Int)}, y ∈ l.foldl insM v → y ∈ v ∨ y ∈ l
  | [], v, h => .inl h
  | x :: l, v, h => by
    rw [List.foldl_cons] at h
    rcases foldM_mem h with h | h
    · rcases insM_mem h with h | h
      · exact .inr (by simp [h])
      · exact .inl h
    · exact .inr (by simp [h])
theorem wrap_down {i : Nat} (h : i < 4611686018427387904) : IntKind.wrap .i64 (((i + 1 : Nat) : Int) - 1) = (i : Int) := by
  rw [wrap_i64 (by omega) (by omega)]; omega
theorem spec_l10Put.eq {k : Nat} (hk : BIG ≤ k) {v : List (List Int)} {x : List Int} (hv : v.length < 1048576) (hx : x.length < 1048577) : spec_l10Put.f k v x = some (insM v x) := by
  have key : ∀ (e0 : Int → Option (List (List Int))) (j n : Nat), j ≤ v.length → j < n → spec_l10Put.l2 k v x e0 n (j : Int) = e0 ((posM x v j : Nat) : Int) := by
    intro e0 j
    induction j with
    | zero =>
      intro n hj hn
      obtain ⟨n, rfl⟩ : ∃ n', n = n' + 1 := ⟨n - 1, by omega⟩
      exact (spec_l10Put.l2_succ ..).trans (bif_f (dec_f (by omega)))
    | succ j ih =>
      intro n hj hn
      obtain ⟨n, rfl⟩ : ∃ n', n = n' + 1 := ⟨n - 1, by omega⟩
      have hb := spec_l10Before.eq hk (v.getD j []) hx
      refine (spec_l10Put.l2_succ ..).trans ((bif_t (dec_t (by omega))).trans ?_)
      rw [wrap_down (by omega)]
      refine (chk_t (in_t (by omega))).trans ((bind_s (by rw [Int.toNat_natCast]; exact hb)).trans ?_)
      unfold posM
      cases lexB x (v.getD j []) with
      | true => exact ih n (by omega) (by omega)
      | false => rfl
  have hp := posM_le x v v.length
  refine (key _ v.length k (Nat.le_refl _) (BIG_lt hk (by omega))).trans ?_
  unfold insM
  generalize posM x v v.length = i at hp
  refine (chk_t (and_t (dec_t (by omega)) (dec_t (by omega)))).trans ((chk_t (rm24 ?_)).trans ((chk_t (rm24 ?_)).trans ((chk_t (and_t (dec_t (by omega)) (dec_t (by omega)))).trans ((chk_t (rm24 ?_)).trans ?_))))
  · rw [List.length_take]; omega
  · simp only [List.nil_append, List.length_take]; omega
  · simp only [List.nil_append, List.length_append, List.length_take, List.length_drop, List.length_singleton]; omega
  · rw [Int.toNat_natCast]; simp
/-! ### Sets -/
def fourS (l : List Int) (r : Int) (s : Nat) (acc : List Int) : List Int := bif hasCard l ((s : Int) * 13 + r) then acc ++ [(s : Int) * 13 + r] else acc
def fourA (l : List Int) (r : Int) : List Int := upN (fourS l r) 4 0 []
theorem fourS_len (l : List Int) (r : Int) (s : Nat) (acc : List Int) : (fourS l r s acc).length ≤ acc.length + 1 := by
  unfold fourS
  cases hasCard l ((s : Int) * 13 + r) <;> simp
theorem fourA_len (l : List Int) (r : Int) : (fourA l r).length ≤ 4 := by
  show (fourS l r 3 (fourS l r 2 (fourS l r 1 (fourS l r 0 [])))).length ≤ 4
  have h0 := fourS_len l r 0 []
  have h1 := fourS_len l r 1 (fourS l r 0 [])
  have h2 := fourS_len l r 2 (fourS l r 1 (fourS l r 0 []))
  have h3 := fourS_len l r 3 (fourS l r 2 (fourS l r 1 (fourS l r 0 [])))
  simp only [List.length_nil] at h0
  omega
def subsOf (s : List Int) : List (List Int) := bif s.length == 4 then [without s (s.getD 0 0), without s (s.getD 1 0), without s (s.getD 2 0), without s (s.getD 3 0)] else []
def setsS (l : List Int) (r : Int) : List (List Int) := (bif Nat.ble 3 (fourA l r).length then [fourA l r] else []) ++ subsOf (fourA l r)
theorem setsS_len (l : List Int) (r : Int) : (setsS l r).length ≤ 5 := by
  unfold setsS subsOf
  cases Nat.ble 3 (fourA l r).length <;> cases ((fourA l r).length == 4) <;> simp
theorem setsS_mem {l : List Int} {r : Int} {y : List Int} (h : y ∈ setsS l r) : y.length ≤ 4 := by
  have h4 := fourA_len l r
  unfold setsS subsOf at h
  have w := fun c => without_len (fourA l r) c
  rcases List.mem_append.1 h with h | h
  · cases hb : Nat.ble 3 (fourA l r).length with
    | true => rw [hb] at h; simp at h; rw [h]; exact h4
    | false => rw [hb] at h; simp at h
  · cases hb : ((fourA l r).length == 4) with
    | true =>
      rw [hb] at h
      simp only [cond_true, List.mem_cons, List.not_mem_nil, or_false] at h
      rcases h with rfl | rfl | rfl | rfl
      · exact Nat.le_trans (w _) h4
      · exact Nat.le_trans (w _) h4
      · exact Nat.le_trans (w _) h4
      · exact Nat.le_trans (w _) h4
    | false => rw [hb] at h; simp at h
theorem spec_MeldsIn.four_eq {R : Type} {k : Nat} (hk : BIG ≤ k) {l : List Int} (hl : l.length < 1048577) {r : Nat} (hr : r < 13) (e0 : List Int → Option R) : spec_MeldsIn.l9 k l (r : Int) e0 k 0 [] = e0 (fourA l (r : Int)) := by
  have h := upto (B := List Int) 4 (fun m b i => spec_MeldsIn.l9 k l (r : Int) e0 m i b) (fourS l (r : Int)) e0 (fun i b => b.length ≤ i)
    (fun m b i h hI => by
      have ew : IntKind.wrap .i64 (IntKind.wrap .i64 ((i : Int) * 13) + (r : Int)) = (i : Int) * 13 + (r : Int) := by
        rw [wrap_i64 (n := (i : Int) * 13) (by omega) (by omega), wrap_i64 (by omega) (by omega)]
      refine (spec_MeldsIn.l9_succ ..).trans ((bif_t (dec_t (by omega))).trans ?_)
      rw [ew, wrap_up (by omega)]
      refine (bind_s (spec_HasCard.eq hk _ (by omega))).trans ?_
      unfold fourS
      cases hasCard l ((i : Int) * 13 + (r : Int)) with
      | false => rfl
      | true => exact (bif_t rfl).trans (chk_t (rm8 (by omega))))
    (fun b i h hI => by have := fourS_len l (r : Int) i b; omega)
    (fun m b hI => (spec_MeldsIn.l9_succ ..).trans (bif_f (dec_f (by omega))))
    4 0 k [] (by omega) (by simp [BIG] at hk; omega) (by simp)
  exact h
theorem spec_MeldsIn.subs_eq {R : Type} {k : Nat} (hk : BIG ≤ k) {s : List Int} (hs : s.length ≤ 4) (e0 : List (List Int) → Option R) {v : List (List Int)} (hv : v.length < 1048000) : spec_MeldsIn.l16 k s e0 k v 0 = e0 ((subsOf s).foldl insM v) := by
  obtain ⟨q, rfl⟩ : ∃ q, k = q + 5 := ⟨k - 5, by simp [BIG] at hk; omega⟩
  unfold subsOf
  by_cases h4 : s.length = 4
  · have one : ∀ (m i : Nat) (v : List (List Int)), i < 4 → v.length < 1048100 → spec_MeldsIn.l16 (q + 5) s e0 (m + 1) v (i : Int) = spec_MeldsIn.l16 (q + 5) s e0 m (insM v (without s (s.getD i 0))) ((i + 1 : Nat) : Int) := fun m i v hi hv => by
      have hw := without_len s (s.getD i 0)
      refine (spec_MeldsIn.l16_succ ..).trans ((bif_t (dec_t (by omega))).trans ((bif_t (by rw [h4]; rfl)).trans ((chk_t (in_t (by omega))).trans ?_)))
      rw [Int.toNat_natCast, wrap_up (by omega)]
      exact (bind_s (spec_Without.eq hk _ (by omega))).trans (bind_s (spec_l10Put.eq hk (by omega) (by omega)))
    have hb : (s.length == 4) = true := by simp [h4]
    rw [hb]
    have l1 := insM_len v (without s (s.getD 0 0))
    have l2 := insM_len (insM v (without s (s.getD 0 0))) (without s (s.getD 1 0))
    have l3 := insM_len (insM (insM v (without s (s.getD 0 0))) (without s (s.getD 1 0))) (without s (s.getD 2 0))
    refine (one (q + 4) 0 v (by omega) (by omega)).trans ((one (q + 3) 1 _ (by omega) (by omega)).trans ((one (q + 2) 2 _ (by omega) (by omega)).trans ((one (q + 1) 3 _ (by omega) (by omega)).trans ?_)))
    exact (spec_MeldsIn.l16_succ ..).trans (bif_f (dec_f (by omega)))
  · have hb : (s.length == 4) = false := by simp [h4]
    rw [hb]
    refine (spec_MeldsIn.l16_succ ..).trans ?_
    by_cases h0 : s.length = 0
    · exact bif_f (dec_f (by omega))
    · exact (bif_t (dec_t (by omega))).trans (bif_f (by simp; omega))
theorem spec_MeldsIn.ranks_eq {R : Type} {k : Nat} (hk : BIG ≤ k) {l : List Int} (hl : l.length < 1048577) (e0 : List (List Int) → Option R) : ∀ (m r n : Nat) (v : List (List Int)), r + m = 13 → m < n → v.length + 5 * m < 1047000 → spec_MeldsIn.l5 k l e0 n v (r : Int) = e0 (((List.range' r m).flatMap fun (r : Nat) => setsS l (r : Int)).foldl insM v)
  | 0, r, 0, v, _, h, _ => absurd h (by omega)
  | 0, r, n + 1, v, hi, _, _ => (spec_MeldsIn.l5_succ ..).trans (bif_f (dec_f (by omega)))
  | m + 1, r, 0, v, _, h, _ => absurd h (by omega)
  | m + 1, r, n + 1, v, hi, hn, hv => by
    have h4 := fourA_len l (r : Int)
    have hl5 := setsS_len l (r : Int)
    rw [List.range'_succ, List.flatMap_cons, List.foldl_append]
    refine (spec_MeldsIn.l5_succ ..).trans ((bif_t (dec_t (by omega))).trans ((spec_MeldsIn.four_eq hk hl (by omega) _).trans ?_))
    have ew := wrap_up (i := r) (by omega)
    have ih := spec_MeldsIn.ranks_eq hk hl e0 m (r + 1) n ((setsS l (r : Int)).foldl insM v) (by omega) (by omega) (by rw [foldM_len]; omega)
    refine Eq.trans ?_ ih
    unfold setsS
    by_cases h3 : 3 ≤ (fourA l (r : Int)).length
    · rw [Nat.ble_eq_true_of_le h3, cond_true, List.foldl_append]
      refine (bif_t (dec_t (by omega))).trans ((bind_s (spec_l10Put.eq hk (by omega) (by omega))).trans ((spec_MeldsIn.subs_eq hk h4 _ (by rw [insM_len]; omega)).trans ?_))
      rw [ew]; rfl
    · have hb : Nat.ble 3 (fourA l (r : Int)).length = false := Bool.eq_false_iff.2 fun h => h3 (Nat.le_of_ble_eq_true h)
      rw [hb, cond_false, List.nil_append]
      refine (bif_f (dec_f (by omega))).trans ((spec_MeldsIn.subs_eq hk h4 _ (by omega)).trans ?_)
      rw [ew]
/-! ### Runs -/
def runsS (h : Int → Bool) (c : Nat) : Nat → Nat → List Int → List (List Int)
  | 0, _, _ => []
  | m + 1, j, u => bif h ((c : Int) + (j : Int)) then (bif Nat.ble 3 (j + 1) then [u ++ [(c : Int) + (j : Int)]] else []) ++ runsS h c m (j + 1) (u ++ [(c : Int) + (j : Int)]) else []
theorem runsS_len (h : Int → Bool) (c : Nat) : ∀ m j u, (runsS h c m j u).length ≤ m
  | 0, _, _ => Nat.le_refl _
  | m + 1, j, u => by
    have := runsS_len h c m (j + 1) (u ++ [(c : Int) + (j : Int)])
    unfold runsS
    cases h ((c : Int) + (j : Int)) with
    | false => simp
    | true => cases Nat.ble 3 (j + 1) <;> simp <;> omega
theorem runsS_mem (h : Int → Bool) (c : Nat) : ∀ m j u, u.length = j → ∀ y ∈ runsS h c m j u, y.length ≤ j + m
  | 0, _, _, _ => fun y hy => by cases hy
  | m + 1, j, u, hu => fun y hy => by
    have ih := runsS_mem h c m (j + 1) (u ++ [(c : Int) + (j : Int)]) (by simp [hu])
    unfold runsS at hy
    cases hh : h ((c : Int) + (j : Int)) with
    | false => rw [hh] at hy; cases hy
    | true =>
      rw [hh, cond_true] at hy
      rcases List.mem_append.1 hy with hy | hy
      · cases hb : Nat.ble 3 (j + 1) with
        | true => rw [hb] at hy; simp at hy; rw [hy]; simp; omega
        | false => rw [hb] at hy; cases hy
      · have := ih y hy; omega
theorem suit_same_in {c j : Nat} (hc : c < 52) (hj : j < 13 - c % 13) : suitOf ((c : Int) + (j : Int)) = suitOf (c : Int) := by
  have h1 := suit_div (c := (c : Int)) (isCard_iff.2 (by omega))
  have h2 := suit_div (c := (c : Int) + (j : Int)) (isCard_iff.2 (by omega))
  rw [h1.1, h2.1]; omega
theorem suit_end_in {c : Nat} (hc : c < 52) : suitOf ((c : Int) + ((13 - c % 13 : Nat) : Int)) ≠ suitOf (c : Int) := by
  have h1 := suit_div (c := (c : Int)) (isCard_iff.2 (by omega))
  rw [h1.1]
  cases hq : isCard ((c : Int) + ((13 - c % 13 : Nat) : Int)) with
  | true =>
    have h2 := suit_div hq
    rw [h2.1]; omega
  | false =>
    unfold suitOf
    rw [hq, cond_false]; omega
theorem spec_MeldsIn.run_eq {R : Type} {k : Nat} (hk : BIG ≤ k) {l : List Int} (hl : l.length < 1048577) {c : Nat} (hc : c < 52) (e0 : List (List Int) → Option R) : ∀ (m j n : Nat) (v : List (List Int)) (u : List Int), j + m = 13 - c % 13 → m < n → v.length + m < 1047500 → u.length = j → spec_MeldsIn.l24 k l (c : Int) e0 n v ((c : Int) + (j : Int)) u = e0 ((runsS (hasCard l) c m j u).foldl insM v)
  | m, j, 0, v, u, _, h, _, _ => absurd h (by omega)
  | 0, j, n + 1, v, u, hj, _, _, _ => by
    refine (spec_MeldsIn.l24_succ ..).trans ((bind_s (spec_HasCard.eq hk _ (by omega))).trans ?_)
    cases hasCard l ((c : Int) + (j : Int)) with
    | false => rfl
    | true =>
      refine (bif_t rfl).trans ((bind_s (spec_SuitOf.eq ..)).trans ((bind_s (spec_SuitOf.eq ..)).trans (bif_f ?_)))
      have := suit_end_in hc
      rw [show j = 13 - c % 13 by omega]
      simpa using this
  | m + 1, j, n + 1, v, u, hj, hn, hv, hu => by
    have hwr : IntKind.wrap .i64 ((c : Int) + (j : Int) + 1) = (c : Int) + ((j + 1 : Nat) : Int) := by rw [wrap_i64 (by omega) (by omega)]; omega
    unfold runsS
    cases hh : hasCard l ((c : Int) + (j : Int)) with
    | false => exact (spec_MeldsIn.l24_succ ..).trans ((bind_s (spec_HasCard.eq hk _ (by omega))).trans (bif_f hh))
    | true =>
      have hul : (u ++ [(c : Int) + (j : Int)]).length = j + 1 := by simp [hu]
      simp only [cond_true]
      rw [List.foldl_append]
      refine (spec_MeldsIn.l24_succ ..).trans ((bind_s (spec_HasCard.eq hk _ (by omega))).trans ((bif_t hh).trans ((bind_s (spec_SuitOf.eq ..)).trans ((bind_s (spec_SuitOf.eq ..)).trans ((bif_t (by rw [suit_same_in hc (by omega)]; simp)).trans ((chk_t (rm8 (by omega))).trans ?_))))))
      rw [hwr]
      by_cases h3 : 3 ≤ j + 1
      · rw [Nat.ble_eq_true_of_le h3, cond_true]
        refine (bif_t (dec_t (by rw [hul]; omega))).trans ((chk_t (rm8 (by rw [hul]; omega))).trans ((bind_s (spec_l10Put.eq hk (by omega) (by rw [List.nil_append, hul]; omega))).trans ?_))
        exact spec_MeldsIn.run_eq hk hl hc e0 m (j + 1) n _ _ (by omega) (by omega) (by rw [insM_len]; omega) hul
      · have hb : Nat.ble 3 (j + 1) = false := Bool.eq_false_iff.2 fun h => h3 (Nat.le_of_ble_eq_true h)
        rw [hb, cond_false]
        refine (bif_f (dec_f (by rw [hul]; omega))).trans ?_
        exact spec_MeldsIn.run_eq hk hl hc e0 m (j + 1) n v _ (by omega) (by omega) (by omega) hul
theorem spec_MeldsIn.firsts_eq {R : Type} {k : Nat} (hk : BIG ≤ k) {l : List Int} (hl : l.length < 1048577) (e0 : List (List Int) → Option R) : ∀ (m c n : Nat) (v : List (List Int)), c + m = 52 → m < n → v.length + 13 * m < 1047000 → spec_MeldsIn.l20 k l e0 n v (c : Int) = e0 (((List.range' c m).flatMap fun c => runsS (hasCard l) c (13 - c % 13) 0 []).foldl insM v)
  | 0, r, 0, v, _, h, _ => absurd h (by omega)
  | 0, r, n + 1, v, hi, _, _ => (spec_MeldsIn.l20_succ ..).trans (bif_f (dec_f (by omega)))
  | m + 1, r, 0, v, _, h, _ => absurd h (by omega)
  | m + 1, c, n + 1, v, hi, hn, hv => by
    have hle := runsS_len (hasCard l) c (13 - c % 13) 0 []
    have h1 := spec_MeldsIn.run_eq hk hl (c := c) (by omega) (fun x => spec_MeldsIn.l20 k l e0 n x ((c + 1 : Nat) : Int)) (13 - c % 13) 0 k v [] (by omega) (by simp [BIG] at hk; omega) (by omega) rfl
    have ih := spec_MeldsIn.firsts_eq hk hl e0 m (c + 1) n ((runsS (hasCard l) c (13 - c % 13) 0 []).foldl insM v) (by omega) (by omega) (by rw [foldM_len]; omega)
    rw [List.range'_succ, List.flatMap_cons, List.foldl_append]
    refine (spec_MeldsIn.l20_succ ..).trans ((bif_t (dec_t (by omega))).trans ?_)
    rw [wrap_up (by omega)]
    have e : (c : Int) + ((0 : Nat) : Int) = (c : Int) := by omega
    rw [e] at h1
    exact h1.trans ih
/-! ### All -/
def meldGo (l : List Int) : Bool := isHand l && decide ((l.length : Int) ≤ 12)
def genS (l : List Int) : List (List Int) := ((List.range' 0 13).flatMap fun (r : Nat) => setsS l (r : Int)) ++ (List.range' 0 52).flatMap fun c => runsS (hasCard l) c (13 - c % 13) 0 []
def meldsIn (l : List Int) : List (List Int) := bif meldGo l then (genS l).foldl insM [] else []
theorem spec_l10Ok.eq {k : Nat} (hk : BIG ≤ k) {l : List Int} (hl : l.length < 1048577) : spec_l10Ok.f k l = some (meldGo l) := by
  refine (bind_s (spec_IsHand.eq hk (by omega))).trans ?_
  unfold meldGo
  cases isHand l <;> rfl
theorem sets_len (l : List Int) : ∀ m r, ((List.range' r m).flatMap fun (r : Nat) => setsS l (r : Int)).length ≤ 5 * m
  | 0, r => by simp
  | m + 1, r => by
    have h1 := sets_len l m (r + 1)
    have h2 := setsS_len l (r : Int)
    rw [List.range'_succ, List.flatMap_cons, List.length_append]; omega
theorem spec_MeldsIn.eq {k : Nat} (hk : BIG ≤ k) {l : List Int} (hl : l.length < 1048577) : spec_MeldsIn.f k l = some (meldsIn l) := by
  unfold meldsIn
  refine (bind_s (spec_l10Ok.eq hk hl)).trans ?_
  cases meldGo l with
  | false => rfl
  | true =>
    have hs := sets_len l 13 0
    refine (bif_f rfl).trans ((spec_MeldsIn.ranks_eq hk hl _ 13 0 k [] (by omega) (by simp [BIG] at hk; omega) (by simp)).trans ((spec_MeldsIn.firsts_eq hk hl _ 52 0 k _ (by omega) (by simp [BIG] at hk; omega) (by rw [foldM_len, List.length_nil]; omega)).trans ?_))
    unfold genS
    rw [cond_true, List.foldl_append]
theorem meldsIn_mem {l y : List Int} (h : y ∈ meldsIn l) : y.length ≤ 13 := by
  unfold meldsIn at h
  cases hg : meldGo l with
  | false => rw [hg] at h; cases h
  | true =>
    rw [hg, cond_true] at h
    rcases foldM_mem h with h | h
    · cases h
    · unfold genS at h
      rcases List.mem_append.1 h with h | h
      · obtain ⟨r, _, h⟩ := List.mem_flatMap.1 h
        have := setsS_mem h; omega
      · obtain ⟨c, _, h⟩ := List.mem_flatMap.1 h
        have := runsS_mem (hasCard l) c (13 - c % 13) 0 [] rfl y h
        omega
theorem meldsIn_len (l : List Int) : (meldsIn l).length ≤ 1000 := by
  have hf : ∀ m c, ((List.range' c m).flatMap fun c => runsS (hasCard l) c (13 - c % 13) 0 []).length ≤ 13 * m := by
    intro m
    induction m with
    | zero => intro c; simp
    | succ m ih =>
      intro c
      have h1 := ih (c + 1)
      have h2 := runsS_len (hasCard l) c (13 - c % 13) 0 []
      rw [List.range'_succ, List.flatMap_cons, List.length_append]; omega
  have h1 := sets_len l 13 0
  have h2 := hf 52 0
  unfold meldsIn
  cases meldGo l with
  | false => simp
  | true =>
    rw [cond_true, foldM_len]
    unfold genS
    rw [List.length_append]
    simp only [List.length_nil]
    omega
end Go.Proofs.YtfbafmeeejmgoaaDoor
