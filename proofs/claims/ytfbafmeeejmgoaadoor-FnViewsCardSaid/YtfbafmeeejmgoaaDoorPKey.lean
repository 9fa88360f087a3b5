/- What hands of five are worth, in plain Lean. Conditions: enough rounds, lists of at most 2^20. -/
import Derived.Test.YtfbafmeeejmgoaaDoorKit
import Derived.Test.YtfbafmeeejmgoaaDoorFFnViews
import Derived.Test.YtfbafmeeejmgoaaDoorPHand
import Derived.Test.YtfbafmeeejmgoaaDoorPPerm
import Derived.Test.YtfbafmeeejmgoaaDoorPEqual
set_option linter.unusedVariables false
set_option linter.unusedSimpArgs false
namespace Go.Proofs.YtfbafmeeejmgoaaDoor
open Go Go.Proofs.YtfbafmeeejmgoaaDoor.V
/-! ### Counts of ranks -/
def cntStep (n : List Int) (c : Int) : List Int := n.set (rankOf c).toNat (n.getD (rankOf c).toNat 0 + 1)
def cnt (l : List Int) : List Int := l.foldl cntStep (List.replicate 13 0)
/-- What a count of the first i cards is. -/
structure CntOK (n : List Int) (l : List Int) : Prop where
  len : n.length = 13
  at' : ∀ r : Nat, r < 13 → n.getD r 0 = ((l.filter fun c => rankOf c == (r : Int)).length : Int)
theorem CntOK.zero : CntOK (List.replicate 13 0) [] := ⟨by simp, fun r hr => by rw [List.getD_eq_getElem?_getD, List.getElem?_replicate]; simp [hr]⟩
theorem CntOK.snoc {n l : List Int} (h : CntOK n l) {c : Int} (hc : isCard c = true) : CntOK (cntStep n c) (l ++ [c]) := by
  have hr : 0 ≤ rankOf c ∧ rankOf c ≤ 12 := by
    have := isCard_iff.1 hc
    have e : rankOf c = c.tmod 13 := by unfold rankOf; rw [hc]; rfl
    have h1 := Int.tmod_eq_emod_of_nonneg (b := 13) this.1
    omega
  refine ⟨by unfold cntStep; rw [List.length_set]; exact h.len, fun r hlt => ?_⟩
  rw [List.filter_append, List.length_append]
  unfold cntStep
  by_cases e : (rankOf c).toNat = r
  · have e1 : (rankOf c == (r : Int)) = true := by simp; omega
    rw [e, set_getD _ _ (by rw [h.len]; exact hlt), h.at' r hlt]
    simp [List.filter_cons, e1]
  · have e1 : (rankOf c == (r : Int)) = false := by simp; omega
    rw [List.getD_eq_getElem?_getD, List.getElem?_set, if_neg e, ← List.getD_eq_getElem?_getD, h.at' r hlt]
    simp [List.filter_cons, e1]
theorem CntOK.le {n l : List Int} (h : CntOK n l) {r : Nat} (hr : r < 13) : 0 ≤ n.getD r 0 ∧ n.getD r 0 ≤ (l.length : Int) := by
  rw [h.at' r hr]
  have := List.length_filter_le (fun c => rankOf c == (r : Int)) l
  omega
theorem cnt_take {l : List Int} (hl : ∀ c ∈ l, isCard c = true) : ∀ i, i ≤ l.length → CntOK ((l.take i).foldl cntStep (List.replicate 13 0)) (l.take i) := by
  intro i
  induction i with
  | zero => intro _; exact CntOK.zero
  | succ i ih =>
    intro h
    have e : l.take (i + 1) = l.take i ++ [l[i]'(by omega)] := List.take_succ_eq_append_getElem (by omega)
    rw [e, List.foldl_append]
    exact (ih (by omega)).snoc (hl _ (List.getElem_mem _))
theorem cnt_ok {l : List Int} (hl : ∀ c ∈ l, isCard c = true) : CntOK (cnt l) l := by
  have := cnt_take hl l.length (Nat.le_refl _)
  rwa [List.take_length] at this
theorem rank_rng {c : Int} (hc : isCard c = true) : 0 ≤ rankOf c ∧ rankOf c ≤ 12 := by
  have := isCard_iff.1 hc
  have e : rankOf c = c.tmod 13 := by unfold rankOf; rw [hc]; rfl
  have h1 := Int.tmod_eq_emod_of_nonneg (b := 13) this.1
  omega
/-! ### Ranks by their counts -/
def down (n : List Int) (c : Int) : Nat → List Int
  | 0 => []
  | j + 1 => bif n.getD j 0 == c then (j : Int) :: down n c j else down n c j
def downC (n : List Int) (c : Int) : Nat → List Int
  | 0 => []
  | j + 1 => bif n.getD j 0 == c then c :: downC n c j else downC n c j
def ranks (n : List Int) : List Int := down n 4 13 ++ (down n 3 13 ++ (down n 2 13 ++ down n 1 13))
def manyOf (n : List Int) : List Int := downC n 4 13 ++ (downC n 3 13 ++ (downC n 2 13 ++ downC n 1 13))
theorem down_len (n : List Int) (c : Int) : ∀ j, (down n c j).length ≤ j ∧ (downC n c j).length ≤ j
  | 0 => ⟨Nat.le_refl _, Nat.le_refl _⟩
  | j + 1 => by
    have := down_len n c j
    unfold down downC
    cases (n.getD j 0 == c) <;> simp <;> omega
theorem impl_ranked.l12_eq {R : Type} {k : Nat} (c : Int) {n : List Int} (e0 : LI → LI → Option R) : ∀ (j m : Nat) (v3 v4 : LI), j ≤ 13 → j < m → v3.length + j ≤ 1000 → v4.length + j ≤ 1000 → impl_ranked.l12 k c n e0 m ((j : Int) - 1) v3 v4 = e0 (v3 ++ down n c j) (v4 ++ downC n c j) := by
  intro j
  induction j with
  | zero =>
    intro m v3 v4 hj hm h3 h4
    obtain ⟨m, rfl⟩ : ∃ m', m = m' + 1 := ⟨m - 1, by omega⟩
    refine (impl_ranked.l12_succ ..).trans ((bif_f (dec_f (by omega))).trans ?_)
    unfold down downC
    rw [List.append_nil, List.append_nil]
  | succ j ih =>
    intro m v3 v4 hj hm h3 h4
    obtain ⟨m, rfl⟩ : ∃ m', m = m' + 1 := ⟨m - 1, by omega⟩
    have e : ((j + 1 : Nat) : Int) - 1 = (j : Int) := by omega
    rw [e]
    refine (impl_ranked.l12_succ ..).trans ((bif_t (dec_t (by omega))).trans ((chk_t (and_t (dec_t (by omega)) (dec_t (by omega)))).trans ?_))
    rw [Int.toNat_natCast, wrap_i64 (by omega) (by omega)]
    unfold down downC
    cases hb : (n.getD j 0 == c) with
    | true =>
      refine (bif_t rfl).trans ((chk_t (rm8 (by omega))).trans ((chk_t (rm8 (by omega))).trans ((ih m _ _ (by omega) (by omega) (by simp; omega) (by simp; omega)).trans ?_)))
      simp
    | false => exact (bif_f rfl).trans (ih m _ _ (by omega) (by omega) (by omega) (by omega))
theorem impl_ranked.l9_eq {R : Type} {k : Nat} (hk : 100 < k) {n : List Int} (e0 : LI → LI → Option R) : impl_ranked.l9 k n e0 k 4 [] [] = e0 (ranks n) (manyOf n) := by
  have d := fun c => down_len n c 13
  obtain ⟨q, rfl⟩ : ∃ q, k = q + 5 := ⟨k - 5, by omega⟩
  have one : ∀ (m : Nat) (v0 : Int) (v3 v4 : LI), 1 ≤ v0 → v0 ≤ 4 → v3.length ≤ 100 → v4.length ≤ 100 → impl_ranked.l9 (q + 5) n e0 (m + 1) v0 v3 v4 = impl_ranked.l9 (q + 5) n e0 m (v0 - 1) (v3 ++ down n v0 13) (v4 ++ downC n v0 13) := fun m v0 v3 v4 h0 h1 h3 h4 => by
    refine (impl_ranked.l9_succ ..).trans ((bif_t (dec_t (by omega))).trans ((impl_ranked.l12_eq v0 _ 13 _ _ _ (by omega) (by omega) (by omega) (by omega)).trans ?_))
    rw [wrap_i64 (by omega) (by omega)]
  have d4 := d 4; have d3 := d 3; have d2 := d 2
  show impl_ranked.l9 (q + 5) n e0 (q + 4 + 1) 4 [] [] = _
  rw [one (q + 4) 4 [] [] (by omega) (by omega) (by simp) (by simp)]
  show impl_ranked.l9 (q + 5) n e0 (q + 3 + 1) 3 _ _ = _
  rw [one (q + 3) 3 _ _ (by omega) (by omega) (by simp; omega) (by simp; omega)]
  show impl_ranked.l9 (q + 5) n e0 (q + 2 + 1) 2 _ _ = _
  rw [one (q + 2) 2 _ _ (by omega) (by omega) (by simp; omega) (by simp; omega)]
  show impl_ranked.l9 (q + 5) n e0 (q + 1 + 1) 1 _ _ = _
  rw [one (q + 1) 1 _ _ (by omega) (by omega) (by simp; omega) (by simp; omega)]
  refine (impl_ranked.l9_succ ..).trans ((bif_f rfl).trans ?_)
  unfold ranks manyOf
  simp only [List.nil_append, List.append_assoc]
theorem impl_ranked.eq {k : Nat} (hk : BIG ≤ k) {l : List Int} (hl : l.length < 1048577) (hc : ∀ c ∈ l, isCard c = true) : impl_ranked.f k l = some (ranks (cnt l), manyOf (cnt l)) := by
  have h := scan (B := List Int) l (fun m b i => impl_ranked.l3 k l (l.length : Int) (fun x2 => impl_ranked.l9 k x2 (fun x5 x6 => some (x5, x6)) k 4 [] []) m i b) (fun _ _ => true) cntStep (fun x2 => impl_ranked.l9 k x2 (fun x5 x6 => some (x5, x6)) k 4 [] []) (fun _ _ => none) (fun i b => CntOK b (l.take i) ∧ i ≤ l.length)
    (fun m b i h hI => by
      have hr := rank_rng (hc _ (List.getElem_mem h))
      have hb := hI.1.le (r := (rankOf l[i]).toNat) (by omega)
      rw [List.length_take] at hb
      refine (impl_ranked.l3_succ ..).trans ((bif_t (dec_t (by omega))).trans ((chk_t (in_t h)).trans ?_))
      rw [Int.toNat_natCast, getD_lt _ h, wrap_up (by omega)]
      refine (bind_s (impl_RankOf.eq ..)).trans ((chk_t (and_t (dec_t (by omega)) (dec_t (by omega)))).trans ((chk_t (and_t (dec_t (by omega)) (dec_t (by omega)))).trans ?_))
      rw [wrap_i64 (by omega) (by omega)]
      rfl)
    (fun b i h hI _ => ⟨by rw [List.take_succ_eq_append_getElem h]; exact hI.1.snoc (hc _ (List.getElem_mem h)), by omega⟩)
    (fun m b hI => (impl_ranked.l3_succ ..).trans (bif_f (dec_f (by omega))))
    l.length 0 k (List.replicate 13 0) (by omega) (BIG_lt hk hl) ⟨CntOK.zero, Nat.zero_le _⟩
  refine h.trans ?_
  rw [List.drop_zero, run_fold]
  exact impl_ranked.l9_eq (by simp [BIG] at hk; omega) _
/-! ### Straights -/
def str1 (n : List Int) (h : Int) (j : Nat) : Bool := n.getD (bif decide (h - (j : Int) < 0) then 12 else (h - (j : Int)).toNat) 0 == 1
def strD (n : List Int) : Nat → Int
  | 0 => -1
  | j + 1 => bif str1 n ((j : Int) + 3) 0 && (str1 n ((j : Int) + 3) 1 && (str1 n ((j : Int) + 3) 2 && (str1 n ((j : Int) + 3) 3 && str1 n ((j : Int) + 3) 4))) then (j : Int) + 3 else strD n j
def strI (r : List Int) : Int := bif ((r.length : Int) != 5) then -1 else bif r.getD 0 0 - r.getD 4 0 == 4 then r.getD 0 0 else bif decide (r = [12, 3, 2, 1, 0]) then 3 else -1
/-! ### How many ranks have a count -/
def has (n : List Int) (c : Int) : Int := n.foldl (fun b a => bif a == c then b + 1 else b) 0
/-! ### One suit -/
def flushB (l : List Int) : Bool := l.all fun c => suitOf c == suitOf (l.getD 0 0)
theorem impl_KindOf.flush {R : Type} {k : Nat} (hk : BIG ≤ k) {l : List Int} (hl : l.length < 1048577) (h0 : 0 < l.length) (e0 : Bool → Option R) : impl_KindOf.l6 k l l (l.length : Int) e0 k true 0 = e0 (flushB l) := by
  have h := scan (B := Bool) l (fun m b i => impl_KindOf.l6 k l l (l.length : Int) e0 m b i) (fun _ _ => true) (fun b a => b && (suitOf a == suitOf (l.getD 0 0))) e0 (fun _ _ => none) (fun i b => True)
    (fun m b i h hI => by
      refine (impl_KindOf.l6_succ ..).trans ((bif_t (dec_t (by omega))).trans ((chk_t (in_t h)).trans ?_))
      rw [Int.toNat_natCast, getD_lt _ h, wrap_up (by omega)]
      cases b with
      | true => exact (bif_t rfl).trans ((bind_s (impl_SuitOf.eq ..)).trans ((chk_t (dec_t (by omega))).trans (bind_s (impl_SuitOf.eq ..))))
      | false => rfl)
    (fun b i h hI hp => trivial)
    (fun m b hI => (impl_KindOf.l6_succ ..).trans (bif_f (dec_f (by omega))))
    l.length 0 k true (by omega) (BIG_lt hk hl) trivial
  refine h.trans ?_
  rw [List.drop_zero, run_fold]
  have key : ∀ (q : List Int) (b : Bool), q.foldl (fun b a => b && (suitOf a == suitOf (l.getD 0 0))) b = (b && q.all fun c => suitOf c == suitOf (l.getD 0 0)) := by
    intro q
    induction q with
    | nil => intro b; simp
    | cons a q ih => intro b; rw [List.foldl_cons, ih, List.all_cons, Bool.and_assoc]
  rw [key, Bool.true_and]; rfl
/-! ### Numbers of ranks -/
def numC (n : List Int) (c : Int) : Nat := (n.filter fun a => a == c).length
theorem numC_cons (a : Int) (n : List Int) (c : Int) : numC (a :: n) c = (a == c).toNat + numC n c := by
  unfold numC
  rw [List.filter_cons]
  cases (a == c) <;> simp; omega
theorem has_num (n : List Int) (c : Int) : has n c = (numC n c : Int) := by
  have key : ∀ (n : List Int) (b : Int), n.foldl (fun b a => bif a == c then b + 1 else b) b = b + (numC n c : Int) := by
    intro n
    induction n with
    | nil => intro b; simp [numC]
    | cons a n ih =>
      intro b
      rw [List.foldl_cons, ih, numC_cons]
      cases (a == c) <;> simp <;> omega
  unfold has
  rw [key]; omega
theorem down_num (n : List Int) (c : Int) : ∀ j, j ≤ n.length → (down n c j).length = numC (n.take j) c
  | 0, _ => by simp [down, numC]
  | j + 1, h => by
    have ih := down_num n c j (by omega)
    have e : n.take (j + 1) = n.take j ++ [n[j]'(by omega)] := List.take_succ_eq_append_getElem (by omega)
    rw [e, show down n c (j + 1) = bif n.getD j 0 == c then (j : Int) :: down n c j else down n c j from rfl]
    unfold numC at ih ⊢
    rw [List.filter_append, List.length_append, ← ih, getD_lt _ (by omega), List.filter_cons]
    cases (n[j]'(by omega) == c) <;> simp
theorem downC_rep (n : List Int) (c : Int) : ∀ j, downC n c j = List.replicate (down n c j).length c
  | 0 => rfl
  | j + 1 => by
    have ih := downC_rep n c j
    unfold down downC
    rw [ih]
    cases (n.getD j 0 == c) <;> simp [List.replicate_succ]
theorem down_rep {n : List Int} (hn : n.length = 13) (c : Int) : downC n c 13 = List.replicate (numC n c) c ∧ (down n c 13).length = numC n c := by
  have h := down_num n c 13 (by omega)
  rw [List.take_of_length_le (by omega)] at h
  exact ⟨by rw [downC_rep, h], h⟩
theorem num_sum : ∀ (n : List Int), (∀ x ∈ n, 0 ≤ x ∧ x ≤ 4) → n.sum = 4 * (numC n 4 : Int) + (3 * (numC n 3 : Int) + (2 * (numC n 2 : Int) + (numC n 1 : Int)))
  | [], _ => by simp [numC]
  | a :: n, h => by
    have ih := num_sum n (fun x hx => h x (by simp [hx]))
    have ha := h a (by simp)
    rw [List.sum_cons, ih, numC_cons, numC_cons, numC_cons, numC_cons]
    have : a = 0 ∨ a = 1 ∨ a = 2 ∨ a = 3 ∨ a = 4 := by omega
    rcases this with rfl | rfl | rfl | rfl | rfl <;> simp <;> omega
/-! ### Five ranks in a row -/
theorem nd_sub_len : ∀ (c h : List Int), c.Nodup → (∀ x ∈ c, x ∈ h) → c.length ≤ h.length
  | [], h, _, _ => Nat.zero_le _
  | a :: c, h, hn, hx => by
    have hn := List.nodup_cons.1 hn
    have ha : a ∈ h := hx a (by simp)
    have := nd_sub_len c (h.erase a) hn.2 (fun x hx' => (List.mem_erase_of_ne (by rintro rfl; exact hn.1 hx')).2 (hx x (by simp [hx'])))
    have h2 := List.length_erase_of_mem ha
    have h3 := List.length_pos_of_mem ha
    rw [List.length_cons]
    omega
theorem down_mem {n : List Int} {c : Int} : ∀ {j r : Nat}, r < j → (n.getD r 0 == c) = true → (r : Int) ∈ down n c j
  | 0, r, h, _ => by omega
  | j + 1, r, h, he => by
    unfold down
    by_cases e : r = j
    · subst e; rw [he]; simp
    · have := down_mem (n := n) (c := c) (j := j) (r := r) (by omega) he
      cases (n.getD j 0 == c)
      · exact this
      · exact List.mem_cons_of_mem _ this
theorem str_five {n : List Int} (hn : n.length = 13) {h : Int} (h0 : 3 ≤ h) (h1 : h ≤ 12) (hs : (str1 n h 0 && (str1 n h 1 && (str1 n h 2 && (str1 n h 3 && str1 n h 4)))) = true) : 5 ≤ numC n 1 := by
  rw [← (down_rep hn 1).2]
  obtain ⟨s0, hs⟩ := Bool.and_eq_true_iff.1 hs
  obtain ⟨s1, hs⟩ := Bool.and_eq_true_iff.1 hs
  obtain ⟨s2, hs⟩ := Bool.and_eq_true_iff.1 hs
  obtain ⟨s3, s4⟩ := Bool.and_eq_true_iff.1 hs
  have one : ∀ (j : Nat), 0 ≤ h - (j : Int) → str1 n h j = true → h - (j : Int) ∈ down n 1 13 := fun j hj hb => by
    unfold str1 at hb
    rw [dec_f (by omega), cond_false] at hb
    have := down_mem (j := 13) (by omega) hb
    rwa [Int.toNat_of_nonneg hj] at this
  have m0 := one 0 (by omega) s0
  have m1 := one 1 (by omega) s1
  have m2 := one 2 (by omega) s2
  have m3 := one 3 (by omega) s3
  by_cases h3 : h = 3
  · subst h3
    have m4 : (12 : Int) ∈ down n 1 13 := down_mem (n := n) (c := 1) (j := 13) (r := 12) (by omega) s4
    exact nd_sub_len [3, 2, 1, 0, 12] _ (by decide) (fun x hx => by
      simp only [List.mem_cons, List.not_mem_nil, or_false] at hx
      rcases hx with rfl | rfl | rfl | rfl | rfl
      · exact m0
      · exact m1
      · exact m2
      · exact m3
      · exact m4)
  · have m4 := one 4 (by omega) s4
    refine nd_sub_len [h - (0 : Nat), h - (1 : Nat), h - (2 : Nat), h - (3 : Nat), h - (4 : Nat)] _ ?_ (fun x hx => ?_)
    · simp only [List.nodup_cons, List.mem_cons, List.not_mem_nil, or_false, not_or]
      refine ⟨⟨?_, ?_, ?_, ?_⟩, ⟨?_, ?_, ?_⟩, ⟨?_, ?_⟩, ?_, not_false, List.nodup_nil⟩ <;> omega
    · simp only [List.mem_cons, List.not_mem_nil, or_false] at hx
      rcases hx with rfl | rfl | rfl | rfl | rfl
      · exact m0
      · exact m1
      · exact m2
      · exact m3
      · exact m4
theorem strD_or {n : List Int} (hn : n.length = 13) : ∀ j, j ≤ 10 → strD n j = -1 ∨ (3 ≤ strD n j ∧ 5 ≤ numC n 1)
  | 0, _ => .inl rfl
  | j + 1, h => by
    unfold strD
    cases hb : (str1 n ((j : Int) + 3) 0 && (str1 n ((j : Int) + 3) 1 && (str1 n ((j : Int) + 3) 2 && (str1 n ((j : Int) + 3) 3 && str1 n ((j : Int) + 3) 4)))) with
    | true => exact .inr ⟨by simp only [cond_true]; omega, str_five hn (by omega) (by omega) hb⟩
    | false => exact strD_or hn j (by omega)
/-! ### Five different ranks -/
def vecs : Nat → Nat → List (List Int)
  | 0, 0 => [[]]
  | 0, _ + 1 => []
  | m + 1, 0 => (vecs m 0).map fun v => 0 :: v
  | m + 1, s + 1 => (vecs m (s + 1)).map (fun v => 0 :: v) ++ (vecs m s).map fun v => 1 :: v
theorem vecs_mem : ∀ (n : List Int) (s : Nat), (∀ x ∈ n, x = 0 ∨ x = 1) → numC n 1 = s → n ∈ vecs n.length s
  | [], s, hx, hs => by
    have : s = 0 := by simpa [numC] using hs.symm
    subst this
    simp [vecs]
  | a :: n, s, hx, hs => by
    have ih := fun s => vecs_mem n s (fun x h => hx x (by simp [h]))
    rw [numC_cons] at hs
    rcases hx a (by simp) with rfl | rfl
    · have hs : numC n 1 = s := by simpa using hs
      have := ih s hs
      cases s with
      | zero => exact List.mem_map.2 ⟨n, this, rfl⟩
      | succ s => exact List.mem_append.2 (.inl (List.mem_map.2 ⟨n, this, rfl⟩))
    · have hs : 1 + numC n 1 = s := by simpa using hs
      obtain ⟨s, rfl⟩ : ∃ s', s = s' + 1 := ⟨s - 1, by omega⟩
      exact List.mem_append.2 (.inr (List.mem_map.2 ⟨n, ih s (by omega), rfl⟩))
set_option maxRecDepth 100000 in
set_option maxHeartbeats 4000000 in
theorem str_all : (vecs 13 5).all (fun n => strI (down n 1 13) == strD n 10) = true := by decide +kernel
/-! ### Kinds -/
/-- The kind by the greatest counts; by the numbers of ranks. -/
def kindI (p fl m4 m3 n2 m2 : Bool) : Int :=
  bif p && fl then 8 else bif m4 then 7 else bif m3 && n2 then 6 else bif fl then 5 else bif p then 4 else bif m3 then 3 else bif m2 && n2 then 2 else bif m2 then 1 else 0
def kindS (p fl h4 h3 h21 h22 : Bool) : Int :=
  bif p && fl then 8 else bif h4 then 7 else bif h3 && h21 then 6 else bif fl then 5 else bif p then 4 else bif h3 then 3 else bif h22 then 2 else bif h21 then 1 else 0
/-- What is sure of a hand of five's counts. -/
structure Five (n : List Int) : Prop where
  len : n.length = 13
  str : strI (ranks n) = strD n 10
  l1 : 1 ≤ (manyOf n).length
  l2 : ((manyOf n).getD 0 0 == 3) = true ∨ ((manyOf n).getD 0 0 == 2) = true → 2 ≤ (manyOf n).length
  kind : ∀ fl, kindI (decide (strD n 10 ≥ 0)) fl ((manyOf n).getD 0 0 == 4) ((manyOf n).getD 0 0 == 3) ((manyOf n).getD 1 0 == 2) ((manyOf n).getD 0 0 == 2) = kindS (decide (strD n 10 ≥ 0)) fl (has n 4 == 1) (has n 3 == 1) (has n 2 == 1) (has n 2 == 2)
  top : ∀ fl, (decide (strD n 10 ≥ 0)) = (kindS (decide (strD n 10 ≥ 0)) fl (has n 4 == 1) (has n 3 == 1) (has n 2 == 1) (has n 2 == 2) == 4 || kindS (decide (strD n 10 ≥ 0)) fl (has n 4 == 1) (has n 3 == 1) (has n 2 == 1) (has n 2 == 2) == 8)
  rl : (ranks n).length ≤ 52
theorem five_of {n : List Int} (hn : n.length = 13) (hx : ∀ x ∈ n, 0 ≤ x ∧ x ≤ 4) (hs : n.sum = 5) : Five n := by
  have hsum := num_sum n hx
  rw [hs] at hsum
  obtain ⟨c4, d4⟩ := down_rep hn 4
  obtain ⟨c3, d3⟩ := down_rep hn 3
  obtain ⟨c2, d2⟩ := down_rep hn 2
  obtain ⟨c1, d1⟩ := down_rep hn 1
  have hm : manyOf n = List.replicate (numC n 4) 4 ++ (List.replicate (numC n 3) 3 ++ (List.replicate (numC n 2) 2 ++ List.replicate (numC n 1) 1)) := by unfold manyOf; rw [c4, c3, c2, c1]
  have hr : (ranks n).length = numC n 4 + (numC n 3 + (numC n 2 + numC n 1)) := by unfold ranks; simp only [List.length_append]; rw [d4, d3, d2, d1]
  have h4 := has_num n 4
  have h3 := has_num n 3
  have h2 := has_num n 2
  have hd := strD_or hn 10 (Nat.le_refl _)
  by_cases h5 : numC n 1 = 5
  · have e4 : numC n 4 = 0 := by omega
    have e3 : numC n 3 = 0 := by omega
    have e2 : numC n 2 = 0 := by omega
    have h01 : ∀ x ∈ n, x = 0 ∨ x = 1 := by
      intro x hxn
      have := hx x hxn
      have no : ∀ c, numC n c = 0 → x ≠ c := fun c hc e => by
        unfold numC at hc
        have := List.length_eq_zero_iff.1 hc
        have hmem : x ∈ n.filter fun a => a == c := List.mem_filter.2 ⟨hxn, by simpa using e⟩
        rw [this] at hmem; cases hmem
      have := no 4 e4; have := no 3 e3; have := no 2 e2
      omega
    have hst : strI (down n 1 13) = strD n 10 := by
      have := List.all_eq_true.1 str_all n (by have := vecs_mem n 5 h01 h5; rwa [hn] at this)
      exact eq_of_beq this
    have hrk : ranks n = down n 1 13 := by
      have z : ∀ c, numC n c = 0 → down n c 13 = [] := fun c hc => List.length_eq_zero_iff.1 (by rw [(down_rep hn c).2]; exact hc)
      unfold ranks
      rw [z 4 e4, z 3 e3, z 2 e2]; rfl
    rw [e4, e3, e2, h5] at hm
    have hm : manyOf n = [1, 1, 1, 1, 1] := hm
    rw [e4] at h4; rw [e3] at h3; rw [e2] at h2
    refine ⟨hn, by rw [hrk]; exact hst, by rw [hm]; decide, fun h => by rw [hm]; decide, fun fl => ?_, fun fl => ?_, by omega⟩
    · rw [hm, h4, h3, h2]
      generalize decide (strD n 10 ≥ 0) = p
      revert p fl; decide
    · rw [h4, h3, h2]
      generalize decide (strD n 10 ≥ 0) = p
      revert p fl; decide
  · have hst : strD n 10 = -1 := by
      rcases hd with h | ⟨_, h⟩
      · exact h
      · omega
    have hl5 : (((ranks n).length : Int) != 5) = true := by
      rw [hr]
      simp
      omega
    have hI : strI (ranks n) = -1 := by unfold strI; rw [hl5]; rfl
    have q4 : numC n 4 = 0 ∨ numC n 4 = 1 := by omega
    have q3 : numC n 3 = 0 ∨ numC n 3 = 1 := by omega
    have q2 : numC n 2 = 0 ∨ numC n 2 = 1 ∨ numC n 2 = 2 := by omega
    have cases6 : (numC n 4 = 1 ∧ numC n 3 = 0 ∧ numC n 2 = 0 ∧ numC n 1 = 1) ∨ (numC n 4 = 0 ∧ numC n 3 = 1 ∧ numC n 2 = 1 ∧ numC n 1 = 0) ∨ (numC n 4 = 0 ∧ numC n 3 = 1 ∧ numC n 2 = 0 ∧ numC n 1 = 2) ∨ (numC n 4 = 0 ∧ numC n 3 = 0 ∧ numC n 2 = 2 ∧ numC n 1 = 1) ∨ (numC n 4 = 0 ∧ numC n 3 = 0 ∧ numC n 2 = 1 ∧ numC n 1 = 3) := by
      rcases q4 with q4 | q4 <;> rcases q3 with q3 | q3 <;> rcases q2 with q2 | q2 | q2 <;> rw [q4, q3, q2] at hsum ⊢ <;> omega
    rcases cases6 with ⟨e4, e3, e2, e1⟩ | ⟨e4, e3, e2, e1⟩ | ⟨e4, e3, e2, e1⟩ | ⟨e4, e3, e2, e1⟩ | ⟨e4, e3, e2, e1⟩
    all_goals
      rw [e4, e3, e2, e1] at hm
      rw [e4] at h4; rw [e3] at h3; rw [e2] at h2
      refine ⟨hn, by rw [hI, hst], by rw [hm]; decide, fun h => by rw [hm]; decide, fun fl => ?_, fun fl => ?_, by omega⟩
      · rw [hm, h4, h3, h2, hst]; revert fl; decide
      · rw [h4, h3, h2, hst]; revert fl; decide
theorem cnt_sum : ∀ (l : List Int) (n : List Int), n.length = 13 → (∀ c ∈ l, isCard c = true) → (l.foldl cntStep n).sum = n.sum + (l.length : Int)
  | [], n, _, _ => by simp
  | c :: l, n, hn, hc => by
    have hr := rank_rng (hc c (by simp))
    have hlt : (rankOf c).toNat < n.length := by omega
    rw [List.foldl_cons, cnt_sum l (cntStep n c) (by unfold cntStep; rw [List.length_set]; exact hn) (fun x hx => hc x (by simp [hx])), List.length_cons]
    have key : ∀ (n : List Int) (i : Nat), i < n.length → (n.set i (n.getD i 0 + 1)).sum = n.sum + 1 := by
      intro n
      induction n with
      | nil => intro i h; simp at h
      | cons a n ih =>
        intro i h
        cases i with
        | zero => simp; omega
        | succ i =>
          have := ih i (by simpa using h)
          simp only [List.set_cons_succ, List.sum_cons, List.getD_cons_succ]
          rw [this]; omega
    unfold cntStep
    rw [key n _ hlt]; omega
theorem five_hand {l : List Int} (h : isHand l = true) (h5 : l.length = 5) : Five (cnt l) := by
  obtain ⟨hc, hnd⟩ := isHand_iff.1 h
  have ho := cnt_ok hc
  refine five_of ho.len (fun x hx => ?_) ?_
  · obtain ⟨r, hr, rfl⟩ := List.getElem_of_mem hx
    rw [ho.len] at hr
    have e := ho.at' r hr
    rw [getD_lt _ (by rw [ho.len]; exact hr)] at e
    rw [e]
    have h4 : (l.filter fun c => rankOf c == (r : Int)).length ≤ 4 := by
      refine nd_sub_len _ [(r : Int), (r : Int) + 13, (r : Int) + 26, (r : Int) + 39] (hnd.filter _) (fun x hx => ?_)
      obtain ⟨h1, h2⟩ := List.mem_filter.1 hx
      have hcx := hc x h1
      have hb := isCard_iff.1 hcx
      have er : rankOf x = x.tmod 13 := by unfold rankOf; rw [hcx]; rfl
      have h3 := Int.tmod_eq_emod_of_nonneg (b := 13) hb.1
      have h2 : rankOf x = (r : Int) := by simpa using h2
      simp only [List.mem_cons, List.not_mem_nil, or_false]
      omega
    omega
  · have := cnt_sum l (List.replicate 13 0) (by simp) hc
    unfold cnt
    rw [this, h5]; rfl
def kindOf5 (l : List Int) : Int := kindS (decide (strD (cnt l) 10 ≥ 0)) (flushB l) (has (cnt l) 4 == 1) (has (cnt l) 3 == 1) (has (cnt l) 2 == 1) (has (cnt l) 2 == 2)
def pokerKind (l : List Int) : Int := bif isHand l && ((l.length : Int) == 5) then kindOf5 l else -1
def pokerKey (l : List Int) : List Int := bif isHand l && ((l.length : Int) == 5) then (bif decide (strD (cnt l) 10 ≥ 0) then [kindOf5 l, strD (cnt l) 10] else [kindOf5 l] ++ ranks (cnt l)) else []
theorem specTree (p fl h4 h3 h21 h22 : Bool) : (bif p then bif fl then some (8 : Int) else bif h4 then some 7 else bif h3 then bif h21 then some 6 else bif fl then some 5 else bif p then some 4 else bif h3 then some 3 else bif h22 then some 2 else bif h21 then some 1 else some 0
      else bif fl then some 5 else bif p then some 4 else bif h3 then some 3 else bif h22 then some 2 else bif h21 then some 1 else some 0
    else bif h4 then some 7 else bif h3 then bif h21 then some 6 else bif fl then some 5 else bif p then some 4 else bif h3 then some 3 else bif h22 then some 2 else bif h21 then some 1 else some 0
      else bif fl then some 5 else bif p then some 4 else bif h3 then some 3 else bif h22 then some 2 else bif h21 then some 1 else some 0) = some (kindS p fl h4 h3 h21 h22) := by
  revert p fl h4 h3 h21 h22; decide
theorem implTree (p fl m4 m3 n2 m2 d1 : Bool) (h1 : m3 = true ∨ m2 = true → d1 = true) : (bif p then bif fl then some (8 : Int) else bif m4 then some 7 else
      bif m3 then chk d1 <| bif n2 then some 6 else bif fl then some 5 else bif p then some 4 else bif m3 then some 3 else bif m2 then chk d1 <| bif n2 then some 2 else bif m2 then some 1 else some 0 else bif m2 then some 1 else some 0
      else bif fl then some 5 else bif p then some 4 else bif m3 then some 3 else bif m2 then chk d1 <| bif n2 then some 2 else bif m2 then some 1 else some 0 else bif m2 then some 1 else some 0
    else bif m4 then some 7 else
      bif m3 then chk d1 <| bif n2 then some 6 else bif fl then some 5 else bif p then some 4 else bif m3 then some 3 else bif m2 then chk d1 <| bif n2 then some 2 else bif m2 then some 1 else some 0 else bif m2 then some 1 else some 0
      else bif fl then some 5 else bif p then some 4 else bif m3 then some 3 else bif m2 then chk d1 <| bif n2 then some 2 else bif m2 then some 1 else some 0 else bif m2 then some 1 else some 0) = some (kindI p fl m4 m3 n2 m2) := by
  revert p fl m4 m3 n2 m2 d1; decide
theorem impl_straight.eq {k : Nat} (hk : BIG ≤ k) {r : List Int} (hr : ∀ x ∈ r, 0 ≤ x ∧ x ≤ 12) (hl : r.length < 1048577) : impl_straight.f k r = some (strI r) := by
  unfold impl_straight.f strI
  cases h5 : ((r.length : Int) != 5) with
  | true => rfl
  | false =>
    have h5' : r.length = 5 := by have : (r.length : Int) = 5 := by simpa using h5
                                  omega
    have g0 := hr _ (getD_mem (l := r) (i := 0) 0 (by omega))
    have g4 := hr _ (getD_mem (l := r) (i := 4) 0 (by omega))
    refine (bif_f rfl).trans ((chk_t (dec_t (by omega))).trans ((chk_t (dec_t (by omega))).trans ?_))
    rw [wrap_i64 (by omega) (by omega)]
    cases (r.getD 0 0 - r.getD 4 0 == 4) with
    | true => exact (bif_t rfl).trans (chk_t (dec_t (by omega)))
    | false =>
      refine (bif_f rfl).trans ((bind_s (impl_EqualInts.eq hk [12, 3, 2, 1, 0] (by omega))).trans ?_)
      unfold eqI
      cases decide (r = [12, 3, 2, 1, 0]) <;> rfl
theorem down_rng (n : List Int) (c : Int) : ∀ j, ∀ x ∈ down n c j, 0 ≤ x ∧ x < (j : Int)
  | 0, x, h => by cases h
  | j + 1, x, h => by
    unfold down at h
    cases hb : (n.getD j 0 == c) with
    | true =>
      rw [hb, cond_true] at h
      rcases List.mem_cons.1 h with rfl | h
      · omega
      · have := down_rng n c j x h; omega
    | false =>
      rw [hb, cond_false] at h
      have := down_rng n c j x h; omega
theorem ranks_rng (n : List Int) : ∀ x ∈ ranks n, 0 ≤ x ∧ x ≤ 12 := fun x hx => by
  unfold ranks at hx
  simp only [List.mem_append] at hx
  rcases hx with h | h | h | h
  · have := down_rng n 4 13 x h; omega
  · have := down_rng n 3 13 x h; omega
  · have := down_rng n 2 13 x h; omega
  · have := down_rng n 1 13 x h; omega
theorem impl_KindOf.eq {k : Nat} (hk : BIG ≤ k) {l : List Int} (hl : l.length < 1048577) : impl_KindOf.f k l = some (pokerKind l) := by
  unfold pokerKind
  refine (bind_s (impl_IsHand.eq hk (by omega))).trans ?_
  cases h1 : isHand l with
  | false => rfl
  | true =>
    refine (bif_f rfl).trans ?_
    show (bif !((l.length : Int) == 5) then _ else _) = _
    cases h2 : ((l.length : Int) == 5) with
    | false => rfl
    | true =>
      have h5 : l.length = 5 := by have : (l.length : Int) = 5 := by simpa using h2
                                   omega
      have hF := five_hand h1 h5
      have hc := (isHand_iff.1 h1).1
      have es := impl_straight.eq hk (ranks_rng (cnt l)) (by have := hF.rl; omega)
      rw [hF.str] at es
      have c0 : decide (0 < ((manyOf (cnt l)).length : Int)) = true := dec_t (by have := hF.l1; omega)
      refine (bif_f rfl).trans ((bind_s (impl_ranked.eq hk hl hc)).trans ((impl_KindOf.flush hk hl (by omega) _).trans ((bind_s es).trans ?_)))
      have key := implTree (decide (strD (cnt l) 10 ≥ 0)) (flushB l) ((manyOf (cnt l)).getD 0 0 == 4) ((manyOf (cnt l)).getD 0 0 == 3) ((manyOf (cnt l)).getD 1 0 == 2) ((manyOf (cnt l)).getD 0 0 == 2) (decide (1 < ((manyOf (cnt l)).length : Int))) (fun h => dec_t (by have := hF.l2 h; omega))
      rw [hF.kind] at key
      simp only [c0, chk_t]
      exact key
theorem impl_KeyOf.eq {k : Nat} (hk : BIG ≤ k) {l : List Int} (hl : l.length < 1048577) : impl_KeyOf.f k l = some (pokerKey l) := by
  refine (bind_s (impl_KindOf.eq hk hl)).trans ?_
  unfold pokerKind pokerKey
  cases h1 : (isHand l && ((l.length : Int) == 5)) with
  | false => rfl
  | true =>
    obtain ⟨h1, h2⟩ := Bool.and_eq_true_iff.1 h1
    have h5 : l.length = 5 := by have : (l.length : Int) = 5 := by simpa using h2
                                 omega
    have hF := five_hand h1 h5
    have hc := (isHand_iff.1 h1).1
    have es := impl_straight.eq hk (ranks_rng (cnt l)) (by have := hF.rl; omega)
    rw [hF.str] at es
    have hn : ¬ kindOf5 l < 0 := by
      unfold kindOf5
      generalize decide (strD (cnt l) 10 ≥ 0) = p
      generalize flushB l = fl
      generalize (has (cnt l) 4 == 1) = h4
      generalize (has (cnt l) 3 == 1) = h3
      generalize (has (cnt l) 2 == 1) = h21
      generalize (has (cnt l) 2 == 2) = h22
      revert p fl h4 h3 h21 h22; decide
    simp only [cond_true]
    refine (bif_f (dec_f hn)).trans ((bind_s (impl_ranked.eq hk hl hc)).trans ((bind_s es).trans ?_))
    cases h4 : decide (strD (cnt l) 10 ≥ 0) with
    | true => rfl
    | false => exact (bif_f rfl).trans (chk_t (rm8 (by have := hF.rl; simp only []; omega)))
end Go.Proofs.YtfbafmeeejmgoaaDoor
