/- What records tell, in plain Lean. Conditions: enough rounds, lists of at most 2^20. -/
import Derived.Test.YtfmmdbnkeadieaaKit
import Derived.Test.YtfmmdbnkeadieaaFFnTallies
import Derived.Test.YtfmmdbnkeadieaaPDraw
import Derived.Test.YtfmmdbnkeadieaaPRecordOut
import Derived.Test.YtfmmdbnkeadieaaPReplay
set_option linter.unusedVariables false
set_option linter.unusedSimpArgs false
namespace Go.Proofs.Ytfmmdbnkeadieaa
open Go Go.Proofs.Ytfmmdbnkeadieaa.V
/-- A drawn game and a drawn record. -/
theorem spec_DrawReplayed.ok {k : Nat} (hk : BIG ≤ k) {a : List Int} (ha : a.length < 1048577) : ∃ (g : Gm) (r : List Int), spec_DrawReplayed.f k a = some (g.r.n, g.r.e, g.r.b1, g.r.b2, g.r.w, g.r.f, g.r.t, g.r.l, g.hs, g.st, g.hp, g.tn, g.mv, g.ps, r) ∧ isGame g = true ∧ g.sm ∧ g.mv = 0 ∧ r.length ≤ 401 := by
  obtain ⟨h0, e0, c0⟩ := spec_l1New.ok hk ha
  obtain ⟨g, i1, h1, e1, c1, hg, hs, hm⟩ := spec_l24Start.ok hk h0 c0
  obtain ⟨kinds, i2, h2, e2, c2, _⟩ := spec_l26Kinds.ok hk h1 c1
  have e3 := spec_RecordOut.eq hk kinds hs
  have hl := recordOut_len g kinds
  generalize recordOut g kinds = r at e3 hl
  have pre : ∀ X, (bif decide ((r.length : Int) > 0) then
      (spec_l1Once.f k a i2 h2 3).bind fun r5 =>
      bif r5.1 then
       (spec_l1Below.f k r5.2.1 (t2 r5).1 (t3 r5) (r.length : Int)).bind fun r6 =>
       (spec_l4Card.f k r6.2.1 (t2 r6).1 (t3 r6)).bind fun r7 =>
       chk ((decide (0 ≤ r6.1)) && (decide (r6.1 < (r.length : Int)))) <|
       some (g.r.n, g.r.e, g.r.b1, g.r.b2, g.r.w, g.r.f, g.r.t, g.r.l, g.hs, g.st, g.hp, g.tn, g.mv, g.ps, r.set r6.1.toNat r7.1)
      else
       some (g.r.n, g.r.e, g.r.b1, g.r.b2, g.r.w, g.r.f, g.r.t, g.r.l, g.hs, g.st, g.hp, g.tn, g.mv, g.ps, r)
     else
      some (g.r.n, g.r.e, g.r.b1, g.r.b2, g.r.w, g.r.f, g.r.t, g.r.l, g.hs, g.st, g.hp, g.tn, g.mv, g.ps, r)) = X → spec_DrawReplayed.f k a = X := fun X hX =>
    (bind_s e0).trans ((bind_s e1).trans ((bind_s e2).trans ((bind_s e3).trans hX)))
  by_cases h0 : (r.length : Int) > 0
  · obtain ⟨t, i5, h5, e5, c5⟩ := spec_l1Once.ok k h2 3 c2
    cases t with
    | false => exact ⟨g, r, pre _ ((bif_t (dec_t h0)).trans ((bind_s e5).trans (bif_f rfl))), hg, hs, hm, hl⟩
    | true =>
      obtain ⟨x, i6, h6, e6, c6, p1, p2, _⟩ := spec_l1Below.ok k h5 (r.length : Int) c5
      have p2 := p2 (by omega)
      obtain ⟨y, i7, h7, e7, c7⟩ := spec_l4Card.ok k h6 c6
      exact ⟨g, r.set x.toNat y, pre _ ((bif_t (dec_t h0)).trans ((bind_s e5).trans ((bif_t rfl).trans ((bind_s e6).trans ((bind_s e7).trans (chk_t (and_t (dec_t p1) (dec_t p2)))))))), hg, hs, hm, by rw [List.length_set]; exact hl⟩
  · exact ⟨g, r, pre _ (bif_f (dec_f h0)), hg, hs, hm, hl⟩
/-! ### Counts -/
def cntB (p : Int → Bool) (l : List Int) : Nat := (l.filter p).length
theorem cntB_cons (p : Int → Bool) (a : Int) (l : List Int) : cntB p (a :: l) = (p a).toNat + cntB p l := by
  unfold cntB
  rw [List.filter_cons]
  cases p a
  · simp
  · simp; omega
theorem cntB_le {p q : Int → Bool} (h : ∀ x, p x = true → q x = true) : ∀ l : List Int, cntB p l ≤ cntB q l
  | [] => Nat.le_refl _
  | a :: l => by
    have := cntB_le h l
    rw [cntB_cons, cntB_cons]
    cases hp : p a with
    | false => simp; omega
    | true => rw [h a hp]; omega
theorem cntB_two {p q : Int → Bool} (h : ∀ x, p x = true → q x = false) : ∀ l : List Int, cntB p l + cntB q l ≤ l.length
  | [] => Nat.le_refl _
  | a :: l => by
    have := cntB_two h l
    rw [cntB_cons, cntB_cons, List.length_cons]
    cases hp : p a with
    | false => cases q a <;> simp <;> omega
    | true => rw [h a hp]; simp; omega
theorem cntB_len (p : Int → Bool) (l : List Int) : cntB p l ≤ l.length := List.length_filter_le _ _
theorem impl_CardsPlayed.eq {k : Nat} (hk : BIG ≤ k) {l : List Int} (hl : l.length < 1048577) : impl_CardsPlayed.f k l = some (l.filter isCard) := by
  have h := scan (B := List Int) l (fun m b i => impl_CardsPlayed.l3 k l (l.length : Int) (fun x2 => some x2) m i b) (fun _ _ => true) (fun b a => bif isCard a then b ++ [a] else b) (fun x => some x) (fun _ _ => none) (fun i b => b.length ≤ i)
    (fun m b i h hI => by
      refine (impl_CardsPlayed.l3_succ ..).trans ((bif_t (dec_t (by omega))).trans ((chk_t (in_t h)).trans ((bind_s (impl_IsCard.eq ..)).trans ?_)))
      rw [Int.toNat_natCast, getD_lt _ h, wrap_up (by omega)]
      cases isCard l[i] with
      | false => rfl
      | true => exact (bif_t rfl).trans (chk_t (rm8 (by omega))))
    (fun b i h hI _ => by cases isCard l[i] <;> simp <;> omega)
    (fun m b hI => (impl_CardsPlayed.l3_succ ..).trans (bif_f (dec_f (by omega))))
    l.length 0 k [] (by omega) (BIG_lt hk hl) (by simp)
  refine h.trans ?_
  rw [List.drop_zero, run_fold, foldl_filter, List.nil_append]
theorem impl_CountTakes.eq {k : Nat} (hk : BIG ≤ k) {l : List Int} (hl : l.length < 1048577) : impl_CountTakes.f k l = some ((cntB (fun x => x == -1) l : Nat) : Int) := by
  have key : ∀ (m i n : Nat) (b : Int), i + m = l.length → m < n → 0 ≤ b → b ≤ (i : Int) → impl_CountTakes.l3 k l (l.length : Int) (fun x1 => some x1) n b (i : Int) = some (b + ((cntB (fun x => x == -1) (l.drop i) : Nat) : Int)) := by
    intro m
    induction m with
    | zero =>
      intro i n b hi hn h0 h1
      obtain ⟨n, rfl⟩ : ∃ n', n = n' + 1 := ⟨n - 1, by omega⟩
      rw [List.drop_eq_nil_of_le (by omega)]
      exact (impl_CountTakes.l3_succ ..).trans ((bif_f (dec_f (by omega))).trans (by simp [cntB]))
    | succ m ih =>
      intro i n b hi hn h0 h1
      obtain ⟨n, rfl⟩ : ∃ n', n = n' + 1 := ⟨n - 1, by omega⟩
      have hil : i < l.length := by omega
      refine (impl_CountTakes.l3_succ ..).trans ((bif_t (dec_t (by omega))).trans ((chk_t (in_t hil)).trans ?_))
      rw [drop_cons hil, cntB_cons, Int.toNat_natCast, getD_lt _ hil, wrap_up (by omega), wrap_i64 (n := b + 1) (by omega) (by omega)]
      cases (l[i] == -1) with
      | true => exact (bif_t rfl).trans ((ih (i + 1) n (b + 1) (by omega) (by omega) (by omega) (by omega)).trans (by simp; omega))
      | false => exact (bif_f rfl).trans ((ih (i + 1) n b (by omega) (by omega) (by omega) (by omega)).trans (by simp))
  have := key l.length 0 k 0 (by omega) (BIG_lt hk hl) (by omega) (by omega)
  rw [List.drop_zero, Int.zero_add] at this
  exact this
theorem impl_LongestPlays.ok {k : Nat} (hk : BIG ≤ k) {l : List Int} (hl : l.length < 1048577) : ∃ n : Int, impl_LongestPlays.f k l = some n ∧ 0 ≤ n ∧ n ≤ ((cntB isCard l : Nat) : Int) ∧ (n = 0 ↔ cntB isCard l = 0) := by
  have key : ∀ (e0 : Int → Option Int) (m i n : Nat) (b r : Int) (c : Nat), i + m = l.length → m < n → 0 ≤ r → r ≤ b → b ≤ (c : Int) → (b = 0 ↔ c = 0) → c ≤ i → ∃ b', impl_LongestPlays.l3 k l (l.length : Int) e0 n b r (i : Int) = e0 b' ∧ 0 ≤ b' ∧ b' ≤ ((c + cntB isCard (l.drop i) : Nat) : Int) ∧ (b' = 0 ↔ c + cntB isCard (l.drop i) = 0) := by
    intro e0 m
    induction m with
    | zero =>
      intro i n b r c hi hn h0 h1 h2 h3 h4
      obtain ⟨n, rfl⟩ : ∃ n', n = n' + 1 := ⟨n - 1, by omega⟩
      rw [List.drop_eq_nil_of_le (by omega)]
      exact ⟨b, (impl_LongestPlays.l3_succ ..).trans (bif_f (dec_f (by omega))), by omega, by simpa [cntB] using h2, by simpa [cntB] using h3⟩
    | succ m ih =>
      intro i n b r c hi hn h0 h1 h2 h3 h4
      obtain ⟨n, rfl⟩ : ∃ n', n = n' + 1 := ⟨n - 1, by omega⟩
      have hil : i < l.length := by omega
      have e1 : IntKind.wrap .i64 (r + 1) = r + 1 := wrap_i64 (by omega) (by omega)
      rw [drop_cons hil, cntB_cons]
      cases hc : isCard l[i] with
      | false =>
        obtain ⟨b', g1, g2, g3, g4⟩ := ih (i + 1) n b 0 c (by omega) (by omega) (by omega) (by omega) h2 h3 (by omega)
        refine ⟨b', ?_, g2, by simpa using g3, by simpa using g4⟩
        refine (impl_LongestPlays.l3_succ ..).trans ((bif_t (dec_t (by omega))).trans ((chk_t (in_t hil)).trans ((bind_s (impl_IsCard.eq ..)).trans ?_)))
        rw [Int.toNat_natCast, getD_lt _ hil, hc, wrap_up (by omega), if_neg (by omega)]
        exact g1
      | true =>
        have hmax : (if r + 1 > b then r + 1 else b) = max b (r + 1) := by split <;> omega
        obtain ⟨b', g1, g2, g3, g4⟩ := ih (i + 1) n (if r + 1 > b then r + 1 else b) (r + 1) (c + 1) (by omega) (by omega) (by omega) (by split <;> omega) (by split <;> omega) (by split <;> omega) (by omega)
        refine ⟨b', ?_, g2, by simp only [Bool.toNat_true] at *; omega, by simp only [Bool.toNat_true] at *; omega⟩
        refine (impl_LongestPlays.l3_succ ..).trans ((bif_t (dec_t (by omega))).trans ((chk_t (in_t hil)).trans ((bind_s (impl_IsCard.eq ..)).trans ?_)))
        rw [Int.toNat_natCast, getD_lt _ hil, hc, wrap_up (by omega), e1]
        exact g1
  obtain ⟨n, h1, h2, h3, h4⟩ := key (fun x2 => some x2) l.length 0 k 0 0 0 (by omega) (BIG_lt hk hl) (by omega) (by omega) (by omega) (by simp) (by omega)
  rw [List.drop_zero, Nat.zero_add] at h3 h4
  exact ⟨n, h1, h2, h3, h4⟩
theorem matchB_card {l : List Int} {c : Int} (h : matchB l c = true) : isCard c = true := by
  unfold matchB at h
  cases hp : isPattern l with
  | false => rw [hp] at h; cases h
  | true =>
    rw [hp] at h
    cases hc : isCard c with
    | true => rfl
    | false => rw [hc] at h; cases h
theorem doesSkip_card {r : Rl} {c : Int} (h : doesSkip r c = true) : isCard c = true := by
  unfold doesSkip at h
  have h := (Bool.and_eq_true_iff.1 h).2
  exact matchB_card h
theorem impl_SkipsIn.eq {k : Nat} (hk : BIG ≤ k) {r : Rl} (hr : r.sm) {l : List Int} (hl : l.length < 1048577) : r.ap (impl_SkipsIn.f k) l = some ((cntB (doesSkip r) l : Nat) : Int) := by
  have key : ∀ (m i n : Nat) (b : Int), i + m = l.length → m < n → 0 ≤ b → b ≤ (i : Int) → impl_SkipsIn.l3 k l (l.length : Int) r.n r.e r.b1 r.b2 r.w r.f r.t r.l (fun x1 => some x1) n b (i : Int) = some (b + ((cntB (doesSkip r) (l.drop i) : Nat) : Int)) := by
    intro m
    induction m with
    | zero =>
      intro i n b hi hn h0 h1
      obtain ⟨n, rfl⟩ : ∃ n', n = n' + 1 := ⟨n - 1, by omega⟩
      rw [List.drop_eq_nil_of_le (by omega)]
      exact (impl_SkipsIn.l3_succ ..).trans ((bif_f (dec_f (by omega))).trans (by simp [cntB]))
    | succ m ih =>
      intro i n b hi hn h0 h1
      obtain ⟨n, rfl⟩ : ∃ n', n = n' + 1 := ⟨n - 1, by omega⟩
      have hil : i < l.length := by omega
      refine (impl_SkipsIn.l3_succ ..).trans ((bif_t (dec_t (by omega))).trans ((chk_t (in_t hil)).trans ((bind_s (impl_DoesSkip.eq hk hr _)).trans ?_)))
      rw [drop_cons hil, cntB_cons, Int.toNat_natCast, getD_lt _ hil, wrap_up (by omega), wrap_i64 (n := b + 1) (by omega) (by omega)]
      cases doesSkip r l[i] with
      | true => exact (bif_t rfl).trans ((ih (i + 1) n (b + 1) (by omega) (by omega) (by omega) (by omega)).trans (by simp; omega))
      | false => exact (bif_f rfl).trans ((ih (i + 1) n b (by omega) (by omega) (by omega) (by omega)).trans (by simp))
  have := key l.length 0 k 0 (by omega) (BIG_lt hk hl) (by omega) (by omega)
  rw [List.drop_zero, Int.zero_add] at this
  exact this
theorem laws_sum.eq {k : Nat} (hk : BIG ≤ k) {l : List Int} (hl : l.length < 1048577) (hb : ∀ x ∈ l, -1099511627776 ≤ x ∧ x ≤ 1099511627776) : laws_sum.f k l = some l.sum := by
  have h := scan (B := Int) l (fun m b i => laws_sum.l3 k l (fun x1 => some x1) m b i) (fun _ _ => true) (fun b a => b + a) (fun x => some x) (fun _ _ => none) (fun i b => -1099511627776 * (i : Int) ≤ b ∧ b ≤ 1099511627776 * (i : Int))
    (fun m b i h hI => by
      have hx := hb _ (List.getElem_mem h)
      refine (laws_sum.l3_succ ..).trans ((bif_t (dec_t (by omega))).trans ((chk_t (in_t h)).trans ?_))
      rw [Int.toNat_natCast, getD_lt _ h, wrap_up (by omega), wrap_i64 (by omega) (by omega)]
      rfl)
    (fun b i h hI _ => by
      have hx := hb _ (List.getElem_mem h)
      omega)
    (fun m b hI => (laws_sum.l3_succ ..).trans (bif_f (dec_f (by omega))))
    l.length 0 k 0 (by omega) (BIG_lt hk hl) (by omega)
  refine h.trans ?_
  rw [List.drop_zero, run_fold, foldl_add, Int.zero_add]
theorem sum_set : ∀ (l : List Int) (j : Nat) (x : Int) (h : j < l.length), (l.set j x).sum = l.sum - l[j] + x
  | a :: l, 0, x, h => by simp; omega
  | a :: l, j + 1, x, h => by
    have := sum_set l j x (by simpa using h)
    simp only [List.set_cons_succ, List.sum_cons, List.getElem_cons_succ]
    omega
theorem impl_TurnsOf.ok {k : Nat} (hk : BIG ≤ k) {l : List Int} (hl : l.length < 1048577) {g : Gm} (hg : isGame g = true) (hs : g.sm) : ∃ t : List Int, g.ap (impl_TurnsOf.f k) l = some t ∧ t.length = g.hs.length ∧ t.sum = (replayed l 0 g).2 ∧ ∀ x ∈ t, 0 ≤ x ∧ x ≤ 1048577 := by
  have key : ∀ (e0 : List Int → Option (List Int)) (m i n : Nat) (g : Gm) (o : List Int), i + m = l.length → m < n → isGame g = true → g.sm → o.length = g.hs.length → (∀ x ∈ o, 0 ≤ x ∧ x ≤ (i : Int)) → ∃ t : List Int, impl_TurnsOf.l3 k l (l.length : Int) e0 n (i : Int) o g.r.n g.r.e g.r.b1 g.r.b2 g.r.t g.r.l g.tn g.mv g.ps g.r.w g.r.f g.hs g.st g.hp = e0 t ∧ t.length = o.length ∧ t.sum = o.sum + ((replayed (l.drop i) (i : Int) g).2 - (i : Int)) ∧ ∀ x ∈ t, 0 ≤ x ∧ x ≤ 1048577 := by
    intro e0 m
    induction m with
    | zero =>
      intro i n g o hi hn hg hs ho hx
      obtain ⟨n, rfl⟩ : ∃ n', n = n' + 1 := ⟨n - 1, by omega⟩
      rw [List.drop_eq_nil_of_le (by omega)]
      refine ⟨o, (impl_TurnsOf.l3_succ ..).trans (bif_f (dec_f (by omega))), rfl, ?_, fun x hx' => by have := hx x hx'; omega⟩
      show o.sum = o.sum + ((i : Int) - (i : Int))
      omega
    | succ m ih =>
      intro i n g o hi hn hg hs ho hx
      obtain ⟨n, rfl⟩ : ∃ n', n = n' + 1 := ⟨n - 1, by omega⟩
      have hil : i < l.length := by omega
      have pre : ∀ X, (bif (!(replayMove g l[i]).2) then e0 o else
          chk ((decide (0 ≤ g.tn)) && (decide (g.tn < (o.length : Int)))) <|
          chk ((decide (0 ≤ g.tn)) && (decide (g.tn < (o.length : Int)))) <|
          impl_TurnsOf.l3 k l (l.length : Int) e0 n ((i + 1 : Nat) : Int) (o.set g.tn.toNat (IntKind.wrap .i64 ((o.getD g.tn.toNat 0) + 1))) (replayMove g l[i]).1.r.n (replayMove g l[i]).1.r.e (replayMove g l[i]).1.r.b1 (replayMove g l[i]).1.r.b2 (replayMove g l[i]).1.r.t (replayMove g l[i]).1.r.l (replayMove g l[i]).1.tn (replayMove g l[i]).1.mv (replayMove g l[i]).1.ps (replayMove g l[i]).1.r.w (replayMove g l[i]).1.r.f (replayMove g l[i]).1.hs (replayMove g l[i]).1.st (replayMove g l[i]).1.hp) = X →
          impl_TurnsOf.l3 k l (l.length : Int) e0 (n + 1) (i : Int) o g.r.n g.r.e g.r.b1 g.r.b2 g.r.t g.r.l g.tn g.mv g.ps g.r.w g.r.f g.hs g.st g.hp = X := fun X hX => by
        refine (impl_TurnsOf.l3_succ ..).trans ((bif_t (dec_t (by omega))).trans ((chk_t (in_t hil)).trans ?_))
        rw [Int.toNat_natCast, getD_lt _ hil, wrap_up (by omega)]
        exact (bind_s (impl_ReplayMove.eq hk hs l[i])).trans hX
      have er : replayed (l.drop i) (i : Int) g = bif (replayMove g l[i]).2 then replayed (l.drop (i + 1)) ((i : Int) + 1) (replayMove g l[i]).1 else (g, (i : Int)) := by rw [drop_cons hil]; rfl
      rw [er]
      cases hm : (replayMove g l[i]).2 with
      | false =>
        refine ⟨o, pre _ (bif_t (by rw [hm]; rfl)), rfl, ?_, fun x hx' => by have := hx x hx'; omega⟩
        show o.sum = o.sum + ((i : Int) - (i : Int))
        omega
      | true =>
        obtain ⟨q1, q2, q3⟩ := replayMove_game hm
        have hgi := isGame_iff.1 hg
        have hqi := isGame_iff.1 q1
        have htn := hgi.2.2.2.2.1
        have hlen : (g.hs.length : Int) = g.r.n := hgi.2.1
        have hlen2 : ((replayMove g l[i]).1.hs.length : Int) = g.r.n := by rw [hqi.2.1, q3]
        have hj : g.tn.toNat < o.length := by omega
        have hox := hx _ (List.getElem_mem hj)
        have ew : IntKind.wrap .i64 ((o.getD g.tn.toNat 0) + 1) = o[g.tn.toNat] + 1 := by rw [getD_lt _ hj, wrap_i64 (by omega) (by omega)]
        obtain ⟨t, g1, g2, g3, g4⟩ := ih (i + 1) n (replayMove g l[i]).1 (o.set g.tn.toNat (o[g.tn.toNat] + 1)) (by omega) (by omega) q1 (replayMove_sm hs) (by rw [List.length_set]; omega) (fun x hx' => by
          rcases List.mem_or_eq_of_mem_set hx' with hx' | rfl
          · have := hx x hx'; omega
          · omega)
        refine ⟨t, pre _ ((bif_f (by rw [hm]; rfl)).trans ((chk_t (and_t (dec_t htn.1) (dec_t (by omega)))).trans ((chk_t (and_t (dec_t htn.1) (dec_t (by omega)))).trans ?_))), by rw [g2, List.length_set], ?_, g4⟩
        · rw [ew]; exact g1
        · rw [g3, sum_set _ _ _ hj, show ((i + 1 : Nat) : Int) = (i : Int) + 1 by omega]
          simp only [cond_true]
          omega
  have hlen := isGame_len hg
  obtain ⟨t, g1, g2, g3, g4⟩ := key (fun x3 => some x3) l.length 0 k g (List.replicate g.hs.length 0) (by omega) (BIG_lt hk hl) hg hs (by simp) (fun x hx => by rw [(List.mem_replicate.1 hx).2]; omega)
  refine ⟨t, (chk_t (and_t (dec_t (by omega)) (rm8 (by omega)))).trans ((bind_s (impl_Game_copied.eq hk hs)).trans ?_), by rw [g2, List.length_replicate], ?_, g4⟩
  · rw [Int.toNat_natCast]; exact g1
  · rw [g3, List.drop_zero]
    have : (List.replicate g.hs.length (0 : Int)).sum = 0 := by
      generalize g.hs.length = q
      induction q with
      | zero => rfl
      | succ q ih => rw [List.replicate_succ, List.sum_cons, ih]; omega
    rw [this]
    simp
end Go.Proofs.Ytfmmdbnkeadieaa
