/- Drawn games of patience, in plain Lean: they answer, and their lists are short. Conditions: enough rounds, a code of at most 2^20 bytes. -/
import Derived.Test.YtfbafmeeejmgoaaGreatKit
import Derived.Test.YtfbafmeeejmgoaaGreatFFnMeasured
import Derived.Test.YtfbafmeeejmgoaaGreatPPatience
import Derived.Test.YtfbafmeeejmgoaaGreatPDraw
import Derived.Test.YtfbafmeeejmgoaaGreatPDeck
set_option linter.unusedVariables false
set_option linter.unusedSimpArgs false
namespace Go.Proofs.YtfbafmeeejmgoaaGreat
open Go Go.Proofs.YtfbafmeeejmgoaaGreat.V
def smN (y : List Leaf) : Prop := ∀ l ∈ y, match l with | .ints v => v.length ≤ 110 | _ => True
theorem smN_rec {y : List Leaf} (h : smN y) : smRec y := fun l hl => by
  have := h l hl
  cases l with
  | int n => trivial
  | ints v => show v.length < 1048577; have : v.length ≤ 110 := this; omega
theorem smN_gl {y : List Leaf} (h : smN y) (j : Nat) : (gl y j).length ≤ 110 := by
  unfold gl
  split
  · rename_i l hl; exact h _ (List.mem_of_getElem? hl)
  · simp
theorem smN_two {x : List Int} (h : x.length ≤ 110) (n : Int) : smN [.ints x, .int n] := fun l hl => by
  simp only [List.mem_cons, List.not_mem_nil, or_false] at hl
  rcases hl with rfl | rfl
  · exact h
  · trivial
/-- A game whose lists are short. -/
structure Pat (ps : List (List Leaf)) (b st ws : List Int) : Prop where
  p1 : 1 ≤ ps.length
  p7 : ps.length ≤ 7
  ps : ∀ y ∈ ps, smN y
  b : b.length ≤ 110
  st : st.length ≤ 110
  ws : ws.length ≤ 110
theorem Pat.recs {ps : List (List Leaf)} {b st ws : List Int} (h : Pat ps b st ws) : smRecs ps := ⟨by have := h.p7; omega, fun y hy => smN_rec (h.ps y hy)⟩
theorem isPatience_sub {ps : List (List Leaf)} {b st ws : List Int} (h : isPatience ps b st ws = true) : b.length = 4 ∧ st.length ≤ 52 ∧ ws.length ≤ 52 ∧ ∀ y ∈ ps, (gl y 0).length ≤ 52 := by
  unfold isPatience at h
  simp only [Bool.and_eq_true] at h
  obtain ⟨⟨⟨_, h2⟩, h3⟩, h4⟩ := h
  have hl : (([st, ws, baseCards b] ++ ps.map fun y => gl y 0).flatten).length ≤ 52 := by
    unfold whole at h4
    have := (Bool.and_eq_true_iff.1 h4).1
    exact isHand_le this
  have hb : b.length = 4 := isBase_len h2
  refine ⟨hb, ?_, ?_, fun y hy => ?_⟩
  · simp only [List.flatten_append, List.flatten_cons, List.length_append] at hl; omega
  · simp only [List.flatten_append, List.flatten_cons, List.length_append] at hl; omega
  · have := List.all_eq_true.1 h3 y hy
    unfold pileFine at this
    exact (isPile_ok (Bool.and_eq_true_iff.1 this).1).1
def cp (y : List Leaf) : List Leaf := [.ints (gl y 0), .int (gi y 1)]
theorem spec_l18Copy.eq {k : Nat} (hk : BIG ≤ k) {ps : List (List Leaf)} {b st ws : List Int} (h : Pat ps b st ws) : spec_l18Copy.f k ps b st ws = some (ps.map cp, b, st, ws) := by
  have h7 := h.p7
  have hb := h.b; have hst := h.st; have hws := h.ws
  refine (chk_t (rm8 (by omega))).trans ((chk_t (rm8 (by omega))).trans ((chk_t (rm8 (by omega))).trans ?_))
  have hs := scan (B := List (List Leaf)) ps (fun m a i => spec_l18Copy.l3 k ps (fun x2 => some (x2, [] ++ b, [] ++ st, [] ++ ws)) m i a) (fun _ _ => true) (fun a y => a ++ [cp y]) (fun x2 => some (x2, [] ++ b, [] ++ st, [] ++ ws)) (fun _ _ => none) (fun i a => a.length = i)
    (fun m a i hi hI => by
      have hy := smN_gl (h.ps _ (List.getElem_mem hi)) 0
      refine (spec_l18Copy.l3_succ ..).trans ((bif_t (dec_t (by omega))).trans ((chk_t (in_t hi)).trans ?_))
      rw [Int.toNat_natCast, getD_lt _ hi, wrap_up (by omega)]
      exact (bind_s (chk_t (rm8 (by omega)))).trans (chk_t (dec_t (by unfold room; omega))))
    (fun a i hi hI _ => by simp; omega)
    (fun m a hI => (spec_l18Copy.l3_succ ..).trans (bif_f (dec_f (by omega))))
    ps.length 0 k [] (by omega) (BIG_lt hk (by omega)) rfl
  refine hs.trans ?_
  rw [List.drop_zero, run_fold, foldl_snoc]; rfl
theorem Pat.cps {ps : List (List Leaf)} {b st ws : List Int} (h : Pat ps b st ws) : Pat (ps.map cp) b st ws :=
  ⟨by rw [List.length_map]; exact h.p1, by rw [List.length_map]; exact h.p7, fun y hy => by
    obtain ⟨z, hz, rfl⟩ := List.mem_map.1 hy
    exact smN_two (smN_gl (h.ps z hz) 0) _, h.b, h.st, h.ws⟩
theorem Pat.put {ps : List (List Leaf)} {b st ws : List Int} (h : Pat ps b st ws) {x : List Int} (hx : x.length ≤ 110) (i : Nat) (n : Int) : Pat (ps.set i [.ints x, .int n]) b st ws :=
  ⟨by rw [List.length_set]; exact h.p1, by rw [List.length_set]; exact h.p7, fun y hy => by
    rcases List.mem_or_eq_of_mem_set hy with hy | rfl
    · exact h.ps y hy
    · exact smN_two hx n, h.b, h.st, h.ws⟩
theorem spec_Lifted.ok {k : Nat} (hk : BIG ≤ k) {l : List Int} (hl : l.length ≤ 110) (n g : Int) : ∃ x m c t, spec_Lifted.f k l n g = some (x, m, c, t) ∧ x.length ≤ l.length ∧ c.length ≤ l.length ∧ (t = true → 1 ≤ c.length) := by
  have e1 : spec_l16Copy.f k l n = some (l, n) := chk_t (rm8 (by omega))
  have e2 := spec_OpenCards.eq hk n (l := l) (by omega)
  have pre : ∀ {X}, _ = X → spec_Lifted.f k l n g = X := fun {X} hX => (bind_s e1).trans ((bind_s e2).trans ((bind_s (spec_l1In.eq ..)).trans hX))
  cases hin : inR g 1 (openCards l n) with
  | false => exact ⟨l, n, [], false, pre (bif_t (by rw [hin]; rfl)), Nat.le_refl _, Nat.zero_le _, fun h => by cases h⟩
  | true =>
    have hg := inR_iff.1 hin
    have hp : isPile l n = true := by
      unfold openCards at hg
      cases h : isPile l n with
      | true => rfl
      | false => rw [h] at hg; simp at hg; omega
    have ho : openCards l n = (l.length : Int) - n := by unfold openCards; rw [hp]; rfl
    obtain ⟨p1, p2, p3⟩ := isPile_ok hp
    have ew : IntKind.wrap .i64 ((l.length : Int) - g) = (l.length : Int) - g := wrap_i64 (by omega) (by omega)
    have a1 : (0 : Int) ≤ IntKind.wrap .i64 ((l.length : Int) - g) := by rw [ew]; omega
    have a2 : IntKind.wrap .i64 ((l.length : Int) - g) ≤ (l.length : Int) := by rw [ew]; omega
    have a3 : (IntKind.wrap .i64 ((l.length : Int) - g)).toNat = l.length - g.toNat := by rw [ew]; omega
    have hin2 : (decide ((0 : Int) ≤ IntKind.wrap .i64 ((l.length : Int) - g)) && decide (IntKind.wrap .i64 ((l.length : Int) - g) ≤ (l.length : Int))) = true := and_t (dec_t a1) (dec_t a2)
    have t1 : ([] ++ (l.take ((IntKind.wrap .i64 ((l.length : Int) - g)).toNat))).length ≤ l.length := by rw [List.nil_append, List.length_take]; omega
    have t2 : ([] ++ (l.drop ((IntKind.wrap .i64 ((l.length : Int) - g)).toNat))).length ≤ l.length := by rw [List.nil_append, List.length_drop]; omega
    have t3 : 1 ≤ ([] ++ (l.drop ((IntKind.wrap .i64 ((l.length : Int) - g)).toNat))).length := by rw [List.nil_append, List.length_drop, a3]; omega
    have r1 : decide ((0 + (l.take ((IntKind.wrap .i64 ((l.length : Int) - g)).toNat)).length) * 8 ≤ room) = true := rm8 (by rw [List.length_take]; omega)
    have r2 : decide ((0 + (l.drop ((IntKind.wrap .i64 ((l.length : Int) - g)).toNat)).length) * 8 ≤ room) = true := rm8 (by rw [List.length_drop]; omega)
    have pre2 : ∀ {X}, _ = X → spec_Lifted.f k l n g = X := fun {X} hX => pre ((bif_f (by rw [hin]; rfl)).trans ((chk_t hin2).trans ((chk_t r1).trans hX)))
    cases hd : decide (IntKind.wrap .i64 ((l.length : Int) - g) > 0) with
    | false => exact ⟨_, _, _, true, pre2 ((bif_f hd).trans ((chk_t hin2).trans (chk_t r2))), t1, t2, fun _ => t3⟩
    | true =>
      cases hq : (n == IntKind.wrap .i64 ((l.length : Int) - g)) with
      | true => exact ⟨_, _, _, true, pre2 ((bif_t hd).trans ((bif_t hq).trans ((chk_t hin2).trans (chk_t r2)))), t1, t2, fun _ => t3⟩
      | false => exact ⟨_, _, _, true, pre2 ((bif_t hd).trans ((bif_f hq).trans ((chk_t hin2).trans (chk_t r2)))), t1, t2, fun _ => t3⟩
theorem spec_TopOf.ok (k : Nat) (l : List Int) (n : Int) (hl : l.length ≤ 1000) : ∃ x, spec_TopOf.f k l n = some x := by
  unfold spec_TopOf.f
  cases h : ((l.length : Int) == 0) with
  | true => exact ⟨_, rfl⟩
  | false =>
    have : ¬ (l.length : Int) = 0 := by simpa using h
    have ew : IntKind.wrap .i64 ((l.length : Int) - 1) = (l.length : Int) - 1 := wrap_i64 (by omega) (by omega)
    have a1 : (0 : Int) ≤ IntKind.wrap .i64 ((l.length : Int) - 1) := by rw [ew]; omega
    have a2 : IntKind.wrap .i64 ((l.length : Int) - 1) < (l.length : Int) := by rw [ew]; omega
    exact ⟨_, (bif_f rfl).trans (chk_t (and_t (dec_t a1) (dec_t a2)))⟩
theorem spec_MayStack.ok {k : Nat} (hk : BIG ≤ k) {l : List Int} (hl : l.length ≤ 1000) (n c : Int) : ∃ t, spec_MayStack.f k l n c = some t := by
  have pre : ∀ {X}, _ = X → spec_MayStack.f k l n c = X := fun {X} hX => (bind_s (spec_IsPile.eq hk n (by omega))).trans hX
  cases h1 : isPile l n with
  | false => exact ⟨_, pre (bif_t (by rw [h1]; rfl))⟩
  | true =>
    cases h2 : isCard c with
    | false => exact ⟨_, pre ((bif_f (by rw [h1]; rfl)).trans ((bind_s (spec_IsCard.eq ..)).trans (bif_t (by rw [h2]; rfl))))⟩
    | true =>
      have pre2 : ∀ {X}, _ = X → spec_MayStack.f k l n c = X := fun {X} hX => pre ((bif_f (by rw [h1]; rfl)).trans ((bind_s (spec_IsCard.eq ..)).trans ((bif_f (by rw [h2]; rfl)).trans ((bind_s (spec_HasCard.eq hk _ (by omega))).trans hX))))
      cases h3 : hasCard l c with
      | true => exact ⟨_, pre2 (bif_t h3)⟩
      | false =>
        cases h4 : ((l.length : Int) == 0) with
        | true => exact ⟨_, pre2 ((bif_f h3).trans ((bif_t h4).trans (bind_s (spec_RankOf.eq ..))))⟩
        | false =>
          cases h5 : decide (n < (l.length : Int)) with
          | false => exact ⟨_, pre2 ((bif_f h3).trans ((bif_f h4).trans (bif_f h5)))⟩
          | true =>
            obtain ⟨x, e⟩ := spec_TopOf.ok k l n hl
            exact ⟨_, pre2 ((bif_f h3).trans ((bif_f h4).trans ((bif_t h5).trans ((bind_s e).trans (bind_s (spec_l16Step.eq ..))))))⟩
theorem spec_Stacked.ok {k : Nat} (hk : BIG ≤ k) {l c : List Int} (hl : l.length ≤ 110) (hc : c.length ≤ 110) (n : Int) : ∃ x m t, spec_Stacked.f k l n c = some (x, m, t) ∧ x.length ≤ l.length + c.length := by
  have e1 : spec_l16Copy.f k l n = some (l, n) := chk_t (rm8 (by omega))
  have key : ∀ (m i j : Nat) (x : List Int), i + m = c.length → m < j → x.length = l.length + i → ∃ x' m' t, spec_Stacked.l3 k c l n n (fun x4 x5 x6 => some (x5, x4, false)) (fun x7 => some (x7, n, true)) j (i : Int) x = some (x', m', t) ∧ x'.length ≤ l.length + c.length := by
    intro m
    induction m with
    | zero =>
      intro i j x hi hj hx
      obtain ⟨j, rfl⟩ : ∃ n', j = n' + 1 := ⟨j - 1, by omega⟩
      exact ⟨x, n, true, (spec_Stacked.l3_succ ..).trans (bif_f (dec_f (by omega))), by omega⟩
    | succ m ih =>
      intro i j x hi hj hx
      obtain ⟨j, rfl⟩ : ∃ n', j = n' + 1 := ⟨j - 1, by omega⟩
      have h : i < c.length := by omega
      obtain ⟨t, et⟩ := spec_MayStack.ok hk (l := x) (by omega) n c[i]
      have pre : ∀ {X}, _ = X → spec_Stacked.l3 k c l n n (fun x4 x5 x6 => some (x5, x4, false)) (fun x7 => some (x7, n, true)) (j + 1) (i : Int) x = X := fun {X} hX => (spec_Stacked.l3_succ ..).trans ((bif_t (dec_t (by omega))).trans ((chk_t (in_t h)).trans ((bind_s (by rw [Int.toNat_natCast, getD_lt _ h]; exact et)).trans hX)))
      cases t with
      | false => exact ⟨l, n, false, pre ((bif_t rfl).trans (bind_s e1)), by omega⟩
      | true =>
        obtain ⟨x', m', t', e, hx'⟩ := ih (i + 1) j (x ++ [c[i]]) (by omega) (by omega) (by simp; omega)
        refine ⟨x', m', t', pre ((bif_f rfl).trans ((chk_t (in_t h)).trans ((chk_t (rm8 (by omega))).trans ?_))), hx'⟩
        rw [Int.toNat_natCast, getD_lt _ h, wrap_up (by omega)]
        exact e
  obtain ⟨x', m', t, e, hx⟩ := key c.length 0 k l (by omega) (BIG_lt hk (by omega)) (by omega)
  exact ⟨x', m', t, (bind_s e1).trans e, hx⟩
theorem spec_Built.ok {k : Nat} (hk : BIG ≤ k) {b : List Int} (hb : b.length ≤ 110) (c : Int) : ∃ x t, spec_Built.f k b c = some (x, t) ∧ x.length ≤ 110 := by
  have eB := spec_IsBase.eq hk (b := b) (by omega)
  have e1 : ∃ t, spec_MayBuild.f k b c = some t ∧ (t = true → isBase b = true ∧ isCard c = true) := by
    cases h1 : isBase b with
    | false => exact ⟨false, (bind_s eB).trans (bif_f h1), fun h => by cases h⟩
    | true =>
      cases h2 : isCard c with
      | false => exact ⟨false, (bind_s eB).trans ((bif_t h1).trans ((bind_s (spec_IsCard.eq ..)).trans (bif_f h2))), fun h => by cases h⟩
      | true =>
        have h4 := isBase_len h1
        have hs : 0 ≤ suitOf c ∧ suitOf c ≤ 3 := by
          have hr := isCard_iff.1 h2
          have := card_suit4 (i := c.toNat) (by omega)
          rw [Int.toNat_of_nonneg hr.1] at this
          omega
        exact ⟨_, (bind_s eB).trans ((bif_t h1).trans ((bind_s (spec_IsCard.eq ..)).trans ((bif_t h2).trans ((bind_s (spec_StepOf.eq ..)).trans ((bind_s (spec_SuitOf.eq ..)).trans (chk_t (and_t (dec_t hs.1) (dec_t (by omega))))))))), fun _ => ⟨rfl, rfl⟩⟩
  obtain ⟨t, et, ht⟩ := e1
  have pre : ∀ {X}, _ = X → spec_Built.f k b c = X := fun {X} hX => (chk_t (rm8 (by omega))).trans ((bind_s et).trans hX)
  cases t with
  | false => exact ⟨_, false, pre (bif_t rfl), hb⟩
  | true =>
    obtain ⟨h1, h2⟩ := ht rfl
    have h4 := isBase_len h1
    have hs : 0 ≤ suitOf c ∧ suitOf c ≤ 3 := by
      have hr := isCard_iff.1 h2
      have := card_suit4 (i := c.toNat) (by omega)
      rw [Int.toNat_of_nonneg hr.1] at this
      omega
    have hl : (([] : List Int) ++ b).length = 4 := h4
    exact ⟨_, true, pre ((bif_f rfl).trans ((bind_s (spec_SuitOf.eq ..)).trans ((bind_s (spec_SuitOf.eq ..)).trans ((chk_t (and_t (dec_t hs.1) (dec_t (by rw [hl]; omega)))).trans (chk_t (and_t (dec_t hs.1) (dec_t (by rw [hl]; omega)))))))), by rw [List.length_set]; omega⟩
abbrev R5 := Option (List (List Leaf) × LI × LI × LI × Bool)
def patOut (r : R5) : Prop := ∃ ps b st ws t, r = some (ps, b, st, ws, t) ∧ Pat ps b st ws
theorem Pat.first {ps : List (List Leaf)} {b st ws : List Int} (h : Pat ps b st ws) {k : Nat} (hk : BIG ≤ k) : spec_IsPatience.f k ps b st ws = some (isPatience ps b st ws) :=
  spec_IsPatience.eq hk h.recs (by have := h.b; omega) (by have := h.st; omega) (by have := h.ws; omega)
theorem spec_Turn.ok {k : Nat} (hk : BIG ≤ k) {ps : List (List Leaf)} {b st ws : List Int} (h : Pat ps b st ws) : patOut (spec_Turn.f k ps b st ws) := by
  have pre : ∀ {X}, _ = X → spec_Turn.f k ps b st ws = X := fun {X} hX => (bind_s (spec_l18Copy.eq hk h)).trans ((bind_s (h.first hk)).trans hX)
  have same := h.cps
  cases h1 : isPatience ps b st ws with
  | false => exact ⟨_, _, _, _, _, pre (bif_t (by rw [h1]; rfl)), same⟩
  | true =>
    obtain ⟨s1, s2, s3, s4⟩ := isPatience_sub h1
    have pre2 : ∀ {X}, _ = X → spec_Turn.f k ps b st ws = X := fun {X} hX => pre ((bif_f (by rw [h1]; rfl)).trans hX)
    cases h2 : (IntKind.wrap .i64 ((st.length : Int) + (ws.length : Int)) == 0) with
    | true => exact ⟨_, _, _, _, _, pre2 (bif_t h2), same⟩
    | false =>
      cases h3 : ((st.length : Int) == 0) with
      | true => exact ⟨_, _, _, _, _, pre2 ((bif_f h2).trans (bif_t h3)), ⟨same.p1, same.p7, same.ps, same.b, same.ws, by simp⟩⟩
      | false =>
        have : ¬ (st.length : Int) = 0 := by simpa using h3
        refine ⟨_, _, _, _, _, pre2 ((bif_f h2).trans ((bif_f h3).trans ((chk_t (dec_t (by omega))).trans ((chk_t (rm8 (by show ws.length + 1 ≤ _; omega))).trans ((chk_t (dec_t (by omega))).trans (chk_t (rm8 (by rw [List.length_drop]; omega)))))))), ⟨same.p1, same.p7, same.ps, same.b, ?_, ?_⟩⟩
        · rw [List.nil_append, List.length_drop]; omega
        · show (ws ++ [_]).length ≤ 110; simp; omega
theorem spec_MoveUp.ok {k : Nat} (hk : BIG ≤ k) {ps : List (List Leaf)} {b st ws : List Int} (h : Pat ps b st ws) (g : Int) : patOut (spec_MoveUp.f k ps b st ws g) := by
  have pre : ∀ {X}, _ = X → spec_MoveUp.f k ps b st ws g = X := fun {X} hX => (bind_s (spec_l18Copy.eq hk h)).trans ((bind_s (h.first hk)).trans hX)
  have same := h.cps
  have h7 := h.p7
  have h1 := h.p1
  cases h1 : isPatience ps b st ws with
  | false => exact ⟨_, _, _, _, _, pre (bif_t (by rw [h1]; rfl)), same⟩
  | true =>
    obtain ⟨s1, s2, s3, s4⟩ := isPatience_sub h1
    have ew : IntKind.wrap .i64 ((ps.length : Int) - 1) = (ps.length : Int) - 1 := wrap_i64 (by omega) (by omega)
    have pre2 : ∀ {X}, _ = X → spec_MoveUp.f k ps b st ws g = X := fun {X} hX => pre ((bif_f (by rw [h1]; rfl)).trans ((bind_s (spec_l1In.eq ..)).trans hX))
    cases h2 : inR g 0 (IntKind.wrap .i64 ((ps.length : Int) - 1)) with
    | false => exact ⟨_, _, _, _, _, pre2 (bif_t (by rw [h2]; rfl)), same⟩
    | true =>
      have hg := inR_iff.1 h2
      rw [ew] at hg
      have hgl : g.toNat < ps.length := by omega
      have hy := smN_gl (h.ps _ (List.getElem_mem hgl)) 0
      obtain ⟨x, m, c, t, eL, l1, l2, l3⟩ := spec_Lifted.ok hk (l := gl (ps.getD g.toNat []) 0) (by rw [getD_lt _ hgl]; exact hy) (gi (ps.getD g.toNat []) 1) 1
      rw [getD_lt _ hgl] at l1 l2
      have pre3 : ∀ {X}, _ = X → spec_MoveUp.f k ps b st ws g = X := fun {X} hX => pre2 ((bif_f (by rw [h2]; rfl)).trans ((chk_t (and_t (dec_t hg.1) (dec_t (by omega)))).trans ((bind_s eL).trans hX)))
      cases t with
      | false => exact ⟨_, _, _, _, _, pre3 (bif_t rfl), same⟩
      | true =>
        have l3 := l3 rfl
        obtain ⟨y, t2, eB, hyl⟩ := spec_Built.ok hk h.b (c.getD 0 0)
        have pre4 : ∀ {X}, _ = X → spec_MoveUp.f k ps b st ws g = X := fun {X} hX => pre3 ((bif_f rfl).trans ((chk_t (dec_t (by show (0 : Int) < (c.length : Int); omega))).trans ((bind_s eB).trans hX)))
        cases t2 with
        | false => exact ⟨_, _, _, _, _, pre4 (bif_t rfl), same⟩
        | true =>
          have put := same.put (x := x) (by omega) g.toNat m
          exact ⟨_, _, _, _, _, pre4 ((bif_f rfl).trans (chk_t (and_t (dec_t hg.1) (dec_t (by show g < ((ps.map cp).length : Int); rw [List.length_map]; omega))))), ⟨put.p1, put.p7, put.ps, hyl, put.st, put.ws⟩⟩
theorem spec_MoveWaste.ok {k : Nat} (hk : BIG ≤ k) {ps : List (List Leaf)} {b st ws : List Int} (h : Pat ps b st ws) (g : Int) : patOut (spec_MoveWaste.f k ps b st ws g) := by
  have eC := spec_l18Copy.eq hk h
  have pre : ∀ {X}, _ = X → spec_MoveWaste.f k ps b st ws g = X := fun {X} hX => (bind_s eC).trans ((bind_s (h.first hk)).trans hX)
  have same := h.cps
  have h7 := h.p7
  have hp1 := h.p1
  cases h1 : isPatience ps b st ws with
  | false => exact ⟨_, _, _, _, _, pre (bif_t (by rw [h1]; rfl)), same⟩
  | true =>
    obtain ⟨s1, s2, s3, s4⟩ := isPatience_sub h1
    have pre2 : ∀ {X}, _ = X → spec_MoveWaste.f k ps b st ws g = X := fun {X} hX => pre ((bif_f (by rw [h1]; rfl)).trans hX)
    cases h0 : ((ws.length : Int) == 0) with
    | true => exact ⟨_, _, _, _, _, pre2 (bif_t h0), same⟩
    | false =>
      have hw0 : ¬ (ws.length : Int) = 0 := by simpa using h0
      have ew : IntKind.wrap .i64 ((ps.length : Int) - 1) = (ps.length : Int) - 1 := wrap_i64 (by omega) (by omega)
      have ew2 : IntKind.wrap .i64 ((ws.length : Int) - 1) = (ws.length : Int) - 1 := wrap_i64 (by omega) (by omega)
      have pre3 : ∀ {X}, _ = X → spec_MoveWaste.f k ps b st ws g = X := fun {X} hX => pre2 ((bif_f h0).trans ((bind_s (spec_l1In.eq ..)).trans hX))
      cases h2 : inR g (-1) (IntKind.wrap .i64 ((ps.length : Int) - 1)) with
      | false => exact ⟨_, _, _, _, _, pre3 (bif_t (by rw [h2]; rfl)), same⟩
      | true =>
        have hg := inR_iff.1 h2
        rw [ew] at hg
        have a1 : (0 : Int) ≤ IntKind.wrap .i64 ((ws.length : Int) - 1) := by rw [ew2]; omega
        have a2 : IntKind.wrap .i64 ((ws.length : Int) - 1) < (ws.length : Int) := by rw [ew2]; omega
        have hwt : ([] ++ (ws.take ((IntKind.wrap .i64 ((ws.length : Int) - 1)).toNat))).length ≤ 110 := by rw [List.nil_append, List.length_take]; omega
        have pre4 : ∀ {X}, _ = X → spec_MoveWaste.f k ps b st ws g = X := fun {X} hX => pre3 ((bif_f (by rw [h2]; rfl)).trans ((chk_t (and_t (dec_t a1) (dec_t a2))).trans ((chk_t (and_t (dec_t a1) (dec_t (Int.le_of_lt a2)))).trans ((chk_t (rm8 (by rw [List.length_take]; omega))).trans hX))))
        by_cases hneg : g < 0
        · obtain ⟨y, t2, eB, hyl⟩ := spec_Built.ok hk h.b (ws.getD ((IntKind.wrap .i64 ((ws.length : Int) - 1)).toNat) 0)
          cases t2 with
          | false => exact ⟨_, _, _, _, _, pre4 ((bif_t (dec_t hneg)).trans ((bind_s eB).trans ((bif_t rfl).trans (bind_s eC)))), same⟩
          | true => exact ⟨_, _, _, _, _, pre4 ((bif_t (dec_t hneg)).trans ((bind_s eB).trans (bif_f rfl))), ⟨same.p1, same.p7, same.ps, hyl, same.st, hwt⟩⟩
        · have hgl : g.toNat < ps.length := by omega
          have hy := s4 _ (List.getElem_mem hgl)
          obtain ⟨x, m, t, eS, hx⟩ := spec_Stacked.ok hk (l := gl (ps.getD g.toNat []) 0) (c := [ws.getD ((IntKind.wrap .i64 ((ws.length : Int) - 1)).toNat) 0]) (by rw [getD_lt _ hgl]; omega) (by simp) (gi (ps.getD g.toNat []) 1)
          rw [getD_lt _ hgl] at hx
          simp only [List.length_singleton] at hx
          have pre5 : ∀ {X}, _ = X → spec_MoveWaste.f k ps b st ws g = X := fun {X} hX => pre4 ((bif_f (dec_f hneg)).trans ((chk_t (and_t (dec_t (by omega)) (dec_t (by omega)))).trans ((bind_s eS).trans ((chk_t (and_t (dec_t (by omega)) (dec_t (by show g < ((ps.map cp).length : Int); rw [List.length_map]; omega)))).trans hX))))
          cases t with
          | false => exact ⟨_, _, _, _, _, pre5 ((bif_t rfl).trans (bind_s eC)), same⟩
          | true =>
            have put := same.put (x := x) (by omega) g.toNat m
            exact ⟨_, _, _, _, _, pre5 (bif_f rfl), ⟨put.p1, put.p7, put.ps, put.b, put.st, hwt⟩⟩
theorem spec_MovePile.ok {k : Nat} (hk : BIG ≤ k) {ps : List (List Leaf)} {b st ws : List Int} (h : Pat ps b st ws) (g i j : Int) : patOut (spec_MovePile.f k ps b st ws g i j) := by
  have pre : ∀ {X}, _ = X → spec_MovePile.f k ps b st ws g i j = X := fun {X} hX => (bind_s (spec_l18Copy.eq hk h)).trans ((bind_s (h.first hk)).trans hX)
  have same := h.cps
  have h7 := h.p7
  have hp1 := h.p1
  cases h1 : isPatience ps b st ws with
  | false => exact ⟨_, _, _, _, _, pre (bif_t (by rw [h1]; rfl)), same⟩
  | true =>
    obtain ⟨s1, s2, s3, s4⟩ := isPatience_sub h1
    have ew : IntKind.wrap .i64 ((ps.length : Int) - 1) = (ps.length : Int) - 1 := wrap_i64 (by omega) (by omega)
    have pre2 : ∀ {X}, _ = X → spec_MovePile.f k ps b st ws g i j = X := fun {X} hX => pre ((bif_f (by rw [h1]; rfl)).trans ((bind_s (spec_l1In.eq ..)).trans hX))
    cases h2 : inR g 0 (IntKind.wrap .i64 ((ps.length : Int) - 1)) with
    | false => exact ⟨_, _, _, _, _, pre2 (bif_t (by rw [h2]; rfl)), same⟩
    | true =>
      have pre3 : ∀ {X}, _ = X → spec_MovePile.f k ps b st ws g i j = X := fun {X} hX => pre2 ((bif_f (by rw [h2]; rfl)).trans ((bind_s (spec_l1In.eq ..)).trans hX))
      cases h3 : inR i 0 (IntKind.wrap .i64 ((ps.length : Int) - 1)) with
      | false => exact ⟨_, _, _, _, _, pre3 (bif_t (by rw [h3]; rfl)), same⟩
      | true =>
        have hg := inR_iff.1 h2
        have hi := inR_iff.1 h3
        rw [ew] at hg hi
        cases h4 : (g == i) with
        | true => exact ⟨_, _, _, _, _, pre3 ((bif_f (by rw [h3]; rfl)).trans (bif_t h4)), same⟩
        | false =>
          have hgl : g.toNat < ps.length := by omega
          have hil : i.toNat < ps.length := by omega
          have hy := s4 _ (List.getElem_mem hgl)
          have hz := s4 _ (List.getElem_mem hil)
          obtain ⟨x, m, c, t, eL, l1, l2, l3⟩ := spec_Lifted.ok hk (l := gl (ps.getD g.toNat []) 0) (by rw [getD_lt _ hgl]; omega) (gi (ps.getD g.toNat []) 1) j
          rw [getD_lt _ hgl] at l1 l2
          obtain ⟨x2, m2, t2, eS, hx⟩ := spec_Stacked.ok hk (l := gl (ps.getD i.toNat []) 0) (c := c) (by rw [getD_lt _ hil]; omega) (by omega) (gi (ps.getD i.toNat []) 1)
          rw [getD_lt _ hil] at hx
          have pre4 : ∀ {X}, _ = X → spec_MovePile.f k ps b st ws g i j = X := fun {X} hX => pre3 ((bif_f (by rw [h3]; rfl)).trans ((bif_f h4).trans ((chk_t (and_t (dec_t hg.1) (dec_t (by omega)))).trans ((bind_s eL).trans ((chk_t (and_t (dec_t hi.1) (dec_t (by omega)))).trans ((bind_s eS).trans hX))))))
          cases t with
          | false => exact ⟨_, _, _, _, _, pre4 (bif_t rfl), same⟩
          | true =>
            cases t2 with
            | false => exact ⟨_, _, _, _, _, pre4 ((bif_f rfl).trans (bif_t rfl)), same⟩
            | true =>
              have put := (same.put (x := x) (by omega) g.toNat m).put (x := x2) (by omega) i.toNat m2
              exact ⟨_, _, _, _, _, pre4 ((bif_f rfl).trans ((bif_f rfl).trans ((chk_t (and_t (dec_t hg.1) (dec_t (by show g < ((ps.map cp).length : Int); rw [List.length_map]; omega)))).trans ((chk_t (and_t (dec_t hi.1) (dec_t (by show i < (((ps.map cp).set _ _).length : Int); rw [List.length_set, List.length_map]; omega)))).trans (bind_s rfl))))), put⟩
/-! ### The draws -/
theorem spec_NewPatience.loop {k : Nat} {d : List Int} (hd : d.length = 52) {g : Int} (g1 : 1 ≤ g) (g7 : g ≤ 7) : ∀ (m i n : Nat) (a : Int) (ps : List (List Leaf)), (i + m : Int) = g → m < n → 0 ≤ a → a ≤ 7 * (i : Int) → ps.length = i → (∀ y ∈ ps, smN y) → ∃ ps' st, spec_NewPatience.l6 k d g (fun x3 x4 =>
     chk ((decide (0 ≤ x3)) && (decide (x3 ≤ (d.length : Int)))) <|
     chk (decide ((0 + ((d.drop x3.toNat).length)) * 8 ≤ room)) <|
     (some (x4, [0, 0, 0, 0], [] ++ (d.drop x3.toNat), [], true) : R5)) n a ((i : Int) + 1) ps = some (ps', [0, 0, 0, 0], st, [], true) ∧ Pat ps' [0, 0, 0, 0] st [] := by
  intro m
  induction m with
  | zero =>
    intro i n a ps hi hn a0 a1 hl hs
    obtain ⟨n, rfl⟩ : ∃ n', n = n' + 1 := ⟨n - 1, by omega⟩
    refine ⟨ps, _, (spec_NewPatience.l6_succ ..).trans ((bif_f (dec_f (by omega))).trans ((chk_t (and_t (dec_t a0) (dec_t (by omega)))).trans (chk_t (rm8 (by rw [List.length_drop]; omega))))), ⟨by omega, by omega, hs, by simp, ?_, by simp⟩⟩
    rw [List.nil_append, List.length_drop]; omega
  | succ m ih =>
    intro i n a ps hi hn a0 a1 hl hs
    obtain ⟨n, rfl⟩ : ∃ n', n = n' + 1 := ⟨n - 1, by omega⟩
    have ew : IntKind.wrap .i64 (a + ((i : Int) + 1)) = a + ((i : Int) + 1) := wrap_i64 (by omega) (by omega)
    have hx : ([] ++ ((d.take ((IntKind.wrap .i64 (a + ((i : Int) + 1))).toNat)).drop a.toNat)).length ≤ 110 := by rw [List.nil_append, List.length_drop, List.length_take]; omega
    obtain ⟨ps', st, e, hp⟩ := ih (i + 1) n (a + ((i : Int) + 1)) (ps ++ [[.ints ([] ++ ((d.take ((IntKind.wrap .i64 (a + ((i : Int) + 1))).toNat)).drop a.toNat)), .int (IntKind.wrap .i64 ((i : Int) + 1 - 1))]]) (by omega) (by omega) (by omega) (by omega) (by simp [hl]) (fun y hy => by
      rcases List.mem_append.1 hy with hy | hy
      · exact hs y hy
      · simp only [List.mem_singleton] at hy; subst hy; exact smN_two hx _)
    refine ⟨ps', st, (spec_NewPatience.l6_succ ..).trans ((bif_t (dec_t (by omega))).trans ((chk_t (and_t (dec_t (by rw [ew]; omega)) (dec_t (by rw [ew]; omega)))).trans ((chk_t (and_t (dec_t a0) (dec_t (by rw [ew]; omega)))).trans ((chk_t (rm8 (by rw [List.length_drop, List.length_take]; omega))).trans ((chk_t (dec_t (by unfold room; omega))).trans ?_))))), hp⟩
    rw [show IntKind.wrap .i64 ((i : Int) + 1 + 1) = ((i + 1 : Nat) : Int) + 1 by rw [wrap_i64 (by omega) (by omega)]; omega]
    rw [ew] at e ⊢
    exact e
theorem spec_NewPatience.ok {k : Nat} (hk : BIG ≤ k) {d : List Int} (hh : isHand d = true) (hd : d.length = 52) {g : Int} (g1 : 1 ≤ g) (g7 : g ≤ 7) : ∃ ps st, spec_NewPatience.f k d g = some (ps, [0, 0, 0, 0], st, [], true) ∧ Pat ps [0, 0, 0, 0] st [] := by
  obtain ⟨ps, st, e, hp⟩ := spec_NewPatience.loop (k := k) hd g1 g7 g.toNat 0 k 0 [] (by omega) (by simp [BIG] at hk; omega) (Int.le_refl _) (Int.le_refl _) rfl (fun y hy => by cases hy)
  refine ⟨ps, st, (bind_s (spec_IsHand.eq hk (by omega))).trans ((bif_f (by rw [hh]; rfl)).trans ((bif_f (by rw [hd]; rfl)).trans ((bind_s (spec_l1In.eq ..)).trans ((bif_f (by rw [inR_iff.2 ⟨g1, g7⟩]; rfl)).trans e)))), hp⟩
/-- A drawn game with a cursor behind it. -/
def patCur (b0 : List Int) (r : Option (List (List Leaf) × LI × LI × LI × LI × Int × Int)) : Prop := ∃ ps b st ws i h, r = some (ps, b, st, ws, b0, i, h) ∧ Pat ps b st ws ∧ Cur b0 i
theorem spec_l18Start.ok {k : Nat} (hk : BIG ≤ k) {b : List Int} {i : Int} (h : Int) (hc : Cur b i) : patCur b (spec_l18Start.f k b i h) := by
  obtain ⟨t, i1, h1, e1, c1⟩ := spec_l1Once.ok k h 2 hc
  cases t with
  | true =>
    obtain ⟨s, i2, h2, e2, c2, _⟩ := spec_l1Below.ok k h1 999 c1
    obtain ⟨x, i3, h3, e3, c3, p, q, _⟩ := spec_l1Below.ok k h2 7 c2
    have q := q (by omega)
    have hp := shuffled_perm fullDeck s
    have es := spec_Shuffled.eq hk (l := fullDeck) s (by rw [fullDeck_len]; decide)
    have hh : isHand (shuffled fullDeck s) = true := by rw [isHand_perm hp]; exact fullDeck_hand
    have hl : (shuffled fullDeck s).length = 52 := by rw [hp.length_eq]; exact fullDeck_len
    generalize shuffled fullDeck s = d at es hh hl
    obtain ⟨ps, st, e, hP⟩ := spec_NewPatience.ok hk hh hl (g := IntKind.wrap .i64 (1 + x)) (by rw [wrap_i64 (by omega) (by omega)]; omega) (by rw [wrap_i64 (by omega) (by omega)]; omega)
    exact ⟨ps, _, st, _, i3, h3, (bind_s (spec_FullDeck.eq hk)).trans ((bind_s e1).trans ((bif_t rfl).trans ((bind_s e2).trans ((bind_s es).trans ((bind_s e3).trans (bind_s e)))))), hP, c3⟩
  | false =>
    obtain ⟨x, i3, h3, e3, c3, p, q, _⟩ := spec_l1Below.ok k h1 7 c1
    have q := q (by omega)
    have hh := fullDeck_hand
    have hl := fullDeck_len
    have ef := spec_FullDeck.eq hk
    generalize fullDeck = d at ef hh hl
    obtain ⟨ps, st, e, hP⟩ := spec_NewPatience.ok hk hh hl (g := IntKind.wrap .i64 (1 + x)) (by rw [wrap_i64 (by omega) (by omega)]; omega) (by rw [wrap_i64 (by omega) (by omega)]; omega)
    exact ⟨ps, _, st, _, i3, h3, (bind_s ef).trans ((bind_s e1).trans ((bif_f rfl).trans ((bind_s e3).trans (bind_s e)))), hP, c3⟩
theorem spec_l18Step.ok {k : Nat} (hk : BIG ≤ k) {b0 : List Int} {i : Int} (h : Int) (hc : Cur b0 i) {ps : List (List Leaf)} {b st ws : List Int} (hp : Pat ps b st ws) : patCur b0 (spec_l18Step.f k b0 i h ps b st ws) := by
  obtain ⟨x, i1, h1, e1, c1, _⟩ := spec_l1Below.ok k h 6 hc
  cases x0 : (x == 0) with
  | true =>
    obtain ⟨y, i2, h2, e2, c2, _⟩ := spec_l1Below.ok k h1 7 c1
    obtain ⟨z, i3, h3, e3, c3, _⟩ := spec_l1Below.ok k h2 7 c2
    obtain ⟨u, i4, h4, e4, c4, _⟩ := spec_l1Below.ok k h3 2 c3
    obtain ⟨ps', b', st', ws', t, e, hp'⟩ := spec_MovePile.ok hk hp y z (IntKind.wrap .i64 (1 + u))
    exact ⟨ps', b', st', ws', i4, h4, (bind_s e1).trans ((bif_t x0).trans ((bind_s e2).trans ((bind_s e3).trans ((bind_s e4).trans (bind_s e))))), hp', c4⟩
  | false =>
    cases x1 : (x == 1) with
    | true =>
      obtain ⟨y, i2, h2, e2, c2, _⟩ := spec_l1Below.ok k h1 7 c1
      obtain ⟨ps', b', st', ws', t, e, hp'⟩ := spec_MoveUp.ok hk hp y
      exact ⟨ps', b', st', ws', i2, h2, (bind_s e1).trans ((bif_f x0).trans ((bif_t x1).trans ((bind_s e2).trans (bind_s e)))), hp', c2⟩
    | false =>
      cases x2 : (x == 2) with
      | true =>
        obtain ⟨y, i2, h2, e2, c2, _⟩ := spec_l1Below.ok k h1 8 c1
        obtain ⟨ps', b', st', ws', t, e, hp'⟩ := spec_MoveWaste.ok hk hp (IntKind.wrap .i64 (y - 1))
        exact ⟨ps', b', st', ws', i2, h2, (bind_s e1).trans ((bif_f x0).trans ((bif_f x1).trans ((bif_t x2).trans ((bind_s e2).trans (bind_s e))))), hp', c2⟩
      | false =>
        cases x3 : (x == 3) with
        | true =>
          obtain ⟨y, i2, h2, e2, c2, _⟩ := spec_l1Below.ok k h1 8 c1
          obtain ⟨ps', b', st', ws', t, e, hp'⟩ := spec_MoveWaste.ok hk hp (IntKind.wrap .i64 (y - 1))
          exact ⟨ps', b', st', ws', i2, h2, (bind_s e1).trans ((bif_f x0).trans ((bif_f x1).trans ((bif_f x2).trans ((bif_t x3).trans ((bind_s e2).trans (bind_s e)))))), hp', c2⟩
        | false =>
          obtain ⟨ps', b', st', ws', t, e, hp'⟩ := spec_Turn.ok hk hp
          exact ⟨ps', b', st', ws', i1, h1, (bind_s e1).trans ((bif_f x0).trans ((bif_f x1).trans ((bif_f x2).trans ((bif_f x3).trans (bind_s e))))), hp', c1⟩
theorem spec_l17Any.ok {k : Nat} (hk : BIG ≤ k) {b : List Int} {i : Int} (h : Int) (hc : Cur b i) : ∃ l i' h', spec_l17Any.f k b i h = some (l, b, i', h') ∧ Cur b i' ∧ l.length ≤ 4 := by
  generalize hE : (fun x2 x3 x4 x5 =>
    (spec_l1Below.f k x2 x3 x4 10).bind fun r6 =>
    bif (r6.1 == 0) then
     (spec_l1Int.f k r6.2.1 (t2 r6).1 (t3 r6) [(-1), 13, 14]).bind fun r7 =>
     chk (decide (0 < (x5.length : Int))) <|
     some (x5.set 0 r7.1, r7.2.1, (t2 r7).1, (t3 r7))
    else
     bif (r6.1 == 1) then
      chk ((decide (0 ≤ (x5.length : Int))) && (decide ((x5.length : Int) ≤ (x5.length : Int)))) <|
      chk (decide (1 ≤ (x5.length : Int))) <|
      some ((x5.take ((x5.length : Int).toNat)).drop 1, r6.2.1, (t2 r6).1, (t3 r6))
     else
      bif (r6.1 == 2) then
       some ([0, 0, 0, 0], r6.2.1, (t2 r6).1, (t3 r6))
      else
       some (x5, r6.2.1, (t2 r6).1, (t3 r6)) : LI → Int → Int → LI → Option (LI × LI × Int × Int)) = E
  have hEok : ∀ (i h : Int) (l : List Int), Cur b i → l.length = 4 → ∃ l' i' h', E b i h l = some (l', b, i', h') ∧ Cur b i' ∧ l'.length ≤ 4 := fun i h l c hl => by
    subst hE
    obtain ⟨x, i1, h1, e1, c1, _⟩ := spec_l1Below.ok k h 10 c
    cases x0 : (x == 0) with
    | true =>
      obtain ⟨y, i2, h2, e2, c2, _⟩ := spec_l1Int.ok k h1 (l := [(-1), 13, 14]) (by simp) c1
      exact ⟨_, i2, h2, (bind_s e1).trans ((bif_t x0).trans ((bind_s e2).trans (chk_t (dec_t (by omega))))), c2, by rw [List.length_set]; omega⟩
    | false =>
      cases x1 : (x == 1) with
      | true => exact ⟨_, i1, h1, (bind_s e1).trans ((bif_f x0).trans ((bif_t x1).trans ((chk_t (and_t (dec_t (by omega)) (dec_t (by omega)))).trans (chk_t (dec_t (by omega)))))), c1, by rw [List.length_drop, List.length_take]; omega⟩
      | false =>
        cases x2 : (x == 2) with
        | true => exact ⟨_, i1, h1, (bind_s e1).trans ((bif_f x0).trans ((bif_f x1).trans (bif_t x2))), c1, by simp⟩
        | false => exact ⟨l, i1, h1, (bind_s e1).trans ((bif_f x0).trans ((bif_f x1).trans (bif_f x2))), c1, by omega⟩
  have key : ∀ (m j n : Nat) (i h : Int) (l : List Int), j + m = 4 → m < n → Cur b i → l.length = j → ∃ l' i' h', spec_l17Any.l3 k E n (j : Int) b i h l = some (l', b, i', h') ∧ Cur b i' ∧ l'.length ≤ 4 := by
    intro m
    induction m with
    | zero =>
      intro j n i h l hj hn c hl
      obtain ⟨n, rfl⟩ : ∃ n', n = n' + 1 := ⟨n - 1, by omega⟩
      obtain ⟨l', i', h', e, c', hl'⟩ := hEok i h l c (by omega)
      exact ⟨l', i', h', (spec_l17Any.l3_succ ..).trans ((bif_f (dec_f (by omega))).trans e), c', hl'⟩
    | succ m ih =>
      intro j n i h l hj hn c hl
      obtain ⟨n, rfl⟩ : ∃ n', n = n' + 1 := ⟨n - 1, by omega⟩
      obtain ⟨x, i1, h1, e1, c1, _⟩ := spec_l1Below.ok k h 14 c
      obtain ⟨l', i', h', e, c', hl'⟩ := ih (j + 1) n i1 h1 (l ++ [x]) (by omega) (by omega) c1 (by simp [hl])
      refine ⟨l', i', h', (spec_l17Any.l3_succ ..).trans ((bif_t (dec_t (by omega))).trans ((bind_s e1).trans ((chk_t (rm8 (by omega))).trans ?_))), c', hl'⟩
      rw [wrap_up (by omega)]
      exact e
  obtain ⟨l', i', h', e, c', hl'⟩ := key 4 0 k i h [] (by omega) (by simp [BIG] at hk; omega) hc rfl
  subst hE
  exact ⟨l', i', h', e, c', hl'⟩
/-- What a drawn game's lists are at the end: a little longer. -/
def patEnd (r : Option (List (List Leaf) × LI × LI × LI × LI × Int × Int)) : Prop := ∃ ps b st ws i h b0, r = some (ps, b, st, ws, b0, i, h) ∧ ps.length ≤ 7 ∧ (∀ y ∈ ps, smN y) ∧ b.length ≤ 120 ∧ st.length ≤ 120 ∧ ws.length ≤ 120
theorem spec_l18Draw.ok {k : Nat} (hk : BIG ≤ k) {b0 : List Int} {i : Int} (h : Int) (hc : Cur b0 i) : patEnd (spec_l18Draw.f k b0 i h) := by
  obtain ⟨ps, b, st, ws, i1, h1, e1, hp, c1⟩ := spec_l18Start.ok hk h hc
  obtain ⟨x, i2, h2, e2, c2, q1, q2, _⟩ := spec_l1Below.ok k h1 20 c1
  have q2 := q2 (by omega)
  generalize hE : (fun x4 x5 x6 x7 x8 x9 x10 =>
    (spec_l1Below.f k x4 x5 x6 14).bind fun r11 =>
    bif (r11.1 == 0) then
     (spec_l4Card.f k r11.2.1 (t2 r11).1 (t3 r11)).bind fun r12 =>
     chk (decide ((x9.length + 1) * 8 ≤ room)) <|
     some (x7, x8, x9 ++ [r12.1], x10, r12.2.1, (t2 r12).1, (t3 r12))
    else
     bif (r11.1 == 1) then
      (spec_l17Any.f k r11.2.1 (t2 r11).1 (t3 r11)).bind fun r13 =>
      some (x7, r13.1, x9, x10, r13.2.1, (t2 r13).1, (t3 r13))
     else
      bif (r11.1 == 2) then
       chk (decide (0 < (x7.length : Int))) <|
       chk (decide (0 < (x7.length : Int))) <|
       (some (x7.set 0 (setLeaf [true, false] (x7.getD 0 []) 1 (.int ((gl (x7.getD 0 []) 0).length : Int))))).bind fun y14 =>
       some (y14, x8, x9, x10, r11.2.1, (t2 r11).1, (t3 r11))
      else
       bif (r11.1 == 3) then
        some ([[.ints [], .int 0]], [13, 13, 13, 13], [], [], r11.2.1, (t2 r11).1, (t3 r11))
       else
        some (x7, x8, x9, x10, r11.2.1, (t2 r11).1, (t3 r11)) : LI → Int → Int → List (List Leaf) → LI → LI → LI → Option (List (List Leaf) × LI × LI × LI × LI × Int × Int)) = E
  have hEok : ∀ (i h : Int) {ps : List (List Leaf)} {b st ws : List Int}, Cur b0 i → Pat ps b st ws → patEnd (E b0 i h ps b st ws) := fun i h {ps b st ws} c hp => by
    subst hE
    obtain ⟨x, i1, h1, e1, c1, _⟩ := spec_l1Below.ok k h 14 c
    have p7 := hp.p7; have p1 := hp.p1; have pb := hp.b; have pst := hp.st; have pws := hp.ws
    cases x0 : (x == 0) with
    | true =>
      obtain ⟨y, i2, h2, e2, c2⟩ := spec_l4Card.ok k h1 c1
      exact ⟨_, _, _, _, i2, h2, b0, (bind_s e1).trans ((bif_t x0).trans ((bind_s e2).trans (chk_t (rm8 (by omega))))), p7, hp.ps, by omega, by simp; omega, by omega⟩
    | false =>
      cases x1 : (x == 1) with
      | true =>
        obtain ⟨y, i2, h2, e2, c2, hy⟩ := spec_l17Any.ok hk h1 c1
        exact ⟨_, _, _, _, i2, h2, b0, (bind_s e1).trans ((bif_f x0).trans ((bif_t x1).trans (bind_s e2))), p7, hp.ps, by show y.length ≤ 120; omega, by omega, by omega⟩
      | false =>
        cases x2 : (x == 2) with
        | true =>
          refine ⟨_, _, _, _, i1, h1, b0, (bind_s e1).trans ((bif_f x0).trans ((bif_f x1).trans ((bif_t x2).trans ((chk_t (dec_t (by omega))).trans ((chk_t (dec_t (by omega))).trans (bind_s rfl)))))), by rw [List.length_set]; exact p7, fun y hy => ?_, by omega, by omega, by omega⟩
          rcases List.mem_or_eq_of_mem_set hy with hy | rfl
          · exact hp.ps y hy
          · have h0 : 0 < ps.length := by omega
            have hg := smN_gl (hp.ps _ (List.getElem_mem h0)) 0
            rw [← getD_lt [] h0] at hg
            exact smN_two hg _
        | false =>
          cases x3 : (x == 3) with
          | true => exact ⟨_, _, _, _, i1, h1, b0, (bind_s e1).trans ((bif_f x0).trans ((bif_f x1).trans ((bif_f x2).trans (bif_t x3)))), by simp, fun y hy => by simp only [List.mem_singleton] at hy; subst hy; exact smN_two (by simp) 0, by simp, by simp, by simp⟩
          | false => exact ⟨_, _, _, _, i1, h1, b0, (bind_s e1).trans ((bif_f x0).trans ((bif_f x1).trans ((bif_f x2).trans (bif_f x3)))), p7, hp.ps, by omega, by omega, by omega⟩
  have key : ∀ (m n : Nat) (i h : Int) (ps : List (List Leaf)) (b st ws : List Int), m < n → m ≤ 100 → Cur b0 i → Pat ps b st ws → patEnd (spec_l18Draw.l3 k E n (m : Int) b0 i h ps b st ws) := by
    intro m
    induction m with
    | zero =>
      intro n i h ps b st ws hn hm c hp
      obtain ⟨n, rfl⟩ : ∃ n', n = n' + 1 := ⟨n - 1, by omega⟩
      have e : spec_l18Draw.l3 k E (n + 1) ((0 : Nat) : Int) b0 i h ps b st ws = E b0 i h ps b st ws := (spec_l18Draw.l3_succ ..).trans (bif_f rfl)
      rw [e]
      exact hEok i h c hp
    | succ m ih =>
      intro n i h ps b st ws hn hm c hp
      obtain ⟨n, rfl⟩ : ∃ n', n = n' + 1 := ⟨n - 1, by omega⟩
      obtain ⟨ps', b', st', ws', i', h', e, hp', c'⟩ := spec_l18Step.ok hk h c hp
      have e2 : spec_l18Draw.l3 k E (n + 1) ((m + 1 : Nat) : Int) b0 i h ps b st ws = spec_l18Draw.l3 k E n (m : Int) b0 i' h' ps' b' st' ws' := by
        refine (spec_l18Draw.l3_succ ..).trans ((bif_t (dec_t (by omega))).trans ((bind_s e).trans ?_))
        rw [wrap_i64 (by omega) (by omega), show ((m + 1 : Nat) : Int) - 1 = (m : Int) by omega]
      rw [e2]
      exact ih n i' h' ps' b' st' ws' (by omega) (by omega) c' hp'
  have fin := key x.toNat k i2 h2 ps b st ws (by simp [BIG] at hk; omega) (by omega) c2 hp
  rw [show ((x.toNat : Nat) : Int) = x by omega] at fin
  subst hE
  obtain ⟨ps', b', st', ws', i', h', b0', e, r1, r2, r3, r4, r5⟩ := fin
  exact ⟨ps', b', st', ws', i', h', b0', (bind_s e1).trans ((bind_s e2).trans e), r1, r2, r3, r4, r5⟩
theorem spec_DrawOpenShare.ok {k : Nat} (hk : BIG ≤ k) {a : List Int} (ha : a.length < 1048577) : ∃ ps b st ws, spec_DrawOpenShare.f k a = some (ps, b, st, ws) ∧ smRecs ps ∧ b.length < 1048577 ∧ st.length < 1048577 ∧ ws.length < 1048577 := by
  obtain ⟨h0, e0, c0⟩ := spec_l1New.ok hk ha
  obtain ⟨ps, b, st, ws, i, h, b0, e, r1, r2, r3, r4, r5⟩ := spec_l18Draw.ok hk h0 c0
  have e1 : spec_DrawIsPatience.f k a = some (ps, b, st, ws) := (bind_s e0).trans (bind_s e)
  exact ⟨ps, b, st, ws, bind_s e1, ⟨by omega, fun y hy => smN_rec (r2 y hy)⟩, by omega, by omega, by omega⟩
end Go.Proofs.YtfbafmeeejmgoaaGreat
