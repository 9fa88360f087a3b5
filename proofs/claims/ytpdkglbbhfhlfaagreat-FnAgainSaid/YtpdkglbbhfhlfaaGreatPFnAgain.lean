/- A record played again, in plain Lean: the law answers true. Conditions: enough rounds. -/
import Derived.Test.YtpdkglbbhfhlfaaGreatKit
import Derived.Test.YtpdkglbbhfhlfaaGreatFFnAgain
import Derived.Test.YtpdkglbbhfhlfaaGreatPDrawTable
import Derived.Test.YtpdkglbbhfhlfaaGreatPBranch
import Derived.Test.YtpdkglbbhfhlfaaGreatPBlunders
import Derived.Test.YtpdkglbbhfhlfaaGreatPEqual
set_option linter.unusedVariables false
set_option linter.unusedSimpArgs false
namespace Go.Proofs.YtpdkglbbhfhlfaaGreat
open Go Go.Proofs.YtpdkglbbhfhlfaaGreat.V
/-! ### Lists compared -/
theorem laws_sameInts.eq {k : Nat} (hk : BIG ≤ k) {a : List Int} (b : List Int) (hl : a.length < 1048577) : laws_sameInts.f k a b = some (decide (a = b)) := by
  by_cases h : (a.length : Int) = (b.length : Int)
  · have h' : a.length = b.length := by omega
    have key : ∀ (m i n : Nat), i + m = a.length → m < n → laws_sameInts.l4 k a b (some false) (some true) n (i : Int) = some (decide (a.drop i = b.drop i)) := by
      intro m
      induction m with
      | zero =>
        intro i n hi hn
        obtain ⟨n, rfl⟩ : ∃ n', n = n' + 1 := ⟨n - 1, by omega⟩
        rw [List.drop_eq_nil_of_le (by omega), List.drop_eq_nil_of_le (by omega)]
        exact (laws_sameInts.l4_succ ..).trans (bif_f (dec_f (by omega)))
      | succ m ih =>
        intro i n hi hn
        obtain ⟨n, rfl⟩ : ∃ n', n = n' + 1 := ⟨n - 1, by omega⟩
        have ha : i < a.length := by omega
        have hb : i < b.length := by omega
        refine (laws_sameInts.l4_succ ..).trans ((bif_t (dec_t (by omega))).trans ((chk_t (in_t ha)).trans ((chk_t (in_t hb)).trans ?_)))
        rw [Int.toNat_natCast, getD_lt _ ha, getD_lt _ hb, wrap_up (by omega), drop_eq_dec ha hb]
        by_cases he : a[i] = b[i]
        · rw [dec_t he]
          exact (bif_f (by simp [he])).trans (ih (i + 1) n (by omega) (by omega))
        · rw [dec_f he]
          exact bif_t (by simp [he])
    exact (bif_f (by simp [h'])).trans (key a.length 0 k (by omega) (BIG_lt hk hl))
  · rw [dec_f (fun e => h (by rw [e]))]
    exact bif_t (by simpa using h)
def apart : Nat → List Int → List Int → Int
  | _, [], [] => -1
  | i, [], _ :: _ => (i : Int)
  | i, _ :: _, [] => (i : Int)
  | i, x :: p, y :: q => bif x != y then (i : Int) else apart (i + 1) p q
theorem apart_comm : ∀ (p q : List Int) (i : Nat), apart i p q = apart i q p
  | [], [], i => rfl
  | [], _ :: _, i => rfl
  | _ :: _, [], i => rfl
  | x :: p, y :: q, i => by
    have := apart_comm p q (i + 1)
    unfold apart
    rw [this, show (x != y) = (y != x) by rw [bne_comm]]
theorem apart_iff : ∀ (p q : List Int) (i : Nat), (apart i p q == -1) = decide (p = q)
  | [], [], i => rfl
  | [], y :: q, i => by
    rw [dec_f (by simp)]
    show (((i : Nat) : Int) == -1) = false
    simp
  | x :: p, [], i => by
    rw [dec_f (by simp)]
    show (((i : Nat) : Int) == -1) = false
    simp
  | x :: p, y :: q, i => by
    have h := apart_iff p q (i + 1)
    unfold apart
    rw [cons_dec]
    by_cases hx : x = y
    · subst hx
      rw [show (x != x) = false by simp, dec_t rfl]
      exact h
    · rw [show (x != y) = true by simpa using hx, dec_f hx]
      show (((i : Nat) : Int) == -1) = false
      simp
theorem impl_FirstApart.eq {k : Nat} (hk : BIG ≤ k) {p q : List Int} (hp : p.length < 1048577) (hq : q.length < 1048577) : impl_FirstApart.f k p q = some (apart 0 p q) := by
  obtain ⟨M, hM, h1, h2, h3⟩ : ∃ M : Nat, (if (q.length : Int) > (p.length : Int) then (q.length : Int) else (p.length : Int)) = (M : Int) ∧ p.length ≤ M ∧ q.length ≤ M ∧ (M = p.length ∨ M = q.length) := by
    by_cases h : (q.length : Int) > (p.length : Int)
    · exact ⟨q.length, by rw [if_pos h], by omega, by omega, .inr rfl⟩
    · exact ⟨p.length, by rw [if_neg h], by omega, by omega, .inl rfl⟩
  have key : ∀ (m i n : Nat), i + m = M → m < n → impl_FirstApart.l2 k p q (M : Int) (fun x1 => some x1) (some (-1)) n (i : Int) = some (apart i (p.drop i) (q.drop i)) := by
    intro m
    induction m with
    | zero =>
      intro i n hi hn
      obtain ⟨n, rfl⟩ : ∃ n', n = n' + 1 := ⟨n - 1, by omega⟩
      rw [List.drop_eq_nil_of_le (by omega), List.drop_eq_nil_of_le (by omega)]
      exact (impl_FirstApart.l2_succ ..).trans (bif_f (dec_f (by omega)))
    | succ m ih =>
      intro i n hi hn
      obtain ⟨n, rfl⟩ : ∃ n', n = n' + 1 := ⟨n - 1, by omega⟩
      refine (impl_FirstApart.l2_succ ..).trans ((bif_t (dec_t (by omega))).trans ?_)
      by_cases ha : p.length ≤ i
      · have hb : i < q.length := by omega
        rw [List.drop_eq_nil_of_le ha, drop_cons hb]
        exact bif_t (dec_t (by omega))
      · have ha : i < p.length := by omega
        refine (bif_f (dec_f (by omega))).trans ?_
        by_cases hb : q.length ≤ i
        · rw [drop_cons ha, List.drop_eq_nil_of_le hb]
          exact bif_t (dec_t (by omega))
        · have hb : i < q.length := by omega
          refine (bif_f (dec_f (by omega))).trans ((chk_t (in_t ha)).trans ((chk_t (in_t hb)).trans ?_))
          rw [drop_cons ha, drop_cons hb, Int.toNat_natCast, getD_lt _ ha, getD_lt _ hb, wrap_up (by omega)]
          show _ = some (bif p[i] != q[i] then (i : Int) else apart (i + 1) (p.drop (i + 1)) (q.drop (i + 1)))
          cases (p[i] != q[i]) with
          | true => rfl
          | false => exact (bif_f rfl).trans (ih (i + 1) n (by omega) (by omega))
  have := key M 0 k (by omega) (BIG_lt hk (by omega))
  rw [← hM] at this
  exact this
/-! ### Cards taken without need -/
def bgood (t : Tb) (i : Nat) (b : List Int) : Prop := (∀ x ∈ b, 0 ≤ x ∧ x < (i : Int) ∧ t.rd.getD x.toNat 0 = -1 ∧ 0 < (couldHave t x).length) ∧ b.Pairwise (· < ·)
theorem blunders_good {t : Tb} : ∀ (l : List Int) (i : Nat) (b : List Int), l = t.rd.drop i → bgood t i b → bgood t (i + l.length) (blunders t i l b)
  | [], i, b, _, h => h
  | m :: l, i, b, hl, h => by
    have h0 : t.rd.getD i 0 = m := by
      have : (t.rd.drop i)[0]? = some m := by rw [← hl]; rfl
      rw [List.getElem?_drop] at this
      rw [List.getD_eq_getElem?_getD, show t.rd[i]? = some m from this]; rfl
    have h1 : l = t.rd.drop (i + 1) := by rw [← List.tail_drop, ← hl]; rfl
    unfold blunders
    rw [List.length_cons, show i + (l.length + 1) = i + 1 + l.length by omega]
    refine blunders_good l (i + 1) _ h1 ?_
    have hold : bgood t (i + 1) b := ⟨fun x hx => by have := h.1 x hx; exact ⟨this.1, by omega, this.2.2⟩, h.2⟩
    cases hc : (m == -1 && decide (((couldHave t (i : Int)).length : Int) > 0)) with
    | false => exact hold
    | true =>
      simp only [Bool.and_eq_true, beq_iff_eq, decide_eq_true_eq] at hc
      refine ⟨fun x hx => ?_, ?_⟩
      · rcases List.mem_append.1 (show x ∈ b ++ [(i : Int)] from hx) with hx | hx
        · exact hold.1 x hx
        · obtain rfl := List.mem_singleton.1 hx
          exact ⟨by omega, by omega, by rw [Int.toNat_natCast, h0]; exact hc.1, by omega⟩
      · refine List.pairwise_append.2 ⟨h.2, List.pairwise_singleton _ _, fun x hx y hy => ?_⟩
        obtain rfl := List.mem_singleton.1 hy
        exact (h.1 x hx).2.1
theorem blundersOf_good (t : Tb) : bgood t t.rd.length (blundersOf t) := by
  unfold blundersOf
  cases (isTable t && t.on) with
  | false => exact ⟨fun x hx => absurd hx (by simp), List.Pairwise.nil⟩
  | true =>
    have := blunders_good (t := t) t.rd 0 [] rfl ⟨fun x hx => absurd hx (by simp), List.Pairwise.nil⟩
    rw [Nat.zero_add] at this
    exact this
theorem laws_ascends.ok {k : Nat} (hk : BIG ≤ k) {b : List Int} (hl : b.length < 1048577) (h : b.Pairwise (· < ·)) : laws_ascends.f k b = some true := by
  have key : ∀ (m i n : Nat), 1 ≤ i → i + m = b.length → m < n → laws_ascends.l2 k b (some false) (some true) n (i : Int) = some true := by
    intro m
    induction m with
    | zero =>
      intro i n h1 hi hn
      obtain ⟨n, rfl⟩ : ∃ n', n = n' + 1 := ⟨n - 1, by omega⟩
      exact (laws_ascends.l2_succ ..).trans (bif_f (dec_f (by omega)))
    | succ m ih =>
      intro i n h1 hi hn
      obtain ⟨n, rfl⟩ : ∃ n', n = n' + 1 := ⟨n - 1, by omega⟩
      have hb : i < b.length := by omega
      have ew : IntKind.wrap .i64 ((i : Int) - 1) = ((i - 1 : Nat) : Int) := by rw [wrap_i64 (by omega) (by omega)]; omega
      have hlt := List.pairwise_iff_getElem.1 h (i - 1) i (by omega) hb (by omega)
      refine (laws_ascends.l2_succ ..).trans ((bif_t (dec_t (by omega))).trans ?_)
      rw [ew]
      refine (chk_t (in_t (by omega))).trans ((chk_t (in_t hb)).trans ?_)
      rw [Int.toNat_natCast, Int.toNat_natCast, getD_lt _ hb, getD_lt _ (show i - 1 < b.length by omega), wrap_up (by omega)]
      exact (bif_f (dec_f (by omega))).trans (ih (i + 1) n (by omega) (by omega) (by omega))
  by_cases h1 : 1 ≤ b.length
  · exact key (b.length - 1) 1 k (Nat.le_refl 1) (by omega) (by have := BIG_lt hk hl; omega)
  · obtain ⟨k', hk'⟩ : ∃ k', k = k' + 1 := ⟨k - 1, by simp [BIG] at hk; omega⟩
    have : laws_ascends.l2 k b (some false) (some true) (k' + 1) 1 = some true := (laws_ascends.l2_succ ..).trans (bif_f (dec_f (by omega)))
    rw [← hk'] at this
    exact this
/-! ### The game at a place of the record -/
theorem replayed_take : ∀ (l : List Int) (i : Int) (g : Gm), (replayed l i g).2 = i + (l.length : Int) → ∀ n, n ≤ l.length → (replayed (l.take n) i g).2 = i + (n : Int)
  | l, i, g, _, 0, _ => by
    rw [List.take_zero]
    show i = i + ((0 : Nat) : Int)
    omega
  | [], i, g, _, n + 1, hn => absurd hn (by simp)
  | c :: l, i, g, h, n + 1, hn => by
    cases hc : (replayMove g c).2 with
    | false =>
      have e : replayed (c :: l) i g = (g, i) := by
        show (bif (replayMove g c).2 then replayed l (i + 1) (replayMove g c).1 else (g, i)) = _
        rw [hc]; rfl
      rw [e] at h
      have h : i = i + ((c :: l).length : Int) := h
      rw [List.length_cons] at h
      omega
    | true =>
      have e : replayed (c :: l) i g = replayed l (i + 1) (replayMove g c).1 := by
        show (bif (replayMove g c).2 then replayed l (i + 1) (replayMove g c).1 else (g, i)) = _
        rw [hc]; rfl
      have e2 : replayed ((c :: l).take (n + 1)) i g = replayed (l.take n) (i + 1) (replayMove g c).1 := by
        show (bif (replayMove g c).2 then replayed (l.take n) (i + 1) (replayMove g c).1 else (g, i)) = _
        rw [hc]; rfl
      rw [e, List.length_cons] at h
      rw [e2, replayed_take l (i + 1) _ (by rw [h]; omega) n (by simpa using hn)]
      omega
theorem newGame_mv (r : Rl) (d : List Int) : (newGame r d).1.mv = 0 := by
  unfold newGame
  cases (r.ok && isHand d && ((d.length : Int) == 52)) <;> rfl
theorem gameAt_ok {t : Tb} (hT : isTable t = true) {n : Int} (h : (gameAt t n).2 = true) : isGame (gameAt t n).1 = true ∧ (gameAt t n).1.mv = n ∧ ((n == (t.rd.length : Int)) = true → eqGm (gameAt t n).1 t.g = true) := by
  unfold gameAt at h ⊢
  cases hc : (isTable t && t.on && inR n 0 (t.rd.length : Int)) with
  | false => rw [hc] at h; cases h
  | true =>
    simp only [Bool.and_eq_true] at hc
    have hr := inR_iff.1 hc.2
    have h6 := (isTable_ok hT).2.2.2.2 hc.1.2
    unfold tableOn at h6
    simp only [Bool.and_eq_true, beq_iff_eq] at h6
    obtain ⟨⟨⟨m1, m2⟩, m3⟩, m4⟩ := h6
    have ht := replayed_take t.rd 0 (newGame t.r t.deck).1 (by rw [m3]; omega) n.toNat (by omega)
    obtain ⟨r1, r2, r3⟩ := replayed_all (t.rd.take n.toNat) 0 (g := (newGame t.r t.deck).1) (by rw [ht, List.length_take]; omega)
    simp only [cond_true]
    refine ⟨r3 (newGame_game m1).1, ?_, fun hn => ?_⟩
    · rw [r1, newGame_mv, List.length_take]; omega
    · have hn : n = (t.rd.length : Int) := by simpa using hn
      rw [List.take_of_length_le (by omega)]
      exact m4
theorem gameAt_no {t : Tb} {n : Int} (h : (gameAt t n).2 = false) : (gameAt t n).1 = zeroG := by
  unfold gameAt at h ⊢
  cases hc : (isTable t && t.on && inR n 0 (t.rd.length : Int)) with
  | false => rfl
  | true => rw [hc] at h; cases h
theorem couldHave_is (t : Tb) (n : Int) : couldHave t n = playable (gameAt t n).1 := by
  unfold couldHave
  cases h : (gameAt t n).2 with
  | true => rfl
  | false =>
    rw [gameAt_no h]
    unfold playable
    rw [zeroG_game]; rfl
/-! ### What the law asks last -/
def againEnd (k : Nat) (a b : List Int) : Option Bool :=
  (spec_DrawFirstApart.f k a).bind fun r13 =>
  (impl_FirstApart.f k r13.1 r13.2).bind fun r14 =>
  (laws_ascends.f k b).bind fun r15 =>
  bif r15 then
   (impl_FirstApart.f k r13.2 r13.1).bind fun r16 =>
   bif (r14 == r16) then
    (laws_sameInts.f k r13.1 r13.2).bind fun r17 =>
    some ((r14 == (-1)) == r17)
   else
    some false
  else
   some false
theorem againEnd_ok {k : Nat} (hk : BIG ≤ k) {a b : List Int} (ha : a.length < 1048577) (hb : b.length < 1048577) (h : b.Pairwise (· < ·)) : againEnd k a b = some true := by
  obtain ⟨p, q, e, hp, hq⟩ := spec_DrawFirstApart.ok hk ha
  have f1 := impl_FirstApart.eq hk (p := p) (q := q) (by omega) (by omega)
  have f2 := impl_FirstApart.eq hk (p := q) (q := p) (by omega) (by omega)
  have f3 := laws_sameInts.eq hk (a := p) q (by omega)
  refine (bind_s e).trans ((bind_s f1).trans ((bind_s (laws_ascends.ok hk hb h)).trans ((bif_t rfl).trans ((bind_s f2).trans ((bif_t ?_).trans ((bind_s f3).trans ?_))))))
  · rw [apart_comm]; exact beq_self_eq_true _
  · rw [apart_iff]
    exact congrArg some (beq_self_eq_true _)
def againTail (k : Nat) (a : List Int) (t : Tb) (n : Int) (g : Gm) : Option Bool :=
  (t.ap (impl_CouldHave.f k) n).bind fun r8 =>
  (g.ap (impl_Playable.f k)).bind fun r9 =>
  (laws_sameInts.f k r8 r9).bind fun r10 =>
  bif (!r10) then some false
  else (t.ap (impl_Blunders.f k)).bind fun r11 => t.pm (laws_FnAgain.l10 k) r11 (some false) (againEnd k a r11) k 0
theorem again_loop {k : Nat} (hk : BIG ≤ k) {t : Tb} (ht : t.sm) {b : List Int} (hb : b.length < 1048577) (h : bgood t t.rd.length b) (e0 e1 : Option Bool) : t.pm (laws_FnAgain.l10 k) b e0 e1 k 0 = e1 := by
  have key : ∀ (m i n : Nat), i + m = b.length → m < n → t.pm (laws_FnAgain.l10 k) b e0 e1 n (i : Int) = e1 := by
    intro m
    induction m with
    | zero =>
      intro i n hi hn
      obtain ⟨n, rfl⟩ : ∃ n', n = n' + 1 := ⟨n - 1, by omega⟩
      exact (laws_FnAgain.l10_succ ..).trans (bif_f (dec_f (by omega)))
    | succ m ih =>
      intro i n hi hn
      obtain ⟨n, rfl⟩ : ∃ n', n = n' + 1 := ⟨n - 1, by omega⟩
      have hbi : i < b.length := by omega
      have ih := ih (i + 1) n (by omega) (by omega)
      rw [← wrap_up (by omega)] at ih
      have hm := h.1 (b.getD ((i : Int)).toNat 0) (getD_mem 0 (by rw [Int.toNat_natCast]; exact hbi))
      have ec := impl_CouldHave.eq hk (Tb.sm_sm' ht) (b.getD ((i : Int)).toNat 0)
      have h4 := hm.2.2.2
      generalize couldHave t (b.getD ((i : Int)).toNat 0) = c at ec h4
      refine (laws_FnAgain.l10_succ ..).trans ((bif_t (dec_t (by omega))).trans ((chk_t (in_t hbi)).trans ((chk_t (and_t (dec_t hm.1) (dec_t hm.2.1))).trans ((bif_f ?_).trans ((chk_t (in_t hbi)).trans ((bind_s ec).trans ((bif_f ?_).trans ih)))))))
      · rw [hm.2.2.1]; rfl
      · have h5 : ((c.length : Int) == 0) = false := beq_eq_false_iff_ne.2 (by omega)
        exact h5
  exact key b.length 0 k (by omega) (BIG_lt hk hb)
theorem againTail_ok {k : Nat} (hk : BIG ≤ k) {a : List Int} (ha : a.length < 1048577) {t : Tb} (ht : t.sm) (n : Int) : againTail k a t n (gameAt t n).1 = some true := by
  have hg := gameAt_sm (Tb.sm_sm' ht) n
  have hb := blundersOf_good t
  have hl := blundersOf_len ht
  have eb := impl_Blunders.eq hk ht
  have hp := playable_len (gameAt t n).1
  have ec := impl_CouldHave.eq hk (Tb.sm_sm' ht) n
  rw [couldHave_is] at ec
  generalize blundersOf t = b at hb hl eb
  refine (bind_s ec).trans ((bind_s (impl_Playable.eq hk hg)).trans ((bind_s (laws_sameInts.eq hk _ (by omega))).trans ((bif_f (by rw [dec_t rfl]; rfl)).trans ((bind_s eb).trans ?_))))
  exact (again_loop hk ht hl hb _ _).trans (againEnd_ok hk ha hl hb.2)
theorem laws_FnAgain.eq {k : Nat} (hk : BIG ≤ k) {a : List Int} (_ja : a.length ≤ maxLen) (_ia : ∀ n ∈ a, wfI .u8 n) : laws_FnAgain.f k a = some true := by
  refine (bind_s rfl).trans ?_
  by_cases hb : (a.length : Int) > 1048576
  · exact bif_t (dec_t hb)
  · refine (bif_f (dec_f hb)).trans ?_
    have ha : a.length < 1048577 := by omega
    obtain ⟨t, n, l, e, ht, hT⟩ := spec_DrawBranch.ok hk ha
    have hs' := Tb.sm_sm' ht
    have rest := againTail_ok hk ha ht n
    have e1 := impl_GameAt.eq hk hs' n
    have e2 := impl_Branch.eq hk hs' n l
    have hg := gameAt_sm hs' n
    have gok := fun h => gameAt_ok (t := t) hT (n := n) h
    unfold branch at e2
    generalize gameAt t n = q at rest e1 e2 hg gok
    refine (bind_s e).trans ((bind_s e1).trans ?_)
    cases h1 : q.2 with
    | false =>
      rw [h1] at e2
      exact (bind_s e2).trans ((bif_f rfl).trans ((bif_f rfl).trans rest))
    | true =>
      rw [h1] at e2
      obtain ⟨g1, g2, g3⟩ := gok h1
      obtain ⟨p1, p2, p3⟩ := playOut_end l g1
      have ps := playOut_sm l hg
      have ei := impl_IsEnded.eq hk ps
      rw [isEnded_over p1, p2] at ei
      have eg := impl_IsGame.eq hk hg
      rw [g1] at eg
      refine (bind_s e2).trans ((bif_f rfl).trans ((bif_t rfl).trans ((bind_s eg).trans ((bif_f rfl).trans ((bif_f (show (q.1.mv != n) = false by rw [g2]; simp)).trans ((bind_s ei).trans ((bif_f rfl).trans ?_)))))))
      by_cases hn : (n == (t.rd.length : Int)) = true
      · have ee := impl_EqualGames.eq hk t.g hg
        rw [g3 hn] at ee
        exact (bif_t hn).trans ((bind_s ee).trans ((bif_f rfl).trans rest))
      · exact (bif_f (Bool.not_eq_true _ ▸ hn)).trans rest
end Go.Proofs.YtpdkglbbhfhlfaaGreat
