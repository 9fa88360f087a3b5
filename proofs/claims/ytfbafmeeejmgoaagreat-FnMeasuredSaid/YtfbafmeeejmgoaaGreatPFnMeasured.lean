/- Counts, in plain Lean: the law answers true. Conditions: enough rounds. -/
import Derived.Test.YtfbafmeeejmgoaaGreatKit
import Derived.Test.YtfbafmeeejmgoaaGreatFFnMeasured
import Derived.Test.YtfbafmeeejmgoaaGreatPDrawPatience
import Derived.Test.YtfbafmeeejmgoaaGreatPOpenShare
import Derived.Test.YtfbafmeeejmgoaaGreatPDrawSheet
import Derived.Test.YtfbafmeeejmgoaaGreatPDrawGame
import Derived.Test.YtfbafmeeejmgoaaGreatPMatchSet
import Derived.Test.YtfbafmeeejmgoaaGreatPMeldCount
import Derived.Test.YtfbafmeeejmgoaaGreatPDrawHands
import Derived.Test.YtfbafmeeejmgoaaGreatPSheet
import Derived.Test.YtfbafmeeejmgoaaGreatPGame
set_option linter.unusedVariables false
set_option linter.unusedSimpArgs false
namespace Go.Proofs.YtfbafmeeejmgoaaGreat
open Go Go.Proofs.YtfbafmeeejmgoaaGreat.V
/-! ### Moves on average -/
def avg (l : List (List Int)) : Int := bif ((l.length : Int) == 0) then 0 else (l.flatten.length : Int).tdiv (l.length : Int)
theorem flat_short {l : List (List Int)} (h : shortRows l) : l.flatten.length ≤ 100 := by
  have key : ∀ l : List (List Int), (∀ y ∈ l, y.length ≤ 10) → l.flatten.length ≤ 10 * l.length := by
    intro l
    induction l with
    | nil => intro _; simp
    | cons a l ih =>
      intro hx
      have h1 := ih (fun y hy => hx y (by simp [hy]))
      have h2 := hx a (by simp)
      rw [List.flatten_cons, List.length_append, List.length_cons]; omega
  have := key l h.2
  have := h.1
  omega
theorem avg_bd {l : List (List Int)} (h : shortRows l) : 0 ≤ (l.flatten.length : Int).tdiv (l.length : Int) ∧ (l.flatten.length : Int).tdiv (l.length : Int) ≤ 100 := by
  have hf := flat_short h
  rw [Int.tdiv_eq_ediv_of_nonneg (by omega)]
  have h1 : (0 : Int) ≤ (l.flatten.length : Int) / (l.length : Int) := Int.ediv_nonneg (by omega) (by omega)
  have h2 : (l.flatten.length : Int) / (l.length : Int) ≤ (l.flatten.length : Int) := Int.ediv_le_self _ (by omega)
  omega
theorem impl_AverageMoves.short {k : Nat} (hk : BIG ≤ k) {l : List (List Int)} (h : shortRows l) : impl_AverageMoves.f k l = some (avg l) := by
  unfold impl_AverageMoves.f avg
  cases h0 : ((l.length : Int) == 0) with
  | true => rfl
  | false =>
    have hne : ¬ (l.length : Int) = 0 := by simpa using h0
    have hb := avg_bd h
    refine (bif_f rfl).trans ((bind_s (impl_TotalCards.eq hk ⟨by have := h.1; omega, fun y hy => by have := h.2 y hy; omega⟩)).trans ((chk_t (by rw [dec_f hne]; rfl)).trans ?_))
    rw [wrap_i64 (by omega) (by omega)]; rfl
theorem spec_AverageMoves.short {k : Nat} (hk : BIG ≤ k) {l : List (List Int)} (h : shortRows l) : spec_AverageMoves.f k l = some (avg l) := by
  have hl := h.1
  have hs := scan (B := Int) l (fun m b i => spec_AverageMoves.l3 k l (fun x1 => bif ((l.length : Int) == 0) then some 0 else chk (!(decide ((l.length : Int) = 0))) <| some (IntKind.wrap .i64 (x1.tdiv (l.length : Int)))) m b i) (fun _ _ => true) (fun b a => b + (a.length : Int)) (fun x1 => bif ((l.length : Int) == 0) then some 0 else chk (!(decide ((l.length : Int) = 0))) <| some (IntKind.wrap .i64 (x1.tdiv (l.length : Int)))) (fun _ _ => none) (fun i b => 0 ≤ b ∧ b ≤ 10 * (i : Int) ∧ i ≤ 10)
    (fun m b i hi hI => by
      have hy := h.2 _ (List.getElem_mem hi)
      refine (spec_AverageMoves.l3_succ ..).trans ((bif_t (dec_t (by omega))).trans ((chk_t (in_t hi)).trans ?_))
      rw [Int.toNat_natCast, getD_lt _ hi, wrap_up (by omega), wrap_i64 (by omega) (by omega)]; rfl)
    (fun b i hi hI _ => by have hy := h.2 _ (List.getElem_mem hi); omega)
    (fun m b hI => (spec_AverageMoves.l3_succ ..).trans (bif_f (dec_f (by omega))))
    l.length 0 k 0 (by omega) (BIG_lt hk (by omega)) (by omega)
  refine hs.trans ?_
  have key : ∀ (l : List (List Int)) (b : Int), l.foldl (fun b a => b + (a.length : Int)) b = b + (l.flatten.length : Int) := by
    intro l
    induction l with
    | nil => intro b; simp
    | cons a l ih => intro b; rw [List.foldl_cons, ih, List.flatten_cons, List.length_append]; omega
  rw [List.drop_zero, run_fold, key]
  unfold avg
  cases h0 : ((l.length : Int) == 0) with
  | true => rfl
  | false =>
    have hne : ¬ (l.length : Int) = 0 := by simpa using h0
    have hb := avg_bd h
    refine (bif_f rfl).trans ((chk_t (by rw [dec_f hne]; rfl)).trans ?_)
    rw [Int.zero_add, wrap_i64 (by omega) (by omega)]; rfl
theorem avg_nn {l : List (List Int)} (h : shortRows l) : 0 ≤ avg l := by
  unfold avg
  cases ((l.length : Int) == 0) with
  | true => exact Int.le_refl _
  | false => exact (avg_bd h).1
/-! ### Rounds that are won -/
theorem impl_WinsOf.short {k : Nat} (hk : BIG ≤ k) (n : Int) {s : List (List Int)} (h : shortRows s) (p : Int) : ∃ w, impl_WinsOf.f k n s p = some w ∧ 0 ≤ w ∧ w ≤ (s.length : Int) := by
  have hl := h.1
  have eS := impl_IsSheet.eq hk n (s := s) (by omega) (fun y hy => by have := h.2 y hy; omega)
  have pre : ∀ {X}, _ = X → impl_WinsOf.f k n s p = X := fun {X} hX => (bind_s eS).trans hX
  cases hsh : isSheet n s with
  | false => exact ⟨0, pre (bif_t (by rw [hsh]; rfl)), Int.le_refl _, by omega⟩
  | true =>
    have hn : 2 ≤ n ∧ n ≤ 6 := by
      unfold isSheet at hsh
      simp only [Bool.and_eq_true] at hsh
      exact inR_iff.1 hsh.1.1
    have hw : IntKind.wrap .i64 (n - 1) = n - 1 := wrap_i64 (by omega) (by omega)
    have pre2 : ∀ {X}, _ = X → impl_WinsOf.f k n s p = X := fun {X} hX => pre ((bif_f (by rw [hsh]; rfl)).trans ((bind_s (impl_InRange.eq ..)).trans hX))
    cases hp : inR p 0 (IntKind.wrap .i64 (n - 1)) with
    | false => exact ⟨0, pre2 (bif_t (by rw [hp]; rfl)), Int.le_refl _, by omega⟩
    | true =>
      have hpr := inR_iff.1 hp
      rw [hw] at hpr
      obtain ⟨q, rfl⟩ : ∃ q : Nat, p = (q : Int) := ⟨p.toNat, by omega⟩
      have key : ∀ (m i j : Nat) (b : Int), i + m = s.length → m < j → 0 ≤ b → b ≤ (i : Int) → ∃ w, impl_WinsOf.l5 k (q : Int) s (s.length : Int) (fun x => some x) j b (i : Int) = some w ∧ 0 ≤ w ∧ w ≤ (s.length : Int) := by
        intro m
        induction m with
        | zero =>
          intro i j b hi hj b0 b1
          obtain ⟨j, rfl⟩ : ∃ n', j = n' + 1 := ⟨j - 1, by omega⟩
          exact ⟨b, (impl_WinsOf.l5_succ ..).trans (bif_f (dec_f (by omega))), b0, by omega⟩
        | succ m ih =>
          intro i j b hi hj b0 b1
          obtain ⟨j, rfl⟩ : ∃ n', j = n' + 1 := ⟨j - 1, by omega⟩
          have hil : i < s.length := by omega
          have hlen := (isSheet_round hsh (List.getElem_mem hil)).1
          have pre3 : ∀ {X}, _ = X → impl_WinsOf.l5 k (q : Int) s (s.length : Int) (fun x => some x) (j + 1) b (i : Int) = X := fun {X} hX => (impl_WinsOf.l5_succ ..).trans ((bif_t (dec_t (by omega))).trans ((chk_t (in_t hil)).trans ((chk_t (and_t (dec_t (by omega)) (dec_t (by rw [Int.toNat_natCast, getD_lt _ hil]; omega)))).trans hX)))
          cases hd : decide (((s.getD (i : Int).toNat []).getD (q : Int).toNat 0) > 0) with
          | true =>
            obtain ⟨w, e, w0, w1⟩ := ih (i + 1) j (b + 1) (by omega) (by omega) (by omega) (by omega)
            refine ⟨w, pre3 ((bif_t hd).trans ?_), w0, w1⟩
            rw [wrap_up (by omega), wrap_i64 (by omega) (by omega)]; exact e
          | false =>
            obtain ⟨w, e, w0, w1⟩ := ih (i + 1) j b (by omega) (by omega) (by omega) (by omega)
            refine ⟨w, pre3 ((bif_f hd).trans ?_), w0, w1⟩
            rw [wrap_up (by omega)]; exact e
      obtain ⟨w, e, w0, w1⟩ := key s.length 0 k 0 (by omega) (BIG_lt hk (by omega)) (Int.le_refl _) (Int.le_refl _)
      exact ⟨w, pre2 ((bif_f (by rw [hp]; rfl)).trans e), w0, w1⟩
/-! ### Shares -/
theorem openSum_flat : ∀ (ps : List (List Leaf)) (n : Int), ps.foldl openStep n ≤ n + ((ps.map fun y => gl y 0).flatten.length : Int)
  | [], n => by simp
  | y :: ps, n => by
    have h := openSum_flat ps (openStep n y)
    have h1 : openStep n y ≤ n + ((gl y 0).length : Int) := by
      unfold openStep openCards
      cases hp : isPile (gl y 0) (gi y 1) with
      | false => simp only [cond_false]; omega
      | true => have := isPile_ok hp; simp only [cond_true]; omega
    rw [List.foldl_cons, List.map_cons, List.flatten_cons, List.length_append]
    omega
theorem openShare_bd (ps : List (List Leaf)) (b st ws : List Int) : 0 ≤ openShare ps b st ws ∧ openShare ps b st ws ≤ 100 := by
  unfold openShare
  cases hp : isPatience ps b st ws with
  | false => simp
  | true =>
    have h0 := (openSum_bd ps ((ws.length : Int) + ((baseCards b).length : Int)) (by omega)).1
    have h1 := openSum_flat ps ((ws.length : Int) + ((baseCards b).length : Int))
    have h2 : (([st, ws, baseCards b] ++ ps.map fun y => gl y 0).flatten).length ≤ 52 := by
      unfold isPatience at hp
      simp only [Bool.and_eq_true] at hp
      have h4 := hp.2
      unfold whole at h4
      exact isHand_le (Bool.and_eq_true_iff.1 h4).1
    simp only [List.flatten_append, List.flatten_cons, List.length_append, List.flatten_nil, List.length_nil] at h2
    rw [cond_true, Int.tdiv_eq_ediv_of_nonneg (by omega)]
    omega
theorem impl_WildShare.bd {k : Nat} (hk : BIG ≤ k) {r : Rl} (h : r.sm) : ∃ w, r.ap (impl_WildShare.f k) = some w ∧ 0 ≤ w ∧ w ≤ 100 := by
  have hm := matchSet_len r.w
  have pre : ∀ {X}, _ = X → r.ap (impl_WildShare.f k) = X := fun {X} hX => (bind_s (impl_rl hk h)).trans hX
  cases hr : r.ok with
  | false => exact ⟨0, pre (bif_t (by rw [hr]; rfl)), by omega, by omega⟩
  | true =>
    refine ⟨(100 * ((matchSet r.w).length : Int)).tdiv 52, pre ((bif_f (by rw [hr]; rfl)).trans ((bind_s (impl_MatchSet.eq hk h.1)).trans ?_)), ?_, ?_⟩
    · rw [share_wrap ⟨by omega, by omega⟩]
    · rw [Int.tdiv_eq_ediv_of_nonneg (by omega)]; omega
    · rw [Int.tdiv_eq_ediv_of_nonneg (by omega)]; omega
/-! ### The law -/
theorem laws_FnMeasured.eq {k : Nat} (hk : BIG ≤ k) {a : List Int} (_ja : a.length ≤ maxLen) (_ia : ∀ n ∈ a, wfI .u8 n) : laws_FnMeasured.f k a = some true := by
  refine (bind_s rfl).trans ?_
  by_cases hb : (a.length : Int) > 1048576
  · exact bif_t (dec_t hb)
  · refine (bif_f (dec_f hb)).trans ?_
    have ha : a.length < 1048577 := by omega
    obtain ⟨p, l, e1, hl⟩ := spec_DrawIsSheet.ok hk ha
    have e1 : spec_DrawAverageMoves.f k a = some l := bind_s e1
    obtain ⟨p2, l2, w2, e2, hl2⟩ := spec_DrawTotalOf.ok hk ha
    have e2 : spec_DrawWinsOf.f k a = some (p2, l2, w2) := bind_s e2
    obtain ⟨w, ew, w0, w1⟩ := impl_WinsOf.short hk p2 hl2 w2
    obtain ⟨ps, b, st, ws, e3, hp, hb1, hb2, hb3⟩ := spec_DrawOpenShare.ok hk ha
    obtain ⟨o0, o1⟩ := openShare_bd ps b st ws
    have eo := impl_OpenShare.eq hk hp hb1 hb2 hb3
    obtain ⟨h0, e0, c0⟩ := spec_l1New.ok hk ha
    obtain ⟨r, i1, h1, er, _, rw_, rf⟩ := spec_l22Any.ok hk h0 c0
    have er1 : spec_DrawIsRules.f k a = some (r.n, r.e, r.b1, r.b2, r.w, r.f, r.t, r.l) := (bind_s e0).trans (bind_s er)
    have er2 : spec_DrawWildShare.f k a = some (r.n, r.e, r.b1, r.b2, r.w, r.f, r.t, r.l) := bind_s er1
    obtain ⟨s, es, s0, s1⟩ := impl_WildShare.bd hk (r := r) ⟨by omega, by omega⟩
    obtain ⟨m, em, hm⟩ := spec_DrawMeldsIn.ok hk ha
    have em : spec_DrawMeldCount.f k a = some m := bind_s em
    obtain ⟨x, ex, lx⟩ := spec_MeldsIn.ex hk (l := m) (by omega)
    obtain ⟨y, ey, ly⟩ := impl_MeldsIn.ex hk (l := m) (by omega)
    have ex1 : spec_MeldCount.f k m = some (x.length : Int) := bind_s ex
    have ey1 : impl_MeldCount.f k m = some (y.length : Int) := bind_s ey
    have hxy : (y.length : Int) = (x.length : Int) := by omega
    have a0 := avg_nn hl
    refine (bind_s e1).trans ((bind_s (impl_AverageMoves.short hk hl)).trans ((bind_s e2).trans ((bind_s ew).trans ((bind_s e3).trans ((bind_s eo).trans ((bind_s er2).trans ((bind_s es).trans ((bind_s em).trans ((bind_s ey1).trans ((bind_s ex1).trans ((bif_f (by rw [hxy]; simp)).trans ((bind_s (spec_AverageMoves.short hk hl)).trans ((bif_f (by simp)).trans ?_)))))))))))))
    refine (bif_t (dec_t a0)).trans ((bif_t (dec_t w0)).trans ((bif_t (dec_t w1)).trans ((bif_t (dec_t o0)).trans ((bif_t (dec_t o1)).trans ((bif_t (dec_t s0)).trans ((bif_t (dec_t s1)).trans ((bind_s ey1).trans ((bind_s ey).trans ?_))))))))
    exact congrArg some (beq_self_eq_true _)
end Go.Proofs.YtfbafmeeejmgoaaGreat
