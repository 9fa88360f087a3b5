/- What players choose, in plain Lean. Conditions: enough rounds, a code of at most 2^20 bytes. -/
import Derived.Test.YtfbafmeeejmgoaaGreatKit
import Derived.Test.YtfbafmeeejmgoaaGreatFFnMeasured
import Derived.Test.YtfbafmeeejmgoaaGreatPDrawGame
import Derived.Test.YtfbafmeeejmgoaaGreatPAuto
import Derived.Test.YtfbafmeeejmgoaaGreatPTally
import Derived.Test.YtfbafmeeejmgoaaGreatPPerm
set_option linter.unusedVariables false
set_option linter.unusedSimpArgs false
namespace Go.Proofs.YtfbafmeeejmgoaaGreat
open Go Go.Proofs.YtfbafmeeejmgoaaGreat.V
/-! ### A drawn hand -/
def stepC : Nat → Int → Int
  | 0, x => x
  | j + 1, x => stepC j ((x + 7).tmod 52)
theorem sub_len : ∀ (c h : List Int), c.Nodup → (∀ x ∈ c, x ∈ h) → c.length ≤ h.length
  | [], h, _, _ => Nat.zero_le _
  | a :: c, h, hn, hx => by
    have hn := List.nodup_cons.1 hn
    have ha : a ∈ h := hx a (by simp)
    have := sub_len c (h.erase a) hn.2 (fun x hx' => (List.mem_erase_of_ne (by rintro rfl; exact hn.1 hx')).2 (hx x (by simp [hx'])))
    have h2 := List.length_erase_of_mem ha
    have h3 := List.length_pos_of_mem ha
    rw [List.length_cons]
    omega
def chainC (x : Int) : List Int := [stepC 0 x, stepC 1 x, stepC 2 x, stepC 3 x, stepC 4 x, stepC 5 x, stepC 6 x, stepC 7 x, stepC 8 x]
def nodupB : List Int → Bool
  | [] => true
  | a :: l => !l.elem a && nodupB l
theorem nodupB_of : ∀ l : List Int, nodupB l = true → l.Nodup
  | [], _ => List.nodup_nil
  | a :: l, h => by
    have h := Bool.and_eq_true_iff.1 h
    refine List.nodup_cons.2 ⟨fun hm => ?_, nodupB_of l h.2⟩
    have := List.elem_eq_true_of_mem hm
    rw [this] at h
    exact absurd h.1 (by simp)
theorem chainC_nodup {x : Int} (h0 : 0 ≤ x) (h1 : x < 52) : (chainC x).Nodup := by
  have all : (List.range 52).all (fun n => nodupB (chainC (n : Int))) = true := by decide +kernel
  have := List.all_eq_true.1 all x.toNat (List.mem_range.2 (by omega))
  rw [show ((x.toNat : Nat) : Int) = x by omega] at this
  exact nodupB_of _ this
theorem free_card {h : List Int} (hl : h.length ≤ 8) {x : Int} (h0 : 0 ≤ x) (h1 : x < 52) : ∃ j ≤ 8, stepC j x ∉ h := by
  refine Classical.byContradiction fun hno => ?_
  have all : ∀ y ∈ chainC x, y ∈ h := fun y hy => Classical.byContradiction fun hy' => hno (by
    simp only [chainC, List.mem_cons, List.not_mem_nil, or_false] at hy
    rcases hy with rfl | rfl | rfl | rfl | rfl | rfl | rfl | rfl | rfl
    · exact ⟨0, by omega, hy'⟩
    · exact ⟨1, by omega, hy'⟩
    · exact ⟨2, by omega, hy'⟩
    · exact ⟨3, by omega, hy'⟩
    · exact ⟨4, by omega, hy'⟩
    · exact ⟨5, by omega, hy'⟩
    · exact ⟨6, by omega, hy'⟩
    · exact ⟨7, by omega, hy'⟩
    · exact ⟨8, by omega, hy'⟩)
  have := sub_len _ _ (chainC_nodup h0 h1) all
  simp only [chainC, List.length_cons, List.length_nil] at this
  omega
theorem spec_l5Some.find {R : Type} {k : Nat} (hk : BIG ≤ k) {l : List Int} (hl : l.length ≤ 8) (e0 : Int → Option R) : ∀ (j n : Nat) (x : Int), 0 ≤ x → x < 52 → j < n → stepC j x ∉ l → ∃ y, spec_l5Some.l6 k l e0 n x = e0 y
  | j, 0, x, _, _, hn, _ => absurd hn (by omega)
  | j, n + 1, x, h0, h1, hn, hj => by
    have step := (spec_l5Some.l6_succ (R := R) k l e0 n x).trans (bind_s (spec_HasCard.eq hk x (by omega)))
    cases hc : hasCard l x with
    | false => exact ⟨x, step.trans (bif_f hc)⟩
    | true =>
      cases j with
      | zero => exact absurd (hasCard_iff.1 hc) hj
      | succ j =>
        have hb := tmodN_bd (x := x + 7) (n := 52) (by omega) (by omega)
        obtain ⟨y, e⟩ := spec_l5Some.find hk hl e0 j n ((x + 7).tmod 52) hb.1 hb.2 (by omega) hj
        refine ⟨y, step.trans ((bif_t hc).trans ?_)⟩
        rw [wrap_i64 (by omega) (by omega)]
        exact e
theorem spec_l5Some.ok {k : Nat} (hk : BIG ≤ k) {b : List Int} {i : Int} (h : Int) (hc : Cur b i) {g : Int} (g0 : 0 ≤ g) (g1 : g ≤ 8) : ∃ l i' h', spec_l5Some.f k b i h g = some (l, b, i', h') ∧ Cur b i' ∧ l.length ≤ 8 := by
  have key : ∀ (e0 : List Int → List Int → Int → Int → Option (List Int × List Int × Int × Int)) (m j n : Nat) (i h : Int) (l : List Int), Cur b i → m < n → (j + m : Int) = g → l.length = j → ∃ l' i' h', spec_l5Some.l3 k g e0 n (j : Int) b i h l = e0 l' b i' h' ∧ Cur b i' ∧ l'.length ≤ 8 := by
    intro e0 m
    induction m with
    | zero =>
      intro j n i h l c hn hm hl
      obtain ⟨n, rfl⟩ : ∃ n', n = n' + 1 := ⟨n - 1, by omega⟩
      exact ⟨l, i, h, (spec_l5Some.l3_succ ..).trans (bif_f (dec_f (by omega))), c, by omega⟩
    | succ m ih =>
      intro j n i h l c hn hm hl
      obtain ⟨n, rfl⟩ : ∃ n', n = n' + 1 := ⟨n - 1, by omega⟩
      obtain ⟨x, i2, h2, e2, c2, p2, q2, _⟩ := spec_l1Below.ok k h 52 c
      have q2 := q2 (by omega)
      obtain ⟨j', hj, hf⟩ := free_card (h := l) (by omega) p2 q2
      obtain ⟨y, ey⟩ := spec_l5Some.find hk (l := l) (by omega) (fun x3 => chk (decide ((l.length + 1) * 8 ≤ room)) <| spec_l5Some.l3 k g e0 n (IntKind.wrap .i64 ((j : Int) + 1)) b i2 h2 (l ++ [x3])) j' k x p2 q2 (by simp [BIG] at hk; omega) hf
      obtain ⟨l', i', h', e, c', hl'⟩ := ih (j + 1) n i2 h2 (l ++ [y]) c2 (by omega) (by omega) (by simp; omega)
      refine ⟨l', i', h', (spec_l5Some.l3_succ ..).trans ((bif_t (dec_t (by omega))).trans ((bind_s e2).trans (ey.trans ((chk_t (rm8 (by omega))).trans ?_)))), c', hl'⟩
      rw [wrap_up (by omega)]
      exact e
  obtain ⟨l', i', h', e, c', hl'⟩ := key (fun x3 x4 x5 x6 => some (x3, x4, x5, x6)) g.toNat 0 k i h [] hc (by simp [BIG] at hk; omega) (by omega) rfl
  exact ⟨l', i', h', e, c', hl'⟩
theorem spec_l5Any.ok {k : Nat} (hk : BIG ≤ k) {b : List Int} {i : Int} (h : Int) (hc : Cur b i) : ∃ l i' h', spec_l5Any.f k b i h = some (l, b, i', h') ∧ Cur b i' ∧ l.length ≤ 8 := by
  obtain ⟨x, i1, h1, e1, c1, p1, p2, _⟩ := spec_l1Below.ok k h 9 hc
  have p2 := p2 (by omega)
  obtain ⟨l, i2, h2, e2, c2, hl⟩ := spec_l5Some.ok hk h1 c1 p1 (by omega)
  by_cases h0 : (l.length : Int) > 0
  · obtain ⟨t, i3, h3, e3, c3⟩ := spec_l1Once.ok k h2 10 c2
    cases t with
    | false => exact ⟨l, i3, h3, (bind_s e1).trans ((bind_s e2).trans ((bif_t (dec_t h0)).trans ((bind_s e3).trans (bif_f rfl)))), c3, hl⟩
    | true =>
      have ew : IntKind.wrap .i64 ((l.length : Int) - 1) = (l.length : Int) - 1 := wrap_i64 (by omega) (by omega)
      obtain ⟨u, i4, h4, e4, c4, _⟩ := spec_l1Int.ok k h3 (l := [l.getD ((IntKind.wrap .i64 ((l.length : Int) - 1)).toNat) 0, 52, (-1)]) (by simp) c3
      have q0 : (0 : Int) ≤ IntKind.wrap .i64 ((l.length : Int) - 1) := by rw [ew]; omega
      have q1 : IntKind.wrap .i64 ((l.length : Int) - 1) < (l.length : Int) := by rw [ew]; omega
      have q2 : (0 : Int) < (l.length : Int) := h0
      exact ⟨l.set 0 u, i4, h4, (bind_s e1).trans ((bind_s e2).trans ((bif_t (dec_t h0)).trans ((bind_s e3).trans ((bif_t rfl).trans ((chk_t (and_t (dec_t q0) (dec_t q1))).trans ((bind_s e4).trans (chk_t (dec_t q2)))))))), c4, by rw [List.length_set]; exact hl⟩
  · exact ⟨l, i2, h2, (bind_s e1).trans ((bind_s e2).trans (bif_f (dec_f h0))), c2, hl⟩
/-! ### The greatest number -/
theorem bestBy_ge (n : Int → Int) : ∀ (l : List Int) (b : Int), n b ≤ n (bestBy n l b) ∧ ∀ c ∈ l, n c ≤ n (bestBy n l b)
  | [], b => ⟨Int.le_refl _, fun c h => absurd h (by simp)⟩
  | a :: l, b => by
    unfold bestBy
    obtain ⟨h1, h2⟩ := bestBy_ge n l (bif decide (n a > n b) then a else b)
    cases hd : decide (n a > n b) with
    | true =>
      rw [hd] at h1 h2
      have hd := of_decide_eq_true hd
      simp only [cond_true] at h1 h2 ⊢
      refine ⟨by omega, fun c hc => ?_⟩
      rcases List.mem_cons.1 hc with rfl | hc
      · exact h1
      · exact h2 c hc
    | false =>
      rw [hd] at h1 h2
      have hd := of_decide_eq_false hd
      simp only [cond_false] at h1 h2 ⊢
      refine ⟨h1, fun c hc => ?_⟩
      rcases List.mem_cons.1 hc with rfl | hc
      · omega
      · exact h2 c hc
theorem mostOf_max {l : List Int} (h : 0 < l.length) : 0 ≤ mostOf l ∧ mostOf l < (l.length : Int) ∧ ∀ x ∈ l, x ≤ l.getD (mostOf l).toNat 0 := by
  obtain ⟨h1, h2, h3⟩ := mostOf_best (fun x => x) (p := l) h
  rw [List.map_id'] at h1 h2 h3
  refine ⟨h1, h2, fun x hx => ?_⟩
  rw [h3]
  exact (bestBy_ge (fun x => x) l (l.getD 0 0)).2 x hx
/-! ### The suits' counts -/
theorem suitCounts_sum (l : List Int) : (suitCounts l).sum = ((cntB isCard l : Nat) : Int) := by
  have key : ∀ (l b : List Int), b.length = 4 → (l.foldl scStep b).sum = b.sum + ((cntB isCard l : Nat) : Int) := by
    intro l
    induction l with
    | nil => intro b _; simp [cntB]
    | cons a l ih =>
      intro b hb
      rw [List.foldl_cons, cntB_cons]
      unfold scStep
      rw [suit_dec]
      cases hc : isCard a with
      | false => rw [show (bif false then b.set (suitOf a).toNat (b.getD (suitOf a).toNat 0 + 1) else b) = b from rfl]; exact (ih b hb).trans (by simp)
      | true =>
        have hs := card_suit hc
        have hi : (suitOf a).toNat < b.length := by omega
        have e := ih (b.set (suitOf a).toNat (b.getD (suitOf a).toNat 0 + 1)) (by rw [List.length_set]; exact hb)
        rw [sum_set _ _ _ hi, getD_lt _ hi] at e
        rw [show (bif true then b.set (suitOf a).toNat (b.getD (suitOf a).toNat 0 + 1) else b) = b.set (suitOf a).toNat (b.getD (suitOf a).toNat 0 + 1) from rfl, getD_lt _ hi]
        refine e.trans ?_
        simp only [Bool.toNat_true]
        omega
  refine (key l [0, 0, 0, 0] rfl).trans ?_
  simp
theorem cntB_all {p : Int → Bool} : ∀ {l : List Int}, (∀ x ∈ l, p x = true) → cntB p l = l.length
  | [], _ => rfl
  | a :: l, h => by
    have h1 := h a (by simp)
    have h2 := cntB_all (l := l) (fun x hx => h x (by simp [hx]))
    rw [cntB_cons, List.length_cons, h1, h2]
    simp only [Bool.toNat_true]
    omega
/-! ### Membership -/
/-! ### The best kind -/
theorem autoMove_game {g : Gm} {c : Int} (h : (autoMove g c).2 = true) : isGame g = true ∧ overG g = false := by
  unfold autoMove replayMove at h
  cases hc : (choice g c == -1) with
  | true =>
    rw [hc] at h
    have h : (takeCards g).2 = true := h
    unfold takeCards at h
    cases h1 : (isGame g && !overG g) with
    | true =>
      have := Bool.and_eq_true_iff.1 h1
      exact ⟨this.1, by simpa using this.2⟩
    | false => rw [h1] at h; cases h
  | false =>
    rw [hc] at h
    have h : (playOn g (choice g c)).2 = true := h
    unfold playOn at h
    cases h1 : hasCard (playable g) (choice g c) with
    | true => have := playable_mem h1; exact ⟨this.1, this.2.1⟩
    | false => rw [h1] at h; cases h
theorem autoMove_iff (g : Gm) (c : Int) : (autoMove g c).2 = (isGame g && !overG g) := by
  cases h : (autoMove g c).2 with
  | true =>
    have := autoMove_game h
    rw [this.1, this.2]; rfl
  | false =>
    cases h1 : isGame g with
    | false => rfl
    | true =>
      cases h2 : overG g with
      | true => rfl
      | false => rw [autoMove_ok c h1 h2] at h; cases h
end Go.Proofs.YtfbafmeeejmgoaaGreat
