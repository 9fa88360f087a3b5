/- Many events, in plain Lean: the law answers true. Conditions: enough rounds. -/
import Derived.Test.YtpdkglbbhfhlfaaGreatKit
import Derived.Test.YtpdkglbbhfhlfaaGreatFFnEvents
import Derived.Test.YtpdkglbbhfhlfaaGreatPDrawTable
import Derived.Test.YtpdkglbbhfhlfaaGreatPDrawGame
import Derived.Test.YtpdkglbbhfhlfaaGreatPEqual
set_option linter.unusedVariables false
set_option linter.unusedSimpArgs false
namespace Go.Proofs.YtpdkglbbhfhlfaaGreat
open Go Go.Proofs.YtpdkglbbhfhlfaaGreat.V
/-! ### Parts -/
theorem runE_append : ∀ (l m : List (List Leaf)) (t : Tb), runE (l ++ m) t = runE m (runE l t)
  | [], m, t => rfl
  | e :: l, m, t => runE_append l m _
theorem laws_at.ok (k : Nat) {a : List Int} (ha : a.length < 1048577) (hw : ∀ n ∈ a, wfI .u8 n) : ∃ v, laws_at.f k a 3 = some v ∧ 0 ≤ v := by
  by_cases h : (3 : Int) < (a.length : Int)
  · have hm := hw (a.getD 3 0) (getD_mem 0 (by omega))
    have hb : 0 ≤ a.getD 3 0 ∧ a.getD 3 0 ≤ 255 := by simpa [wfI, Lit.wf, IntKind.min, IntKind.max, IntKind.signed, IntKind.bits] using hm
    refine ⟨_, (bif_t (dec_t h)).trans (chk_t (and_t rfl (dec_t h))), ?_⟩
    show 0 ≤ IntKind.wrap .i64 (a.getD 3 0)
    rw [wrap_i64 (by omega) (by omega)]; omega
  · refine ⟨_, bif_f (dec_f h), ?_⟩
    rw [wrap_i64 (n := 3 * 31) (by omega) (by omega), wrap_i64 (n := (a.length : Int) * 7) (by omega) (by omega), wrap_i64 (by omega) (by omega)]
    exact (tmodN_bd (x := 3 * 31 + (a.length : Int) * 7) (n := 256) (by omega) (by omega)).1
theorem impl_EqualTables.refl {k : Nat} (hk : BIG ≤ k) {t : Tb} (h : t.sm) : t.ap (t.ap (impl_EqualTables.f k)) = some true := by
  have e1 := impl_EqualRules.eq hk t.r h.1
  have e2 := impl_EqualInts.eq hk (a := t.seals) t.seals (by have := h.2.1; omega)
  have e3 := impl_EqualInts.eq hk (a := t.deck) t.deck (by have := h.2.2.1; omega)
  have e4 := impl_EqualGames.eq hk t.g h.2.2.2.1
  have e5 := impl_EqualInts.eq hk (a := t.rd) t.rd (by have := h.2.2.2.2.1; omega)
  have e6 := impl_sameRows.eq hk (a := t.sheet) t.sheet h.2.2.2.2.2
  rw [show eqRl t.r t.r = true by simp [eqRl, eqI]] at e1
  rw [show eqI t.seals t.seals = true by simp [eqI]] at e2
  rw [show eqI t.deck t.deck = true by simp [eqI]] at e3
  rw [show eqGm t.g t.g = true by simp [eqGm, eqRl, eqI, eqII]] at e4
  rw [show eqI t.rd t.rd = true by simp [eqI]] at e5
  rw [show eqII t.sheet t.sheet = true by simp [eqII]] at e6
  exact (bind_s e1).trans ((bif_t rfl).trans ((bind_s e2).trans ((bif_t rfl).trans ((bif_t (beq_self_eq_true t.on)).trans ((bind_s e3).trans ((bif_t rfl).trans ((bind_s e4).trans ((bif_t rfl).trans ((bind_s e5).trans ((bif_t rfl).trans (bind_s e6)))))))))))
def cntE (c : Int) (l : List (List Leaf)) : Nat := (l.filter fun e => gi e 0 == c).length
theorem cntE_cons (c : Int) (e : List Leaf) (l : List (List Leaf)) : cntE c (e :: l) = (gi e 0 == c).toNat + cntE c l := by
  unfold cntE
  rw [List.filter_cons]
  cases (gi e 0 == c) <;> simp
  omega
theorem cntE_append (c : Int) (l m : List (List Leaf)) : cntE c (l ++ m) = cntE c l + cntE c m := by
  unfold cntE
  rw [List.filter_append, List.length_append]
theorem impl_CountEvents.eq {k : Nat} (hk : BIG ≤ k) {l : List (List Leaf)} (c : Int) (hl : l.length < 1048577) : impl_CountEvents.f k l c = some (cntE c l : Int) := by
  have key : ∀ (m i n : Nat) (b : Int), i + m = l.length → m < n → 0 ≤ b → b ≤ (i : Int) → impl_CountEvents.l3 k c l (l.length : Int) (fun x1 => some x1) n b (i : Int) = some (b + (cntE c (l.drop i) : Int)) := by
    intro m
    induction m with
    | zero =>
      intro i n b hi hn h0 h1
      obtain ⟨n, rfl⟩ : ∃ n', n = n' + 1 := ⟨n - 1, by omega⟩
      rw [List.drop_eq_nil_of_le (by omega)]
      exact (impl_CountEvents.l3_succ ..).trans ((bif_f (dec_f (by omega))).trans (by simp [cntE]))
    | succ m ih =>
      intro i n b hi hn h0 h1
      obtain ⟨n, rfl⟩ : ∃ n', n = n' + 1 := ⟨n - 1, by omega⟩
      have hil : i < l.length := by omega
      refine (impl_CountEvents.l3_succ ..).trans ((bif_t (dec_t (by omega))).trans ((chk_t (in_t hil)).trans ?_))
      rw [drop_cons hil, cntE_cons, Int.toNat_natCast, getD_lt _ hil, wrap_up (by omega), wrap_i64 (n := b + 1) (by omega) (by omega)]
      cases (gi l[i] 0 == c) with
      | true => exact (bif_t rfl).trans ((ih (i + 1) n (b + 1) (by omega) (by omega) (by omega) (by omega)).trans (by simp; omega))
      | false => exact (bif_f rfl).trans ((ih (i + 1) n b (by omega) (by omega) (by omega) (by omega)).trans (by simp))
  have := key l.length 0 k 0 (by omega) (BIG_lt hk hl) (by omega) (by omega)
  rw [List.drop_zero, Int.zero_add] at this
  exact this
/-! ### Events that deal are met -/
/-- What the seals are. -/
def sealsF (salt : Int) : Nat → List Int → List Int
  | _, [] => []
  | i, s :: l => hashF [(i : Int), s, salt] :: sealsF salt (i + 1) l
theorem sealsF_len (salt : Int) : ∀ (l : List Int) (i : Nat), (sealsF salt i l).length = l.length
  | [], i => rfl
  | s :: l, i => congrArg Nat.succ (sealsF_len salt l (i + 1))
theorem deal_foldE (salt : Int) : ∀ (l : List Int) (b : List (List Leaf) × List Int), (l.foldl (dealS salt) b).1 = b.1 ++ (sealsF salt b.1.length l).map (fun q => [.int 1, .int q, .ints [], .ints []]) ∧ (l.foldl (dealS salt) b).2 = b.2 ++ List.replicate l.length salt
  | [], b => by simp [sealsF]
  | s :: l, b => by
    obtain ⟨h1, h2⟩ := deal_foldE salt l (dealS salt b s)
    rw [List.foldl_cons, h1, h2]
    constructor
    · show (b.1 ++ [_]) ++ (sealsF salt (b.1 ++ [_]).length l).map _ = b.1 ++ ((hashF [(b.1.length : Int), s, salt] :: sealsF salt (b.1.length + 1) l).map _)
      rw [List.length_append, List.length_singleton, List.map_cons, List.append_assoc]; rfl
    · show (b.2 ++ [salt]) ++ List.replicate l.length salt = b.2 ++ List.replicate (l.length + 1) salt
      rw [List.append_assoc, List.replicate_succ]; rfl
theorem sealed_table {r : Rl} (ro : r.ok = true) {q : List Int} (hq : (q.length : Int) ≤ r.n) : isTable { newTb r with seals := q } = true := by
  have hn := (rl_ok ro).1
  unfold isTable isSheet
  rw [ro, dec_f (by show ¬ ((q.length : Int) > r.n); omega), inR_iff.2 hn]
  rfl
theorem run_seals {r : Rl} (ro : r.ok = true) : ∀ (l q : List Int), ((q.length + l.length : Nat) : Int) ≤ r.n → runE (l.map fun x => [.int 1, .int x, .ints [], .ints []]) { newTb r with seals := q } = { newTb r with seals := q ++ l }
  | [], q, _ => by rw [List.append_nil]; rfl
  | x :: l, q, h => by
    rw [List.length_cons] at h
    have h1 := sealed_table ro (q := q) (by omega)
    have h2 := sealed_table ro (q := q ++ [x]) (by rw [List.length_append, List.length_singleton]; omega)
    have e : (applyEvent { newTb r with seals := q } 1 x [] []).1 = { newTb r with seals := q ++ [x] } := by
      show (stepSeal { newTb r with seals := q } x).1 = _
      unfold stepSeal done
      rw [show (!({ newTb r with seals := q } : Tb).on && isTable { newTb r with seals := q } && isTable { ({ newTb r with seals := q } : Tb) with seals := ({ newTb r with seals := q } : Tb).seals ++ [x] }) = true from Bool.and_eq_true_iff.2 ⟨Bool.and_eq_true_iff.2 ⟨rfl, h1⟩, h2⟩]
      rfl
    show runE _ (applyEvent { newTb r with seals := q } 1 x [] []).1 = _
    rw [e, run_seals ro l (q ++ [x]) (by rw [List.length_append, List.length_singleton]; omega), List.append_assoc]
    rfl
theorem opens_all {salt : Int} (hs : 0 ≤ salt ∧ salt ≤ 1000000) (ss : List Int) (N : Nat) : ∀ (l : List Int) (i : Nat), l = ss.drop i → (∀ x ∈ l, 0 ≤ x ∧ x ≤ 1000000) → i + l.length ≤ N → opens ss (List.replicate N salt) i (sealsF salt i l) = true
  | [], i, _, _, _ => rfl
  | s :: l, i, hl, hx, hi => by
    rw [List.length_cons] at hi
    have h0 : ss.getD i 0 = s := by
      have : (ss.drop i)[0]? = some s := by rw [← hl]; rfl
      rw [List.getElem?_drop] at this
      rw [List.getD_eq_getElem?_getD, show ss[i]? = some s from this]; rfl
    have h1 : l = ss.drop (i + 1) := by rw [← List.tail_drop, ← hl]; rfl
    have h2 : (List.replicate N salt).getD i 0 = salt := by rw [getD_lt _ (by rw [List.length_replicate]; omega), List.getElem_replicate]
    have ih := opens_all hs ss N l (i + 1) h1 (fun x hx' => hx x (by simp [hx'])) (by omega)
    have hss := hx s (by simp)
    show (isOpened (i : Int) (ss.getD i 0) ((List.replicate N salt).getD i 0) (hashF [(i : Int), s, salt]) && opens ss (List.replicate N salt) (i + 1) (sealsF salt (i + 1) l)) = true
    rw [h0, h2, ih]
    unfold isOpened
    rw [inR_iff.2 hss, inR_iff.2 hs]
    simp
theorem deal_runs {r : Rl} (ro : r.ok = true) {ss : List Int} {salt : Int} (hn : (ss.length : Int) = r.n) (hx : ∀ x ∈ ss, 0 ≤ x ∧ x ≤ 1000000) (hs : 0 ≤ salt ∧ salt ≤ 1000000) : (runE (dealEv r.ok r.n ss salt) (newTb r)).on = true := by
  have hr := (rl_ok ro).1
  obtain ⟨f1, f2⟩ := deal_foldE salt ss ([], [])
  have hl := sealsF_len salt ss 0
  have ho := opens_all hs ss ss.length ss 0 rfl hx (by omega)
  have e : dealEv r.ok r.n ss salt = (sealsF salt 0 ss).map (fun q => [.int 1, .int q, .ints [], .ints []]) ++ [[.int 2, .int 0, .ints ss, .ints (List.replicate ss.length salt)]] := by
    unfold dealEv
    rw [ro, f1, f2, show ((ss.length : Int) != r.n) = false by simpa using hn]
    rfl
  generalize sealsF salt 0 ss = Q at e hl ho
  rw [e, runE_append, show newTb r = { newTb r with seals := [] } from rfl, run_seals ro Q [] (by simp; omega), List.nil_append]
  have hT := sealed_table ro (q := Q) (by omega)
  have hj : jointDeck Q ss (List.replicate ss.length salt) = (shuffled fullDeck (jointSeed ss), true) := by
    unfold jointDeck areOpened
    rw [inR_iff.2 (show 1 ≤ (Q.length : Int) ∧ (Q.length : Int) ≤ 6 by omega), ho, show ((ss.length : Int) == (Q.length : Int)) = true by simp; omega, show (((List.replicate ss.length salt).length : Int) == (Q.length : Int)) = true by simp; omega]
    rfl
  have hm := newGame_made ro (jointSeed ss)
  generalize shuffled fullDeck (jointSeed ss) = D at hj hm
  generalize List.replicate ss.length salt = bs at hj
  obtain ⟨T, eT⟩ : ∃ T : Tb, T = { newTb r with seals := Q } := ⟨_, rfl⟩
  have t1 : T.seals = Q := by rw [eT]
  have t2 : T.r = r := by rw [eT]
  have t3 : T.on = false := by rw [eT]
  have t4 : T.sheet = [] := by rw [eT]
  rw [← eT] at hT ⊢
  clear eT
  have hq : ((Q.length : Int) == r.n) = true := by rw [show (Q.length : Int) = r.n by omega]; exact beq_self_eq_true _
  have hD : isTable (dealtT T ss bs []) = true := by
    have e0 : dealtT T ss bs [] = ⟨r, Q, true, D, (newGame r D).1, [], []⟩ := by
      unfold dealtT
      rw [t1, t2, t4, hj]
    rw [e0]
    have e1 : tableOn ⟨r, Q, true, D, (newGame r D).1, [], []⟩ = true := by
      unfold tableOn
      refine Bool.and_eq_true_iff.2 ⟨Bool.and_eq_true_iff.2 ⟨Bool.and_eq_true_iff.2 ⟨hm, hq⟩, rfl⟩, ?_⟩
      show eqGm (newGame r D).1 (newGame r D).1 = true
      simp [eqGm, eqRl, eqI, eqII]
    unfold isTable
    refine Bool.and_eq_true_iff.2 ⟨Bool.and_eq_true_iff.2 ⟨Bool.and_eq_true_iff.2 ⟨ro, ?_⟩, ?_⟩, e1⟩
    · show (!(decide ((Q.length : Int) > r.n))) = true
      rw [dec_f (by omega)]; rfl
    · unfold isSheet
      rw [inR_iff.2 hr]; rfl
  have hc : (isSealed T && (jointDeck T.seals ss bs).2 && (newGame T.r (jointDeck T.seals ss bs).1).2 && isTable T && isTable (dealtT T ss bs [])) = true := by
    unfold isSealed
    rw [hT, hD, t1, t2, t3, hj, hq]
    show (true && (newGame r D).2 && true && true) = true
    rw [hm]; rfl
  have e2 : runE [[.int 2, .int 0, .ints ss, .ints bs]] T = (stepDeal T ss bs).1 := rfl
  rw [e2]
  unfold stepDeal done
  rw [hc]
  rfl
theorem cntE_seals (c : Int) (Q : List Int) : cntE c (Q.map fun q => [.int 1, .int q, .ints [], .ints []]) = bif (1 == c) then Q.length else 0 := by
  induction Q with
  | nil => cases ((1 : Int) == c) <;> rfl
  | cons q Q ih =>
    rw [List.map_cons, cntE_cons, ih]
    show ((1 : Int) == c).toNat + _ = _
    cases ((1 : Int) == c) <;> simp
    omega
theorem deal_counts {r : Rl} (ro : r.ok = true) {ss : List Int} (salt : Int) (hn : (ss.length : Int) = r.n) : (cntE 1 (dealEv r.ok r.n ss salt) : Int) = r.n ∧ cntE 2 (dealEv r.ok r.n ss salt) = 1 := by
  obtain ⟨f1, f2⟩ := deal_foldE salt ss ([], [])
  have hl := sealsF_len salt ss 0
  have e : dealEv r.ok r.n ss salt = (sealsF salt 0 ss).map (fun q => [.int 1, .int q, .ints [], .ints []]) ++ [[.int 2, .int 0, .ints ss, .ints (List.replicate ss.length salt)]] := by
    unfold dealEv
    rw [ro, f1, f2, show ((ss.length : Int) != r.n) = false by simpa using hn]
    rfl
  rw [e, cntE_append, cntE_append, cntE_seals, cntE_seals]
  constructor
  · show (((sealsF salt 0 ss).length + 0 : Nat) : Int) = r.n
    omega
  · rfl
/-! ### An event that is not met -/
theorem done_no {t u : Tb} {ok : Bool} (h : (done t u ok).2 = false) : (done t u ok).1 = t := by
  unfold done at h ⊢
  cases hc : (ok && isTable t && isTable u) with
  | false => rfl
  | true => rw [hc] at h; cases h
theorem applyEvent_no {t : Tb} {a b : Int} {ss bs : List Int} (h : (applyEvent t a b ss bs).2 = false) : (applyEvent t a b ss bs).1 = t := by
  unfold applyEvent at h ⊢
  cases h1 : (a == 1) with
  | true => rw [h1] at h; exact done_no h
  | false =>
    rw [h1] at h
    cases h2 : (a == 2) with
    | true => rw [h2] at h; exact done_no h
    | false =>
      rw [h2] at h
      cases h3 : (a == 3) with
      | true =>
        rw [h3] at h
        have h : (stepPlay t b).2 = false := h
        show (stepPlay t b).1 = t
        unfold stepPlay at h ⊢
        cases hc : isCard b with
        | true => rw [hc] at h; exact done_no h
        | false => rfl
      | false =>
        rw [h3] at h
        cases h4 : (a == 4) with
        | true => rw [h4] at h; exact done_no h
        | false =>
          rw [h4] at h
          cases h5 : (a == 5) with
          | true => rw [h5] at h; exact done_no h
          | false => rfl
theorem applyEvent_kind {t : Tb} {a b : Int} {ss bs : List Int} (h : (applyEvent t a b ss bs).2 = true) : 1 ≤ a ∧ a ≤ 5 := by
  unfold applyEvent at h
  cases h1 : (a == 1) with
  | true => have : a = 1 := by simpa using h1
            omega
  | false =>
    cases h2 : (a == 2) with
    | true => have : a = 2 := by simpa using h2
              omega
    | false =>
      cases h3 : (a == 3) with
      | true => have : a = 3 := by simpa using h3
                omega
      | false =>
        cases h4 : (a == 4) with
        | true => have : a = 4 := by simpa using h4
                  omega
        | false =>
          cases h5 : (a == 5) with
          | true => have : a = 5 := by simpa using h5
                    omega
          | false => rw [h1, h2, h3, h4, h5] at h; cases h
theorem impl_EventName.named {k : Nat} {a : Int} (h : 1 ≤ a ∧ a ≤ 5) : ∃ s, impl_EventName.f k a = some s ∧ (!(s.toList == ByteArray.empty.toList)) = true := by
  have : a = 1 ∨ a = 2 ∨ a = 3 ∨ a = 4 ∨ a = 5 := by omega
  rcases this with rfl | rfl | rfl | rfl | rfl
  · exact ⟨⟨#[115, 101, 97, 108]⟩, rfl, by decide +kernel⟩
  · exact ⟨⟨#[100, 101, 97, 108]⟩, rfl, by decide +kernel⟩
  · exact ⟨⟨#[112, 108, 97, 121]⟩, rfl, by decide +kernel⟩
  · exact ⟨⟨#[116, 97, 107, 101]⟩, rfl, by decide +kernel⟩
  · exact ⟨⟨#[115, 101, 116, 116, 108, 101]⟩, rfl, by decide +kernel⟩
/-! ### Draws -/
theorem minmax (k : Nat) (n : Int) : ∃ v w, spec_Min.f k 6 n = some v ∧ spec_Max.f k 0 v = some w ∧ w ≤ 6 := by
  obtain ⟨v, e, h⟩ : ∃ v, spec_Min.f k 6 n = some v ∧ v ≤ 6 := by
    unfold spec_Min.f
    by_cases h : n < 6
    · exact ⟨n, bif_t (dec_t h), by omega⟩
    · exact ⟨6, bif_f (dec_f h), by omega⟩
  obtain ⟨w, e2, h2⟩ : ∃ w, spec_Max.f k 0 v = some w ∧ w ≤ 6 := by
    unfold spec_Max.f
    by_cases h0 : v > 0
    · exact ⟨v, bif_t (dec_t h0), h⟩
    · exact ⟨0, bif_f (dec_f h0), by omega⟩
  exact ⟨v, w, e, e2, h2⟩
theorem spec_DrawDealEvents.ok {k : Nat} (hk : BIG ≤ k) {a : List Int} (ha : a.length < 1048577) : ∃ (r : Rl) (ss : List Int) (salt : Int), spec_DrawDealEvents.f k a = some (r.n, r.e, r.b1, r.b2, r.w, r.f, r.t, r.l, ss, salt) ∧ r.sm ∧ (∀ x ∈ ss, 0 ≤ x ∧ x ≤ 1000000) ∧ (0 ≤ salt ∧ salt ≤ 1000000) ∧ ss.length ≤ 8 := by
  obtain ⟨h0, e0, c0⟩ := spec_l1New.ok hk ha
  obtain ⟨r, i1, h1, e1, c1, lw, lf⟩ := spec_l22Any.ok hk h0 c0
  obtain ⟨v, w, m1, m2, hw⟩ := minmax k r.n
  have key : ∀ (e0 : List Int → Int → Int → List Int → Option (Int × Int × Bool × Bool × List Int × List Int × Int × Int × List Int × Int)) (m j n : Nat) (i h : Int) (l : List Int), Cur a i → m < n → j + m = 7 → l.length = j → (∀ x ∈ l, 0 ≤ x ∧ x ≤ 1000000) → ∃ l' i' h', spec_DrawDealEvents.l5 k r.n e0 n (j : Int) a i h l = e0 a i' h' l' ∧ Cur a i' ∧ (∀ x ∈ l', 0 ≤ x ∧ x ≤ 1000000) ∧ l'.length ≤ 7 := by
    intro e0 m
    induction m with
    | zero =>
      intro j n i h l c hn hj hl hx
      obtain ⟨n, rfl⟩ : ∃ n', n = n' + 1 := ⟨n - 1, by omega⟩
      exact ⟨l, i, h, (spec_DrawDealEvents.l5_succ ..).trans ((bind_s m1).trans ((bind_s m2).trans (bif_f (dec_f (by omega))))), c, hx, by omega⟩
    | succ m ih =>
      intro j n i h l c hn hj hl hx
      obtain ⟨n, rfl⟩ : ∃ n', n = n' + 1 := ⟨n - 1, by omega⟩
      by_cases hd : (j : Int) < w
      · obtain ⟨y, i2, h2, e2, c2, p1, p2, _⟩ := spec_l1Below.ok k h 999 c
        have p2 := p2 (by omega)
        obtain ⟨l', i', h', e, c', hx', hl'⟩ := ih (j + 1) n i2 h2 (l ++ [y]) c2 (by omega) (by omega) (by simp; omega) (fun x hx' => by
          rcases List.mem_append.1 hx' with hx' | hx'
          · exact hx x hx'
          · obtain rfl := List.mem_singleton.1 hx'; omega)
        refine ⟨l', i', h', (spec_DrawDealEvents.l5_succ ..).trans ((bind_s m1).trans ((bind_s m2).trans ((bif_t (dec_t hd)).trans ((bind_s e2).trans ((chk_t (rm8 (by omega))).trans ?_))))), c', hx', hl'⟩
        rw [wrap_up (by omega)]
        exact e
      · exact ⟨l, i, h, (spec_DrawDealEvents.l5_succ ..).trans ((bind_s m1).trans ((bind_s m2).trans (bif_f (dec_f hd)))), c, hx, by omega⟩
  have key := fun e0 => key e0 7 0 k i1 h1 [] c1 (by simp [BIG] at hk; omega) rfl rfl (by simp)
  obtain ⟨ss, i2, h2, e2, c2, hx, hl⟩ := key _
  obtain ⟨o, i3, h3, e3, c3⟩ := spec_l1Once.ok k h2 8 c2
  obtain ⟨salt, i4, h4, e4, c4, hs⟩ := spec_l1Int.ok k h3 (l := [0, 5, 1000000]) (by simp) c3
  have hs : 0 ≤ salt ∧ salt ≤ 1000000 := by
    simp only [List.mem_cons, List.not_mem_nil, or_false] at hs
    omega
  have rs : r.sm := ⟨by omega, by omega⟩
  cases o with
  | true => exact ⟨r, ss ++ [1], salt, (bind_s e0).trans ((bind_s e1).trans (e2.trans ((bind_s e3).trans ((bif_t rfl).trans ((chk_t (rm8 (show ss.length + 1 ≤ 17592186044416 by omega))).trans (bind_s e4)))))), rs, fun x hx' => by
      rcases List.mem_append.1 hx' with hx' | hx'
      · exact hx x hx'
      · obtain rfl := List.mem_singleton.1 hx'; omega, hs, by simp; omega⟩
  | false => exact ⟨r, ss, salt, (bind_s e0).trans ((bind_s e1).trans (e2.trans ((bind_s e3).trans ((bif_f rfl).trans (bind_s e4))))), rs, hx, hs, by omega⟩
theorem spec_DrawApplyEvent.ok {k : Nat} (hk : BIG ≤ k) {a : List Int} (ha : a.length < 1048577) : ∃ (t : Tb) (c b : Int), spec_DrawApplyEvent.f k a = some (t.tpe (c, b, ([] : List Int), ([] : List Int))) ∧ t.sm ∧ isTable t = true := by
  obtain ⟨h0, e0, c0⟩ := spec_l1New.ok hk ha
  obtain ⟨t, i1, h1, e1, c1, ts, tT⟩ := spec_l34Draw.ok hk h0 c0
  obtain ⟨c, i2, h2, e2, c2, _⟩ := spec_l1Int.ok k h1 (l := [1, 3, 3, 4, 5, 6, 0]) (by simp) c1
  obtain ⟨b, i3, h3, e3, c3⟩ := spec_l4Card.ok k h2 c2
  have ep := spec_Playable.eq hk ts.2.2.2.1
  have pre : ∀ X, _ = X → spec_DrawApplyEvent.f k a = X := fun X hX => (bind_s e0).trans ((bind_s e1).trans ((bind_s e2).trans ((bind_s e3).trans ((bind_s ep).trans hX))))
  cases q3 : (c == 3) with
  | false => exact ⟨t, c, b, pre _ (bif_f q3), ts, tT⟩
  | true =>
    by_cases hp : ((playable t.g).length : Int) > 0
    · exact ⟨t, c, (playable t.g).getD 0 0, pre _ ((bif_t q3).trans ((bif_t (dec_t hp)).trans (chk_t (dec_t hp)))), ts, tT⟩
    · exact ⟨t, c, b, pre _ ((bif_t q3).trans (bif_f (dec_f hp))), ts, tT⟩
/-! ### What the law asks last -/
def evLast (k : Nat) (a : List Int) : Option Bool :=
 (spec_DrawApplyEvent.f k a).bind fun r22 =>
 (impl_ApplyEvent.f k r22.1 r22.2.1 (t2 r22).1 (t3 r22).1 (t4 r22).1 (t5 r22).1 (t6 r22).1 (t7 r22).1 (t8 r22).1 (t9 r22).1 (t9 r22.2).1 (t9 (t2 r22)).1 (t9 (t3 r22)).1 (t9 (t4 r22)).1 (t9 (t5 r22)).1 (t9 (t6 r22)).1 (t9 (t7 r22)).1 (t9 (t8 r22)).1 (t9 (t9 r22)).1 (t9 (t9 r22.2)).1 (t9 (t9 (t2 r22))).1 (t9 (t9 (t3 r22))).1 (t9 (t9 (t4 r22))).1 (t9 (t9 (t5 r22))).1 (t9 (t9 (t6 r22))).1 (t9 (t9 (t7 r22))).1 (t9 (t9 (t8 r22))).1 (t9 (t9 (t9 r22))).1 (t9 (t9 (t9 r22.2))).1 (t9 (t9 (t9 (t2 r22)))).1 (t9 (t9 (t9 (t3 r22))))).bind fun r23 =>
 bif (t9 (t9 (t9 r23))) then
 bif (!(t9 (t9 (t9 r23)))) then
 some true
 else
 (impl_EventName.f k (t9 (t9 (t9 r22))).1).bind fun r24 =>
 some (!(r24.toList == ByteArray.empty.toList))
 else
 (impl_EqualTables.f k r22.1 r22.2.1 (t2 r22).1 (t3 r22).1 (t4 r22).1 (t5 r22).1 (t6 r22).1 (t7 r22).1 (t8 r22).1 (t9 r22).1 (t9 r22.2).1 (t9 (t2 r22)).1 (t9 (t3 r22)).1 (t9 (t4 r22)).1 (t9 (t5 r22)).1 (t9 (t6 r22)).1 (t9 (t7 r22)).1 (t9 (t8 r22)).1 (t9 (t9 r22)).1 (t9 (t9 r22.2)).1 (t9 (t9 (t2 r22))).1 (t9 (t9 (t3 r22))).1 (t9 (t9 (t4 r22))).1 (t9 (t9 (t5 r22))).1 (t9 (t9 (t6 r22))).1 (t9 (t9 (t7 r22))).1 (t9 (t9 (t8 r22))).1 r23.1 r23.2.1 (t2 r23).1 (t3 r23).1 (t4 r23).1 (t5 r23).1 (t6 r23).1 (t7 r23).1 (t8 r23).1 (t9 r23).1 (t9 r23.2).1 (t9 (t2 r23)).1 (t9 (t3 r23)).1 (t9 (t4 r23)).1 (t9 (t5 r23)).1 (t9 (t6 r23)).1 (t9 (t7 r23)).1 (t9 (t8 r23)).1 (t9 (t9 r23)).1 (t9 (t9 r23.2)).1 (t9 (t9 (t2 r23))).1 (t9 (t9 (t3 r23))).1 (t9 (t9 (t4 r23))).1 (t9 (t9 (t5 r23))).1 (t9 (t9 (t6 r23))).1 (t9 (t9 (t7 r23))).1 (t9 (t9 (t8 r23))).1).bind fun r25 =>
 bif r25 then
 bif (!(t9 (t9 (t9 r23)))) then
 some true
 else
 (impl_EventName.f k (t9 (t9 (t9 r22))).1).bind fun r26 =>
 some (!(r26.toList == ByteArray.empty.toList))
 else
 some false
theorem evLast_ok {k : Nat} (hk : BIG ≤ k) {a : List Int} (ha : a.length < 1048577) : evLast k a = some true := by
  obtain ⟨t, c, b, e, ts, tT⟩ := spec_DrawApplyEvent.ok hk ha
  have ea := impl_ApplyEvent.eq hk ts c b [] []
  have n1 := fun h => applyEvent_no (t := t) (a := c) (b := b) (ss := []) (bs := []) h
  have n2 := fun h => applyEvent_kind (t := t) (a := c) (b := b) (ss := []) (bs := []) h
  generalize applyEvent t c b [] [] = q at ea n1 n2
  refine (bind_s e).trans ((bind_s ea).trans ?_)
  cases h : q.2 with
  | true =>
    obtain ⟨s, en, hs⟩ := impl_EventName.named (k := k) (n2 h)
    exact (bif_t rfl).trans ((bif_f rfl).trans ((bind_s en).trans (congrArg some hs)))
  | false =>
    have hq := n1 h
    have eqT : q.1.ap (t.ap (impl_EqualTables.f k)) = some true := by rw [hq]; exact impl_EqualTables.refl hk ts
    exact (bif_f rfl).trans ((bind_s eqT).trans ((bif_t rfl).trans (bif_t rfl)))
theorem impl_DealEvents.eq {k : Nat} (hk : BIG ≤ k) {r : Rl} (hr : r.sm) {l : List Int} (hl : l.length < 1048577) (salt : Int) : r.ap (impl_DealEvents.f k) l salt = some (dealEv r.ok r.n l salt) := by
  refine (bind_s (impl_rl hk hr)).trans ?_
  unfold dealEv
  cases r.ok with
  | false => rfl
  | true =>
    cases hn : ((l.length : Int) != r.n) with
    | true => exact (bif_f rfl).trans (bif_t rfl)
    | false =>
      refine (bif_f rfl).trans ((bif_f rfl).trans ?_)
      have h := scan (B := List (List Leaf) × List Int) l (fun m b i => impl_DealEvents.l5 k salt l (l.length : Int) (fun x3 x4 => (impl_copyOf.f k l).bind fun r5 => chk (decide ((x3.length + 1) * 64 ≤ room)) <| some (x3 ++ ([[.int (2 : Int), .int (0 : Int), .ints r5, .ints x4]]))) m i b.1 b.2) (fun _ _ => true) (dealS salt) (fun b => some (b.1 ++ [[.int 2, .int 0, .ints l, .ints b.2]])) (fun _ _ => none) (fun i b => b.1.length = i ∧ b.2.length = i)
        (fun m b i h hI => by
          obtain ⟨hI1, hI2⟩ := hI
          refine (impl_DealEvents.l5_succ ..).trans ((bif_t (dec_t (by omega))).trans ((chk_t (in_t h)).trans ?_))
          rw [Int.toNat_natCast, getD_lt _ h]
          refine (bind_s (impl_SeedSeal.eq hk ..)).trans ((chk_t (dec_t (by simp [room]; omega))).trans ((chk_t (dec_t (by simp [room]; omega))).trans ?_))
          rw [wrap_up (by omega)]
          subst hI1
          rfl)
        (fun b i h hI _ => by simp [dealS]; omega)
        (fun m b hI => (impl_DealEvents.l5_succ ..).trans ((bif_f (dec_f (by omega))).trans ((bind_s (impl_copyOf.eq k hl)).trans ((chk_t (dec_t (by simp [room]; omega))).trans rfl))))
        l.length 0 k ([], []) (by omega) (BIG_lt hk hl) (by simp)
      refine h.trans ?_
      rw [List.drop_zero, run_fold]
      rfl
theorem dealEv_pos {n : Int} {ss : List Int} {salt : Int} (h : ((dealEv true n ss salt).length : Int) > 0) : (ss.length : Int) = n := by
  unfold dealEv at h
  cases hn : ((ss.length : Int) != n) with
  | true => rw [hn] at h; simp at h
  | false => simpa using hn
theorem laws_FnEvents.eq {k : Nat} (hk : BIG ≤ k) {a : List Int} (_ja : a.length ≤ maxLen) (_ia : ∀ n ∈ a, wfI .u8 n) : laws_FnEvents.f k a = some true := by
  refine (bind_s rfl).trans ?_
  by_cases hb : (a.length : Int) > 1048576
  · exact bif_t (dec_t hb)
  · refine (bif_f (dec_f hb)).trans ?_
    have ha : a.length < 1048577 := by omega
    have last := evLast_ok hk ha
    obtain ⟨r, ss, es, rest, e, rs, ro, hss, hes, hrest, _⟩ := spec_DrawRunEvents.ok hk ha
    have hn := (rl_ok ro).1
    obtain ⟨q1, q2⟩ := deal_counts ro 5 hss
    have hel : es.length < 1048577 := by
      have := dealEv_len r.ok r.n ss 5
      rw [hes, List.length_append]; omega
    have hcnt : 1 ≤ cntE 2 es := by rw [hes, cntE_append, q2]; omega
    have hpos : 0 < es.length := by
      have : cntE 2 es ≤ es.length := List.length_filter_le _ _
      omega
    have nsm := newTb_sm rs
    have nT := newTb_table ro
    obtain ⟨v, ev, hv⟩ := laws_at.ok k ha _ia
    obtain ⟨j1, j2⟩ := tmodN_bd (x := v) (n := (es.length : Int)) hv (by omega)
    obtain ⟨j, hj⟩ : ∃ j, j = v.tmod (es.length : Int) := ⟨_, rfl⟩
    rw [← hj] at j1 j2
    obtain ⟨u, hu, us, eu⟩ := runEvents_impl hk nsm (es := es) hel
    obtain ⟨u2, hu2, us2, eu2⟩ := runEvents_impl hk nsm (es := (es.take j.toNat).drop 0) (by rw [List.drop_zero, List.length_take]; omega)
    obtain ⟨u3, hu3, us3, eu3⟩ := runEvents_impl hk us2 (es := (es.take ((es.length : Int).toNat)).drop j.toNat) (by rw [List.length_drop, List.length_take]; omega)
    have h3 : u3 = u := by
      rw [hu3, hu2, hu, List.drop_zero, Int.toNat_natCast, List.take_length, ← runE_append, List.take_append_drop]
    have uT : isTable u = true := by rw [hu]; exact runE_table es nT
    have et := impl_IsTable.eq hk (Tb.sm_sm' nsm)
    rw [nT] at et
    have et2 := impl_IsTable.eq hk (Tb.sm_sm' us)
    rw [uT] at et2
    have eq3 : u3.ap (u.ap (impl_EqualTables.f k)) = some true := by rw [h3]; exact impl_EqualTables.refl hk us
    have ec := impl_CountEvents.eq hk (l := es) 2 hel
    have hlen : (!(decide ((es.length : Int) = 0))) = true := by rw [dec_f (by omega)]; rfl
    clear hu hu2 hu3 h3
    obtain ⟨r', ss', salt, ed, rs', hx, hs, hl'⟩ := spec_DrawDealEvents.ok hk ha
    have ede := impl_DealEvents.eq hk rs' (l := ss') (by omega) salt
    subst hj
    have hz : (0 : Int) ≤ (es.length : Int) := by omega
    have j3 : v.tmod (es.length : Int) ≤ (es.length : Int) := by omega
    have hc1 : ¬ ((cntE 2 es : Int) < 1) := by omega
    refine (bind_s e).trans ((bind_s eu).trans ((bind_s ev).trans ((chk_t hlen).trans ((bind_s et).trans ((bind_s et2).trans ((bif_f rfl).trans ((chk_t (and_t (dec_t j1) (dec_t j3))).trans ((chk_t (dec_t j1)).trans ((bind_s eu2).trans ((chk_t (and_t (dec_t hz) (dec_t (Int.le_refl _)))).trans ((chk_t (and_t (dec_t j1) (dec_t j3))).trans ((bind_s eu3).trans ((bind_s eq3).trans ((bif_f rfl).trans ((bind_s ec).trans ((bif_f (dec_f hc1)).trans ((bind_s ed).trans ((bind_s ede).trans ?_))))))))))))))))))
    by_cases hro : r'.ok = true
    · have enew : r'.ap (impl_NewTable.f k) = some ((newTb r').tpb true) := (bind_s (impl_rl hk rs')).trans ((bif_f (by rw [hro]; rfl)).trans (bind_s (impl_Rules_copied.eq k rs')))
      have hdl := dealEv_len r'.ok r'.n ss' salt
      refine (bind_s enew).trans ((bif_t rfl).trans ?_)
      by_cases hp : ((dealEv r'.ok r'.n ss' salt).length : Int) > 0
      · have hn' : (ss'.length : Int) = r'.n := dealEv_pos (n := r'.n) (ss := ss') (salt := salt) (by rw [hro] at hp; exact hp)
        have hon := deal_runs hro hn' hx hs
        have hT := runE_table (dealEv r'.ok r'.n ss' salt) (newTb_table hro)
        obtain ⟨p1, _⟩ := deal_counts hro salt hn'
        have ec' := impl_CountEvents.eq hk (l := dealEv r'.ok r'.n ss' salt) 1 (by omega)
        obtain ⟨w, hw, ws, ew⟩ := runEvents_impl hk (newTb_sm rs') (es := dealEv r'.ok r'.n ss' salt) (by omega)
        rw [← hw] at hon hT
        have et' := impl_IsTable.eq hk (Tb.sm_sm' ws)
        rw [hT] at et'
        rw [p1] at ec'
        exact (bif_t (dec_t hp)).trans ((bind_s ew).trans ((bif_f (show (!w.on) = false by rw [hon]; rfl)).trans ((bind_s et').trans ((bif_f rfl).trans ((bind_s ec').trans ((bif_f (show (r'.n != r'.n) = false by simp)).trans last))))))
      · exact (bif_f (dec_f hp)).trans last
    · have hro : r'.ok = false := by simpa using hro
      obtain ⟨X, eX, hX⟩ : ∃ X, r'.ap (impl_NewTable.f k) = some X ∧ t9 (t9 (t9 X)) = false := ⟨_, (bind_s (impl_rl hk rs')).trans (bif_t (by rw [hro]; rfl)), rfl⟩
      exact (bind_s eX).trans ((bif_f hX).trans last)
end Go.Proofs.YtpdkglbbhfhlfaaGreat
