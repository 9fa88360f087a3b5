/- A table led by events, in plain Lean: the law answers true. Conditions: enough rounds. -/
import Derived.Test.YtpdkglbbhfhlfaaGreatKit
import Derived.Test.YtpdkglbbhfhlfaaGreatFFnTop
import Derived.Test.YtpdkglbbhfhlfaaGreatPDrawEvents
import Derived.Test.YtpdkglbbhfhlfaaGreatPFaultOf
import Derived.Test.YtpdkglbbhfhlfaaGreatPIsFairDeck
import Derived.Test.YtpdkglbbhfhlfaaGreatPStepTake
import Derived.Test.YtpdkglbbhfhlfaaGreatPStepPlay
import Derived.Test.YtpdkglbbhfhlfaaGreatPStepSettle
import Derived.Test.YtpdkglbbhfhlfaaGreatPLawSum
import Derived.Test.YtpdkglbbhfhlfaaGreatPReplay
set_option linter.unusedVariables false
set_option linter.unusedSimpArgs false
namespace Go.Proofs.YtpdkglbbhfhlfaaGreat
open Go Go.Proofs.YtpdkglbbhfhlfaaGreat.V
/-! ### Tests that pass lead on -/
theorem c3_ok {R : Type} {ok k5 I S : Bool} {E : Option Bool} {M : Option Int} {bad rec : Option R} (hI : I = true) (h : ok = true → k5 = true → E = some true ∧ S = true ∧ M = some 0) :
    (bif ok then chk I (bif k5 then E.bind fun r => bif !r then bad else chk S (M.bind fun s => bif (s != 0) then bad else rec) else rec) else rec) = rec := by
  cases ok with
  | false => rfl
  | true =>
    subst hI
    cases k5 with
    | false => rfl
    | true => obtain ⟨h1, h2, h3⟩ := h rfl rfl; rw [h1, h2, h3]; rfl
theorem c2_ok {R : Type} {ok k2 I : Bool} {F : Option Bool} {bad rec : Option R} (hI : I = true) (h : ok = true → k2 = true → F = some true) :
    (bif ok then chk I (bif k2 then chk I (chk I (F.bind fun r => bif !r then bad else rec)) else rec) else rec) = rec := by
  cases ok with
  | false => rfl
  | true =>
    subst hI
    cases k2 with
    | false => rfl
    | true => rw [h rfl rfl]; rfl
theorem c1_ok {R : Type} {ok k3 I S1 S2 : Bool} {F H : Option Bool} {bad rec : Option R} (hI : I = true) (h : ok = true → k3 = true → S1 = true ∧ F = some true ∧ S2 = true ∧ H = some true) :
    (bif ok then chk I (bif k3 then chk S1 (chk I (F.bind fun r => bif !r then bad else chk S2 (chk I (H.bind fun r => bif !r then bad else rec)))) else rec) else rec) = rec := by
  cases ok with
  | false => rfl
  | true =>
    subst hI
    cases k3 with
    | false => rfl
    | true => obtain ⟨h1, h2, h3, h4⟩ := h rfl rfl; rw [h1, h2, h3, h4]; rfl
/-! ### What an event that is met tells -/
theorem done_true {t u : Tb} {ok : Bool} (h : (done t u ok).2 = true) : ok = true ∧ isTable u = true ∧ (done t u ok).1 = u := by
  unfold done at h ⊢
  cases hc : (ok && isTable t && isTable u) with
  | false => rw [hc] at h; cases h
  | true =>
    simp only [Bool.and_eq_true] at hc
    exact ⟨hc.1.1, hc.2, rfl⟩
theorem done_r {t u : Tb} {ok : Bool} (h : u.r = t.r) : (done t u ok).1.r = t.r := by
  unfold done
  cases (ok && isTable t && isTable u) with
  | false => rfl
  | true => exact h
theorem applyEvent_r (t : Tb) (a b : Int) (ss bs : List Int) : (applyEvent t a b ss bs).1.r = t.r := by
  unfold applyEvent
  cases (a == 1) with
  | true => exact done_r rfl
  | false =>
    cases (a == 2) with
    | true => exact done_r rfl
    | false =>
      cases (a == 3) with
      | true =>
        show (stepPlay t b).1.r = t.r
        unfold stepPlay
        cases isCard b with
        | true => exact done_r rfl
        | false => rfl
      | false =>
        cases (a == 4) with
        | true => exact done_r rfl
        | false =>
          cases (a == 5) with
          | true => exact done_r rfl
          | false => rfl
theorem event_play {t : Tb} (h : isTable t = true) {a b : Int} {ss bs : List Int} (hq : (applyEvent t a b ss bs).2 = true) (ha : (a == 3) = true) : isGame t.g = true ∧ fits t.r t.g.top b = true ∧ hasCard t.g.hand b = true := by
  have ha : a = 3 := by simpa using ha
  subst ha
  have hq : (stepPlay t b).2 = true := hq
  unfold stepPlay at hq
  cases hc : isCard b with
  | false => rw [hc] at hq; cases hq
  | true =>
    rw [hc] at hq
    have hq : (stepMove t b).2 = true := hq
    obtain ⟨k1, _, _⟩ := done_true hq
    obtain ⟨k1, k2⟩ := Bool.and_eq_true_iff.1 k1
    have hr := table_rules h k1
    have hb := isCard_iff.1 hc
    have hne : (b == -1) = false := by simp; omega
    unfold replayMove at k2
    rw [hne] at k2
    have k2 : (playOn t.g b).2 = true := k2
    unfold playOn at k2
    cases hp : hasCard (playable t.g) b with
    | false => rw [hp] at k2; cases k2
    | true =>
      obtain ⟨p1, p2, p3, p4⟩ := playable_mem hp
      have hm := hasCard_iff.1 hp
      unfold playable at hm
      rw [p1, p2] at hm
      have hm := (List.mem_filter.1 (show b ∈ (sortedI t.g.hand).filter (fits t.g.r t.g.top) from hm)).2
      rw [hr] at hm
      exact ⟨p1, hm, hasCard_iff.2 p3⟩
theorem event_deal {t : Tb} {a b : Int} {ss bs : List Int} (hq : (applyEvent t a b ss bs).2 = true) (ha : (a == 2) = true) : isFairDeck (applyEvent t a b ss bs).1 ss bs = true := by
  have ha : a = 2 := by simpa using ha
  subst ha
  have hq : (stepDeal t ss bs).2 = true := hq
  show isFairDeck (stepDeal t ss bs).1 ss bs = true
  obtain ⟨k1, _, k3⟩ := done_true hq
  have k3 : (stepDeal t ss bs).1 = dealtT t ss bs [] := k3
  rw [k3]
  simp only [Bool.and_eq_true] at k1
  show ((jointDeck t.seals ss bs).2 && (true && eqI (jointDeck t.seals ss bs).1 (jointDeck t.seals ss bs).1)) = true
  rw [k1.1.2]
  simp [eqI]
theorem event_settle {t : Tb} {a b : Int} {ss bs : List Int} (hq : (applyEvent t a b ss bs).2 = true) (ha : (a == 5) = true) : isEnded t.g = true ∧ (applyEvent t a b ss bs).1.sheet = t.sheet ++ [settled t.g] ∧ isRound t.r.n (settled t.g) = true := by
  have ha : a = 5 := by simpa using ha
  subst ha
  have hq : (stepSettle t).2 = true := hq
  show isEnded t.g = true ∧ (stepSettle t).1.sheet = t.sheet ++ [settled t.g] ∧ _
  obtain ⟨k1, k2, k3⟩ := done_true hq
  have k3 : (stepSettle t).1 = settledT t := k3
  have k4 := (isTable_ok k2).2.2.1
  unfold isSheet at k4
  simp only [Bool.and_eq_true, List.all_eq_true] at k4
  exact ⟨(Bool.and_eq_true_iff.1 k1).2, by rw [k3]; rfl, k4.2 _ (by show settled t.g ∈ t.sheet ++ [settled t.g]; simp)⟩
theorem table_fault {t : Tb} (h : isTable t = true) : faultOf t = ByteArray.empty := by
  obtain ⟨h1, h2⟩ := table_game h
  have e1 : nothingLost t = true := by
    unfold nothingLost
    cases ho : t.on with
    | false => rfl
    | true => exact (isGame_iff.1 (h1 ho).1).2.2.1
  have e2 : ((t.rd.length : Int) == t.g.mv) = true := by
    cases ho : t.on with
    | false => rw [(h2 ho).1, (h2 ho).2]; rfl
    | true => rw [(h1 ho).2]; simp
  unfold faultOf
  rw [e1, e2, (isTable_ok h).2.2.1, h]
  rfl
theorem empty_eq : (!(ByteArray.empty.toList == ByteArray.empty.toList)) = false := by decide +kernel
abbrev TP (R : Type) := Int → Int → Bool → Bool → Int → Int → Bool → Int → Int → Bool → Bool → Int → Int → Int → Int → Int → List Int → List Int → List Int → List Int → List Int → List Int → List (List Int) → List Int → List Int → List Int → List (List Int) → Option R
theorem laws_FnTop.events {k : Nat} (hk : BIG ≤ k) (es : List (List Leaf)) (hs : es.length < 1048577) (e0 e1 : TP Bool) : ∀ (m i n : Nat) (t : Tb), t.sm → isTable t = true → i + m = es.length → m < n →
    ∃ u : Tb, t.pm (laws_FnTop.l6 k es e0 e1 n (i : Int)) = u.pm e1 ∧ u.sm ∧ isTable u = true ∧ u.r = t.r
  | m, i, 0, t, _, _, _, h => absurd h (by omega)
  | 0, i, n + 1, t, ht, hT, hi, _ => ⟨t, (laws_FnTop.l6_succ ..).trans (bif_f (dec_f (by omega))), ht, hT, rfl⟩
  | m + 1, i, n + 1, t, ht, hT, hi, hn => by
    have hq : i < es.length := by omega
    have hin := in_t hq
    obtain ⟨e, ee⟩ : ∃ e, e = es.getD ((i : Int)).toNat [] := ⟨_, rfl⟩
    have a1 := impl_ApplyEvent.eq hk ht (gi e 0) (gi e 1) (gl e 2) (gl e 3)
    have a2 := spec_ApplyEvent.eq hk ht (gi e 0) (gi e 1) (gl e 2) (gl e 3)
    have hsm := applyEvent_sm ht (gi e 0) (gi e 1) (gl e 2) (gl e 3)
    have hT2 := applyEvent_table hT (gi e 0) (gi e 1) (gl e 2) (gl e 3)
    have hr := applyEvent_r t (gi e 0) (gi e 1) (gl e 2) (gl e 3)
    have f3 := fun h1 h2 => event_play (b := gi e 1) (ss := gl e 2) (bs := gl e 3) (a := gi e 0) hT h1 h2
    have f2 := fun h1 h2 => event_deal (t := t) (b := gi e 1) (ss := gl e 2) (bs := gl e 3) (a := gi e 0) h1 h2
    have f5 := fun h1 h2 => event_settle (t := t) (b := gi e 1) (ss := gl e 2) (bs := gl e 3) (a := gi e 0) h1 h2
    generalize applyEvent t (gi e 0) (gi e 1) (gl e 2) (gl e 3) = q at a1 a2 hsm hT2 hr f2 f3 f5
    obtain ⟨u, ih, u1, u2, u3⟩ := laws_FnTop.events hk es hs e0 e1 m (i + 1) n q.1 hsm hT2 (by omega) (by omega)
    refine ⟨u, ?_, u1, u2, u3.trans hr⟩
    rw [← wrap_up (by omega)] at ih
    have ef := impl_FaultOf.eq hk hsm
    rw [table_fault hT2] at ef
    have g3 : q.2 = true → (gi e 0 == 3) = true → (decide ((0 : Int) ≤ IntKind.wrap .i64 ((t.g.hp.length : Int) - 1)) && decide (IntKind.wrap .i64 ((t.g.hp.length : Int) - 1) < (t.g.hp.length : Int))) = true ∧ q.1.r.ap (impl_FitsOn.f k) (t.g.hp.getD (IntKind.wrap .i64 ((t.g.hp.length : Int) - 1)).toNat 0) (gi e 1) = some true ∧ (decide ((0 : Int) ≤ t.g.tn) && decide (t.g.tn < (t.g.hs.length : Int))) = true ∧ impl_HasCard.f k (t.g.hs.getD t.g.tn.toNat []) (gi e 1) = some true := fun h1 h2 => by
      obtain ⟨p1, p2, p3⟩ := f3 h1 h2
      have hpl := (isGame_iff.1 p1).2.2.2.1
      have hps := ht.2.2.2.1.2.2.2
      have ew : IntKind.wrap .i64 ((t.g.hp.length : Int) - 1) = (t.g.hp.length : Int) - 1 := wrap_i64 (by omega) (by omega)
      have htn := game_turn p1
      have hhand : t.g.hand.length < 1048577 := by
        have := (isGame_len p1).2.1
        unfold Gm.hand
        rw [getD_lt _ (show t.g.tn.toNat < t.g.hs.length by omega)]
        have := this _ (List.getElem_mem (show t.g.tn.toNat < t.g.hs.length by omega))
        omega
      refine ⟨by rw [ew]; exact and_t (dec_t (by omega)) (dec_t (by omega)), ?_, and_t (dec_t htn.1) (dec_t htn.2), ?_⟩
      · rw [impl_FitsOn.eq hk hsm.1, ew, hr, show ((t.g.hp.length : Int) - 1).toNat = t.g.hp.length - 1 by omega]
        exact congrArg some p2
      · exact (impl_HasCard.eq hk (gi e 1) hhand).trans (congrArg some p3)
    have g2 : q.2 = true → (gi e 0 == 2) = true → q.1.ap (impl_IsFairDeck.f k) (gl e 2) (gl e 3) = some true := fun h1 h2 => by rw [impl_IsFairDeck.eq hk hsm, f2 h1 h2]
    have g5 : q.2 = true → (gi e 0 == 5) = true → t.g.ap (impl_IsEnded.f k) = some true ∧ (decide ((0 : Int) ≤ IntKind.wrap .i64 ((q.1.sheet.length : Int) - 1)) && decide (IntKind.wrap .i64 ((q.1.sheet.length : Int) - 1) < (q.1.sheet.length : Int))) = true ∧ laws_sum.f k (q.1.sheet.getD (IntKind.wrap .i64 ((q.1.sheet.length : Int) - 1)).toNat []) = some 0 := fun h1 h2 => by
      obtain ⟨p1, p2, p3⟩ := f5 h1 h2
      have hss := ht.2.2.2.2.2.1
      have hl : q.1.sheet.length = t.sheet.length + 1 := by rw [p2]; simp
      have ew : IntKind.wrap .i64 ((q.1.sheet.length : Int) - 1) = (t.sheet.length : Int) := by rw [wrap_i64 (by omega) (by omega)]; omega
      have el : q.1.sheet.getD t.sheet.length [] = settled t.g := by rw [p2, getD_lt _ (by simp)]; simp
      unfold isRound at p3
      simp only [Bool.and_eq_true, beq_iff_eq] at p3
      obtain ⟨⟨⟨r1, r2⟩, r3⟩, r4⟩ := p3
      have rn := inR_iff.1 r1
      refine ⟨by rw [impl_IsEnded.eq hk ht.2.2.2.1, p1], by rw [ew]; exact and_t (dec_t (by omega)) (dec_t (by omega)), ?_⟩
      rw [ew, Int.toNat_natCast, el, laws_sum.eq hk (by omega) (fun x hx => ?_), r4]
      unfold points at r3
      have := inR_iff.1 (List.all_eq_true.1 r3 x hx)
      omega
    subst ee
    refine (laws_FnTop.l6_succ ..).trans ((bif_t (dec_t (by omega))).trans ((chk_t hin).trans ((bind_s a1).trans ((chk_t hin).trans ((bind_s a2).trans ((bif_f (show (!(q.2 == q.2)) = false by simp)).trans ((bind_s ef).trans ((bif_f empty_eq).trans ?_))))))))
    have hon : ∀ X : Option Bool, (bif q.1.on then bif decide (q.1.g.mv > q.1.r.l) then q.1.pm e0 else X else X) = X := fun X => by
      cases ho : q.1.on with
      | false => rfl
      | true =>
        obtain ⟨g1, g2'⟩ := (table_game hT2).1 ho
        have hm := (isGame_iff.1 g1).2.2.2.2.2.1
        rw [table_rules hT2 ho] at hm
        exact (bif_t rfl).trans (bif_f (dec_f (by omega)))
    exact (hon _).trans ((c1_ok (ok := q.2) hin g3).trans ((c2_ok (ok := q.2) hin g2).trans ((c3_ok (ok := q.2) hin g5).trans ih)))
/-! ### Cards that are taken till the game ends -/
theorem replayed_snoc (m : Int) : ∀ (l : List Int) (i : Int) (g : Gm), (replayed l i g).2 = i + (l.length : Int) → (replayMove (replayed l i g).1 m).2 = true → replayed (l ++ [m]) i g = ((replayMove (replayed l i g).1 m).1, i + (l.length : Int) + 1)
  | [], i, g, _, hm => by
    have hm : (replayMove g m).2 = true := hm
    show (bif (replayMove g m).2 then replayed [] (i + 1) (replayMove g m).1 else (g, i)) = ((replayMove g m).1, i + ((0 : Nat) : Int) + 1)
    rw [hm]
    show ((replayMove g m).1, i + 1) = _
    rw [show i + ((0 : Nat) : Int) + 1 = i + 1 by omega]
  | c :: l, i, g, h, hm => by
    cases hc : (replayMove g c).2 with
    | false =>
      have e : replayed (c :: l) i g = (g, i) := by
        show (bif (replayMove g c).2 then replayed l (i + 1) (replayMove g c).1 else (g, i)) = _
        rw [hc]; rfl
      rw [e] at h
      have h : i = i + ((c :: l).length : Int) := h
      rw [List.length_cons] at h
      omega
    | true =>
      have e : replayed (c :: l) i g = replayed l (i + 1) (replayMove g c).1 := by
        show (bif (replayMove g c).2 then replayed l (i + 1) (replayMove g c).1 else (g, i)) = _
        rw [hc]; rfl
      have e2 : replayed (c :: l ++ [m]) i g = replayed (l ++ [m]) (i + 1) (replayMove g c).1 := by
        show (bif (replayMove g c).2 then replayed (l ++ [m]) (i + 1) (replayMove g c).1 else (g, i)) = _
        rw [hc]; rfl
      rw [e] at h hm ⊢
      rw [e2, replayed_snoc m l (i + 1) _ (by rw [h, List.length_cons]; omega) hm, List.length_cons, show i + ((l.length + 1 : Nat) : Int) + 1 = i + 1 + (l.length : Int) + 1 by omega]
theorem take_on {t : Tb} (h : isTable t = true) (ho : t.on = true) (he : isEnded t.g = false) : (stepMove t (-1)).2 = true ∧ (stepMove t (-1)).1.g.mv = t.g.mv + 1 ∧ (stepMove t (-1)).1.on = true ∧ (stepMove t (-1)).1.r = t.r ∧ isTable (stepMove t (-1)).1 = true := by
  obtain ⟨g1, g2⟩ := (table_game h).1 ho
  rw [isEnded_over g1] at he
  have hm : (replayMove t.g (-1)).2 = true := by
    show (takeCards t.g).2 = true
    unfold takeCards
    rw [g1, he]; rfl
  have hmv := (replayMove_game hm).2.1
  have hu : isTable { t with g := (replayMove t.g (-1)).1, rd := t.rd ++ [-1] } = true := by
    have h2 := h
    unfold isTable at h2 ⊢
    rw [ho] at h2
    simp only [Bool.and_eq_true] at h2 ⊢
    refine ⟨h2.1, ?_⟩
    have h3 : tableOn t = true := h2.2
    show (bif t.on then tableOn { t with g := (replayMove t.g (-1)).1, rd := t.rd ++ [-1] } else _) = true
    rw [ho]
    show tableOn { t with g := (replayMove t.g (-1)).1, rd := t.rd ++ [-1] } = true
    unfold tableOn at h3 ⊢
    simp only [Bool.and_eq_true, beq_iff_eq] at h3 ⊢
    obtain ⟨⟨⟨m1, m2⟩, m3⟩, m4⟩ := h3
    have eg := eqGm_eq m4
    have es := replayed_snoc (-1) t.rd 0 (newGame t.r t.deck).1 (by rw [m3]; omega) (by rw [eg]; exact hm)
    refine ⟨⟨⟨m1, m2⟩, ?_⟩, ?_⟩
    · show (replayed (t.rd ++ [-1]) 0 (newGame t.r t.deck).1).2 = ((t.rd ++ [-1]).length : Int)
      rw [es, List.length_append, List.length_singleton]
      show 0 + (t.rd.length : Int) + 1 = _
      omega
    · show eqGm (replayed (t.rd ++ [-1]) 0 (newGame t.r t.deck).1).1 (replayMove t.g (-1)).1 = true
      rw [es, eg]
      unfold eqGm eqRl eqI eqII
      simp
  have hd : stepMove t (-1) = ({ t with g := (replayMove t.g (-1)).1, rd := t.rd ++ [-1] }, true) := by
    have hc : (t.on && (replayMove t.g (-1)).2 && isTable t && isTable { t with g := (replayMove t.g (-1)).1, rd := t.rd ++ [-1] }) = true := Bool.and_eq_true_iff.2 ⟨Bool.and_eq_true_iff.2 ⟨Bool.and_eq_true_iff.2 ⟨ho, hm⟩, h⟩, hu⟩
    unfold stepMove done
    rw [hc]; rfl
  rw [hd]
  exact ⟨rfl, hmv, ho, rfl, hu⟩
theorem laws_FnTop.takes {k : Nat} (hk : BIG ≤ k) (e0 e1 : TP Bool) : ∀ (m i n : Nat) (t : Tb), t.sm → isTable t = true → i + m = 30 → m < n → (t.on = true → (i : Int) ≤ t.g.mv) → t.r.l ≤ 12 →
    ∃ u : Tb, t.pm (laws_FnTop.l25 k e0 e1 n (i : Int)) = u.pm e1 ∧ u.sm ∧ (u.on = true → isEnded u.g = true)
  | m, i, 0, t, _, _, _, h, _, _ => absurd h (by omega)
  | 0, i, n + 1, t, ht, hT, hi, _, hm, hl => by
    refine ⟨t, (laws_FnTop.l25_succ ..).trans (bif_f (dec_f (by omega))), ht, fun ho => ?_⟩
    obtain ⟨g1, _⟩ := (table_game hT).1 ho
    have hb := (isGame_iff.1 g1).2.2.2.2.2.1
    rw [table_rules hT ho] at hb
    have := hm ho
    omega
  | m + 1, i, n + 1, t, ht, hT, hi, hn, hm, hl => by
    cases ho : t.on with
    | false => exact ⟨t, (laws_FnTop.l25_succ ..).trans ((bif_t (dec_t (by omega))).trans (bif_f ho)), ht, fun h => by rw [ho] at h; cases h⟩
    | true =>
      have he := impl_IsEnded.eq hk ht.2.2.2.1
      cases h1 : isEnded t.g with
      | true =>
        rw [h1] at he
        exact ⟨t, (laws_FnTop.l25_succ ..).trans ((bif_t (dec_t (by omega))).trans ((bif_t ho).trans ((bind_s he).trans (bif_f rfl)))), ht, fun _ => h1⟩
      | false =>
        rw [h1] at he
        obtain ⟨k1, k2, k3, k4, k5⟩ := take_on hT ho h1
        have es := impl_StepTake.eq hk ht
        have hsm := stepMove_sm ht (-1)
        have hmm := hm ho
        generalize stepMove t (-1) = q at k1 k2 k3 k4 k5 es hsm
        obtain ⟨u, e, u1, u2⟩ := laws_FnTop.takes hk e0 e1 m (i + 1) n q.1 hsm k5 (by omega) (by omega) (fun _ => by omega) (by rw [k4]; exact hl)
        rw [← wrap_up (by omega)] at e
        exact ⟨u, (laws_FnTop.l25_succ ..).trans ((bif_t (dec_t (by omega))).trans ((bif_t ho).trans ((bind_s he).trans ((bif_t rfl).trans ((bind_s es).trans ((bif_f (show (!q.2) = false by rw [k1]; rfl)).trans e)))))), u1, u2⟩
theorem laws_FnTop.eq {k : Nat} (hk : BIG ≤ k) {a : List Int} (_ja : a.length ≤ maxLen) (_ia : ∀ n ∈ a, wfI .u8 n) : laws_FnTop.f k a = some true := by
  refine (bind_s rfl).trans ?_
  by_cases hb : (a.length : Int) > 1048576
  · exact bif_t (dec_t hb)
  · refine (bif_f (dec_f hb)).trans ?_
    have ha : a.length < 1048577 := by omega
    obtain ⟨r, ss, es, rest, e, rs, ro, hs, hes, hrest, hl⟩ := spec_DrawRunEvents.ok hk ha
    have hn := (rl_ok ro).1
    have hel : es.length < 1048577 := by
      have := dealEv_len r.ok r.n ss 5
      rw [hes, List.length_append]; omega
    have lp := fun e0 e1 => laws_FnTop.events hk es hel e0 e1 es.length 0 k (newTb r) (newTb_sm rs) (newTb_table ro) (by omega) (BIG_lt hk hel)
    obtain ⟨u, e1, u1, u2, u3⟩ := lp _ _
    have u3 : u.r = r := u3
    have lt := fun e0 e1 => laws_FnTop.takes hk e0 e1 30 0 k u u1 u2 (by omega) (by simp [BIG] at hk; omega) (fun ho => by
      obtain ⟨g1, _⟩ := (table_game u2).1 ho
      have := (isGame_iff.1 g1).2.2.2.2.2.1
      omega) (by rw [u3]; exact hl)
    obtain ⟨v, e2, v1, v2⟩ := lt _ _
    refine (bind_s e).trans (e1.trans (e2.trans ?_))
    cases ho : v.on with
    | false => exact bif_t (show (!v.on) = true by rw [ho]; rfl)
    | true =>
      have he := impl_IsEnded.eq hk v1.2.2.2.1
      rw [v2 ho] at he
      exact (bif_f (show (!v.on) = false by rw [ho]; rfl)).trans (bind_s he)
end Go.Proofs.YtpdkglbbhfhlfaaGreat
