/- Drawn tables and events, in plain Lean. Conditions: enough rounds, a code of at most 2^20 bytes. -/
import Derived.Test.YtpdkglbbhfhlfaaGreatKit
import Derived.Test.YtpdkglbbhfhlfaaGreatFFnEvents
import Derived.Test.YtpdkglbbhfhlfaaGreatPDraw
import Derived.Test.YtpdkglbbhfhlfaaGreatPDealEvents
import Derived.Test.YtpdkglbbhfhlfaaGreatPRunEvents
import Derived.Test.YtpdkglbbhfhlfaaGreatPCopies
import Derived.Test.YtpdkglbbhfhlfaaGreatPDealt
set_option linter.unusedVariables false
set_option linter.unusedSimpArgs false
namespace Go.Proofs.YtpdkglbbhfhlfaaGreat
open Go Go.Proofs.YtpdkglbbhfhlfaaGreat.V
abbrev newTb (r : Rl) : Tb := ⟨r, [], false, [], zeroG, [], []⟩
theorem newTb_sm {r : Rl} (h : r.sm) : (newTb r).sm := ⟨h, by show ([] : List Int).length < _; simp, by show ([] : List Int).length < _; simp, zeroG_sm, by show ([] : List Int).length < _; simp, by show ([] : List (List Int)).length < _; simp, fun y hy => by cases hy⟩
theorem spec_NewTable.made {k : Nat} (hk : BIG ≤ k) {r : Rl} (h : r.sm) (ho : r.ok = true) : r.ap (spec_NewTable.f k) = some ((newTb r).tpb true) := by
  refine (bind_s (spec_rl hk h)).trans ?_
  rw [ho]
  exact (bif_f rfl).trans (bind_s (spec_l22Copy.eq k h))
theorem newTb_table {r : Rl} (ho : r.ok = true) : isTable (newTb r) = true := by
  have hn := (rl_ok ho).1
  unfold isTable isSheet
  rw [ho, dec_f (by show ¬ ((([] : List Int).length : Int) > r.n); simp; omega), inR_iff.2 hn]
  rfl
/-! ### Tables stay tables -/
theorem done_table {t u : Tb} {ok : Bool} (h : isTable t = true) : isTable (done t u ok).1 = true := by
  unfold done
  cases hc : (ok && isTable t && isTable u) with
  | false => exact h
  | true => exact (Bool.and_eq_true_iff.1 hc).2
theorem applyEvent_table {t : Tb} (h : isTable t = true) (a b : Int) (ss bs : List Int) : isTable (applyEvent t a b ss bs).1 = true := by
  unfold applyEvent
  cases (a == 1) with
  | true => exact done_table h
  | false =>
    cases (a == 2) with
    | true => exact done_table h
    | false =>
      cases (a == 3) with
      | true =>
        show isTable (stepPlay t b).1 = true
        unfold stepPlay
        cases isCard b with
        | true => exact done_table h
        | false => exact h
      | false =>
        cases (a == 4) with
        | true => exact done_table h
        | false =>
          cases (a == 5) with
          | true => exact done_table h
          | false => exact h
theorem runE_table : ∀ (l : List (List Leaf)) {t : Tb}, isTable t = true → isTable (runE l t) = true
  | [], t, h => h
  | e :: l, t, h => runE_table l (applyEvent_table h ..)
/-! ### Drawn events -/
abbrev Tb.tpe {E : Type} (t : Tb) (e : E) : Int × Int × Bool × Bool × List Int × List Int × Int × Int × List Int × Bool × List Int × Int × Int × Bool × Bool × List Int × List Int × Int × Int × List (List Int) × List Int × List Int × Int × Int × Int × List Int × List (List Int) × E := (t.r.n, t.r.e, t.r.b1, t.r.b2, t.r.w, t.r.f, t.r.t, t.r.l, t.seals, t.on, t.deck, t.g.r.n, t.g.r.e, t.g.r.b1, t.g.r.b2, t.g.r.w, t.g.r.f, t.g.r.t, t.g.r.l, t.g.hs, t.g.st, t.g.hp, t.g.tn, t.g.mv, t.g.ps, t.rd, t.sheet, e)
abbrev evL (c b : Int) : List Leaf := [.int c, .int b, .ints [], .ints []]
theorem spec_DrawRunEvents.loop {R : Type} {k : Nat} (hk : BIG ≤ k) (e0 : List (List Leaf) → Option R) : ∀ (m n : Nat) {a : List Int} {i : Int} (h : Int) (es : List (List Leaf)) (t : Tb), Cur a i → m < n → es.length + m ≤ 100 → t.sm →
    ∃ rest, t.pm (spec_DrawRunEvents.l13 k e0 n (m : Int) a i h es) = e0 (es ++ rest) ∧ rest.length ≤ m
  | m, 0, a, i, h, es, t, _, hn, _, _ => absurd hn (by omega)
  | 0, n + 1, a, i, h, es, t, hc, hn, hm, ht => ⟨[], by rw [List.append_nil]; exact (spec_DrawRunEvents.l13_succ ..).trans (bif_f (dec_f (by omega))), Nat.le_refl 0⟩
  | m + 1, n + 1, a, i, h, es, t, hc, hn, hm, ht => by
    have ew : IntKind.wrap .i64 (((m + 1 : Nat) : Int) - 1) = (m : Int) := by rw [wrap_i64 (by omega) (by omega)]; omega
    obtain ⟨c, i1, h1, e1, c1, _⟩ := spec_l1Int.ok k h (l := [3, 3, 3, 3, 4, 4, 5, 1]) (by simp) hc
    obtain ⟨b, i2, h2, e2, c2⟩ := spec_l4Card.ok k h1 c1
    have ep := spec_Playable.eq hk ht.2.2.2.1
    have hroom : decide ((es.length + 1) * 64 ≤ room) = true := dec_t (by simp only [room]; omega)
    have next : ∀ {i' : Int} (h' : Int) (b' : Int), Cur a i' → ∃ (q : Tb × Bool) (rest : List (List Leaf)), t.ap (spec_ApplyEvent.f k) c b' [] [] = some (q.1.tpb q.2) ∧ q.1.pm (spec_DrawRunEvents.l13 k e0 n (IntKind.wrap .i64 (((m + 1 : Nat) : Int) - 1)) a i' h' (es ++ [evL c b'])) = e0 (es ++ (evL c b' :: rest)) ∧ rest.length ≤ m := fun {i'} h' b' hc' => by
      have ha := spec_ApplyEvent.eq hk ht c b' [] []
      have hsm := applyEvent_sm ht c b' [] []
      generalize applyEvent t c b' [] [] = q at ha hsm
      obtain ⟨rest, e, hl⟩ := spec_DrawRunEvents.loop hk e0 m n h' (es ++ [evL c b']) q.1 hc' (by omega) (by rw [List.length_append, List.length_singleton]; omega) hsm
      rw [← ew, List.append_assoc] at e
      exact ⟨q, rest, ha, e, hl⟩
    have pos : decide (((m + 1 : Nat) : Int) > 0) = true := dec_t (by omega)
    cases c3 : (c == 3) with
    | false =>
      obtain ⟨q, rest, ha, e, hl⟩ := next h2 b c2
      refine ⟨evL c b :: rest, ?_, by rw [List.length_cons]; omega⟩
      exact (spec_DrawRunEvents.l13_succ ..).trans ((bif_t pos).trans ((bind_s e1).trans ((bind_s e2).trans ((bind_s ep).trans ((bif_f c3).trans ((chk_t hroom).trans ((bind_s ha).trans e)))))))
    | true =>
      by_cases hp : ((playable t.g).length : Int) > 0
      · obtain ⟨o, i3, h3, e3, c3'⟩ := spec_l1Once.ok k h2 6 c2
        cases o with
        | true =>
          obtain ⟨q, rest, ha, e, hl⟩ := next h3 b c3'
          refine ⟨evL c b :: rest, ?_, by rw [List.length_cons]; omega⟩
          exact (spec_DrawRunEvents.l13_succ ..).trans ((bif_t pos).trans ((bind_s e1).trans ((bind_s e2).trans ((bind_s ep).trans ((bif_t c3).trans ((bif_t (dec_t hp)).trans ((bind_s e3).trans ((bif_f rfl).trans ((chk_t hroom).trans ((bind_s ha).trans e))))))))))
        | false =>
          obtain ⟨x, i4, h4, e4, c4, p1, p2, _⟩ := spec_l1Below.ok k h3 ((playable t.g).length : Int) c3'
          have p2 := p2 (by omega)
          obtain ⟨q, rest, ha, e, hl⟩ := next h4 ((playable t.g).getD x.toNat 0) c4
          refine ⟨evL c ((playable t.g).getD x.toNat 0) :: rest, ?_, by rw [List.length_cons]; omega⟩
          exact (spec_DrawRunEvents.l13_succ ..).trans ((bif_t pos).trans ((bind_s e1).trans ((bind_s e2).trans ((bind_s ep).trans ((bif_t c3).trans ((bif_t (dec_t hp)).trans ((bind_s e3).trans ((bif_t rfl).trans ((bind_s e4).trans ((chk_t (and_t (dec_t p1) (dec_t p2))).trans ((chk_t hroom).trans ((bind_s ha).trans e))))))))))))
      · obtain ⟨q, rest, ha, e, hl⟩ := next h2 b c2
        refine ⟨evL c b :: rest, ?_, by rw [List.length_cons]; omega⟩
        exact (spec_DrawRunEvents.l13_succ ..).trans ((bif_t pos).trans ((bind_s e1).trans ((bind_s e2).trans ((bind_s ep).trans ((bif_t c3).trans ((bif_f (dec_f hp)).trans ((chk_t hroom).trans ((bind_s ha).trans e))))))))
theorem spec_DrawRunEvents.seeds {R : Type} {k : Nat} (e0 : List Int → Int → Int → List Int → Option R) (N : Int) (hN : N ≤ 6) : ∀ (m j n : Nat) {a : List Int} {i : Int} (h : Int) (l : List Int), Cur a i → m < n → (j : Int) + (m : Int) = N → l.length = j →
    ∃ (ss : List Int) (i' h' : Int), spec_DrawRunEvents.l7 k N e0 n (j : Int) a i h l = e0 a i' h' ss ∧ Cur a i' ∧ (ss.length : Int) = N
  | m, j, 0, a, i, h, l, _, hn, _, _ => absurd hn (by omega)
  | 0, j, n + 1, a, i, h, l, hc, hn, hm, hl => ⟨l, i, h, (spec_DrawRunEvents.l7_succ ..).trans (bif_f (dec_f (by omega))), hc, by omega⟩
  | m + 1, j, n + 1, a, i, h, l, hc, hn, hm, hl => by
    obtain ⟨y, i2, h2, e2, c2, _⟩ := spec_l1Below.ok k h 999 hc
    obtain ⟨ss, i', h', e, c', hs⟩ := spec_DrawRunEvents.seeds e0 N hN m (j + 1) n h2 (l ++ [y]) c2 (by omega) (by omega) (by simp; omega)
    refine ⟨ss, i', h', (spec_DrawRunEvents.l7_succ ..).trans ((bif_t (dec_t (by omega))).trans ((bind_s e2).trans ((chk_t (rm8 (by omega))).trans ?_))), c', hs⟩
    rw [wrap_up (by omega)]
    exact e
/-- A drawn table, and drawn events: first those that deal. -/
theorem spec_DrawRunEvents.ok {k : Nat} (hk : BIG ≤ k) {a : List Int} (ha : a.length < 1048577) : ∃ (r : Rl) (ss : List Int) (es rest : List (List Leaf)), spec_DrawRunEvents.f k a = some ((newTb r).tpe es) ∧ r.sm ∧ r.ok = true ∧ (ss.length : Int) = r.n ∧ es = dealEv r.ok r.n ss 5 ++ rest ∧ rest.length ≤ 15 ∧ r.l ≤ 12 := by
  obtain ⟨h0, e0, c0⟩ := spec_l1New.ok hk ha
  obtain ⟨r0, i1, h1, e1, c1, hr0, lw, lf⟩ := spec_l22Draw.ok hk h0 c0
  obtain ⟨x, i2, h2, e2, c2, p1, p2, _⟩ := spec_l1Below.ok k h1 12 c1
  have p2 := p2 (by omega)
  have ex : IntKind.wrap .i64 (1 + x) = 1 + x := wrap_i64 (by omega) (by omega)
  obtain ⟨r, er⟩ : ∃ r : Rl, r = { r0 with l := IntKind.wrap .i64 (1 + x) } := ⟨_, rfl⟩
  have ro : r.ok = true := by
    rw [er, ex]
    unfold Rl.ok isRules at hr0 ⊢
    simp only [Bool.and_eq_true] at hr0 ⊢
    exact ⟨hr0.1, inR_iff.2 ⟨by omega, by omega⟩⟩
  have rs : r.sm := by rw [er]; exact ⟨by show r0.w.length < _; omega, by show r0.f.length < _; omega⟩
  have hn := (rl_ok ro).1
  have enew := spec_NewTable.made hk rs ro
  have lp := fun (e0 : List Int → Int → Int → List Int → Option (Int × Int × Bool × Bool × List Int × List Int × Int × Int × List Int × Bool × List Int × Int × Int × Bool × Bool × List Int × List Int × Int × Int × List (List Int) × List Int × List Int × Int × Int × Int × List Int × List (List Int) × List (List Leaf))) => spec_DrawRunEvents.seeds (k := k) e0 r.n (by omega) r.n.toNat 0 k h2 [] c2 (by simp [BIG] at hk; omega) (by omega) rfl
  have fin : ∃ (ss : List Int) (es rest : List (List Leaf)), spec_DrawRunEvents.f k a = some ((newTb r).tpe es) ∧ (ss.length : Int) = r.n ∧ es = dealEv r.ok r.n ss 5 ++ rest ∧ rest.length ≤ 15 := by
    have pre : ∀ (X : Option (Int × Int × Bool × Bool × List Int × List Int × Int × Int × List Int × Bool × List Int × Int × Int × Bool × Bool × List Int × List Int × Int × Int × List (List Int) × List Int × List Int × Int × Int × Int × List Int × List (List Int) × List (List Leaf))), spec_DrawRunEvents.l7 k r.n (fun x6 x7 x8 x9 =>
        (r.ap (spec_DealEvents.f k) x9 5).bind fun r10 =>
        ((newTb r).ap (spec_RunEvents.f k) r10).bind fun r11 =>
        (spec_l1Below.f k x6 x7 x8 16).bind fun r12 =>
        spec_DrawRunEvents.l13 k (fun x22 => some ((newTb r).tpe x22)) k r12.1 r12.2.1 (t2 r12).1 (t3 r12) r10 r11.1 r11.2.1 (t2 r11).1 (t3 r11).1 (t6 r11).1 (t7 r11).1 (t9 r11).1 (t9 (t2 r11)).1 (t9 (t3 r11)).1 (t9 (t4 r11)).1 (t9 (t5 r11)).1 (t9 (t8 r11)).1 (t9 (t9 r11)).1 (t9 (t9 (t4 r11))).1 (t9 (t9 (t5 r11))).1 (t9 (t9 (t6 r11))).1 (t4 r11).1 (t5 r11).1 (t8 r11).1 (t9 r11.2).1 (t9 (t6 r11)).1 (t9 (t7 r11)).1 (t9 (t9 r11.2)).1 (t9 (t9 (t2 r11))).1 (t9 (t9 (t3 r11))).1 (t9 (t9 (t7 r11))).1 (t9 (t9 (t8 r11)))) k 0 a i2 h2 [] = X → spec_DrawRunEvents.f k a = X := fun X hX => by
      rw [er] at hX enew
      exact (bind_s e0).trans ((bind_s e1).trans ((bind_s e2).trans ((bind_s enew).trans hX)))
    obtain ⟨ss, i3, h3, e3, c3, hs⟩ := lp _
    have hl : ss.length < 1048577 := by omega
    have ed := spec_DealEvents.eq hk rs hl 5
    have hd := dealEv_len r.ok r.n ss 5
    obtain ⟨d, hd0⟩ : ∃ d, d = dealEv r.ok r.n ss 5 := ⟨_, rfl⟩
    rw [← hd0] at ed hd
    obtain ⟨u, _, us, eu⟩ := runEvents_is hk (newTb_sm rs) (es := d) (by omega)
    obtain ⟨y, i4, h4, e4, c4, q1, q2, _⟩ := spec_l1Below.ok k h3 16 c3
    have q2 := q2 (by omega)
    obtain ⟨rest, e5, hl5⟩ := spec_DrawRunEvents.loop hk (fun x22 => some ((newTb r).tpe x22)) y.toNat k h4 d u c4 (by simp [BIG] at hk; omega) (by omega) us
    rw [show ((y.toNat : Nat) : Int) = y by omega] at e5
    exact ⟨ss, d ++ rest, rest, pre _ (e3.trans ((bind_s ed).trans ((bind_s eu).trans ((bind_s e4).trans e5)))), hs, by rw [hd0], by omega⟩
  obtain ⟨ss, es, rest, e, h1, h2, h3⟩ := fin
  exact ⟨r, ss, es, rest, e, rs, ro, h1, h2, h3, by rw [er]; show IntKind.wrap .i64 (1 + x) ≤ 12; rw [ex]; omega⟩
end Go.Proofs.YtpdkglbbhfhlfaaGreat
