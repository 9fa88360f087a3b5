/- Records, in plain Lean: the law answers true. Conditions: enough rounds. -/
import Derived.Test.YtfbafmeeejmgoaaGreatKit
import Derived.Test.YtfbafmeeejmgoaaGreatFFnRecords
import Derived.Test.YtfbafmeeejmgoaaGreatPDrawRuns
import Derived.Test.YtfbafmeeejmgoaaGreatPTally
import Derived.Test.YtfbafmeeejmgoaaGreatPRecord
import Derived.Test.YtfbafmeeejmgoaaGreatPSame
set_option linter.unusedVariables false
set_option linter.unusedSimpArgs false
namespace Go.Proofs.YtfbafmeeejmgoaaGreat
open Go Go.Proofs.YtfbafmeeejmgoaaGreat.V
/-! ### A record made again -/
theorem recordN_replayed (kinds : List Int) : ∀ (m : Nat) (g : Gm) (i : Int), replayed (recordN kinds m g) i g = (playN kinds m g, i + ((recordN kinds m g).length : Int))
  | 0, g, i => by simp [recordN, playN, replayed]
  | m + 1, g, i => by
    unfold recordN playN
    cases h1 : isGame g with
    | false => simp [replayed]
    | true =>
      cases h2 : overG g with
      | true => simp [replayed]
      | false =>
        have hm := autoMove_ok (kindOf kinds g.tn) h1 h2
        have ih := recordN_replayed kinds m (autoMove g (kindOf kinds g.tn)).1 (i + 1)
        simp only [Bool.not_false, Bool.and_self, cond_true]
        unfold replayed
        unfold autoMove at hm
        rw [hm, cond_true]
        refine ih.trans ?_
        rw [List.length_cons]
        congr 1
        omega
theorem recordN_ok (kinds : List Int) : ∀ (m : Nat) (g : Gm), recOK (recordN kinds m g)
  | 0, g => fun c hc => by cases hc
  | m + 1, g => by
    unfold recordN
    cases (isGame g && !overG g) with
    | false => exact fun c hc => by cases hc
    | true =>
      intro c hc
      rcases List.mem_cons.1 hc with rfl | hc
      · exact (choice_or g (kindOf kinds g.tn)).imp id playable_card
      · exact recordN_ok kinds m _ c hc
theorem replayed_any : ∀ (l : List Int) (i : Int) (g : Gm), i ≤ (replayed l i g).2 ∧ (replayed l i g).2 ≤ i + (l.length : Int) ∧ (isGame g = true → isGame (replayed l i g).1 = true ∧ (replayed l i g).1.mv = g.mv + ((replayed l i g).2 - i))
  | [], i, g => ⟨Int.le_refl _, by simp [replayed], fun h => ⟨h, by simp [replayed]⟩⟩
  | m :: l, i, g => by
    unfold replayed
    cases hm : (replayMove g m).2 with
    | true =>
      obtain ⟨g1, g2, g3⟩ := replayMove_game hm
      obtain ⟨h1, h2, h3⟩ := replayed_any l (i + 1) (replayMove g m).1
      obtain ⟨h4, h5⟩ := h3 g1
      simp only [cond_true]
      rw [List.length_cons]
      exact ⟨by omega, by omega, fun _ => ⟨h4, by omega⟩⟩
    | false =>
      simp only [cond_false]
      rw [List.length_cons]
      exact ⟨Int.le_refl _, by omega, fun h => ⟨h, by omega⟩⟩
/-! ### Draws -/
theorem spec_l1Str.ok (k : Nat) {b : List Int} {i : Int} (h : Int) {l : List ByteArray} (hl : 0 < l.length) (hc : Cur b i) : ∃ x i' h', spec_l1Str.f k b i h l = some (x, b, i', h') ∧ Cur b i' ∧ x ∈ l := by
  obtain ⟨x, i1, h1, e1, c1, p1, p2, _⟩ := spec_l1Below.ok k h (l.length : Int) hc
  have p2 := p2 (by omega)
  refine ⟨l.getD x.toNat ByteArray.empty, i1, h1, (bind_s e1).trans (chk_t (and_t (dec_t p1) (dec_t p2))), c1, ?_⟩
  rw [getD_lt _ (by omega)]
  exact List.getElem_mem _
theorem spec_DrawParseRecord.loop {R : Type} (k : Nat) {b : List Int} (e0 : LI → Int → Int → LI → Option R) (y : R → Prop) (he : ∀ i h l, Cur b i → l.length ≤ 10 → ∃ r, e0 b i h l = some r ∧ y r) : ∀ (m n : Nat) (i h : Int) (l : List Int), Cur b i → m < n → l.length + m ≤ 10 → ∃ r, spec_DrawParseRecord.l4 k e0 n (m : Int) b i h l = some r ∧ y r := by
  intro m
  induction m with
  | zero =>
    intro n i h l hc hn hl
    obtain ⟨n, rfl⟩ : ∃ n', n = n' + 1 := ⟨n - 1, by omega⟩
    obtain ⟨r, hr, hy⟩ := he i h l hc (by omega)
    exact ⟨r, (spec_DrawParseRecord.l4_succ ..).trans ((bif_f rfl).trans hr), hy⟩
  | succ m ih =>
    intro n i h l hc hn hl
    obtain ⟨n, rfl⟩ : ∃ n', n = n' + 1 := ⟨n - 1, by omega⟩
    obtain ⟨x1, i1, h1, e1, c1, _⟩ := spec_l1Below.ok k h 52 hc
    obtain ⟨x2, i2, h2, e2, c2, _⟩ := spec_l1Below.ok k h1 52 c1
    obtain ⟨x3, i3, h3, e3, c3, _⟩ := spec_l1Int.ok k h2 (l := [(-1), x1, x2, 52]) (by simp) c2
    obtain ⟨r, hr, hy⟩ := ih n i3 h3 (l ++ [x3]) c3 (by omega) (by rw [List.length_append, List.length_singleton]; omega)
    refine ⟨r, (spec_DrawParseRecord.l4_succ ..).trans ((bif_t (dec_t (by omega))).trans ((bind_s e1).trans ((bind_s e2).trans ((bind_s e3).trans ((chk_t (rm8 (by omega))).trans ?_))))), hy⟩
    rw [wrap_i64 (by omega) (by omega), show ((m + 1 : Nat) : Int) - 1 = (m : Int) by omega]
    exact hr
theorem spec_DrawParseRecord.ok {k : Nat} (hk : BIG ≤ k) {a : List Int} (ha : a.length < 1048577) : ∃ s, spec_DrawParseRecord.f k a = some s ∧ s.size ≤ 1000 := by
  obtain ⟨h0, e0, c0⟩ := spec_l1New.ok hk ha
  obtain ⟨x, i1, h1, e1, c1, p1, p2, _⟩ := spec_l1Below.ok k h0 6 c0
  have p2 := p2 (by omega)
  obtain ⟨m, rfl⟩ : ∃ m : Nat, x = (m : Int) := ⟨x.toNat, by omega⟩
  obtain ⟨s, hs, hy⟩ := spec_DrawParseRecord.loop k (b := a) (fun x6 x7 x8 x9 =>
    (spec_RecordText.f k x9).bind fun r10 =>
    (spec_l1Str.f k x6 x7 x8 ([r10, r10, r10, ByteArray.empty, (⟨#[45]⟩ : ByteArray), (⟨#[42]⟩ : ByteArray), (⟨#[42, 42, 65, 99, 42]⟩ : ByteArray), (⟨#[65]⟩ : ByteArray), (⟨#[65, 99, 42, 75]⟩ : ByteArray), (⟨#[45, 45]⟩ : ByteArray), (⟨#[42, 45]⟩ : ByteArray)])).bind fun r11 =>
    some r11.1) (fun s => s.size ≤ 1000) (fun i h l hc hl => by
      have h1 := recText_le l
      obtain ⟨s, i2, h2, e2, _, hm⟩ := spec_l1Str.ok k h (l := [recText l, recText l, recText l, ByteArray.empty, (⟨#[45]⟩ : ByteArray), (⟨#[42]⟩ : ByteArray), (⟨#[42, 42, 65, 99, 42]⟩ : ByteArray), (⟨#[65]⟩ : ByteArray), (⟨#[65, 99, 42, 75]⟩ : ByteArray), (⟨#[45, 45]⟩ : ByteArray), (⟨#[42, 45]⟩ : ByteArray)]) (by simp) hc
      refine ⟨s, (bind_s (spec_RecordText.eq hk (by omega))).trans (bind_s e2), ?_⟩
      simp only [List.mem_cons, List.not_mem_nil, or_false] at hm
      rcases hm with rfl | rfl | rfl | rfl | rfl | rfl | rfl | rfl | rfl | rfl | rfl
      · omega
      · omega
      · omega
      all_goals exact of_decide_eq_true rfl) m k i1 h1 [] c1 (by simp [BIG] at hk; omega) (by simp; omega)
  exact ⟨s, (bind_s e0).trans ((bind_s e1).trans hs), hy⟩
/-! ### The law -/
/-- What the law asks behind the text. -/
def recordsLast (k : Nat) (a : List Int) : Option Bool :=
      (spec_DrawReplayed.f k a).bind fun r10 =>
      (impl_Replayed.f k r10.1 r10.2.1 (t2 r10).1 (t3 r10).1 (t4 r10).1 (t5 r10).1 (t6 r10).1 (t7 r10).1 (t8 r10).1 (t9 r10).1 (t9 r10.2).1 (t9 (t2 r10)).1 (t9 (t3 r10)).1 (t9 (t4 r10)).1 (t9 (t5 r10))).bind fun r11 =>
      (spec_DrawParseRecord.f k a).bind fun r12 =>
      (impl_ParseRecord.f k r12).bind fun r13 =>
      bif decide ((t9 (t5 r11)) ≥ 0) then
       bif decide ((t9 (t5 r11)) ≤ ((t9 (t5 r10)).length : Int)) then
        (impl_IsGame.f k r10.1 r10.2.1 (t2 r10).1 (t3 r10).1 (t4 r10).1 (t5 r10).1 (t6 r10).1 (t7 r10).1 (t8 r10).1 (t9 r10).1 (t9 r10.2).1 (t9 (t2 r10)).1 (t9 (t3 r10)).1 (t9 (t4 r10)).1).bind fun r14 =>
        bif (!r14) then
         bif (!r13.2) then
          some true
         else
          (impl_RecordText.f k r13.1).bind fun r15 =>
          some (r15.toList == r12.toList)
        else
         (impl_IsGame.f k r11.1 r11.2.1 (t2 r11).1 (t3 r11).1 (t4 r11).1 (t5 r11).1 (t6 r11).1 (t7 r11).1 (t8 r11).1 (t9 r11).1 (t9 r11.2).1 (t9 (t2 r11)).1 (t9 (t3 r11)).1 (t9 (t4 r11)).1).bind fun r16 =>
         bif r16 then
          bif ((t9 (t3 r11)).1 == (IntKind.wrap .i64 ((t9 (t3 r10)).1 + (t9 (t5 r11))))) then
           bif (!r13.2) then
            some true
           else
            (impl_RecordText.f k r13.1).bind fun r17 =>
            some (r17.toList == r12.toList)
          else
           some false
         else
          some false
       else
        some false
      else
       some false
theorem recordsLast_ok {k : Nat} (hk : BIG ≤ k) {a : List Int} (ha : a.length < 1048577) : recordsLast k a = some true := by
  obtain ⟨g, r, e, hg, hs, hm, hr⟩ := spec_DrawReplayed.ok hk ha
  obtain ⟨s, es, hss⟩ := spec_DrawParseRecord.ok hk ha
  obtain ⟨n1, n2, n3⟩ := replayed_any r 0 g
  obtain ⟨n4, n5⟩ := n3 hg
  have er := impl_Replayed.eq hk (l := r) (by omega) hs
  have hs2 := replayed_sm r 0 hs
  have ep := impl_ParseRecord.eq hk (s := s) (by omega)
  have hgame := impl_IsGame.eq hk hs
  have hgame2 := impl_IsGame.eq hk hs2
  rw [hg] at hgame
  rw [n4] at hgame2
  have fin : (bif (!(parseRec s).2) then some true else (impl_RecordText.f k (parseRec s).1).bind fun r17 => some (r17.toList == s.toList)) = some true := by
    cases hp : (parseRec s).2 with
    | false => rfl
    | true =>
      obtain ⟨t1, t2⟩ := parseRec_text hp
      refine (bif_f rfl).trans ((bind_s (impl_RecordText.eq hk (by omega))).trans ?_)
      rw [t1]
      exact congrArg some (beq_self_eq_true _)
  refine (bind_s e).trans ((bind_s er).trans ((bind_s es).trans ((bind_s ep).trans ((bif_t (dec_t n1)).trans ((bif_t (dec_t (by show (replayed r 0 g).2 ≤ (r.length : Int); omega))).trans ((bind_s hgame).trans ((bif_f rfl).trans ((bind_s hgame2).trans ((bif_t rfl).trans ((bif_t ?_).trans fin))))))))))
  show ((replayed r 0 g).1.mv == IntKind.wrap .i64 (g.mv + (replayed r 0 g).2)) = true
  rw [wrap_i64 (by omega) (by omega), n5]
  simp
theorem laws_FnRecords.eq {k : Nat} (hk : BIG ≤ k) {a : List Int} (_ja : a.length ≤ maxLen) (_ia : ∀ n ∈ a, wfI .u8 n) : laws_FnRecords.f k a = some true := by
  refine (bind_s rfl).trans ?_
  by_cases hb : (a.length : Int) > 1048576
  · exact bif_t (dec_t hb)
  · refine (bif_f (dec_f hb)).trans ?_
    have ha : a.length < 1048577 := by omega
    have rest := recordsLast_ok hk ha
    obtain ⟨g, l, e, hs, _⟩ := spec_DrawPlayOut.ok hk ha
    have e1 : spec_DrawRecordOut.f k a = some (g.r.n, g.r.e, g.r.b1, g.r.b2, g.r.w, g.r.f, g.r.t, g.r.l, g.hs, g.st, g.hp, g.tn, g.mv, g.ps, l) := bind_s e
    have hrl := recordOut_len g l
    have hok : recOK (recordOut g l) := recordN_ok l 401 g
    have hre : replayed (recordOut g l) 0 g = (playOut g l, 0 + ((recordOut g l).length : Int)) := recordN_replayed l 401 g 0
    have er := impl_Replayed.eq hk (l := recordOut g l) (by omega) hs
    rw [hre] at er
    have hs2 := playOut_sm l hs
    have ep := impl_PlayOut.eq hk l hs
    have ee := impl_EqualGames.eq hk (playOut g l) hs2
    rw [eqGm_refl] at ee
    have et := impl_RecordText.eq hk (l := recordOut g l) (by omega)
    have hsz := recText_le (recordOut g l)
    have epr := impl_ParseRecord.eq hk (s := recText (recordOut g l)) (by omega)
    rw [parseRec_of hok] at epr
    have esm := laws_sameInts.eq hk (a := recordOut g l) (recordOut g l) (by omega)
    rw [dec_t rfl] at esm
    refine (bind_s e1).trans ((bind_s (impl_RecordOut.eq hk l hs)).trans ((bind_s er).trans ((bif_f ?_).trans ((bind_s ep).trans ((bind_s ee).trans ((bif_f rfl).trans ((bind_s et).trans ((bind_s epr).trans ((bif_f rfl).trans ((bind_s esm).trans ((bif_f rfl).trans rest)))))))))))
    show ((0 + ((recordOut g l).length : Int)) != ((recordOut g l).length : Int)) = false
    simp
end Go.Proofs.YtfbafmeeejmgoaaGreat
