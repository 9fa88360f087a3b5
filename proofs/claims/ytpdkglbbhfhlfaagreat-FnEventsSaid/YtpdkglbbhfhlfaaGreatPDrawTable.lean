/- Drawn tables on which some moves are made. Conditions: enough rounds, a code of at most 2^20 bytes. -/
import Derived.Test.YtpdkglbbhfhlfaaGreatKit
import Derived.Test.YtpdkglbbhfhlfaaGreatFFnEvents
import Derived.Test.YtpdkglbbhfhlfaaGreatPDrawEvents
import Derived.Test.YtpdkglbbhfhlfaaGreatPStepSeal
import Derived.Test.YtpdkglbbhfhlfaaGreatPStepDeal
import Derived.Test.YtpdkglbbhfhlfaaGreatPStepPlay
import Derived.Test.YtpdkglbbhfhlfaaGreatPStepTake
import Derived.Test.YtpdkglbbhfhlfaaGreatPStepSettle
set_option linter.unusedVariables false
set_option linter.unusedSimpArgs false
namespace Go.Proofs.YtpdkglbbhfhlfaaGreat
open Go Go.Proofs.YtpdkglbbhfhlfaaGreat.V
theorem stepSeal_r (t : Tb) (s : Int) : (stepSeal t s).1.r = t.r := by
  unfold stepSeal done
  cases (!t.on && isTable t && isTable { t with seals := t.seals ++ [s] }) <;> rfl
theorem stepPlay_table {t : Tb} (h : isTable t = true) (c : Int) : isTable (stepPlay t c).1 = true := by
  unfold stepPlay
  cases isCard c with
  | true => exact done_table h
  | false => exact h
theorem spec_l34Sealed.loop {R : Type} {k : Nat} (hk : BIG ≤ k) (s : Int) (e0 : Int → Int → Bool → Bool → List Int → List Int → Int → Int → List Int → Bool → List Int → Int → Int → Bool → Bool → List Int → List Int → Int → Int → List (List Int) → List Int → List Int → Int → Int → Int → List Int → List (List Int) → List Int → List Int → Option R) : ∀ (m j n : Nat) (t : Tb) (ss bs : List Int), t.sm → isTable t = true → m < n → (j : Int) + (m : Int) = t.r.n → t.r.n ≤ 6 → ss.length = j → bs.length = j →
    ∃ (u : Tb) (ss' bs' : List Int), t.ap (spec_l34Sealed.l4 k s e0 n (j : Int)) ss bs = u.ap e0 ss' bs' ∧ u.sm ∧ isTable u = true
  | m, j, 0, t, ss, bs, _, _, hn, _, _, _, _ => absurd hn (by omega)
  | 0, j, n + 1, t, ss, bs, ht, ho, hn, hm, h6, hs, hb => ⟨t, ss, bs, (spec_l34Sealed.l4_succ ..).trans (bif_f (dec_f (by omega))), ht, ho⟩
  | m + 1, j, n + 1, t, ss, bs, ht, ho, hn, hm, h6, hs, hb => by
    have e1 := spec_SeedSeal.eq hk (j : Int) (IntKind.wrap .i64 (s + (j : Int))) 5
    generalize hashF [(j : Int), IntKind.wrap .i64 (s + (j : Int)), 5] = x at e1
    have e2 := spec_StepSeal.eq hk ht x
    have hsm := stepSeal_sm ht x
    have hT : isTable (stepSeal t x).1 = true := done_table ho
    have k1 := stepSeal_r t x
    generalize stepSeal t x = q at e2 hsm k1 hT
    obtain ⟨u, ss', bs', e, h1, h2⟩ := spec_l34Sealed.loop hk s e0 m (j + 1) n q.1 (ss ++ [IntKind.wrap .i64 (s + (j : Int))]) (bs ++ [5]) hsm hT (by omega) (by rw [k1]; omega) (by rw [k1]; omega) (by simp; omega) (by simp; omega)
    refine ⟨u, ss', bs', ?_, h1, h2⟩
    rw [← wrap_up (by omega)] at e
    exact (spec_l34Sealed.l4_succ ..).trans ((bif_t (dec_t (by omega))).trans ((bind_s e1).trans ((bind_s e2).trans ((chk_t (rm8 (by omega))).trans ((chk_t (rm8 (by omega))).trans e)))))
theorem spec_l34Sealed.ok {k : Nat} (hk : BIG ≤ k) {t : Tb} (ht : t.sm) (hT : isTable t = true) (s : Int) : ∃ u : Tb, t.ap (spec_l34Sealed.f k) s = some u.tp ∧ u.sm ∧ isTable u = true := by
  have hn := (rl_ok (isTable_ok hT).1).1
  have lp := fun e0 => spec_l34Sealed.loop (R := Int × Int × Bool × Bool × List Int × List Int × Int × Int × List Int × Bool × List Int × Int × Int × Bool × Bool × List Int × List Int × Int × Int × List (List Int) × List Int × List Int × Int × Int × Int × List Int × List (List Int)) hk s e0 t.r.n.toNat 0 k t [] [] ht hT (by simp [BIG] at hk; omega) (by omega) (by omega) rfl rfl
  obtain ⟨u, ss, bs, e, us, uT⟩ := lp _
  have e2 := spec_StepDeal.eq hk us ss bs
  have h2 := stepDeal_sm us ss bs
  have h3 : isTable (stepDeal u ss bs).1 = true := done_table uT
  generalize stepDeal u ss bs = q at e2 h2 h3
  exact ⟨q.1, e.trans (bind_s e2), h2, h3⟩
theorem spec_l34Move2.ok {k : Nat} (hk : BIG ≤ k) {b : List Int} {i : Int} (h : Int) (hc : Cur b i) {t : Tb} (ht : t.sm) (hT : isTable t = true) : ∃ (u : Tb) (i' h' : Int), t.ap (spec_l34Move2.f k b i h) = some (u.tpe (b, i', h')) ∧ Cur b i' ∧ u.sm ∧ isTable u = true := by
  have ep := spec_Playable.eq hk ht.2.2.2.1
  have et := spec_StepTake.eq hk ht
  have h2 := stepMove_sm ht (-1)
  have h3 : isTable (stepMove t (-1)).1 = true := done_table hT
  generalize stepMove t (-1) = q at et h2 h3
  by_cases hp : ((playable t.g).length : Int) > 0
  · obtain ⟨o, i1, h1, e1, c1⟩ := spec_l1Once.ok k h 4 hc
    cases o with
    | true => exact ⟨q.1, i1, h1, (bind_s ep).trans ((bif_t (dec_t hp)).trans ((bind_s e1).trans ((bif_f rfl).trans (bind_s et)))), c1, h2, h3⟩
    | false =>
      obtain ⟨x, i2, h2', e2, c2, p1, p2, _⟩ := spec_l1Below.ok k h1 ((playable t.g).length : Int) c1
      have p2 := p2 (by omega)
      have es := spec_StepPlay.eq hk ht ((playable t.g).getD x.toNat 0)
      have h4 := stepPlay_sm ht ((playable t.g).getD x.toNat 0)
      have h5 := stepPlay_table hT ((playable t.g).getD x.toNat 0)
      generalize stepPlay t ((playable t.g).getD x.toNat 0) = p at es h4 h5
      exact ⟨p.1, i2, h2', (bind_s ep).trans ((bif_t (dec_t hp)).trans ((bind_s e1).trans ((bif_t rfl).trans ((bind_s e2).trans ((chk_t (and_t (dec_t p1) (dec_t p2))).trans (bind_s es)))))), c2, h4, h5⟩
  · exact ⟨q.1, i, h, (bind_s ep).trans ((bif_f (dec_f hp)).trans (bind_s et)), hc, h2, h3⟩
theorem spec_l34Draw.loop {R : Type} {k : Nat} (hk : BIG ≤ k) (e0 : List Int → Int → Int → Int → Int → Bool → Bool → Int → Int → Bool → Int → Int → Bool → Bool → Int → Int → Int → Int → Int → List Int → List Int → List Int → List Int → List Int → List Int → List (List Int) → List Int → List Int → List Int → List (List Int) → Option R) : ∀ (m n : Nat) {b : List Int} {i : Int} (h : Int) (t : Tb), Cur b i → m < n → m ≤ 100 → t.sm → isTable t = true →
    ∃ (u : Tb) (i' h' : Int), t.pm (spec_l34Draw.l10 k e0 n (m : Int) b i h) = u.pm (e0 b i' h') ∧ Cur b i' ∧ u.sm ∧ isTable u = true
  | m, 0, b, i, h, t, _, hn, _, _, _ => absurd hn (by omega)
  | 0, n + 1, b, i, h, t, hc, hn, hm, ht, hT => ⟨t, i, h, (spec_l34Draw.l10_succ ..).trans (bif_f (dec_f (by omega))), hc, ht, hT⟩
  | m + 1, n + 1, b, i, h, t, hc, hn, hm, ht, hT => by
    have ew : IntKind.wrap .i64 (((m + 1 : Nat) : Int) - 1) = (m : Int) := by rw [wrap_i64 (by omega) (by omega)]; omega
    obtain ⟨q, i1, h1, e1, c1, q1, q2⟩ := spec_l34Move2.ok hk h hc ht hT
    obtain ⟨u, i', h', e, c', u1, u2⟩ := spec_l34Draw.loop hk e0 m n h1 q c1 (by omega) (by omega) q1 q2
    rw [← ew] at e
    exact ⟨u, i', h', (spec_l34Draw.l10_succ ..).trans ((bif_t (dec_t (by omega))).trans ((bind_s e1).trans e)), c', u1, u2⟩
theorem spec_l34Draw.ok {k : Nat} (hk : BIG ≤ k) {b : List Int} {i : Int} (h : Int) (hc : Cur b i) : ∃ (t : Tb) (i' h' : Int), spec_l34Draw.f k b i h = some (t.tpe (b, i', h')) ∧ Cur b i' ∧ t.sm ∧ isTable t = true := by
  obtain ⟨r0, i1, h1, e1, c1, ro0, lw, lf⟩ := spec_l22Draw.ok hk h hc
  obtain ⟨o, i2, h2, e2, c2⟩ := spec_l1Once.ok k h1 2 c1
  have rest : ∀ (r : Rl) {i3 : Int} (h3 : Int), Cur b i3 → r.ok = true → r.sm → ∃ (t : Tb) (i' h' : Int), ((r.ap (spec_NewTable.f k)).bind fun r44 =>
      (spec_l1Once.f k b i3 h3 6).bind fun r45 =>
      bif r45.1 then
       (spec_SeedSeal.f k 0 3 5).bind fun r46 =>
       (spec_StepSeal.f k r44.1 r44.2.1 (t2 r44).1 (t3 r44).1 (t4 r44).1 (t5 r44).1 (t6 r44).1 (t7 r44).1 (t8 r44).1 (t9 r44).1 (t9 r44.2).1 (t9 (t2 r44)).1 (t9 (t3 r44)).1 (t9 (t4 r44)).1 (t9 (t5 r44)).1 (t9 (t6 r44)).1 (t9 (t7 r44)).1 (t9 (t8 r44)).1 (t9 (t9 r44)).1 (t9 (t9 r44.2)).1 (t9 (t9 (t2 r44))).1 (t9 (t9 (t3 r44))).1 (t9 (t9 (t4 r44))).1 (t9 (t9 (t5 r44))).1 (t9 (t9 (t6 r44))).1 (t9 (t9 (t7 r44))).1 (t9 (t9 (t8 r44))).1 r46).bind fun r47 =>
       some (r47.1, r47.2.1, (t2 r47).1, (t3 r47).1, (t4 r47).1, (t5 r47).1, (t6 r47).1, (t7 r47).1, (t8 r47).1, (t9 r47).1, (t9 r47.2).1, (t9 (t2 r47)).1, (t9 (t3 r47)).1, (t9 (t4 r47)).1, (t9 (t5 r47)).1, (t9 (t6 r47)).1, (t9 (t7 r47)).1, (t9 (t8 r47)).1, (t9 (t9 r47)).1, (t9 (t9 r47.2)).1, (t9 (t9 (t2 r47))).1, (t9 (t9 (t3 r47))).1, (t9 (t9 (t4 r47))).1, (t9 (t9 (t5 r47))).1, (t9 (t9 (t6 r47))).1, (t9 (t9 (t7 r47))).1, (t9 (t9 (t8 r47))).1, r45.2.1, (t2 r45).1, (t3 r45))
      else
       (spec_l1Below.f k r45.2.1 (t2 r45).1 (t3 r45) 900).bind fun r48 =>
       (spec_l34Sealed.f k r44.1 r44.2.1 (t2 r44).1 (t3 r44).1 (t4 r44).1 (t5 r44).1 (t6 r44).1 (t7 r44).1 (t8 r44).1 (t9 r44).1 (t9 r44.2).1 (t9 (t2 r44)).1 (t9 (t3 r44)).1 (t9 (t4 r44)).1 (t9 (t5 r44)).1 (t9 (t6 r44)).1 (t9 (t7 r44)).1 (t9 (t8 r44)).1 (t9 (t9 r44)).1 (t9 (t9 r44.2)).1 (t9 (t9 (t2 r44))).1 (t9 (t9 (t3 r44))).1 (t9 (t9 (t4 r44))).1 (t9 (t9 (t5 r44))).1 (t9 (t9 (t6 r44))).1 (t9 (t9 (t7 r44))).1 (t9 (t9 (t8 r44))).1 r48.1).bind fun r49 =>
       (spec_l1Below.f k r48.2.1 (t2 r48).1 (t3 r48) 10).bind fun r50 =>
       spec_l34Draw.l10 k (fun x51 x52 x53 x54 x55 x56 x57 x58 x59 x60 x61 x62 x63 x64 x65 x66 x67 x68 x69 x70 x71 x72 x73 x74 x75 x76 x77 x78 x79 x80 =>
        (spec_l1Once.f k x51 x52 x53 2).bind fun r81 =>
        bif r81.1 then
         (spec_StepSettle.f k x54 x55 x56 x57 x70 x71 x58 x59 x72 x60 x73 x61 x62 x63 x64 x74 x75 x65 x66 x76 x77 x78 x67 x68 x69 x79 x80).bind fun r82 =>
         some (r82.1, r82.2.1, (t2 r82).1, (t3 r82).1, (t4 r82).1, (t5 r82).1, (t6 r82).1, (t7 r82).1, (t8 r82).1, (t9 r82).1, (t9 r82.2).1, (t9 (t2 r82)).1, (t9 (t3 r82)).1, (t9 (t4 r82)).1, (t9 (t5 r82)).1, (t9 (t6 r82)).1, (t9 (t7 r82)).1, (t9 (t8 r82)).1, (t9 (t9 r82)).1, (t9 (t9 r82.2)).1, (t9 (t9 (t2 r82))).1, (t9 (t9 (t3 r82))).1, (t9 (t9 (t4 r82))).1, (t9 (t9 (t5 r82))).1, (t9 (t9 (t6 r82))).1, (t9 (t9 (t7 r82))).1, (t9 (t9 (t8 r82))).1, r81.2.1, (t2 r81).1, (t3 r81))
        else
         some (x54, x55, x56, x57, x70, x71, x58, x59, x72, x60, x73, x61, x62, x63, x64, x74, x75, x65, x66, x76, x77, x78, x67, x68, x69, x79, x80, r81.2.1, (t2 r81).1, (t3 r81))) k r50.1 r50.2.1 (t2 r50).1 (t3 r50) r49.1 r49.2.1 (t2 r49).1 (t3 r49).1 (t6 r49).1 (t7 r49).1 (t9 r49).1 (t9 (t2 r49)).1 (t9 (t3 r49)).1 (t9 (t4 r49)).1 (t9 (t5 r49)).1 (t9 (t8 r49)).1 (t9 (t9 r49)).1 (t9 (t9 (t4 r49))).1 (t9 (t9 (t5 r49))).1 (t9 (t9 (t6 r49))).1 (t4 r49).1 (t5 r49).1 (t8 r49).1 (t9 r49.2).1 (t9 (t6 r49)).1 (t9 (t7 r49)).1 (t9 (t9 r49.2)).1 (t9 (t9 (t2 r49))).1 (t9 (t9 (t3 r49))).1 (t9 (t9 (t7 r49))).1 (t9 (t9 (t8 r49)))) = some (t.tpe (b, i', h')) ∧ Cur b i' ∧ t.sm ∧ isTable t = true := fun r {i3} h3 c3 ro rs => by
    have enew := spec_NewTable.made hk rs ro
    have nsm := newTb_sm rs
    have nT := newTb_table ro
    obtain ⟨o, i4, h4, e4, c4⟩ := spec_l1Once.ok k h3 6 c3
    cases o with
    | true =>
      have e5 := spec_SeedSeal.eq hk 0 3 5
      generalize hashF [(0 : Int), 3, 5] = x at e5
      have e6 := spec_StepSeal.eq hk nsm x
      have s1 := stepSeal_sm nsm x
      have s2 : isTable (stepSeal (newTb r) x).1 = true := done_table nT
      generalize stepSeal (newTb r) x = q at e6 s1 s2
      exact ⟨q.1, i4, h4, (bind_s enew).trans ((bind_s e4).trans ((bif_t rfl).trans ((bind_s e5).trans (bind_s e6)))), c4, s1, s2⟩
    | false =>
      obtain ⟨y, i5, h5, e5, c5, _⟩ := spec_l1Below.ok k h4 900 c4
      obtain ⟨u, eu, us, uT⟩ := spec_l34Sealed.ok hk nsm nT y
      obtain ⟨z, i6, h6, e6, c6, p1, p2, _⟩ := spec_l1Below.ok k h5 10 c5
      have p2 := p2 (by omega)
      have lp := fun e0 => spec_l34Draw.loop (R := Int × Int × Bool × Bool × List Int × List Int × Int × Int × List Int × Bool × List Int × Int × Int × Bool × Bool × List Int × List Int × Int × Int × List (List Int) × List Int × List Int × Int × Int × Int × List Int × List (List Int) × List Int × Int × Int) hk e0 z.toNat k h6 u c6 (by simp [BIG] at hk; omega) (by omega) us uT
      rw [show ((z.toNat : Nat) : Int) = z by omega] at lp
      obtain ⟨v, i7, h7, e7, c7, vs, vT⟩ := lp _
      obtain ⟨o2, i8, h8, e8, c8⟩ := spec_l1Once.ok k h7 2 c7
      have e9 := spec_StepSettle.eq hk vs
      have s1 := stepSettle_sm vs
      have s2 : isTable (stepSettle v).1 = true := done_table vT
      generalize stepSettle v = q at e9 s1 s2
      cases o2 with
      | true => exact ⟨q.1, i8, h8, (bind_s enew).trans ((bind_s e4).trans ((bif_f rfl).trans ((bind_s e5).trans ((bind_s eu).trans ((bind_s e6).trans (e7.trans ((bind_s e8).trans ((bif_t rfl).trans (bind_s e9))))))))), c8, s1, s2⟩
      | false => exact ⟨v, i8, h8, (bind_s enew).trans ((bind_s e4).trans ((bif_f rfl).trans ((bind_s e5).trans ((bind_s eu).trans ((bind_s e6).trans (e7.trans ((bind_s e8).trans (bif_f rfl)))))))), c8, vs, vT⟩
  cases o with
  | true =>
    obtain ⟨x, i3, h3, e3, c3, p1, p2, _⟩ := spec_l1Below.ok k h2 6 c2
    have p2 := p2 (by omega)
    have ex : IntKind.wrap .i64 (1 + x) = 1 + x := wrap_i64 (by omega) (by omega)
    obtain ⟨t, i', h', e, c', s1, s2⟩ := rest { r0 with l := IntKind.wrap .i64 (1 + x) } h3 c3 (by
      rw [ex]
      unfold Rl.ok isRules at ro0 ⊢
      simp only [Bool.and_eq_true] at ro0 ⊢
      exact ⟨ro0.1, inR_iff.2 ⟨by omega, by omega⟩⟩) ⟨by show r0.w.length < _; omega, by show r0.f.length < _; omega⟩
    exact ⟨t, i', h', (bind_s e1).trans ((bind_s e2).trans ((bif_t rfl).trans ((bind_s e3).trans e))), c', s1, s2⟩
  | false =>
    obtain ⟨t, i', h', e, c', s1, s2⟩ := rest r0 h2 c2 ro0 ⟨by omega, by omega⟩
    exact ⟨t, i', h', (bind_s e1).trans ((bind_s e2).trans ((bif_f rfl).trans e)), c', s1, s2⟩
end Go.Proofs.YtpdkglbbhfhlfaaGreat
