/- A caller's arguments, told free of names. Conditions: none. -/
import Derived.Test.YtfkejiljabmaaaaVCon
set_option linter.unusedVariables false
set_option linter.unusedSimpArgs false
namespace Go.Proofs.Ytfkejiljabmaaaa.V
open Go

section
variable {tt : TT} {C : Cx} {S : St} {w : World} {ρ : Place} {Fs : Nat → FP}
theorem DLRel.grow {Zf ZL Zf' ZL' : Zs} (hf : ∀ b, Zf b → Zf' b) (hl : ∀ b, ZL b → ZL' b) {d : DL} {v : Value} {F : FP} (h : DLRel w Zf ZL d v F) : DLRel w Zf' ZL' d v F := by
  cases d with
  | sl c r =>
    cases c with
    | frz => exact ⟨h.1.grow hf, h.2⟩
    | lent => exact ⟨h.1.grow hl, h.2⟩
    | own => obtain ⟨q, h1, h2⟩ := h; exact ⟨q, h1, h2.mono (fun b hb => ⟨hl b hb, rfl⟩) (fun b _ => rfl)⟩
  | er b => cases b <;> exact h
  | _ => exact h
theorem DLsRel.grow {Zf ZL Zf' ZL' : Zs} (hf : ∀ b, Zf b → Zf' b) (hl : ∀ b, ZL b → ZL' b) : ∀ {ds : List DL} {vs : List Value} {F : FP}, DLsRel w Zf ZL ds vs F → DLsRel w Zf' ZL' ds vs F
  | [], [], _, h => h
  | d :: ds, v :: vs, F, ⟨F1, F2, h1, h2, h3⟩ => ⟨F1, F2, h1.grow hf hl, h2.grow hf hl, h3⟩
theorem DVRel.grow {Zf ZL Zf' ZL' : Zs} (hf : ∀ b, Zf b → Zf' b) (hl : ∀ b, ZL b → ZL' b) {d : DV} {v : Value} {F : FP} (h : DVRel w Zf ZL d v F) : DVRel w Zf' ZL' d v F := by
  cases d with
  | l d => exact DLRel.grow hf hl h
  | agg ds => obtain ⟨vs, h1, h2⟩ := h; exact ⟨vs, h1, h2.grow hf hl⟩
  | ptr ds => obtain ⟨b, vs, ty, F', h1, h2, h3, h4⟩ := h; exact ⟨b, vs, ty, F', h1, h2, h3.grow hf hl, h4⟩
theorem DVsRel.grow {Zf ZL Zf' ZL' : Zs} (hf : ∀ b, Zf b → Zf' b) (hl : ∀ b, ZL b → ZL' b) : ∀ {ds : List DV} {vs : List Value} {F : FP}, DVsRel w Zf ZL ds vs F → DVsRel w Zf' ZL' ds vs F
  | [], [], _, h => h
  | d :: ds, v :: vs, F, ⟨F1, F2, h1, h2, h3⟩ => ⟨F1, F2, h1.grow hf hl, h2.grow hf hl, h3⟩
/-- An owned row of the call's own, cut at its end. -/
theorem own_row (m : MRel C S.hp S.nx w ρ Fs) {id e ver : Nat} {r : Row} (hroot : S.hp id = some (.row e ver r)) {hi : Nat} (hhi : hi ≤ r.len) : ∃ F, RowRel w (C.ZL w (sumTo S.nx Fs)) (ρ id) (r.take hi).cells (r.take hi).len (r.take hi).size F ∧ ∀ b, F b ≤ Fs id b := by
  have hl : (r.take hi).len = hi := by rw [take_len]; omega
  rcases m.roots id _ hroot with ⟨g1, g2, g3⟩ | ⟨b, cap, arr, ty, F', g1, g2, g3, g4, g5, g6⟩
  · simp only [Cx.env] at g1
    exact ⟨fz, .inl ⟨g1, by omega, rfl⟩, fun b => by simp⟩
  · simp only [Cx.env] at g1 g2
    obtain ⟨F1, t1, t2⟩ := g5.take (hi * r.size)
    rw [← take_cells] at t1
    refine ⟨fadd (f1 b) F1, .inr ⟨b, cap, arr, ty, F1, g1, g2, by omega, by rw [take_size]; exact g4, ?_, rfl⟩, fun b' => by have := t2 b'; rw [g6]; simp; omega⟩
    have : arr.toList = arr.toList.take (hi * r.size) ++ arr.toList.drop (hi * r.size) := (List.take_append_drop ..).symm
    rw [this]
    exact t1.more _
theorem nil_row {Z : Zs} {r : Row} (h : r.len = 0) : RowRel w Z none r.cells r.len r.size fz := .inl ⟨rfl, h, rfl⟩
theorem nil_frz {Z : Zs} {r : Row} (h : r.len = 0) : FrzRow w Z r (.slice none 0 0) := ⟨none, 0, by rw [h], by omega, fun hn => absurd h hn⟩
/-- What is read of roots. -/
def Zlent (C : Cx) (w : World) (nx : Nat) (Fs : Nat → FP) (rc : List Nat) : Zs := fun b => C.ZL w (sumTo nx Fs) b ∨ ∃ id ∈ rc, 1 ≤ Fs id b
theorem Zlent.left {rc rc' : List Nat} {b : Nat} (h : Zlent C w S.nx Fs rc b) : Zlent C w S.nx Fs (rc ++ rc') b := h.imp (fun h => h) (fun ⟨i, h1, h2⟩ => ⟨i, by simp [h1], h2⟩)
theorem Zlent.right {rc rc' : List Nat} {b : Nat} (h : Zlent C w S.nx Fs rc' b) : Zlent C w S.nx Fs (rc ++ rc') b := h.imp (fun h => h) (fun ⟨i, h1, h2⟩ => ⟨i, by simp [h1], h2⟩)
def RowsAt (hp : Nat → Option Root) (ks : List Nat) : Prop := ∀ k ∈ ks, ∃ e v r, hp k = some (.row e v r)
theorem inner_own_cell {r : Row} {i f : Nat} (ho : r.owned = true) (hs : r.slAt f = true) (hi : i < r.len) : r.cells[i * r.size + f]? = some (.sl true (innerOf r i f)) := by
  cases r with
  | rows o l =>
    simp only [Row.owned] at ho
    subst ho
    simp only [Row.slAt] at hs
    have := eq_of_beq hs
    subst this
    simp only [Row.len] at hi
    simp [Row.cells, Row.size, innerOf, hi]
  | recs sg o l =>
    simp only [Row.owned] at ho
    subst ho
    have hf := slAt_lt hs
    simp only [Row.slAt] at hs
    simp only [Row.size] at hf
    simp only [Row.len] at hi
    have hsf : sg[f]? = some true := by
      cases hq : sg[f]? with
      | none => rw [hq] at hs; cases hs
      | some b => rw [hq] at hs; simp at hs; rw [hs]
    have := recs_get sg true l i f hf
    rw [List.getElem?_eq_getElem hi, hsf] at this
    simp only [Row.size]
    rw [this]
    simp [innerOf, hi]
  | _ => cases hs
theorem toDL_sound (m : MRel C S.hp S.nx w ρ Fs) {md : Mode} {t : Nat} {x : LV} {d : DL} {ks io rc : List Nat} (he : toDL tt S.hp md t x = some (d, ks, io, rc)) {v : Value} (hv : LVRel (C.env w ρ S.hp S.nx Fs) x v) :
    ∃ F, DLRel w (C.Zf w (sumTo S.nx Fs)) (Zlent C w S.nx Fs rc) d v F ∧ (∀ b, F b ≤ sumL Fs (ks ++ io) b) ∧ RowsAt S.hp (ks ++ io) := by
  have hz : ∀ b, C.ZL w (sumTo S.nx Fs) b → Zlent C w S.nx Fs rc b := fun b hb => .inl hb
  have view : (match viewRow S.hp x with | some (r, rc) => some (DL.sl .lent r, ([] : List Nat), ([] : List Nat), rc) | none => none) = some (d, ks, io, rc) → ∃ F, DLRel w (C.Zf w (sumTo S.nx Fs)) (Zlent C w S.nx Fs rc) d v F ∧ (∀ b, F b ≤ sumL Fs (ks ++ io) b) ∧ RowsAt S.hp (ks ++ io) := fun he => by
    split at he
    · rename_i r rc' hvr
      cases he
      exact ⟨fz, ⟨viewRow_sound m hvr hv, rfl⟩, fun b => by simp, fun k hk => by simp at hk⟩
    · cases he
  cases x with
  | i k z => cases he; exact ⟨fz, ⟨hv, rfl⟩, fun b => by simp, fun k hk => by simp at hk⟩
  | b z => cases he; exact ⟨fz, ⟨hv, rfl⟩, fun b => by simp, fun k hk => by simp at hk⟩
  | s z => cases he; exact ⟨fz, ⟨hv, rfl⟩, fun b => by simp, fun k hk => by simp at hk⟩
  | er z => cases he; cases z <;> exact ⟨fz, ⟨hv, rfl⟩, fun b => by simp, fun k hk => by simp at hk⟩
  | nil =>
    have hv : v = .slice none 0 0 := hv
    simp only [toDL] at he
    split at he
    · split at he
      · rename_i r hr
        have h0 := emptyRow_len hr
        cases md with
        | bor =>
          cases he
          exact ⟨fz, ⟨by rw [hv]; exact nil_frz (by rw [frz_len]; exact h0), rfl⟩, fun b => by simp, fun k hk => by simp at hk⟩
        | mov =>
          cases he
          exact ⟨fz, ⟨none, by rw [hv]; rfl, nil_row h0⟩, fun b => by simp, fun k hk => by simp at hk⟩
        | io =>
          cases he
          exact ⟨fz, ⟨none, by rw [hv]; rfl, nil_row h0⟩, fun b => by simp, fun k hk => by simp at hk⟩
      · cases he
    · cases he
  | val p r =>
    cases p with
    | true => cases he; exact ⟨fz, ⟨hv, rfl⟩, fun b => by simp, fun k hk => by simp at hk⟩
    | false =>
      cases md with
      | bor => exact view he
      | mov => cases he
      | io => cases he
  | own id =>
    cases md with
    | bor => exact view he
    | mov =>
      simp only [toDL] at he
      split at he
      · rename_i e ver r hroot
        replace he := bif_some he
        obtain ⟨ho, he⟩ := he
        cases he
        obtain ⟨_, hx⟩ := hv
        obtain ⟨r', e1, e2⟩ := hx _ hroot
        cases e1
        obtain ⟨F, k1, k2⟩ := own_row m hroot (Nat.le_refl r.len)
        rw [take_self] at k1
        exact ⟨F, ⟨ρ id, e2, k1.mono (fun b hb => ⟨hz b hb, rfl⟩) (fun b _ => rfl)⟩, fun b => by have := k2 b; simp [sumL]; exact this, fun k hk => by simp at hk; subst hk; exact ⟨_, _, _, hroot⟩⟩
      · cases he
    | io =>
      simp only [toDL] at he
      split at he
      · rename_i e ver r hroot
        replace he := bif_some he
        obtain ⟨ho, he⟩ := he
        cases he
        obtain ⟨_, hx⟩ := hv
        obtain ⟨r', e1, e2⟩ := hx _ hroot
        cases e1
        obtain ⟨F, k1, k2⟩ := own_row m hroot (Nat.le_refl r.len)
        rw [take_self] at k1
        exact ⟨F, ⟨ρ id, e2, k1.mono (fun b hb => ⟨hz b hb, rfl⟩) (fun b _ => rfl)⟩, fun b => by have := k2 b; simp [sumL]; exact this, fun k hk => by simp at hk; subst hk; exact ⟨_, _, _, hroot⟩⟩
      · cases he
  | sub id lo hi =>
    cases md with
    | bor => exact view he
    | mov =>
      cases lo with
      | succ lo => cases he
      | zero =>
        simp only [toDL] at he
        split at he
        · rename_i e ver r hroot
          replace he := bif_some he
          obtain ⟨ho, he⟩ := he
          cases he
          obtain ⟨_, hx⟩ := hv
          obtain ⟨r', e1, _, l2, e2⟩ := hx _ hroot
          cases e1
          obtain ⟨F, k1, k2⟩ := own_row m hroot l2
          exact ⟨F, ⟨ρ id, by rw [e2, hdr_sub, take_len, Nat.min_eq_left l2]; rfl, k1.mono (fun b hb => ⟨hz b hb, rfl⟩) (fun b _ => rfl)⟩, fun b => by have := k2 b; simp [sumL]; exact this, fun k hk => by simp at hk; subst hk; exact ⟨_, _, _, hroot⟩⟩
        · cases he
    | io => cases he
  | inner id ver i f =>
    cases md with
    | bor => exact view he
    | mov => cases he
    | io =>
      simp only [toDL] at he
      split at he
      · rename_i e ver' r hroot
        have ho := (bif_some he).1
        have he2 := (bif_some he).2
        clear he
        obtain ⟨ho1, ho2⟩ := and_bool ho
        have hver := eq_of_beq ho1
        simp only [Option.some.injEq, Prod.mk.injEq] at he2
        obtain ⟨rfl, rfl, rfl, rfl⟩ := he2
        obtain ⟨_, hx⟩ := hv
        obtain ⟨_, _, hx3⟩ := hx _ hroot
        obtain ⟨k1, k2, k4⟩ := hx3 e r (by rw [hver])
        obtain ⟨v', F1, b1, cap1, c1, c2, hcell, hle⟩ := row_cell m hroot (inner_own_cell ho2 k1 k2)
        simp only [Cx.env] at k4
        rw [c1] at k4
        simp only [cellAt] at k4
        rw [c2] at k4
        cases k4
        refine ⟨F1, ?_, fun b => by have := hle b; simp [sumL]; exact this, fun k hk => by simp at hk; subst hk; exact ⟨_, _, _, hroot⟩⟩
        rcases hcell with ⟨p1, p2, p3⟩ | ⟨b2, cap2, arr2, ty2, q1, q2, q3, q4, q5, q6⟩
        · exact ⟨none, by rw [p1]; rfl, .inl ⟨rfl, by simp [Row.len, p2], p3⟩⟩
        · refine ⟨some (b2, cap2), by rw [q1]; rfl, .inr ⟨b2, cap2, arr2, ty2, fz, rfl, q2, by simpa [Row.len] using q3, by simpa [Row.size] using q4, ?_, by rw [fadd_fz]; exact q6⟩⟩
          refine CellsRel.ofFz fun j c hj => ?_
          simp only [Row.cells, List.getElem?_map] at hj
          cases hlj : (innerOf r i f)[j]? with
          | none => rw [hlj] at hj; cases hj
          | some z =>
            rw [hlj] at hj
            cases hj
            exact ⟨_, by simpa using q5 j z hlj, rfl, rfl⟩
      · cases he
  | _ => cases md <;> simp [toDL, viewRow] at he
theorem sumL_mix (Fs : Nat → FP) (b : Nat) (ks ks' io io' : List Nat) : sumL Fs (ks ++ ks' ++ (io ++ io')) b = sumL Fs (ks ++ io) b + sumL Fs (ks' ++ io') b := by
  simp only [sumL_append]; omega
theorem RowsAt.mix {hp : Nat → Option Root} {ks ks' io io' : List Nat} (h : RowsAt hp (ks ++ io)) (h' : RowsAt hp (ks' ++ io')) : RowsAt hp (ks ++ ks' ++ (io ++ io')) := fun k hk => by
  simp only [List.mem_append] at hk
  rcases hk with (hk | hk) | (hk | hk)
  · exact h k (by simp [hk])
  · exact h' k (by simp [hk])
  · exact h k (by simp [hk])
  · exact h' k (by simp [hk])
theorem toDLs_sound (m : MRel C S.hp S.nx w ρ Fs) {md : Mode} : ∀ (ts : List Nat) (xs : List LV) (ds : List DL) (ks io rc : List Nat) (vs : List Value), toDLs tt S.hp md ts xs = some (ds, ks, io, rc) → LVsRel (C.env w ρ S.hp S.nx Fs) xs vs →
    ∃ F, DLsRel w (C.Zf w (sumTo S.nx Fs)) (Zlent C w S.nx Fs rc) ds vs F ∧ (∀ b, F b ≤ sumL Fs (ks ++ io) b) ∧ RowsAt S.hp (ks ++ io)
  | [], [], ds, ks, io, rc, vs, he, hv => by
    simp only [toDLs, Option.some.injEq, Prod.mk.injEq] at he
    obtain ⟨rfl, rfl, rfl, rfl⟩ := he
    cases vs with
    | nil => exact ⟨fz, rfl, fun b => by simp, fun k hk => by simp at hk⟩
    | cons v vs => exact absurd hv id
  | [], _ :: _, _, _, _, _, _, he, _ => by simp [toDLs] at he
  | _ :: _, [], _, _, _, _, _, he, _ => by simp [toDLs] at he
  | t :: ts, x :: xs, ds, ks, io, rc, vs, he, hv => by
    simp only [toDLs] at he
    split at he
    · rename_i d ks1 io1 rc1 h1
      split at he
      · rename_i ds2 ks2 io2 rc2 h2
        simp only [Option.some.injEq, Prod.mk.injEq] at he
        obtain ⟨rfl, rfl, rfl, rfl⟩ := he
        cases vs with
        | nil => exact absurd hv id
        | cons v vs =>
          obtain ⟨F1, a1, a2, a3⟩ := toDL_sound m h1 hv.1
          obtain ⟨F2, b1, b2, b3⟩ := toDLs_sound m ts xs _ _ _ _ _ h2 hv.2
          refine ⟨fadd F1 F2, ⟨F1, F2, a1.grow (fun b h => h) (fun b h => Zlent.left (S := S) h), b1.grow (fun b h => h) (fun b h => Zlent.right (S := S) h), rfl⟩, fun b => ?_, a3.mix b3⟩
          have := a2 b; have := b2 b
          rw [sumL_mix]; simp; omega
      · cases he
    · cases he
theorem toDV_sound (m : MRel C S.hp S.nx w ρ Fs) {md : Mode} {t : Nat} {x : AV} {d : DV} {ks io rc : List Nat} (he : toDV tt S.hp md t x = some (d, ks, io, rc)) {v : Value} (hv : AVRel (C.env w ρ S.hp S.nx Fs) x v) :
    ∃ F, DVRel w (C.Zf w (sumTo S.nx Fs)) (Zlent C w S.nx Fs rc) d v F ∧ (∀ b, F b ≤ sumL Fs (ks ++ io) b) ∧ RowsAt S.hp (ks ++ io) := by
  cases x with
  | tup xs => cases he
  | one x =>
    cases x with
    | l x =>
      simp only [toDV] at he
      split at he
      · rename_i d' ks1 io1 rc1 h1
        simp only [Option.some.injEq, Prod.mk.injEq] at he
        obtain ⟨rfl, rfl, rfl, rfl⟩ := he
        exact toDL_sound m h1 hv
      · cases he
    | agg xs =>
      simp only [toDV] at he
      split at he
      · rename_i d' ks1 io1 rc1 h1
        simp only [Option.some.injEq, Prod.mk.injEq] at he
        obtain ⟨rfl, rfl, rfl, rfl⟩ := he
        obtain ⟨vs, rfl, hv⟩ := hv
        obtain ⟨F, a1, a2, a3⟩ := toDLs_sound m _ _ _ _ _ _ _ h1 hv
        exact ⟨F, ⟨vs, rfl, a1⟩, a2, a3⟩
      · cases he
theorem toDVs_sound (m : MRel C S.hp S.nx w ρ Fs) : ∀ (ms : List Mode) (ts : List Nat) (xs : List AV) (ds : List DV) (ks io rc : List Nat) (vs : List Value), toDVs tt S.hp ms ts xs = some (ds, ks, io, rc) → AVsRel (C.env w ρ S.hp S.nx Fs) xs vs →
    ∃ F, DVsRel w (C.Zf w (sumTo S.nx Fs)) (Zlent C w S.nx Fs rc) ds vs F ∧ (∀ b, F b ≤ sumL Fs (ks ++ io) b) ∧ RowsAt S.hp (ks ++ io)
  | ms, [], [], ds, ks, io, rc, vs, he, hv => by
    simp only [toDVs, Option.some.injEq, Prod.mk.injEq] at he
    obtain ⟨rfl, rfl, rfl, rfl⟩ := he
    cases vs with
    | nil => exact ⟨fz, rfl, fun b => by simp, fun k hk => by simp at hk⟩
    | cons v vs => exact absurd hv id
  | _, [], _ :: _, _, _, _, _, _, he, _ => by simp [toDVs] at he
  | _, _ :: _, [], _, _, _, _, _, he, _ => by simp [toDVs] at he
  | ms, t :: ts, x :: xs, ds, ks, io, rc, vs, he, hv => by
    simp only [toDVs] at he
    split at he
    · rename_i d ks1 io1 rc1 h1
      split at he
      · rename_i ds2 ks2 io2 rc2 h2
        simp only [Option.some.injEq, Prod.mk.injEq] at he
        obtain ⟨rfl, rfl, rfl, rfl⟩ := he
        cases vs with
        | nil => exact absurd hv id
        | cons v vs =>
          obtain ⟨F1, a1, a2, a3⟩ := toDV_sound m h1 hv.1
          obtain ⟨F2, b1, b2, b3⟩ := toDVs_sound m _ ts xs _ _ _ _ _ h2 hv.2
          refine ⟨fadd F1 F2, ⟨F1, F2, a1.grow (fun b h => h) (fun b h => Zlent.left (S := S) h), b1.grow (fun b h => h) (fun b h => Zlent.right (S := S) h), rfl⟩, fun b => ?_, a3.mix b3⟩
          have := a2 b; have := b2 b
          rw [sumL_mix]; simp; omega
      · cases he
    · cases he
end
end Go.Proofs.Ytfkejiljabmaaaa.V
