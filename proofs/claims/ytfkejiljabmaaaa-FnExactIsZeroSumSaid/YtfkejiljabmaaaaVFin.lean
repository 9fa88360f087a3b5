/- A call's end: its results, told free of names. Conditions: none. -/
import Derived.Test.YtfkejiljabmaaaaVExp
set_option linter.unusedVariables false
set_option linter.unusedSimpArgs false
namespace Go.Proofs.Ytfkejiljabmaaaa.V
open Go

section
variable {tt : TT} {C : Cx} {S : St} {w : World} {ρ : Place} {Fs : Nat → FP}
/-- What is frozen at the end may be read for good. -/
def Zend (Z : Zs) (Fs : Nat → FP) (fk : List Nat) : Zs := fun b => Z b ∨ 1 ≤ sumL Fs fk b
theorem Zend.left {Z : Zs} {fk fk' : List Nat} {b : Nat} (h : Zend Z Fs fk b) : Zend Z Fs (fk ++ fk') b := h.imp (fun h => h) (fun h => by rw [sumL_append]; omega)
theorem Zend.right {Z : Zs} {fk fk' : List Nat} {b : Nat} (h : Zend Z Fs fk' b) : Zend Z Fs (fk ++ fk') b := h.imp (fun h => h) (fun h => by rw [sumL_append]; omega)
theorem owned_cells {r : Row} (h : r.owned = true) : ∀ c ∈ r.cells, (∃ v, c = .sc v) ∨ ∃ l, c = .sl true l := by
  intro c hc
  cases r with
  | ints k l => simp only [Row.cells, List.mem_map] at hc; obtain ⟨x, _, rfl⟩ := hc; exact .inl ⟨_, rfl⟩
  | bools l => simp only [Row.cells, List.mem_map] at hc; obtain ⟨x, _, rfl⟩ := hc; exact .inl ⟨_, rfl⟩
  | strs l => simp only [Row.cells, List.mem_map] at hc; obtain ⟨x, _, rfl⟩ := hc; exact .inl ⟨_, rfl⟩
  | rows o l => cases o with
    | false => cases h
    | true => simp only [Row.cells, List.mem_map] at hc; obtain ⟨x, _, rfl⟩ := hc; exact .inr ⟨_, rfl⟩
  | recs sg o l => cases o with
    | false => cases h
    | true =>
      simp only [Row.cells, List.mem_flatMap] at hc
      obtain ⟨x, _, hc⟩ := hc
      obtain ⟨j, hj⟩ := List.getElem?_of_mem hc
      rw [recCells_get] at hj
      cases hs : sg[j]? with
      | none => rw [hs] at hj; cases hj
      | some b => rw [hs] at hj; cases b <;> (simp at hj; subst hj) <;> first | exact .inl ⟨_, rfl⟩ | exact .inr ⟨_, rfl⟩
theorem owned_any {w : World} {Z Z' : Zs} : ∀ {cs : List Cell} {vs : List Value} {F : FP}, (∀ c ∈ cs, (∃ v, c = .sc v) ∨ ∃ l, c = .sl true l) → CellsRel w Z cs vs F → CellsRel w Z' cs vs F
  | [], _, _, _, h => h
  | c :: cs, v :: vs, F, hc, ⟨F1, F2, h1, h2, hF⟩ => by
    refine ⟨F1, F2, ?_, owned_any (fun c' hc' => hc c' (by simp [hc'])) h2, hF⟩
    rcases hc c (by simp) with ⟨u, rfl⟩ | ⟨l, rfl⟩ <;> exact h1
/-- An owned row of the call's own, frozen for good. -/
theorem own_frz (m : MRel C S.hp S.nx w ρ Fs) {id e ver : Nat} {r : Row} (hroot : S.hp id = some (.row e ver r)) (Z : Zs) (hz : r.owned = true ∨ ∀ b, C.ZL w (sumTo S.nx Fs) b → Z b) : FrzRow w (Zend Z Fs [id]) r.frz (hdr (ρ id) r.len) := by
  have h1b : ∀ b, 1 ≤ Fs id b → Zend Z Fs [id] b := fun b hb => .inr (by simp [sumL]; exact hb)
  rcases m.roots id _ hroot with ⟨g1, g2, g3⟩ | ⟨b, cap, arr, ty, F', g1, g2, g3, g4, g5, g6⟩
  · simp only [Cx.env] at g1
    rw [g1, show hdr none r.len = .slice none 0 0 from rfl]
    exact nil_frz (by rw [frz_len]; exact g2)
  · simp only [Cx.env] at g1 g2
    rw [g1]
    refine ⟨some ⟨b, 0, none⟩, cap, by rw [frz_len]; rfl, by rw [frz_len]; exact g3, fun _ => ⟨_, rfl, h1b b (by rw [g6]; simp), arr.toList, fun j hj => by rw [plain_add, cell?_plain g2]; simp, ?_⟩⟩
    rw [frz_cells]
    rcases hz with ho | hz
    · exact (owned_any (Z' := Z) (owned_cells ho) g5).frz (fun b hb => .inl hb) (fun b' hb => h1b b' (by rw [g6]; simp; omega))
    · exact g5.frz (fun b hb => .inl (hz b hb)) (fun b' hb => h1b b' (by rw [g6]; simp; omega))
theorem outLeaf_sound (m : MRel C S.hp S.nx w ρ Fs) {oc : Cls} {t : Nat} {x : LV} {d : DL} {ks fk : List Nat} (he : outLeaf tt S.hp oc t x = some (d, ks, fk)) {v : Value} (hv : LVRel (C.env w ρ S.hp S.nx Fs) x v) :
    ∃ F, DLRel w (Zend (C.Zf w (sumTo S.nx Fs)) Fs fk) (Zend (C.ZL w (sumTo S.nx Fs)) Fs fk) d v F ∧ (∀ b, F b ≤ sumL Fs ks b) ∧ RowsAt S.hp (ks ++ fk) := by
  have hz : ∀ b, C.ZL w (sumTo S.nx Fs) b → Zend (C.ZL w (sumTo S.nx Fs)) Fs fk b := fun b hb => .inl hb
  have hzf : ∀ b, C.Zf w (sumTo S.nx Fs) b → Zend (C.Zf w (sumTo S.nx Fs)) Fs fk b := fun b hb => .inl hb
  have hsc : ∀ {d' : DL}, some (d', ([] : List Nat), ([] : List Nat)) = some (d, ks, fk) → DLRel w (Zend (C.Zf w (sumTo S.nx Fs)) Fs fk) (Zend (C.ZL w (sumTo S.nx Fs)) Fs fk) d' v fz → ∃ F, DLRel w (Zend (C.Zf w (sumTo S.nx Fs)) Fs fk) (Zend (C.ZL w (sumTo S.nx Fs)) Fs fk) d v F ∧ (∀ b, F b ≤ sumL Fs ks b) ∧ RowsAt S.hp (ks ++ fk) := fun he hd => by
    simp only [Option.some.injEq, Prod.mk.injEq] at he
    obtain ⟨rfl, rfl, rfl⟩ := he
    exact ⟨fz, hd, fun b => by simp, fun k hk => by simp at hk⟩
  cases x with
  | i k z => exact hsc he ⟨hv, rfl⟩
  | b z => exact hsc he ⟨hv, rfl⟩
  | s z => exact hsc he ⟨hv, rfl⟩
  | er z => cases z <;> exact hsc he ⟨hv, rfl⟩
  | nil =>
    have hv : v = .slice none 0 0 := hv
    simp only [outLeaf] at he
    split at he
    · split at he
      · rename_i r hr
        have h0 := emptyRow_len hr
        cases oc with
        | own => exact hsc he ⟨none, by rw [hv]; rfl, nil_row h0⟩
        | frz => exact hsc he ⟨by rw [hv]; exact nil_frz (by rw [frz_len]; exact h0), rfl⟩
        | lent => exact hsc he ⟨by rw [hv]; exact nil_frz (by rw [frz_len]; exact h0), rfl⟩
      · cases he
    · cases he
  | val p r =>
    cases oc with
    | own => cases he
    | frz =>
      cases p with
      | true => exact hsc he ⟨FrzRow.grow hv hzf, rfl⟩
      | false => cases he
    | lent =>
      refine hsc (d' := .sl .lent r) he ⟨?_, rfl⟩
      cases p with
      | true => exact FrzRow.grow hv (fun b hb => hz b (.inr hb))
      | false => exact FrzRow.grow hv hz
  | own id =>
    simp only [outLeaf] at he
    split at he
    · rename_i e ver r hroot
      obtain ⟨_, hx⟩ := hv
      obtain ⟨r', e1, e2⟩ := hx _ hroot
      cases e1
      simp only [Cx.env] at e2
      have hrow : RowsAt S.hp [id] := fun k hk => by simp at hk; subst hk; exact ⟨_, _, _, hroot⟩
      cases oc with
      | own =>
        have he2 := (bif_some he).2
        clear he
        simp only [Option.some.injEq, Prod.mk.injEq] at he2
        obtain ⟨rfl, rfl, rfl⟩ := he2
        obtain ⟨F, k1, k2⟩ := own_row m hroot (Nat.le_refl r.len)
        rw [take_self] at k1
        exact ⟨F, ⟨ρ id, e2, k1.mono (fun b hb => ⟨hz b hb, rfl⟩) (fun b _ => rfl)⟩, fun b => by have := k2 b; simp [sumL]; exact this, hrow⟩
      | frz =>
        have he1 := (bif_some he).1
        have he2 := (bif_some he).2
        clear he
        simp only [Option.some.injEq, Prod.mk.injEq] at he2
        obtain ⟨rfl, rfl, rfl⟩ := he2
        exact ⟨fz, ⟨by rw [e2]; exact own_frz m hroot _ (.inl he1), rfl⟩, fun b => by simp, hrow⟩
      | lent =>
        simp only [Option.some.injEq, Prod.mk.injEq] at he
        obtain ⟨rfl, rfl, rfl⟩ := he
        exact ⟨fz, ⟨by rw [e2]; exact own_frz m hroot _ (.inr fun b hb => hb), rfl⟩, fun b => by simp, hrow⟩
    · cases he
  | sub id lo hi =>
    cases lo with
    | succ lo => cases he
    | zero =>
      simp only [outLeaf] at he
      split at he
      · rename_i e ver r hroot
        cases oc with
        | own =>
          have he2 := (bif_some he).2
          clear he
          simp only [Option.some.injEq, Prod.mk.injEq] at he2
          obtain ⟨rfl, rfl, rfl⟩ := he2
          obtain ⟨_, hx⟩ := hv
          obtain ⟨r', e1, _, l2, e2⟩ := hx _ hroot
          cases e1
          obtain ⟨F, k1, k2⟩ := own_row m hroot l2
          exact ⟨F, ⟨ρ id, by rw [e2, hdr_sub, take_len, Nat.min_eq_left l2]; rfl, k1.mono (fun b hb => ⟨hz b hb, rfl⟩) (fun b _ => rfl)⟩, fun b => by have := k2 b; simp [sumL]; exact this, fun k hk => by simp at hk; subst hk; exact ⟨_, _, _, hroot⟩⟩
        | frz => cases he
        | lent => cases he
      · cases he
  | _ => cases he
theorem outLeafs_sound (m : MRel C S.hp S.nx w ρ Fs) {oc : Cls} : ∀ (ts : List Nat) (xs : List LV) (ds : List DL) (ks fk : List Nat) (vs : List Value), outLeafs tt S.hp oc ts xs = some (ds, ks, fk) → LVsRel (C.env w ρ S.hp S.nx Fs) xs vs →
    ∃ F, DLsRel w (Zend (C.Zf w (sumTo S.nx Fs)) Fs fk) (Zend (C.ZL w (sumTo S.nx Fs)) Fs fk) ds vs F ∧ (∀ b, F b ≤ sumL Fs ks b) ∧ RowsAt S.hp (ks ++ fk)
  | [], [], ds, ks, fk, vs, he, hv => by
    simp only [outLeafs, Option.some.injEq, Prod.mk.injEq] at he
    obtain ⟨rfl, rfl, rfl⟩ := he
    cases vs with
    | nil => exact ⟨fz, rfl, fun b => by simp, fun k hk => by simp at hk⟩
    | cons v vs => exact absurd hv id
  | [], _ :: _, _, _, _, _, he, _ => by simp [outLeafs] at he
  | _ :: _, [], _, _, _, _, he, _ => by simp [outLeafs] at he
  | t :: ts, x :: xs, ds, ks, fk, vs, he, hv => by
    simp only [outLeafs] at he
    split at he
    · rename_i d ks1 fk1 h1
      split at he
      · rename_i ds2 ks2 fk2 h2
        simp only [Option.some.injEq, Prod.mk.injEq] at he
        obtain ⟨rfl, rfl, rfl⟩ := he
        cases vs with
        | nil => exact absurd hv id
        | cons v vs =>
          obtain ⟨F1, a1, a2, a3⟩ := outLeaf_sound m h1 hv.1
          obtain ⟨F2, b1, b2, b3⟩ := outLeafs_sound m ts xs _ _ _ _ h2 hv.2
          refine ⟨fadd F1 F2, ⟨F1, F2, a1.grow (fun b h => Zend.left h) (fun b h => Zend.left h), b1.grow (fun b h => Zend.right h) (fun b h => Zend.right h), rfl⟩, fun b => ?_, a3.mix b3⟩
          have := a2 b; have := b2 b
          rw [sumL_append]; simp; omega
      · cases he
    · cases he
theorem outArg_sound (m : MRel C S.hp S.nx w ρ Fs) {oc : Cls} {t : Nat} {x : AV} {d : DV} {ks fk : List Nat} (he : outArg tt S.hp oc t x = some (d, ks, fk)) {v : Value} (hv : AVRel (C.env w ρ S.hp S.nx Fs) x v) :
    ∃ F, DVRel w (Zend (C.Zf w (sumTo S.nx Fs)) Fs fk) (Zend (C.ZL w (sumTo S.nx Fs)) Fs fk) d v F ∧ (∀ b, F b ≤ sumL Fs ks b) ∧ RowsAt S.hp (ks ++ fk) := by
  cases x with
  | tup xs => cases he
  | one x =>
    cases x with
    | l x =>
      simp only [outArg] at he
      split at he
      · rename_i d' ks1 fk1 h1
        simp only [Option.some.injEq, Prod.mk.injEq] at he
        obtain ⟨rfl, rfl, rfl⟩ := he
        exact outLeaf_sound m h1 hv
      · cases he
    | agg xs =>
      simp only [outArg] at he
      split at he
      · rename_i d' ks1 fk1 h1
        simp only [Option.some.injEq, Prod.mk.injEq] at he
        obtain ⟨rfl, rfl, rfl⟩ := he
        obtain ⟨vs, rfl, hv⟩ := hv
        obtain ⟨F, a1, a2, a3⟩ := outLeafs_sound m _ _ _ _ _ _ h1 hv
        exact ⟨F, ⟨vs, rfl, a1⟩, a2, a3⟩
      · cases he
theorem outArgs_sound (m : MRel C S.hp S.nx w ρ Fs) {oc : Cls} : ∀ (ts : List Nat) (xs : List AV) (ds : List DV) (ks fk : List Nat) (vs : List Value), outArgs tt S.hp oc ts xs = some (ds, ks, fk) → AVsRel (C.env w ρ S.hp S.nx Fs) xs vs →
    ∃ F, DVsRel w (Zend (C.Zf w (sumTo S.nx Fs)) Fs fk) (Zend (C.ZL w (sumTo S.nx Fs)) Fs fk) ds vs F ∧ (∀ b, F b ≤ sumL Fs ks b) ∧ RowsAt S.hp (ks ++ fk)
  | [], [], ds, ks, fk, vs, he, hv => by
    simp only [outArgs, Option.some.injEq, Prod.mk.injEq] at he
    obtain ⟨rfl, rfl, rfl⟩ := he
    cases vs with
    | nil => exact ⟨fz, rfl, fun b => by simp, fun k hk => by simp at hk⟩
    | cons v vs => exact absurd hv id
  | [], _ :: _, _, _, _, _, he, _ => by simp [outArgs] at he
  | _ :: _, [], _, _, _, _, he, _ => by simp [outArgs] at he
  | t :: ts, x :: xs, ds, ks, fk, vs, he, hv => by
    simp only [outArgs] at he
    split at he
    · rename_i d ks1 fk1 h1
      split at he
      · rename_i ds2 ks2 fk2 h2
        simp only [Option.some.injEq, Prod.mk.injEq] at he
        obtain ⟨rfl, rfl, rfl⟩ := he
        cases vs with
        | nil => exact absurd hv id
        | cons v vs =>
          obtain ⟨F1, a1, a2, a3⟩ := outArg_sound m h1 hv.1
          obtain ⟨F2, b1, b2, b3⟩ := outArgs_sound m ts xs _ _ _ _ h2 hv.2
          refine ⟨fadd F1 F2, ⟨F1, F2, a1.grow (fun b h => Zend.left h) (fun b h => Zend.left h), b1.grow (fun b h => Zend.right h) (fun b h => Zend.right h), rfl⟩, fun b => ?_, a3.mix b3⟩
          have := a2 b; have := b2 b
          rw [sumL_append]; simp; omega
      · cases he
    · cases he
end
end Go.Proofs.Ytfkejiljabmaaaa.V
