/- What the operations do: what a slice shows, lengths, conversions, arithmetic, against the abstract evaluator. Conditions: the types' table holds of the program. -/
import Derived.Test.YtfkejiljabmaaaaVOpD
import Derived.Laws.BytesString
set_option linter.unusedVariables false
set_option linter.unusedSimpArgs false
namespace Go.Proofs.Ytfkejiljabmaaaa.V
open Go

section
variable {P : Program} {tt : TT} {C : Cx} {S : St} {a : Act} {w : World} {ρ : Place} {Fs : Nat → FP} {n : Nat}

/-! ### What a slice shows -/
theorem ints_cells {w : World} {Z : Zs} {k : IntKind} : ∀ l : List Int, CellsRel w Z (Row.ints k l).cells (l.map fun n => Value.int k n) fz
  | [] => rfl
  | x :: l => ⟨fz, fz, ⟨rfl, rfl⟩, ints_cells l, (fadd_fz _).symm⟩
theorem row_view (m : MRel C S.hp S.nx w ρ Fs) {id e ver : Nat} {r : Row} (h : S.hp id = some (.row e ver r)) : ∃ A cap, hdr (ρ id) r.len = .slice A r.len cap ∧ r.len ≤ cap ∧ (∀ b, A = some b → ∃ b' cap', ρ id = some (b', cap') ∧ cap' = cap ∧ b = ⟨b', 0, none⟩) ∧ (ρ id = none → r.len = 0 ∧ A = none ∧ cap = 0) ∧ (r.len ≠ 0 → ∃ ad, A = some ad ∧ FrzAt w (fun b => C.ZL w (sumTo S.nx Fs) b ∨ 1 ≤ Fs id b) ad r.frz.cells) := by
  rcases m.roots id _ h with ⟨h1, h2, h3⟩ | ⟨b, cap, arr, ty, F', h1, h2, h3, h4, h5, h6⟩
  · simp only [Cx.env] at h1
    refine ⟨none, 0, by rw [h1, h2]; rfl, by omega, fun b hb => (by cases hb), fun _ => ⟨h2, rfl, rfl⟩, fun hn => absurd h2 hn⟩
  · simp only [Cx.env] at h1 h2
    refine ⟨some ⟨b, 0, none⟩, cap, by rw [h1]; rfl, h3, fun b' hb => (by cases hb; exact ⟨b, cap, h1, rfl, rfl⟩), fun hn => (by rw [h1] at hn; cases hn), fun _ => ⟨_, rfl, .inr (by show 1 ≤ Fs id b; rw [h6]; simp), arr.toList, fun j hj => ?_, ?_⟩⟩
    · rw [plain_add, cell?_plain h2]; simp
    · rw [frz_cells]
      exact h5.frz (fun b hb => .inl hb) (fun b' hb => .inr (by rw [h6]; simp; omega))
theorem viewRow_sound (m : MRel C S.hp S.nx w ρ Fs) {x : LV} {r : Row} {rc : List Nat} (he : viewRow S.hp x = some (r, rc)) {v : Value} (hv : LVRel (C.env w ρ S.hp S.nx Fs) x v) : FrzRow w (fun b => C.ZL w (sumTo S.nx Fs) b ∨ ∃ id ∈ rc, 1 ≤ Fs id b) r v := by
  unfold viewRow at he
  split at he
  · rename_i p r'
    cases he
    obtain ⟨A, cap, h1, h2, h3⟩ := hv
    refine ⟨A, cap, h1, h2, fun hn => ?_⟩
    obtain ⟨ad, e, h0, vs, h4, h5⟩ := h3 hn
    have hz : ∀ b, (if p then (C.env w ρ S.hp S.nx Fs).Zf else (C.env w ρ S.hp S.nx Fs).ZL) b → C.ZL w (sumTo S.nx Fs) b := fun b hb => by
      cases p
      · exact hb
      · exact .inr hb
    exact ⟨ad, e, .inl (hz _ h0), vs, h4, h5.mono (fun b hb => ⟨.inl (hz b hb), rfl⟩) (fun b _ => rfl)⟩
  · rename_i id
    split at he
    · rename_i e ver r' hroot
      cases he
      obtain ⟨hlt, hx⟩ := hv
      obtain ⟨r'', e1, e2⟩ := hx _ hroot
      cases e1
      obtain ⟨A, cap, k1, k2, _, _, k3⟩ := row_view m hroot
      refine ⟨A, cap, by rw [e2, frz_len]; exact k1, by rw [frz_len]; exact k2, fun hn => ?_⟩
      rw [frz_len] at hn
      obtain ⟨ad, e, g0, vs, g1, g2⟩ := k3 hn
      have hz : ∀ b, (C.ZL w (sumTo S.nx Fs) b ∨ 1 ≤ Fs id b) → C.ZL w (sumTo S.nx Fs) b ∨ ∃ i ∈ [id], 1 ≤ Fs i b := fun b hb => hb.imp (fun h => h) (fun h => ⟨id, by simp, h⟩)
      exact ⟨ad, e, hz _ g0, vs, g1, g2.mono (fun b hb => ⟨hz b hb, rfl⟩) (fun b _ => rfl)⟩
    · cases he
  · rename_i id lo hi
    split at he
    · rename_i e ver r' hroot
      cases he
      obtain ⟨hlt, hx⟩ := hv
      obtain ⟨r'', e1, l1, l2, e2⟩ := hx _ hroot
      cases e1
      obtain ⟨A, cap, k1, k2, kA, kn, k3⟩ := row_view m hroot
      have := FrzRow_cut (w := w) (Z := fun b => C.ZL w (sumTo S.nx Fs) b ∨ ∃ i ∈ [id], 1 ≤ Fs i b) (r := r'.frz) (A := A) (cap := cap) (by rw [frz_len]; exact k2) (fun hn => by
        rw [frz_len] at hn
        obtain ⟨ad, e, g0, vs, g1, g2⟩ := k3 hn
        have hz : ∀ b, (C.ZL w (sumTo S.nx Fs) b ∨ 1 ≤ Fs id b) → C.ZL w (sumTo S.nx Fs) b ∨ ∃ i ∈ [id], 1 ≤ Fs i b := fun b hb => hb.imp (fun h => h) (fun h => ⟨id, by simp, h⟩)
        exact ⟨ad, e, hz _ g0, vs, g1, g2.mono (fun b hb => ⟨hz b hb, rfl⟩) (fun b _ => rfl)⟩) lo hi l1 (by rw [frz_len]; exact l2)
      rw [e2]
      simp only [Cx.env]
      cases hρ : ρ id with
      | none =>
        obtain ⟨z1, z2, z3⟩ := kn hρ
        have : lo = 0 := by omega
        have : hi = 0 := by omega
        subst lo hi z2 z3
        simpa [subHdr] using this
      | some q =>
        obtain ⟨b, cap'⟩ := q
        rw [hρ] at k1
        simp only [hdr, Value.slice.injEq] at k1
        obtain ⟨rfl, _, rfl⟩ := k1
        simp only [subHdr]
        rw [frz_size] at this
        have e3 : (if cap' = lo then some (⟨b, 0, none⟩ : Addr) else (some (⟨b, 0, none⟩ : Addr)).map (·.add (lo * r'.size))) = some (if cap' = lo then ⟨b, 0, none⟩ else ⟨b, lo * r'.size, none⟩) := by
          split
          · rfl
          · simp [plain_add]
        rw [e3] at this
        exact this
    · cases he
  · rename_i id ver i f
    have fin : ∀ e r', S.hp id = some (.row e ver r') → r'.deep = true → r = .ints .i64 (innerOf r' i f) → rc = [id] → FrzRow w (fun b => C.ZL w (sumTo S.nx Fs) b ∨ ∃ id ∈ rc, 1 ≤ Fs id b) r v := fun e r' hroot _ hr hrc => by
      subst hr hrc
      obtain ⟨hlt, hx⟩ := hv
      obtain ⟨_, _, hx3⟩ := hx _ hroot
      obtain ⟨k1, k2, k4⟩ := hx3 e r' rfl
      obtain ⟨F1, ow, hcell, hle⟩ := inner_hdr m hroot k1 k2 k4
      have hcell : CellRel w (fun b => C.ZL w (sumTo S.nx Fs) b ∨ ∃ i ∈ [id], 1 ≤ Fs i b) (.sl false (innerOf r' i f)) v fz := hcell.frz (fun b hb => .inl hb) (fun b hb => .inr ⟨id, by simp, Nat.le_trans hb (hle b)⟩)
      obtain ⟨_, A, cap, h1, h2, h3⟩ := hcell
      refine ⟨A, cap, h1, h2, fun hn => ?_⟩
      obtain ⟨ad, e1, e2, e3⟩ := h3 (by intro h; rw [h] at hn; exact hn rfl)
      refine ⟨ad, e1, e2, (innerOf r' i f).map (fun n => Value.int .i64 n), fun j hj => ?_, ints_cells _⟩
      simp only [Row.cells, List.length_map] at hj
      rw [e3 j _ (List.getElem?_eq_getElem hj)]
      simp [hj]
    split at he
    · rename_i e v' o l hroot
      obtain ⟨h1, h2⟩ := bif_some he
      have := eq_of_beq h1
      subst this
      cases h2
      exact fin _ _ hroot rfl rfl rfl
    · rename_i e v' sg o l hroot
      obtain ⟨h1, h2⟩ := bif_some he
      have := eq_of_beq h1
      subst this
      cases h2
      exact fin _ _ hroot rfl rfl rfl
    · cases he
  · cases he

/-! ### Lengths -/
theorem lenOf_sound (m : MRel C S.hp S.nx w ρ Fs) {x : LV} {k : Nat} {rl rc : List Nat} (he : lenOf S.hp x = some (k, rl, rc)) {v : Value} (hv : LVRel (C.env w ρ S.hp S.nx Fs) x v) : ∃ A cap, v = .slice A k cap := by
  unfold lenOf at he
  split at he
  · cases he; exact ⟨_, _, hv⟩
  · cases he; obtain ⟨A, cap, h, _⟩ := hv; exact ⟨A, cap, h⟩
  · rename_i id
    split at he
    · rename_i r hr
      cases he
      obtain ⟨root, h1, h2⟩ := row_pos hr
      obtain ⟨_, hx⟩ := hv
      obtain ⟨r', e1, e2⟩ := hx _ h1
      rw [h2] at e1; cases e1
      rw [e2]
      simp only [Cx.env]
      cases hρ : ρ id with
      | none =>
        rcases Nat.eq_zero_or_pos r.len with h0 | h0
        · rw [h0]; exact ⟨_, _, rfl⟩
        · obtain ⟨b, cap, k1, _⟩ := rows_place m h1 h2 h0
          rw [hρ] at k1; cases k1
      | some q => exact ⟨_, _, rfl⟩
    · cases he
  · rename_i id lo hi
    split at he
    · rename_i r hr
      cases he
      obtain ⟨root, h1, h2⟩ := row_pos hr
      obtain ⟨_, hx⟩ := hv
      obtain ⟨r', e1, l1, l2, e2⟩ := hx _ h1
      rw [h2] at e1; cases e1
      rw [e2]
      simp only [Cx.env]
      cases hρ : ρ id with
      | none =>
        rcases Nat.eq_zero_or_pos r.len with h0 | h0
        · have : hi - lo = 0 := by omega
          rw [this]; exact ⟨_, _, rfl⟩
        · obtain ⟨b, cap, k1, _⟩ := rows_place m h1 h2 h0
          rw [hρ] at k1; cases k1
      | some q => exact ⟨_, _, rfl⟩
    · cases he
  · rename_i id ver i f
    have he' : lenOf S.hp (.inner id ver i f) = some (k, rl, rc) := he
    obtain ⟨root, e, r, h1, h2, h3⟩ := inner_len he'
    subst h2
    obtain ⟨_, hx⟩ := hv
    obtain ⟨_, _, hx3⟩ := hx _ h1
    obtain ⟨k1, k2, k4⟩ := hx3 e r rfl
    obtain ⟨F1, ow, hcell, hle⟩ := inner_hdr m h1 k1 k2 k4
    obtain ⟨A, cap, h, _⟩ := sl_hdr hcell
    exact ⟨A, cap, by rw [h3]; exact h⟩
  · cases he

/-! ### Operations -/
theorem evIndex_sound (T : TOK P tt) (h : SRel C S a w ρ Fs) {o : Oper} {t : Nat} {x ix : Operand} (ho : o.op = .index t x ix) {E : Eff} (he : evIndex (R := Eff) tt n t (St.rd C.N S.sl x) (St.rd C.N S.sl ix) some = some E) : ∃ u, Out P C S o E a w w ρ Fs u := by
  unfold evIndex at he
  split at he
  · rename_i s hx
    split at he
    · rename_i sz bs hq
      obtain ⟨k, i, hix, he⟩ := asI_some he
      obtain ⟨hc, he⟩ := chk_some he
      obtain ⟨h0, h1⟩ := and_bool hc
      have h0 := of_decide_eq_true h0
      have h1 := of_decide_eq_true h1
      cases he
      have hv : a.eval x = .string s := rd_l h hx
      have hi : a.eval ix = .int k i := rd_l h hix
      refine ⟨_, Out.pure h rfl ?_ rfl⟩
      simp only [execOp, ho]
      refine run_v ?_
      rw [hv, hi]
      exact run_index_str (T t _ hq).desc s k i h0 h1
    · cases he
  · cases he
theorem scalar_some (T : TOK P tt) {t : Nat} (h : scalarTy tt t = true) : (P.underlying t).isSome = true := by
  obtain ⟨d, h1, _⟩ := scalar_facts T h
  rw [h1]; rfl
theorem strOf_eq (l : List Int) : l.foldl (fun r n => r.push (UInt8.ofNat n.toNat)) ByteArray.empty = strOf l := by
  have : ∀ (l : List Int) (s : ByteArray), l.foldl (fun r n => r.push (UInt8.ofNat n.toNat)) s = ⟨s.data ++ (l.map fun n => UInt8.ofNat n.toNat).toArray⟩ := by
    intro l
    induction l with
    | nil => intro s; simp
    | cons x l ih =>
      intro s
      rw [List.foldl_cons, ih]
      congr 1
      show (s.data.push _) ++ _ = _
      apply Array.ext'
      simp
  rw [this l ByteArray.empty]
  unfold strOf
  congr 1
  apply Array.ext'
  simp
theorem evConvert_sound (T : TOK P tt) (h : SRel C S a w ρ Fs) {o : Oper} {src dst : Nat} {x : Operand} (ho : o.op = .convert src dst x) {E : Eff} (he : evConvert (R := Eff) tt S.hp n src dst (St.rd C.N S.sl x) some = some E) : ∃ u, Out P C S o E a w w ρ Fs u := by
  unfold evConvert at he
  obtain ⟨hs, he⟩ := bif_some he
  have hsome := scalar_some T hs
  have fin : ∀ u, (convert src dst (a.eval x)).run P w = .ok u w → (execOp a.eval o).run P w = .ok (.value u) w := fun u hu => by
    simp only [execOp, ho]; exact run_v hu
  split at he
  · rename_i k n' hx
    have hv : a.eval x = .int k n' := rd_l h hx
    split at he
    · rename_i k' sz bs hq
      cases he
      have hd : P.underlying dst = some (.int k') := (T dst _ hq).desc
      refine ⟨_, Out.pure h rfl (fin _ ?_) rfl⟩
      rw [hv]
      have hk : P.intKind dst = k' := by simp [Program.intKind, hd]
      have := run_convert_int (P := P) w src dst k n' hsome (by rw [hk]; exact hd)
      rw [this, hk]
    · cases he
  · rename_i s hx
    have hv : a.eval x = .string s := rd_l h hx
    split at he
    · rename_i sz bs hq
      cases he
      have hd : P.underlying dst = some .string := (T dst _ hq).desc
      obtain ⟨d, hd'⟩ := Option.isSome_iff_exists.mp hsome
      refine ⟨_, Out.pure h rfl (fin _ ?_) rfl⟩
      rw [hv]
      simp [convert, run_underlying hd', run_underlying hd]
    · cases he
  · rename_i x' _ _ hx
    split at he
    · rename_i sz bs l rc hq hvr
      split at he
      · rename_i sz' bs' hb
        cases he
        obtain ⟨e, he1, he2⟩ := Option.bind_eq_some_iff.1 hb
        have hd : P.underlying dst = some .string := (T dst _ hq).desc
        have hsl := slice_facts T he1
        have hel : P.underlying e = some (.int .u8) := (T e _ he2).desc
        obtain ⟨A, cap, k1, k2, k3⟩ := viewRow_sound h.mem hvr (rd_l h hx)
        refine ⟨_, Out.pure h rfl (fin (.string (strOf l)) ?_) rfl⟩
        rw [k1, run_convert_bytes_string w src dst e A _ cap hsl hel hd]
        simp only [Row.len] at k3 ⊢
        rcases Nat.eq_zero_or_pos l.length with h0 | h0
        · have hl0 : l = [] := List.eq_nil_of_length_eq_zero h0
          subst hl0
          cases A with
          | none => rfl
          | some ad =>
            have := run_bytesToString (P := P) w ad 0 cap [] (run_loadCells_list w ad [] (fun j v hj => by simp at hj))
            exact this
        · obtain ⟨ad, rfl, hz, vs, g1, g2⟩ := k3 (by omega)
          have hcell : ∀ (j : Nat) (v : Value), (l.map (Value.int .u8))[j]? = some v → w.cell? (ad.add j) = some v := fun j v hj => by
            rw [List.getElem?_map] at hj
            cases hlj : l[j]? with
            | none => rw [hlj] at hj; cases hj
            | some z =>
              rw [hlj] at hj
              have hjl : j < l.length := (List.getElem?_eq_some_iff.1 hlj).1
              obtain ⟨v', F1, F2, q1, q2, _⟩ := g2.get (j := j) (c := .sc (.int .u8 z)) (by simp [Row.cells, hlj])
              rw [g1 j (by simpa [Row.cells] using hjl), q1]
              obtain ⟨rfl, _⟩ := q2
              exact hj
          have := run_bytesToString (P := P) w ad l.length cap l (by
            have := run_loadCells_list (P := P) w ad (l.map (Value.int .u8)) hcell
            simpa using this)
          rw [this, strOf_eq]
      · cases he
    · cases he
  · cases he
end
end Go.Proofs.Ytfkejiljabmaaaa.V
