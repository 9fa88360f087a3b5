/- What the operations do: addresses, cuts, loads, lengths; against the abstract evaluator. Conditions: the types' table holds of the program. -/
import Derived.Test.YtfkejiljabmaaaaVOpB
set_option linter.unusedVariables false
set_option linter.unusedSimpArgs false
namespace Go.Proofs.Ytfkejiljabmaaaa.V
open Go

section
variable {P : Program} {tt : TT} {C : Cx} {S : St} {a : Act} {w : World} {ρ : Place} {Fs : Nat → FP} {n : Nat}

theorem rd_l (h : SRel C S a w ρ Fs) {x : Operand} {v : LV} (e : St.rd C.N S.sl x = .one (.l v)) : LVRel (C.env w ρ S.hp S.nx Fs) v (a.eval x) := by
  have := h.rd x
  rw [e] at this
  exact this
theorem asI_some {R : Type} {x : AV} {K : Int → Option R} {r : R} (h : asI x K = some r) : ∃ k n, x = .one (.l (.i k n)) ∧ K n = some r := by
  unfold asI at h
  split at h
  · exact ⟨_, _, rfl, h⟩
  · cases h
theorem and_bool {p q : Bool} (h : (p && q) = true) : p = true ∧ q = true := by simpa using h
theorem bif_some {R : Type} {b : Bool} {x : Option R} {r : R} (h : (bif b then x else none) = some r) : b = true ∧ x = some r := by
  cases b
  · cases h
  · exact ⟨rfl, h⟩
theorem slice_facts (T : TOK P tt) {t e : Nat} (h : elemTy tt t = some e) : P.underlying t = some (.slice e) := by
  unfold elemTy at h
  split at h
  · rename_i q1 q2 q3 hq
    cases h
    exact (T t _ hq).desc
  · cases h
theorem elSize_facts (T : TOK P tt) {t n : Nat} (h : elSize tt t = n) (hn : 0 < n) : ∃ e i, P.underlying t = some (.slice e) ∧ P.info? e = some i ∧ i.size = n := by
  unfold elSize at h
  split at h
  · rename_i e q2 q3 hq
    have hd := (T t _ hq).desc
    unfold sizeOf' at h
    split at h
    · rename_i te hte
      obtain ⟨i, h1, h2, _⟩ := (T e te hte).info
      exact ⟨e, i, hd, h1, by omega⟩
    · omega
  · omega
theorem row_pos {hp : Nat → Option Root} {id : Nat} {r : Row} (h : rowAt? hp id = some r) : ∃ root, hp id = some root ∧ root.row? = some r := by
  unfold rowAt? at h
  split at h
  · rename_i e v r' hq; cases h; exact ⟨_, hq, rfl⟩
  · rename_i e v r' i f hq; cases h; exact ⟨_, hq, rfl⟩
  · cases h
theorem rows_place (m : MRel C S.hp S.nx w ρ Fs) {id : Nat} {root : Root} {r : Row} (h : S.hp id = some root) (hr : root.row? = some r) (hl : 0 < r.len) : ∃ b cap, ρ id = some (b, cap) ∧ r.len ≤ cap := by
  have := m.roots id root h
  cases root with
  | row e v r' =>
    cases hr
    rcases this with ⟨_, k, _⟩ | ⟨b, cap, arr, ty, F', k1, k2, k3, _⟩
    · omega
    · exact ⟨b, cap, k1, k3⟩
  | hole e v r' i f =>
    cases hr
    rcases this.2.2 with ⟨_, k, _⟩ | ⟨b, cap, arr, ty, F', k1, k2, k3, _⟩
    · omega
    · exact ⟨b, cap, k1, k3⟩
  | box t c => cases hr
  | ghost => cases hr

/-- The length of a slice inside a row, and its header. -/
theorem inner_len {hp : Nat → Option Root} {id ver i f n : Nat} {rl rc : List Nat} (h : lenOf hp (.inner id ver i f) = some (n, rl, rc)) : ∃ root e r, hp id = some root ∧ root = .row e ver r ∧ n = (innerOf r i f).length := by
  simp only [lenOf] at h
  cases hq : hp id with
  | none => rw [hq] at h; cases h
  | some root =>
    rw [hq] at h
    cases root with
    | hole e v r i' f' => cases h
    | box t c => cases h
    | ghost => cases h
    | row e v r =>
      cases r with
      | ints k l => cases h
      | bools l => cases h
      | strs l => cases h
      | rows o l =>
        obtain ⟨h1, h2⟩ := bif_some h
        have := eq_of_beq h1
        subst this
        cases h2
        exact ⟨_, e, _, rfl, rfl, rfl⟩
      | recs sg o l =>
        obtain ⟨h1, h2⟩ := bif_some h
        have := eq_of_beq h1
        subst this
        cases h2
        exact ⟨_, e, _, rfl, rfl, rfl⟩
/-- The cell of a slice inside a row. -/
theorem inner_cell {r : Row} {i f : Nat} (hd : r.slAt f = true) (hi : i < r.len) : ∃ o, r.cells[i * r.size + f]? = some (.sl o (innerOf r i f)) := by
  cases r with
  | ints k l => cases hd
  | bools l => cases hd
  | strs l => cases hd
  | rows o l =>
    simp [Row.slAt] at hd
    subst hd
    simp [Row.len] at hi
    exact ⟨o, by simp [Row.cells, Row.size, innerOf, hi]⟩
  | recs sg o l =>
    have hf := slAt_lt hd
    simp only [Row.size] at hf ⊢
    simp only [Row.len] at hi
    rw [recs_get sg o l i f hf]
    have e1 : l[i]? = some l[i] := List.getElem?_eq_getElem hi
    have e2 : sg[f]? = some true := by
      simp only [Row.slAt] at hd
      cases e : sg[f]? with
      | none => rw [e] at hd; cases hd
      | some b => rw [e] at hd; simp at hd; rw [hd]
    rw [e1, e2]
    exact ⟨o, by simp [innerOf, hi]⟩
theorem row_cell (m : MRel C S.hp S.nx w ρ Fs) {id e ver : Nat} {r : Row} {j : Nat} {c : Cell} (h : S.hp id = some (.row e ver r)) (hc : r.cells[j]? = some c) : ∃ v F1 b cap, ρ id = some (b, cap) ∧ w.cell? ⟨b, j, none⟩ = some v ∧ CellRel w (C.ZL w (sumTo S.nx Fs)) c v F1 ∧ ∀ b, F1 b ≤ Fs id b := by
  rcases m.roots id _ h with ⟨_, k, _⟩ | ⟨b, cap, arr, ty, F', k1, k2, k3, k4, k5, k6⟩
  · have hl := r.cells_length
    have := (List.getElem?_eq_some_iff.1 hc).1
    rw [hl, k] at this
    simp at this
  · obtain ⟨v, F1, F2, g1, g2, g3, _⟩ := k5.get hc
    refine ⟨v, F1, b, cap, k1, ?_, g2, fun x => by rw [k6, g3]; simp; omega⟩
    have := cell?_plain k2 j
    simp only [Cx.env] at this
    rw [this]
    simpa using g1
theorem szOK_facts (T : TOK P tt) {t : Nat} {r : Row} (h : szOK tt t r = true) : ∃ e i, P.underlying t = some (.slice e) ∧ P.info? e = some i ∧ i.size = r.size := by
  obtain ⟨h1, h2⟩ := and_bool h
  exact elSize_facts T (eq_of_beq h1) (by simpa [Nat.blt_eq] using h2)
theorem elSize_pos (T : TOK P tt) {t n : Nat} (h : (elSize tt t == n) = true) (hn : 0 < n) : ∃ e i, P.underlying t = some (.slice e) ∧ P.info? e = some i ∧ i.size = n := elSize_facts T (eq_of_beq h) hn
theorem inner_hdr (m : MRel C S.hp S.nx w ρ Fs) {id ver i f e : Nat} {r : Row} {v : Value} (h : S.hp id = some (.row e ver r)) (hd : r.slAt f = true) (hi : i < r.len) (hc : cellAt (C.env w ρ S.hp S.nx Fs).w ((C.env w ρ S.hp S.nx Fs).ρ id) (i * r.size + f) = some v) : ∃ F1 o, CellRel w (C.ZL w (sumTo S.nx Fs)) (.sl o (innerOf r i f)) v F1 ∧ ∀ b, F1 b ≤ Fs id b := by
  obtain ⟨o, ho⟩ := inner_cell hd hi
  obtain ⟨v', F1, b, cap, h1, h2, h3, h4⟩ := row_cell m h ho
  simp only [Cx.env, h1, cellAt] at hc
  rw [h2] at hc
  cases hc
  exact ⟨F1, o, h3, h4⟩
theorem sl_hdr {w : World} {Z : Zs} {o : Bool} {l : List Int} {v : Value} {F : FP} (h : CellRel w Z (.sl o l) v F) : ∃ A cap, v = .slice A l.length cap ∧ (0 < l.length → ∃ ad, A = some ad ∧ IntsAt w ad l) := by
  cases o with
  | false =>
    obtain ⟨_, A, cap, hv, _, hl⟩ := h
    refine ⟨A, cap, hv, fun hn => ?_⟩
    obtain ⟨ad, e, _, hi⟩ := hl (by intro hh; subst hh; simp at hn)
    exact ⟨ad, e, hi⟩
  | true =>
    rcases h with ⟨h1, h2, _⟩ | ⟨b, cap, arr, ty, hv, hb, h1, h2, h3, _⟩
    · subst h2; exact ⟨none, 0, h1, fun hn => by simp at hn⟩
    · refine ⟨_, cap, hv, fun _ => ⟨_, rfl, fun j n hj => ?_⟩⟩
      rw [plain_add, Nat.zero_add, cell?_plain hb]
      exact h3 j n hj
theorem evIndexAddr_sound (T : TOK P tt) (h : SRel C S a w ρ Fs) {o : Oper} {t : Nat} {x ix : Operand} (ho : o.op = .indexAddr t x ix) {E : Eff} (he : evIndexAddr (R := Eff) tt S.hp n t (St.rd C.N S.sl x) (St.rd C.N S.sl ix) some = some E) : ∃ u, Out P C S o E a w w ρ Fs u := by
  unfold evIndexAddr at he
  obtain ⟨k, n, hix, he⟩ := asI_some he
  have hiv : a.eval ix = .int k n := rd_l h hix
  have fin : ∀ u, (Instr.indexAt t (a.eval x) (a.eval ix)).run P w = .ok u w → (execOp a.eval o).run P w = .ok (.value u) w := fun u hu => by
    simp only [execOp, ho]; exact run_v hu
  split at he
  · rename_i id hx
    have hxv := rd_l h hx
    split at he
    · rename_i r hr
      obtain ⟨root, hroot, hrow⟩ := row_pos hr
      obtain ⟨hs, he⟩ := bif_some he
      obtain ⟨hc, he⟩ := chk_some he
      obtain ⟨h0, h1⟩ := and_bool hc
      have h0 := of_decide_eq_true h0
      have h1 := of_decide_eq_true h1
      cases he
      obtain ⟨hlt, hx2⟩ := hxv
      obtain ⟨r', e1, hv⟩ := hx2 root hroot
      rw [hrow] at e1; cases e1
      obtain ⟨b, cap, hρ, hcap⟩ := rows_place h.mem hroot hrow (by omega)
      simp only [Cx.env] at hv
      rw [hρ] at hv
      obtain ⟨e, i, g1, g2, g3⟩ := szOK_facts T hs
      refine ⟨_, Out.pure h rfl (fin _ (by rw [hv, hiv]; exact run_indexAt_sl g1 g2 _ _ _ _ _ h0 h1)) ⟨hlt, fun root' hr' => ?_⟩⟩
      simp only [Cx.env] at hr' ⊢
      rw [hroot] at hr'; cases hr'
      exact ⟨r, hrow, by omega, b, cap, hρ, by rw [plain_add, g3]; simp⟩
    · cases he
  · rename_i id lo hi hx
    have hxv := rd_l h hx
    split at he
    · rename_i r hr
      obtain ⟨root, hroot, hrow⟩ := row_pos hr
      obtain ⟨hs, he⟩ := bif_some he
      obtain ⟨hc, he⟩ := chk_some he
      obtain ⟨h0, h1⟩ := and_bool hc
      have h0 := of_decide_eq_true h0
      have h1 := of_decide_eq_true h1
      cases he
      obtain ⟨hlt, hx2⟩ := hxv
      obtain ⟨r', e1, g4, g5, hv⟩ := hx2 root hroot
      rw [hrow] at e1; cases e1
      obtain ⟨b, cap, hρ, hcap⟩ := rows_place h.mem hroot hrow (by omega)
      simp only [Cx.env] at hv
      rw [hρ] at hv
      simp only [subHdr] at hv
      rw [if_neg (by omega)] at hv
      obtain ⟨e, i, g1, g2, g3⟩ := szOK_facts T hs
      refine ⟨_, Out.pure h rfl (fin _ (by rw [hv, hiv]; exact run_indexAt_sl g1 g2 _ _ _ _ _ h0 h1)) ⟨hlt, fun root' hr' => ?_⟩⟩
      simp only [Cx.env] at hr' ⊢
      rw [hroot] at hr'; cases hr'
      exact ⟨r, hrow, by omega, b, cap, hρ, by rw [plain_add, g3]; simp [Nat.add_mul]⟩
    · cases he
  · rename_i p r hx
    obtain ⟨A, cap, hv, hlc, hl⟩ := rd_l h hx
    obtain ⟨hs, he⟩ := bif_some he
    obtain ⟨hc, he⟩ := chk_some he
    obtain ⟨h0, h1⟩ := and_bool hc
    have h0 := of_decide_eq_true h0
    have h1 := of_decide_eq_true h1
    cases he
    obtain ⟨ad, rfl, hfz⟩ := hl (by omega)
    obtain ⟨e, i, g1, g2, g3⟩ := szOK_facts T hs
    refine ⟨_, Out.pure h rfl (fin _ (by rw [hv, hiv]; exact run_indexAt_sl g1 g2 _ _ _ _ _ h0 h1)) ⟨by omega, ad, by rw [g3]; simp, hfz⟩⟩
  · rename_i id ver e f hx
    have hxv := rd_l h hx
    split at he
    · rename_i n' rl rc hr
      obtain ⟨hs, he⟩ := bif_some he
      obtain ⟨hc, he⟩ := chk_some he
      obtain ⟨h0, h1⟩ := and_bool hc
      have h0 := of_decide_eq_true h0
      have h1 := of_decide_eq_true h1
      cases he
      obtain ⟨root, e0, r, hroot, hroot2, hn'⟩ := inner_len hr
      obtain ⟨hlt, hx2⟩ := hxv
      subst hroot2
      obtain ⟨_, hver, hx3⟩ := hx2 _ hroot
      obtain ⟨k1, k2, k4⟩ := hx3 e0 r rfl
      obtain ⟨F1, ow, hcell, _⟩ := inner_hdr h.mem hroot k1 k2 k4
      obtain ⟨A, cap, hv, hA⟩ := sl_hdr hcell
      obtain ⟨A, rfl, hints⟩ := hA (by omega)
      obtain ⟨e', i, g1, g2, g3⟩ := elSize_pos T hs (by omega)
      refine ⟨_, Out.pure h rfl (fin _ (by rw [hv, hiv]; exact run_indexAt_sl g1 g2 _ _ _ _ _ h0 (by omega))) ⟨hlt, fun root' hr' => ?_⟩⟩
      simp only [Cx.env] at hr' ⊢
      rw [hroot] at hr'; cases hr'
      refine ⟨trivial, hver, fun e1 r1 h1' => ?_⟩
      cases h1'
      exact ⟨k1, k2, by omega, A, _, cap, by rw [← hv]; exact k4, by rw [g3]; simp⟩
    · cases he
  · rename_i id m hx
    have hxv := rd_l h hx
    split at he
    · rename_i m' e' q1 q2 r hq hr
      obtain ⟨root, hroot, hrow⟩ := row_pos hr
      obtain ⟨hs, he⟩ := bif_some he
      obtain ⟨hc, he⟩ := chk_some he
      obtain ⟨h0, h1⟩ := and_bool hc
      have h0 := of_decide_eq_true h0
      have h1 := of_decide_eq_true h1
      cases he
      obtain ⟨hlt, hx2⟩ := hxv
      obtain ⟨r', e1, hlen, b, cap, hρ, hv⟩ := hx2 root hroot
      rw [hrow] at e1; cases e1
      simp only [Bool.and_eq_true, beq_iff_eq] at hs
      obtain ⟨⟨hs1, hs2⟩, hs3⟩ := hs
      have hs3 : 0 < r.size := by simpa [Nat.blt_eq] using hs3
      subst hs1
      have hd := (T t _ hq).desc
      have hsz : sizeOf' tt e' ≠ 0 := by rw [hs2]; omega
      unfold sizeOf' at hs2 hsz
      split at hs2
      · rename_i te hte
        obtain ⟨i, g2, g3, _⟩ := (T e' te hte).info
        refine ⟨_, Out.pure h rfl (fin _ (by rw [hv, hiv]; exact run_indexAt_arr hd g2 _ _ _ h0 h1)) ⟨hlt, fun root' hr' => ?_⟩⟩
        simp only [Cx.env] at hr' ⊢
        rw [hroot] at hr'; cases hr'
        exact ⟨r, hrow, by omega, b, cap, hρ, by rw [plain_add, g3, hs2]; simp⟩
      · rename_i hn; rw [hn] at hsz; exact absurd rfl hsz
    · cases he
  · cases he

theorem struct_facts (T : TOK P tt) {t sz bs : Nat} {fs : List (Nat × Nat)} (h : tt t = some ⟨.struct fs, sz, bs⟩) {f off ft : Nat} (hf : fs[f]? = some (off, ft)) : ∃ (fields : Array Field) (fd : Field) (i : TypeInfo), P.underlying t = some (.struct fields) ∧ fields[f]? = some fd ∧ fd.offset = off ∧ fd.type = ft ∧ P.info? ft = some i ∧ i.size ≠ 0 := by
  obtain ⟨fields, h1, h2, h3⟩ := (T t _ h).desc
  have : (fields.toList.map (fun f => (f.offset, f.type)))[f]? = some (off, ft) := by rw [h2]; exact hf
  rw [List.getElem?_map] at this
  cases e : fields.toList[f]? with
  | none => rw [e] at this; cases this
  | some fd =>
    rw [e] at this
    simp at this
    obtain ⟨g1, g2⟩ := this
    obtain ⟨i, g3, g4⟩ := h3 fd (List.mem_of_getElem? e)
    exact ⟨fields, fd, i, h1, by simpa using e, g1, g2, by rw [← g2]; exact g3, g4⟩
theorem evFieldAddr_sound (T : TOK P tt) (h : SRel C S a w ρ Fs) {o : Oper} {t f : Nat} {x : Operand} (ho : o.op = .fieldAddr t x f) {E : Eff} (he : evFieldAddr (R := Eff) tt S.hp n t (St.rd C.N S.sl x) f some = some E) : ∃ u, Out P C S o E a w w ρ Fs u := by
  unfold evFieldAddr at he
  split at he
  · rename_i fs sz bs hq
    split at he
    · rename_i off ft hf
      obtain ⟨fields, fd, i, g1, g2, g3, g4, g5, g6⟩ := struct_facts T hq hf
      have fin : ∀ ad : Addr, a.eval x = .pointer (some ad) → (execOp a.eval o).run P w = .ok (.value (.pointer (some (ad.add off)))) w := fun ad hx => by
        simp only [execOp, ho, hx]
        have := run_fieldAt' (P := P) (w := w) g1 g2 (by rw [g4]; exact g5) g6 ad
        rw [g3] at this
        exact run_v this
      split at he
      · rename_i id k hx
        cases he
        obtain ⟨h1, hre, b, cap, h2, hv⟩ := rd_l h hx
        exact ⟨_, Out.pure h rfl (fin _ hv) ⟨h1, hre, b, cap, h2, by rw [plain_add]⟩⟩
      · rename_i id k g hx
        split at he
        · rename_i r hr
          cases he
          obtain ⟨root, hroot, hrow⟩ := row_pos hr
          obtain ⟨h1, h2⟩ := rd_l h hx
          obtain ⟨r', e1, hlen, b, cap, hρ, hv⟩ := h2 root hroot
          rw [hrow] at e1; cases e1
          refine ⟨_, Out.pure h rfl (fin _ hv) ⟨h1, fun root' hr' => ?_⟩⟩
          simp only [Cx.env] at hr' ⊢
          rw [hroot] at hr'; cases hr'
          exact ⟨r, hrow, hlen, b, cap, hρ, by rw [plain_add, Nat.add_assoc]⟩
        · cases he
      · rename_i p r k g hx
        cases he
        obtain ⟨h1, ad, hv, h3⟩ := rd_l h hx
        exact ⟨_, Out.pure h rfl (fin _ hv) ⟨h1, ad, by rw [add_add, Nat.add_assoc], h3⟩⟩
      · cases he
    · cases he
  · cases he
theorem optI_some {R : Type} {x : Option AV} {d : Int} {K : Int → Option R} {r : R} (h : optI x d K = some r) : (x = none ∧ K d = some r) ∨ ∃ k n, x = some (.one (.l (.i k n))) ∧ K n = some r := by
  unfold optI at h
  split at h
  · exact .inl ⟨rfl, h⟩
  · obtain ⟨k, n, e, h⟩ := asI_some h
    exact .inr ⟨k, n, by rw [e], h⟩
theorem bound_of (h : SRel C S a w ρ Fs) (lo : Option Operand) {d : Nat} {n : Int} (hn : (lo.map (St.rd C.N S.sl) = none ∧ n = d) ∨ ∃ k, lo.map (St.rd C.N S.sl) = some (.one (.l (.i k n)))) (h0 : 0 ≤ n) : boundOf (lo.map a.eval) d n.toNat := by
  cases lo with
  | none =>
    rcases hn with ⟨_, rfl⟩ | ⟨k, e⟩
    · simp [boundOf]
    · cases e
  | some x =>
    rcases hn with ⟨e, _⟩ | ⟨k, e⟩
    · cases e
    · simp at e
      exact ⟨k, n, rd_l h e, h0, rfl⟩
theorem FrzAt_drop {w : World} {Z : Zs} {ad : Addr} {cs : List Cell} (h : FrzAt w Z ad cs) (n : Nat) : FrzAt w Z (ad.add n) (cs.drop n) := by
  obtain ⟨h0, vs, h1, h2⟩ := h
  obtain ⟨F1, h3, h4⟩ := h2.drop n
  have e : F1 = fz := by funext b; have := h4 b; simp at this; exact this
  subst e
  refine ⟨by rw [add_block]; exact h0, vs.drop n, fun j hj => ?_, h3⟩
  rw [add_add, List.getElem?_drop]
  exact h1 (n + j) (by simp at hj; omega)
theorem FrzAt_take {w : World} {Z : Zs} {ad : Addr} {cs : List Cell} (h : FrzAt w Z ad cs) (n : Nat) : FrzAt w Z ad (cs.take n) := by
  obtain ⟨h0, vs, h1, h2⟩ := h
  obtain ⟨F1, h3, h4⟩ := h2.take n
  have e : F1 = fz := by funext b; have := h4 b; simp at this; exact this
  subst e
  refine ⟨h0, vs.take n, fun j hj => ?_, h3⟩
  simp at hj
  rw [List.getElem?_take, if_pos (by omega)]
  exact h1 j (by omega)
theorem FrzRow_cut {w : World} {Z : Zs} {r : Row} {A : Option Addr} {cap : Nat} (hlc : r.len ≤ cap) (h : r.len ≠ 0 → ∃ ad, A = some ad ∧ FrzAt w Z ad r.cells) (lo hi : Nat) (h1 : lo ≤ hi) (h2 : hi ≤ r.len) : FrzRow w Z ((r.take hi).drop lo) (.slice (if cap = lo then A else A.map (·.add (lo * r.size))) (hi - lo) (cap - lo)) := by
  refine ⟨_, _, by rw [drop_len, take_len, Nat.min_eq_left h2], by rw [drop_len, take_len, Nat.min_eq_left h2]; omega, fun hn => ?_⟩
  rw [drop_len, take_len, Nat.min_eq_left h2] at hn
  obtain ⟨ad, rfl, hf⟩ := h (by omega)
  refine ⟨ad.add (lo * r.size), by rw [if_neg (by omega)]; rfl, ?_⟩
  rw [drop_cells, take_cells, take_size]
  exact FrzAt_drop (FrzAt_take hf _) _
theorem evSlice_sound (T : TOK P tt) (h : SRel C S a w ρ Fs) {o : Oper} {t : Nat} {x : Operand} {lo hi : Option Operand} (ho : o.op = .slice t x lo hi none) {E : Eff} (he : evSlice (R := Eff) tt S.hp n t (St.rd C.N S.sl x) (lo.map (St.rd C.N S.sl)) (hi.map (St.rd C.N S.sl)) some = some E) : ∃ u, Out P C S o E a w w ρ Fs u := by
  have fin : ∀ u, (Instr.sliceAt t (a.eval x) (lo.map a.eval) (hi.map a.eval) none).run P w = .ok u w → (execOp a.eval o).run P w = .ok (.value u) w := fun u hu => by
    simp only [execOp, ho]; exact run_v hu
  unfold evSlice at he
  split at he
  · rename_i s hx
    split at he
    · rename_i sz bs hq
      have hd := (T t _ hq).desc
      have hv : a.eval x = .string s := rd_l h hx
      have core : ∀ hh : Int, ((hi.map (St.rd C.N S.sl) = none ∧ hh = s.size) ∨ ∃ k, hi.map (St.rd C.N S.sl) = some (.one (.l (.i k hh)))) → chk (decide (0 ≤ hh) && decide (hh ≤ s.size)) (optI (lo.map (St.rd C.N S.sl)) 0 fun l => chk (decide (0 ≤ l) && decide (l ≤ hh)) (ret1 n (.l (.s (s.extract l.toNat hh.toNat))) some)) = some E → ∃ u, Out P C S o E a w w ρ Fs u := by
        intro hh hhi he
        obtain ⟨hc, he⟩ := chk_some he
        obtain ⟨c1, c2⟩ := and_bool hc
        have c1 := of_decide_eq_true c1
        have c2 := of_decide_eq_true c2
        have core2 : ∀ l : Int, ((lo.map (St.rd C.N S.sl) = none ∧ l = (0 : Nat)) ∨ ∃ k, lo.map (St.rd C.N S.sl) = some (.one (.l (.i k l)))) → chk (decide (0 ≤ l) && decide (l ≤ hh)) (ret1 n (.l (.s (s.extract l.toNat hh.toNat))) some) = some E → ∃ u, Out P C S o E a w w ρ Fs u := by
          intro l hl he
          obtain ⟨hc, he⟩ := chk_some he
          obtain ⟨d1, d2⟩ := and_bool hc
          have d1 := of_decide_eq_true d1
          have d2 := of_decide_eq_true d2
          cases he
          refine ⟨_, Out.pure h rfl (fin _ (by rw [hv]; exact run_slice_str hd s _ _ l.toNat hh.toNat (bound_of h lo hl d1) (bound_of h hi hhi c1) (by omega) (by omega))) rfl⟩
        rcases optI_some he with ⟨e, he⟩ | ⟨k, l, e, he⟩
        · exact core2 _ (.inl ⟨e, rfl⟩) he
        · exact core2 _ (.inr ⟨k, e⟩) he
      rcases optI_some he with ⟨e, he⟩ | ⟨k, l, e, he⟩
      · exact core _ (.inl ⟨e, rfl⟩) he
      · exact core _ (.inr ⟨k, e⟩) he
    · cases he
  · rename_i id hx
    split at he
    · rename_i r hr
      obtain ⟨root, hroot, hrow⟩ := row_pos hr
      obtain ⟨hs, he⟩ := bif_some he
      obtain ⟨e, i, g1, g2, g3⟩ := szOK_facts T hs
      obtain ⟨hlt, hx2⟩ := rd_l h hx
      obtain ⟨r', e1, hv⟩ := hx2 root hroot
      rw [hrow] at e1; cases e1
      simp only [Cx.env] at hv
      have hplace : ∃ A cap, hdr (ρ id) r.len = .slice A r.len cap ∧ r.len ≤ cap ∧ ∀ lo hi : Nat, lo ≤ hi → hi ≤ r.len → Value.slice (if cap = lo then A else A.map (·.add (lo * r.size))) (hi - lo) (cap - lo) = subHdr (ρ id) r.size lo hi := by
        cases hρ : ρ id with
        | none =>
          have hl0 : r.len = 0 := by
            rcases Nat.eq_zero_or_pos r.len with k | k
            · exact k
            · obtain ⟨b, cap, k1, _⟩ := rows_place h.mem hroot hrow k
              rw [hρ] at k1; cases k1
          refine ⟨none, 0, by simp [hdr, hl0], by omega, fun lo hi q1 q2 => ?_⟩
          have e1 : lo = 0 := by omega
          have e2 : hi = 0 := by omega
          subst e1; subst e2
          simp [subHdr]
        | some q =>
          obtain ⟨b, cap⟩ := q
          have hcap : r.len ≤ cap := by
            rcases Nat.eq_zero_or_pos r.len with k | k
            · omega
            · obtain ⟨b', cap', k1, k2⟩ := rows_place h.mem hroot hrow k
              rw [hρ] at k1; cases k1; exact k2
          refine ⟨some ⟨b, 0, none⟩, cap, rfl, hcap, fun lo hi q1 q2 => ?_⟩
          simp only [subHdr]
          by_cases e : cap = lo
          · simp [e]
          · simp [e, plain_add]
      obtain ⟨A, cap, hh1, hh2, hh3⟩ := hplace
      rw [hh1] at hv
      have core : ∀ hq : Int, ((hi.map (St.rd C.N S.sl) = none ∧ hq = r.len) ∨ ∃ k, hi.map (St.rd C.N S.sl) = some (.one (.l (.i k hq)))) → chk (decide (0 ≤ hq) && decide (hq ≤ r.len)) (optI (lo.map (St.rd C.N S.sl)) 0 fun l => chk (decide (0 ≤ l) && decide (l ≤ hq)) (some ⟨.l (.sub id l.toNat hq.toNat), [], n, [id], []⟩)) = some E → ∃ u, Out P C S o E a w w ρ Fs u := by
        intro hq hhi he
        obtain ⟨hc, he⟩ := chk_some he
        obtain ⟨c1, c2⟩ := and_bool hc
        have c1 := of_decide_eq_true c1
        have c2 := of_decide_eq_true c2
        have core2 : ∀ l : Int, ((lo.map (St.rd C.N S.sl) = none ∧ l = (0 : Nat)) ∨ ∃ k, lo.map (St.rd C.N S.sl) = some (.one (.l (.i k l)))) → chk (decide (0 ≤ l) && decide (l ≤ hq)) (some (⟨.l (.sub id l.toNat hq.toNat), [], n, [id], []⟩ : Eff)) = some E → ∃ u, Out P C S o E a w w ρ Fs u := by
          intro l hl he
          obtain ⟨hc, he⟩ := chk_some he
          obtain ⟨d1, d2⟩ := and_bool hc
          have d1 := of_decide_eq_true d1
          have d2 := of_decide_eq_true d2
          cases he
          refine ⟨_, Out.pure h rfl (fin _ (by rw [hv]; exact run_slice_sl g1 g2 A r.len cap _ _ l.toNat hq.toNat (bound_of h lo hl d1) (bound_of h hi hhi c1) (by omega) (by omega))) ⟨hlt, fun root' hr' => ?_⟩⟩
          simp only [Cx.env] at hr' ⊢
          rw [hroot] at hr'; cases hr'
          exact ⟨r, hrow, by omega, by omega, by rw [g3]; exact hh3 _ _ (by omega) (by omega)⟩
        rcases optI_some he with ⟨e, he⟩ | ⟨k, l, e, he⟩
        · exact core2 _ (.inl ⟨e, rfl⟩) he
        · exact core2 _ (.inr ⟨k, e⟩) he
      split at he
      · rename_i e1 e2
        cases he
        have l0 : boundOf (lo.map a.eval) 0 0 := by cases lo <;> first | rfl | cases e1
        have l1 : boundOf (hi.map a.eval) r.len r.len := by cases hi <;> first | rfl | cases e2
        refine ⟨_, Out.pure h rfl (fin _ (by rw [hv]; exact run_slice_sl g1 g2 A r.len cap _ _ 0 r.len l0 l1 (by omega) hh2)) ⟨hlt, fun root' hr' => ?_⟩⟩
        simp only [Cx.env] at hr' ⊢
        rw [hroot] at hr'; cases hr'
        refine ⟨r, hrow, ?_⟩
        rw [hh1]
        by_cases e : cap = 0
        · simp [e]
        · cases A <;> simp [e, add_zero]
      · rcases optI_some he with ⟨e, he⟩ | ⟨k, l, e, he⟩
        · exact core _ (.inl ⟨e, rfl⟩) he
        · exact core _ (.inr ⟨k, e⟩) he
    · cases he
  · rename_i p r hx
    obtain ⟨hs, he⟩ := bif_some he
    obtain ⟨e, i, g1, g2, g3⟩ := szOK_facts T hs
    obtain ⟨A, cap, hv, hlc, hl⟩ := rd_l h hx
    have core : ∀ l hq : Int, ((lo.map (St.rd C.N S.sl) = none ∧ l = (0 : Nat)) ∨ ∃ k, lo.map (St.rd C.N S.sl) = some (.one (.l (.i k l)))) → ((hi.map (St.rd C.N S.sl) = none ∧ hq = r.len) ∨ ∃ k, hi.map (St.rd C.N S.sl) = some (.one (.l (.i k hq)))) → 0 ≤ l → l ≤ hq → hq ≤ r.len → ∃ u, (execOp a.eval o).run P w = .ok (.value u) w ∧ FrzRow (C.env w ρ S.hp S.nx Fs).w (if p then (C.env w ρ S.hp S.nx Fs).Zf else (C.env w ρ S.hp S.nx Fs).ZL) ((r.take hq.toNat).drop l.toNat) u := by
      intro l hq k1 k2 k3 k4 k5
      refine ⟨_, fin _ (by rw [hv]; exact run_slice_sl g1 g2 A r.len cap _ _ l.toNat hq.toNat (bound_of h lo k1 k3) (bound_of h hi k2 (by omega)) (by omega) (by omega)), ?_⟩
      rw [g3]
      exact FrzRow_cut hlc hl _ _ (by omega) (by omega)
    have t1 : r.take r.len = r := by cases r <;> simp [Row.take, Row.len]
    have t2 : ∀ r : Row, r.drop 0 = r := fun r => by cases r <;> simp [Row.drop]
    split at he
    · rename_i e1 e2
      cases he
      obtain ⟨u, k1, k2⟩ := core 0 r.len (.inl ⟨e1, rfl⟩) (.inl ⟨e2, rfl⟩) (by omega) (by omega) (by omega)
      refine ⟨u, Out.pure h rfl k1 ?_⟩
      have e3 : (r.take ((r.len : Int)).toNat).drop (0 : Int).toNat = r := by simp [t1, t2]
      rw [e3] at k2
      exact k2
    · rename_i hq e1 e2
      obtain ⟨k, n, e3, he⟩ := asI_some he
      obtain ⟨hc, he⟩ := chk_some he
      obtain ⟨c1, c2⟩ := and_bool hc
      have c1 := of_decide_eq_true c1
      have c2 := of_decide_eq_true c2
      cases he
      obtain ⟨u, k1, k2⟩ := core 0 n (.inl ⟨e1, rfl⟩) (.inr ⟨k, by rw [e2, e3]⟩) (by omega) (by omega) (by omega)
      refine ⟨u, Out.pure h rfl k1 ?_⟩
      have e3 : (r.take n.toNat).drop (0 : Int).toNat = r.take n.toNat := by simp [t2]
      rw [e3] at k2
      exact k2
    · rename_i lq e1 e2
      obtain ⟨k, n, e3, he⟩ := asI_some he
      obtain ⟨hc, he⟩ := chk_some he
      obtain ⟨c1, c2⟩ := and_bool hc
      have c1 := of_decide_eq_true c1
      have c2 := of_decide_eq_true c2
      cases he
      obtain ⟨u, k1, k2⟩ := core n r.len (.inr ⟨k, by rw [e1, e3]⟩) (.inl ⟨e2, rfl⟩) (by omega) (by omega) (by omega)
      refine ⟨u, Out.pure h rfl k1 ?_⟩
      have e3 : (r.take ((r.len : Int)).toNat) = r := by simp [t1]
      rw [e3] at k2
      exact k2
    · rename_i lq hq e1 e2
      obtain ⟨k, n, e3, he⟩ := asI_some he
      obtain ⟨hc, he⟩ := chk_some he
      obtain ⟨c1, c2⟩ := and_bool hc
      have c1 := of_decide_eq_true c1
      have c2 := of_decide_eq_true c2
      obtain ⟨k', m, e4, he⟩ := asI_some he
      obtain ⟨hc, he⟩ := chk_some he
      obtain ⟨d1, d2⟩ := and_bool hc
      have d1 := of_decide_eq_true d1
      have d2 := of_decide_eq_true d2
      cases he
      obtain ⟨u, k1, k2⟩ := core m n (.inr ⟨k', by rw [e1, e4]⟩) (.inr ⟨k, by rw [e2, e3]⟩) (by omega) (by omega) (by omega)
      exact ⟨u, Out.pure h rfl k1 k2⟩
  · cases he
end
end Go.Proofs.Ytfkejiljabmaaaa.V
