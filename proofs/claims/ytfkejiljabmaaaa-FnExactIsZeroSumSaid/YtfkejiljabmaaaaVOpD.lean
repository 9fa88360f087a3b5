/- What the operations do: loads, lengths, conversions, against the abstract evaluator. Conditions: the types' table holds of the program. -/
import Derived.Test.YtfkejiljabmaaaaVOpC
set_option linter.unusedVariables false
set_option linter.unusedSimpArgs false
namespace Go.Proofs.Ytfkejiljabmaaaa.V
open Go

section
variable {P : Program} {tt : TT} {C : Cx} {S : St} {a : Act} {w : World} {ρ : Place} {Fs : Nat → FP} {n : Nat}

theorem scalar_facts (T : TOK P tt) {t : Nat} (h : scalarTy tt t = true) : ∃ d, P.underlying t = some d ∧ aggD d = false := by
  unfold scalarTy at h
  split at h
  all_goals first
    | (rename_i hq; have hd := (T t _ hq).desc; first | exact ⟨_, hd, rfl⟩ | (obtain ⟨ms, hd⟩ := hd; exact ⟨_, hd, rfl⟩))
    | cases h
theorem isStruct_facts (T : TOK P tt) {t : Nat} (h : isStruct tt t = true) : ∃ (fields : Array Field) (i : TypeInfo), P.underlying t = some (.struct fields) ∧ P.info? t = some i ∧ i.size = sizeOf' tt t := by
  unfold isStruct at h
  split at h
  · rename_i fs sz bs hq
    obtain ⟨fields, hd, _⟩ := (T t _ hq).desc
    obtain ⟨i, h1, h2, _⟩ := (T t _ hq).info
    exact ⟨fields, i, hd, h1, by rw [h2]; simp [sizeOf', hq]⟩
  · cases h
theorem LVsRel.get {E : Env} : ∀ {xs : List LV} {vs : List Value}, LVsRel E xs vs → ∀ {j : Nat} {x : LV}, xs[j]? = some x → ∃ v, vs[j]? = some v ∧ LVRel E x v
  | x :: xs, v :: vs, h, 0, y, hy => by simp at hy; subst hy; exact ⟨v, rfl, h.1⟩
  | x :: xs, v :: vs, h, j + 1, y, hy => by simpa using LVsRel.get h.2 (j := j) (by simpa using hy)
theorem LVsRel.length {E : Env} : ∀ {xs : List LV} {vs : List Value}, LVsRel E xs vs → xs.length = vs.length
  | [], [], _ => rfl
  | x :: xs, v :: vs, h => by simp [LVsRel.length h.2]
theorem LVsRel.take {E : Env} : ∀ {xs : List LV} {vs : List Value} (n : Nat), LVsRel E xs vs → LVsRel E (xs.take n) (vs.take n)
  | [], [], n, h => by simp [LVsRel]
  | x :: xs, v :: vs, 0, h => by simp [LVsRel]
  | x :: xs, v :: vs, n + 1, h => ⟨h.1, LVsRel.take n h.2⟩
theorem LVsRel.drop {E : Env} : ∀ {xs : List LV} {vs : List Value} (n : Nat), LVsRel E xs vs → LVsRel E (xs.drop n) (vs.drop n)
  | [], [], n, h => by simp [LVsRel]
  | x :: xs, v :: vs, 0, h => h
  | x :: xs, v :: vs, n + 1, h => LVsRel.drop n h.2

/-- The value of a cell of a row of the call's own, as loaded. -/
theorem loadOwn_cell {E : Env} {id ver e i f : Nat} {r : Row} (hid : id < E.nx) (hroot : E.hp id = some (.row e ver r)) {b cap : Nat} (hρ : E.ρ id = some (b, cap)) (hi : i < r.len) (hf : f < r.size) {v : Value} {F : FP} {c : Cell} (hc : r.cells[i * r.size + f]? = some c) (hv : E.w.cell? ⟨b, i * r.size + f, none⟩ = some v) (hr : CellRel E.w E.ZL c v F) (hs : r.isRecs = false ∨ True) : AVRel E (loadOwn id ver i r f false) v := by
  have inner : r.slAt f = true → LVRel E (.inner id ver i f) v := fun hsl => ⟨hid, fun root hr' => by
    rw [hroot] at hr'; cases hr'
    refine ⟨trivial, Nat.le_refl _, fun e' r' he => ?_⟩
    cases he
    exact ⟨hsl, hi, by rw [hρ]; exact hv⟩⟩
  cases r with
  | ints k l =>
    simp [Row.size] at hf; subst hf
    simp [Row.len] at hi
    simp [Row.cells, Row.size, hi] at hc
    subst hc
    obtain ⟨h1, _⟩ := hr
    show v = _
    rw [h1]; simp [hi]
  | bools l =>
    simp [Row.size] at hf; subst hf
    simp [Row.len] at hi
    simp [Row.cells, Row.size, hi] at hc
    subst hc
    obtain ⟨h1, _⟩ := hr
    show v = _
    rw [h1]; simp [hi]
  | strs l =>
    simp [Row.size] at hf; subst hf
    simp [Row.len] at hi
    simp [Row.cells, Row.size, hi] at hc
    subst hc
    obtain ⟨h1, _⟩ := hr
    show v = _
    rw [h1]; simp [hi]
  | rows o l =>
    simp [Row.size] at hf; subst hf
    exact inner rfl
  | recs sg o l =>
    have hf' := hf
    simp only [Row.size] at hf hc
    simp only [Row.len] at hi
    have e2 : sg[f]? = some sg[f] := List.getElem?_eq_getElem hf
    cases hb : sg[f] with
    | true =>
      rw [hb] at e2
      show AVRel E (match sg[f]? with | some true => _ | some false => _ | none => _) v
      rw [e2]
      exact inner (by simp [Row.slAt, e2])
    | false =>
      rw [hb] at e2
      show AVRel E (match sg[f]? with | some true => _ | some false => _ | none => _) v
      rw [e2]
      rw [recs_get sg o l i f hf, e2, List.getElem?_eq_getElem hi] at hc
      simp at hc
      subst hc
      obtain ⟨h1, _⟩ := hr
      show v = _
      rw [h1]; simp [hi]
theorem loadVal_cell {E : Env} {p : Bool} {i f : Nat} {r : Row} (hi : i < r.len) (hf : f < r.size) {v : Value} {c : Cell} (hc : r.cells[i * r.size + f]? = some c) (hr : CellRel E.w (if p then E.Zf else E.ZL) c v fz) : AVRel E (loadVal p i r f false) v := by
  have inner : ∀ o l, c = .sl o l → LVRel E (.val p (.ints .i64 l)) v := fun o l hcc => by
    subst hcc
    have hr' : CellRel E.w (if p then E.Zf else E.ZL) (.sl false l) v fz := by
      cases o with
      | false => exact hr
      | true => exact hr.frz (fun b hb => hb) (fun b hb => by simp at hb)
    obtain ⟨_, A, cap, h1, h2, h3⟩ := hr'
    refine ⟨A, cap, h1, h2, fun hn => ?_⟩
    obtain ⟨ad, e1, e2, e3⟩ := h3 (by intro h; subst h; exact hn rfl)
    refine ⟨ad, e1, e2, l.map (fun n => Value.int .i64 n), fun j hj => ?_, ?_⟩
    · simp [Row.cells] at hj
      rw [e3 j l[j] (List.getElem?_eq_getElem hj)]
      simp [hj]
    · simp only [Row.cells]
      clear h1 h2 h3 e3 hn hr hc
      induction l with
      | nil => rfl
      | cons n l ih => exact ⟨fz, fz, ⟨rfl, rfl⟩, ih, (fadd_fz _).symm⟩
  cases r with
  | ints k l =>
    simp [Row.size] at hf; subst hf
    simp [Row.len] at hi
    simp [Row.cells, Row.size, hi] at hc
    subst hc
    obtain ⟨h1, _⟩ := hr
    show v = _
    rw [h1]; simp [hi]
  | bools l =>
    simp [Row.size] at hf; subst hf
    simp [Row.len] at hi
    simp [Row.cells, Row.size, hi] at hc
    subst hc
    obtain ⟨h1, _⟩ := hr
    show v = _
    rw [h1]; simp [hi]
  | strs l =>
    simp [Row.size] at hf; subst hf
    simp [Row.len] at hi
    simp [Row.cells, Row.size, hi] at hc
    subst hc
    obtain ⟨h1, _⟩ := hr
    show v = _
    rw [h1]; simp [hi]
  | rows o l =>
    simp [Row.size] at hf; subst hf
    simp [Row.len] at hi
    simp [Row.cells, Row.size, hi] at hc
    have := inner o l[i] hc.symm
    show LVRel E (.val p (.ints .i64 (l.getD i []))) v
    simpa [hi] using this
  | recs sg o l =>
    simp only [Row.size] at hf hc
    simp only [Row.len] at hi
    have e2 : sg[f]? = some sg[f] := List.getElem?_eq_getElem hf
    rw [recs_get sg o l i f hf, e2, List.getElem?_eq_getElem hi] at hc
    cases hb : sg[f] with
    | true =>
      rw [hb] at e2
      show AVRel E (match sg[f]? with | some true => _ | some false => _ | none => _) v
      rw [e2]
      simp [hb] at hc
      have := inner o (gl l[i] f) hc.symm
      show LVRel E (.val p (.ints .i64 (gl (l.getD i []) f))) v
      simpa [hi] using this
    | false =>
      rw [hb] at e2
      show AVRel E (match sg[f]? with | some true => _ | some false => _ | none => _) v
      rw [e2]
      simp [hb] at hc
      subst hc
      obtain ⟨h1, _⟩ := hr
      show v = _
      rw [h1]; simp [hi]
theorem LVsRel.of {E : Env} : ∀ {xs : List LV} {vs : List Value}, xs.length = vs.length → (∀ (j : Nat) (x : LV) (v : Value), xs[j]? = some x → vs[j]? = some v → LVRel E x v) → LVsRel E xs vs
  | [], [], _, _ => trivial
  | [], _ :: _, h, _ => by simp at h
  | _ :: _, [], h, _ => by simp at h
  | x :: xs, v :: vs, h, hh => ⟨hh 0 x v rfl rfl, LVsRel.of (by simpa using h) (fun j y u h1 h2 => hh (j + 1) y u (by simpa using h1) (by simpa using h2))⟩
theorem rec_lt {n i len : Nat} (hi : i < len) : i * n + n ≤ len * n := by
  have : (i + 1) * n ≤ len * n := Nat.mul_le_mul_right _ hi
  rw [Nat.succ_mul] at this
  exact this
theorem recs_len (sg : List Bool) (o : Bool) (l : List (List Leaf)) : (Row.recs sg o l).cells.length = l.length * sg.length := Row.cells_length _
theorem agg_own {E : Env} {id ver e i : Nat} {sg : List Bool} {o : Bool} {l : List (List Leaf)} (hid : id < E.nx) (hroot : E.hp id = some (.row e ver (.recs sg o l))) {b cap : Nat} (hρ : E.ρ id = some (b, cap)) (hi : i < l.length) {arr : List Value} {F : FP} (hcs : CellsRel E.w E.ZL (Row.recs sg o l).cells arr F) (hb : ∀ j v, arr[j]? = some v → E.w.cell? ⟨b, j, none⟩ = some v) :
    ∃ vs : List Value, vs.length = sg.length ∧ (∀ j v, vs[j]? = some v → E.w.cell? ⟨b, i * sg.length + j, none⟩ = some v) ∧ LVsRel E (sg.zipIdx.map fun (b, f) => bif b then .inner id ver i f else .i .i64 (gi (l.getD i []) f)) vs := by
  have hlen := hcs.length
  rw [recs_len] at hlen
  have hle := rec_lt (n := sg.length) hi
  have hvl : ((arr.drop (i * sg.length)).take sg.length).length = sg.length := by simp; omega
  have hat : ∀ j v, ((arr.drop (i * sg.length)).take sg.length)[j]? = some v → j < sg.length ∧ arr[i * sg.length + j]? = some v := fun j v hj => by
    rw [List.getElem?_take] at hj
    split at hj
    · rw [List.getElem?_drop] at hj; exact ⟨‹_›, hj⟩
    · cases hj
  refine ⟨(arr.drop (i * sg.length)).take sg.length, hvl, fun j v hj => hb _ _ (hat j v hj).2, LVsRel.of (by simp; omega) fun j x v hx hv => ?_⟩
  obtain ⟨hj, hv⟩ := hat j v hv
  have hjl : i * sg.length + j < (Row.recs sg o l).cells.length := by rw [recs_len]; omega
  obtain ⟨v', F1, F2, k1, k2, k3, _⟩ := hcs.get (List.getElem?_eq_getElem hjl)
  rw [hv] at k1; cases k1
  have := loadOwn_cell (r := .recs sg o l) (f := j) (ver := ver) hid hroot hρ hi hj (List.getElem?_eq_getElem hjl) (hb _ _ hv) k2 (.inr trivial)
  have e2 : sg[j]? = some sg[j] := List.getElem?_eq_getElem hj
  simp only [List.getElem?_map, List.getElem?_zipIdx, e2, Option.map_some, Option.some.injEq, Nat.zero_add] at hx
  subst hx
  simp only [loadOwn, cond_false, e2] at this
  cases hb : sg[j] <;> rw [hb] at this <;> exact this
theorem agg_val {E : Env} {p : Bool} {i : Nat} {sg : List Bool} {o : Bool} {l : List (List Leaf)} (hi : i < l.length) {arr : List Value} (hcs : CellsRel E.w (if p then E.Zf else E.ZL) (Row.recs sg o l).cells arr fz) :
    LVsRel E (sg.zipIdx.map fun (b, f) => bif b then .val p (.ints .i64 (gl (l.getD i []) f)) else .i .i64 (gi (l.getD i []) f)) ((arr.drop (i * sg.length)).take sg.length) := by
  have hlen := hcs.length
  rw [recs_len] at hlen
  have hle := rec_lt (n := sg.length) hi
  have hat : ∀ j v, ((arr.drop (i * sg.length)).take sg.length)[j]? = some v → j < sg.length ∧ arr[i * sg.length + j]? = some v := fun j v hj => by
    rw [List.getElem?_take] at hj
    split at hj
    · rw [List.getElem?_drop] at hj; exact ⟨‹_›, hj⟩
    · cases hj
  refine LVsRel.of (by simp; omega) fun j x v hx hv => ?_
  obtain ⟨hj, hv⟩ := hat j v hv
  have hjl : i * sg.length + j < (Row.recs sg o l).cells.length := by rw [recs_len]; omega
  obtain ⟨v', F1, F2, k1, k2, k3, _⟩ := hcs.get (List.getElem?_eq_getElem hjl)
  have hF1 : F1 = fz := by
    funext q
    have := congrFun k3 q
    simp at this ⊢
    omega
  subst hF1
  rw [hv] at k1; cases k1
  have := loadVal_cell (E := E) (p := p) (r := .recs sg o l) (f := j) hi hj (List.getElem?_eq_getElem hjl) k2
  have e2 : sg[j]? = some sg[j] := List.getElem?_eq_getElem hj
  simp only [List.getElem?_map, List.getElem?_zipIdx, e2, Option.map_some, Option.some.injEq, Nat.zero_add] at hx
  subst hx
  simp only [loadVal, cond_false, e2] at this
  cases hb : sg[j] <;> rw [hb] at this <;> exact this
theorem isRecs_facts {r : Row} (h : r.isRecs = true) : ∃ sg o l, r = .recs sg o l := by
  cases r <;> first | exact ⟨_, _, _, rfl⟩ | cases h
theorem evLoad_sound (T : TOK P tt) (h : SRel C S a w ρ Fs) {o : Oper} {t : Nat} {x : Operand} (ho : o.op = .load t x) {E : Eff} (he : evLoad (R := Eff) tt S.hp n t (St.rd C.N S.sl x) some = some E) : ∃ u, Out P C S o E a w w ρ Fs u := by
  have fin : ∀ u, (Instr.loadAt t (a.eval x)).run P w = .ok u w → (execOp a.eval o).run P w = .ok (.value u) w := fun u hu => by
    simp only [execOp, ho]; exact run_v hu
  unfold evLoad at he
  split at he
  · rename_i id k hx
    obtain ⟨hlt, hre, b, cap, hρ, hv⟩ := rd_l h hx
    split at he
    · rename_i bt cells hroot
      obtain ⟨b', cap', vs, ty, g1, g2, g3, g4⟩ := h.mem.roots id _ hroot
      simp only [Cx.env] at hρ g1 g2
      rw [hρ] at g1; cases g1
      cases hst : isStruct tt t with
      | true =>
        rw [hst] at he
        obtain ⟨hle, he⟩ := bif_some he
        cases he
        have hle := Nat.le_of_ble_eq_true hle
        obtain ⟨fields, i, d1, d2, d3⟩ := isStruct_facts T hst
        have hlen := g3.length
        refine ⟨.agg ((vs.toList.drop k).take (sizeOf' tt t)).toArray, Out.pure h rfl (fin _ ?_) ⟨_, rfl, (g3.drop k).take _⟩⟩
        rw [hv]
        refine run_loadVar_agg d1 d2 (by rw [d3]; simp at hlen ⊢; omega) fun j v hj => ?_
        rw [plain_add, cell?_plain g2]
        rw [List.getElem?_take] at hj
        split at hj
        · rw [List.getElem?_drop] at hj; simpa using hj
        · cases hj
      | false =>
        rw [hst] at he
        obtain ⟨hsc, he⟩ := bif_some he
        split at he
        · rename_i y hy
          cases he
          obtain ⟨v, k1, k2⟩ := g3.get hy
          obtain ⟨d, d1, d2⟩ := scalar_facts T hsc
          refine ⟨v, Out.pure h rfl (fin _ ?_) k2⟩
          rw [hv]
          exact run_loadVar_one d1 d2 (by rw [cell?_plain g2]; simpa using k1)
        · cases he
    · cases he
  · rename_i id i f hx
    obtain ⟨hlt, hx2⟩ := rd_l h hx
    split at he
    · rename_i e ver r hroot
      obtain ⟨r', e1, hi, b, cap, hρ, hv⟩ := hx2 _ hroot
      cases e1
      obtain ⟨hc, he⟩ := bif_some he
      cases he
      cases hst : isStruct tt t with
      | true =>
        rw [hst] at hc
        obtain ⟨hc1, hc2⟩ := and_bool hc
        obtain ⟨hc3, hc4⟩ := and_bool hc1
        have hc3 := eq_of_beq hc3
        have hc4 := eq_of_beq hc4
        subst hc4
        obtain ⟨sg, o', l, rfl⟩ := isRecs_facts hc2
        obtain ⟨fields, ti, d1, d2, d3⟩ := isStruct_facts T hst
        have hrow := h.mem.roots id _ hroot
        rcases hrow with ⟨_, h0, _⟩ | ⟨b', cap', arr, ty, F', g1, g2, g3, g4, g5, g6⟩
        · simp only [Row.len] at h0 hi; omega
        · simp only [Cx.env] at hρ g1 g2
          rw [hρ] at g1; cases g1
          have hbl : ∀ j v, arr.toList[j]? = some v → w.cell? ⟨b, j, none⟩ = some v := fun j v hj => by rw [cell?_plain g2]; simpa using hj
          obtain ⟨vs, k1, k2, k3⟩ := agg_own (E := C.env w ρ S.hp S.nx Fs) (ver := ver) hlt hroot hρ hi g5 hbl
          refine ⟨.agg vs.toArray, Out.pure h rfl (fin _ ?_) ⟨vs, rfl, k3⟩⟩
          rw [hv]
          refine run_loadVar_agg d1 d2 (by rw [d3, k1]; exact hc3.symm) fun j v hj => ?_
          rw [plain_add]
          exact k2 j v hj
      | false =>
        rw [hst] at hc
        obtain ⟨hsc, hf⟩ := and_bool hc
        have hf : f < r.size := by simpa [Nat.blt_eq] using hf
        have hjl : i * r.size + f < r.cells.length := by
          rw [Row.cells_length]
          have : (i + 1) * r.size ≤ r.len * r.size := Nat.mul_le_mul_right _ hi
          rw [Nat.succ_mul] at this
          omega
        obtain ⟨v, F1, b', cap', k1, k2, k3, k4⟩ := row_cell h.mem hroot (List.getElem?_eq_getElem hjl)
        simp only [Cx.env] at hρ
        rw [hρ] at k1; cases k1
        obtain ⟨d, d1, d2⟩ := scalar_facts T hsc
        refine ⟨v, Out.pure h rfl (fin _ (by rw [hv]; exact run_loadVar_one d1 d2 k2)) ?_⟩
        exact loadOwn_cell (E := C.env w ρ S.hp S.nx Fs) hlt hroot hρ hi hf (List.getElem?_eq_getElem hjl) k2 k3 (.inr trivial)
    · cases he
  · rename_i p r i f hx
    obtain ⟨hi, ad, hv, hfz⟩ := rd_l h hx
    obtain ⟨hc, he⟩ := bif_some he
    cases he
    obtain ⟨hz, vs, hvs, hcs⟩ := hfz
    cases hst : isStruct tt t with
    | true =>
      rw [hst] at hc
      obtain ⟨hc1, hc2⟩ := and_bool hc
      obtain ⟨hc3, hc4⟩ := and_bool hc1
      have hc3 := eq_of_beq hc3
      have hc4 := eq_of_beq hc4
      subst hc4
      obtain ⟨sg, o', l, rfl⟩ := isRecs_facts hc2
      obtain ⟨fields, ti, d1, d2, d3⟩ := isStruct_facts T hst
      have hlen := hcs.length
      have hle := rec_lt (n := sg.length) hi
      refine ⟨.agg ((vs.drop (i * sg.length)).take sg.length).toArray, Out.pure h rfl (fin _ ?_) ⟨_, rfl, agg_val (E := C.env w ρ S.hp S.nx Fs) hi hcs⟩⟩
      rw [recs_len] at hlen
      simp only [Row.len] at hi hle
      rw [hv]
      refine run_loadVar_agg d1 d2 (by rw [d3]; simp [Row.size] at hc3 ⊢; omega) fun j v hj => ?_
      rw [List.getElem?_take] at hj
      split at hj
      · rw [List.getElem?_drop] at hj
        rw [add_add, ← hj]
        exact hvs _ (by rw [recs_len]; simp only [Row.size]; omega)
      · cases hj
    | false =>
      rw [hst] at hc
      obtain ⟨hsc, hf⟩ := and_bool hc
      have hf : f < r.size := by simpa [Nat.blt_eq] using hf
      have hjl : i * r.size + f < r.cells.length := by
        rw [Row.cells_length]
        have : (i + 1) * r.size ≤ r.len * r.size := Nat.mul_le_mul_right _ hi
        rw [Nat.succ_mul] at this
        omega
      obtain ⟨v, F1, F2, k1, k2, k3, _⟩ := hcs.get (List.getElem?_eq_getElem hjl)
      have hF1 : F1 = fz := by
        funext q
        have := congrFun k3 q
        simp at this ⊢
        omega
      subst hF1
      obtain ⟨d, d1, d2⟩ := scalar_facts T hsc
      refine ⟨v, Out.pure h rfl (fin _ (by rw [hv]; exact run_loadVar_one d1 d2 ((hvs _ hjl).trans k1))) ?_⟩
      exact loadVal_cell (E := C.env w ρ S.hp S.nx Fs) hi hf (List.getElem?_eq_getElem hjl) k2
  · rename_i id ver i f j hx
    obtain ⟨hlt, hx2⟩ := rd_l h hx
    split at he
    · rename_i e v' r hroot
      obtain ⟨hc, he⟩ := bif_some he
      cases he
      obtain ⟨hv1, hsc⟩ := and_bool hc
      have := eq_of_beq hv1
      subst this
      obtain ⟨_, _, hx3⟩ := hx2 _ hroot
      obtain ⟨k1, k2, k3, A, n, cap, k4, hv⟩ := hx3 e r rfl
      obtain ⟨F1, ow, hcell, _⟩ := inner_hdr h.mem hroot k1 k2 k4
      obtain ⟨A', cap', hhv, hA⟩ := sl_hdr hcell
      obtain ⟨A'', e2, hints⟩ := hA (by omega)
      subst e2
      cases hhv
      obtain ⟨d, d1, d2⟩ := scalar_facts T hsc
      have := hints j _ (List.getElem?_eq_getElem k3)
      refine ⟨_, Out.pure h rfl (fin _ (by rw [hv]; exact run_loadVar_one d1 d2 this)) ?_⟩
      show _ = _
      simp [k3]
    · cases he
  · cases he
end
end Go.Proofs.Ytfkejiljabmaaaa.V
