/- What the operations do: new roots: zeros, boxes, structs. Conditions: the types' table holds of the program. -/
import Derived.Test.YtfkejiljabmaaaaVOpE
import Derived.Laws.Tables
import Derived.Great.FillDense
import Derived.Great.BuildSlice
import Derived.Laws.MakeOwn
set_option linter.unusedVariables false
set_option linter.unusedSimpArgs false
namespace Go.Proofs.Ytfkejiljabmaaaa.V
open Go

section
variable {P : Program} {tt : TT} {C : Cx} {S : St} {a : Act} {w : World} {ρ : Place} {Fs : Nat → FP} {n : Nat}

/-! ### What may lie in memory -/
theorem live_row {hp : Nat → Option Root} {id : Nat} (h : (rowAt? hp id).isSome = true) : ∃ root r, hp id = some root ∧ root.row? = some r := by
  obtain ⟨r, hr⟩ := Option.isSome_iff_exists.1 h
  obtain ⟨root, h1, h2⟩ := row_pos hr
  exact ⟨root, r, h1, h2⟩
theorem hdr_one (q : Option (Nat × Nat)) (n : Nat) : (hdr q n).oneCell' = true := by cases q <;> rfl
theorem subHdr_one (q : Option (Nat × Nat)) (s lo hi : Nat) : (subHdr q s lo hi).oneCell' = true := by cases q <;> rfl
theorem one_cells {v : Value} (h : v.oneCell' = true) : v.cells = #[v] := by cases v <;> first | rfl | cases h
theorem storable_one (m : MRel C S.hp S.nx w ρ Fs) {x : LV} (hs : storable S.hp x = true) {v : Value} (hv : LVRel (C.env w ρ S.hp S.nx Fs) x v) : v.oneCell' = true := by
  cases x with
  | any => cases hs
  | undef => cases hs
  | i k n => rw [hv]; rfl
  | b x => rw [hv]; rfl
  | s x => rw [hv]; rfl
  | nil => rw [hv]; rfl
  | val p r => obtain ⟨A, cap, h, _⟩ := hv; rw [h]; rfl
  | own id =>
    obtain ⟨root, r, h1, h2⟩ := live_row hs
    obtain ⟨_, hx⟩ := hv
    obtain ⟨r', _, e⟩ := hx _ h1
    rw [e]; exact hdr_one _ _
  | sub id lo hi =>
    obtain ⟨root, r, h1, h2⟩ := live_row hs
    obtain ⟨_, hx⟩ := hv
    obtain ⟨r', _, _, _, e⟩ := hx _ h1
    rw [e]; exact subHdr_one _ _ _ _
  | inner id ver i f =>
    obtain ⟨_, hx⟩ := hv
    simp only [storable] at hs
    split at hs
    · rename_i e v' r hroot
      have := eq_of_beq hs
      subst this
      obtain ⟨_, _, hx3⟩ := hx _ hroot
      obtain ⟨k1, k2, k4⟩ := hx3 e r rfl
      obtain ⟨F1, ow, hcell, hle⟩ := inner_hdr m hroot k1 k2 k4
      obtain ⟨A, cap, h, _⟩ := sl_hdr hcell
      rw [h]; rfl
    · cases hs
  | bptr id k => obtain ⟨_, _, b, cap, _, h⟩ := hv; rw [h]; rfl
  | arr id k =>
    obtain ⟨root, r, h1, h2⟩ := live_row hs
    obtain ⟨_, hx⟩ := hv
    obtain ⟨r', _, _, b, cap, _, e⟩ := hx _ h1
    rw [e]; rfl
  | eptr id i f =>
    obtain ⟨root, r, h1, h2⟩ := live_row hs
    obtain ⟨_, hx⟩ := hv
    obtain ⟨r', _, _, b, cap, _, e⟩ := hx _ h1
    rw [e]; rfl
  | vptr p r i f => obtain ⟨_, ad, h, _⟩ := hv; rw [h]; rfl
  | iptr id ver i f j =>
    obtain ⟨_, hx⟩ := hv
    simp only [storable] at hs
    split at hs
    · rename_i e v' r hroot
      have := eq_of_beq hs
      subst this
      obtain ⟨_, _, hx3⟩ := hx _ hroot
      obtain ⟨_, _, _, A, _, _, _, h⟩ := hx3 e r rfl
      rw [h]; rfl
    · cases hs
  | er b => cases b <;> first | (obtain ⟨t, x, h⟩ := hv; rw [h]; rfl) | (rw [hv]; rfl)
  | fn f => rw [hv]; rfl
theorem LVsRel.mem {E : Env} : ∀ {xs : List LV} {vs : List Value}, LVsRel E xs vs → ∀ u ∈ vs, ∃ x ∈ xs, LVRel E x u
  | [], [], _, u, hu => by cases hu
  | x :: xs, v :: vs, h, u, hu => by
    rcases List.mem_cons.1 hu with rfl | hu
    · exact ⟨x, by simp, h.1⟩
    · obtain ⟨y, h1, h2⟩ := LVsRel.mem h.2 u hu
      exact ⟨y, by simp [h1], h2⟩
theorem aggCells_sound (m : MRel C S.hp S.nx w ρ Fs) {x : AV} {xs : List LV} (he : aggCells S.hp x = some xs) {v : Value} (hv : AVRel (C.env w ρ S.hp S.nx Fs) x v) : LVsRel (C.env w ρ S.hp S.nx Fs) xs v.cells.toList ∧ ∀ u ∈ v.cells.toList, u.oneCell' = true := by
  unfold aggCells at he
  split at he
  · obtain ⟨h1, h2⟩ := bif_some he
    cases h2
    have ho := storable_one m h1 hv
    rw [one_cells ho]
    exact ⟨⟨hv, trivial⟩, fun u hu => by simp at hu; subst hu; exact ho⟩
  · obtain ⟨h1, h2⟩ := bif_some he
    cases h2
    obtain ⟨vs, rfl, hr⟩ := hv
    refine ⟨hr, fun u hu => ?_⟩
    obtain ⟨y, k1, k2⟩ := hr.mem u hu
    exact storable_one m (List.all_eq_true.1 h1 y k1) k2
  · cases he

/-! ### Zeros -/
theorem zeroLV_rel (E : Env) (tt : TT) (t : Nat) : LVRel E (zeroLV tt t) (zeroV tt t) := by
  unfold zeroLV zeroV
  cases tt t with
  | none => trivial
  | some e =>
    obtain ⟨k, sz, bs⟩ := e
    cases k <;> first | rfl | trivial
theorem zeros_rel (E : Env) (tt : TT) : ∀ l : List Nat, LVsRel E (l.map (zeroLV tt)) (l.map (zeroV tt))
  | [] => trivial
  | t :: l => ⟨zeroLV_rel E tt t, zeros_rel E tt l⟩
theorem zeroV_one (tt : TT) (t : Nat) : (zeroV tt t).oneCell' = true := by
  unfold zeroV
  cases tt t with
  | none => rfl
  | some e =>
    obtain ⟨k, sz, bs⟩ := e
    cases k <;> rfl
theorem zero_facts (T : TOK P tt) {t : Nat} {e : TE} (h : tt t = some e) (hk : ∀ n x, e.k ≠ .array n x) : ∃ i z, P.info? t = some i ∧ i.zero = some z ∧ z.cells.toList = (leafTypes tt depth t).map (zeroV tt) ∧ i.size = e.size ∧ i.bytes = e.bytes ∧ e.size = (leafTypes tt depth t).length := by
  obtain ⟨i, h1, h2, h3, z, h4, h5⟩ := (T t e h).info
  refine ⟨i, z, h1, h4, ?_, h2, h3, (T t e h).cells hk⟩
  obtain ⟨k, sz, bs⟩ := e
  cases k <;> first | exact h5 | exact absurd rfl (hk _ _)
theorem scalar_leaf {t : Nat} (h : scalarTy tt t = true) : leafTypes tt depth t = [t] := by
  unfold scalarTy at h
  show leafTypes tt (5 + 1) t = [t]
  unfold leafTypes
  split at h <;> first | cases h | skip
  all_goals (rename_i hq; rw [hq])

/-! ### Boxes -/
theorem SRel.newBox (h : SRel C S a w ρ Fs) (hg : S.hp n = some .ghost) (t : Nat) (cells : List LV) (vs : Array Value) (ty : TypeId) (hc : LVsRel (C.env w ρ S.hp S.nx Fs) cells vs.toList) :
    SRel C ⟨S.sl, upd S.hp [(n, some (.box t cells))], S.nx⟩ a (w.alloc (.cells vs ty)) (newρ ρ n (some (w.heap.size, 1))) (putF (kilF Fs []) n (f1 w.heap.size)) := by
  have := h.make hg [] (by simp) (by simp) (.box t cells) (some (w.heap.size, 1)) (f1 w.heap.size) (w.alloc (.cells vs ty)) (by rw [heap_push_size]; omega) rfl rfl rfl (fun b hb _ => heap_push_lt w _ hb) (fun b => by
    rw [heap_push_size, f1_at]; simp [sumL]; split <;> split <;> omega) (fun M => ⟨w.heap.size, 1, vs, ty, newρ_self .., heap_push_eq w _, hc.mono M, rfl⟩)
  exact this
theorem run_alloc_any {t : TypeId} {i : TypeInfo} {z : Value} (hi : P.info? t = some i) (hz : i.zero = some z) (w : World) : (Instr.alloc t true (.tuple #[])).run P w = .ok (.pointer (some ⟨w.heap.size, 0, none⟩)) (w.alloc (.cells z.cells t)) := by
  simp [Instr.alloc, zeroValue, typeInfo, hi, hz, newVar, newRow]
theorem run_box_any (t : TypeId) (v : Value) (w : World) : (Instr.box t v).run P w = .ok (.pointer (some ⟨w.heap.size, 0, none⟩)) (w.alloc (.cells v.cells t)) := by
  simp [Instr.box, newVar, newRow]
theorem evBox_sound (T : TOK P tt) (h : SRel C S a w ρ Fs) {o : Oper} {t : Nat} {x : Operand} (ho : o.op = .box t x) {E : Eff} (he : evBox (R := Eff) tt S.hp n t (St.rd C.N S.sl x) some = some E) (hg : S.hp n = some .ghost) : ∃ w' ρ' Fs' u, Out P C S o E a w w' ρ' Fs' u := by
  unfold evBox at he
  split at he
  · cases he
  · split at he
    · rename_i xs hxs
      cases he
      obtain ⟨h1, h2⟩ := aggCells_sound h.mem hxs (h.rd x)
      refine ⟨_, _, _, .pointer (some ⟨w.heap.size, 0, none⟩), .inl ?_, SRel.newBox h hg t xs (a.eval x).cells t h1, ?_⟩
      · simp only [execOp, ho]; exact run_v (run_box_any t _ w)
      · exact ⟨live_lt h.mem hg, fun root hr => by simp [Cx.env, upd] at hr; subst hr; trivial, w.heap.size, 1, newρ_self .., rfl⟩
    · cases he
  · cases he

/-! ### Rows -/
/-- Blocks that were given up may be read. -/
def Zu (C : Cx) (w : World) (nx : Nat) (Fs : Nat → FP) (ks : List Nat) (F : FP) : Zs := fun b => C.ZL w (sumTo nx Fs) b ∨ (1 ≤ sumL Fs ks b ∧ F b = 0)
theorem SRel.newRow (h : SRel C S a w ρ Fs) (hg : S.hp n = some .ghost) (ks : List Nat) (hks : ks.Nodup) (hlive : ∀ k ∈ ks, ∃ r, S.hp k = some r ∧ r.real) (e : Nat) (r : Row) (arr : Array Value) (ty : TypeId) (cap : Nat) (F : FP)
    (hc : CellsRel w (Zu C w S.nx Fs ks F) r.cells arr.toList F) (hF : ∀ b, F b ≤ sumL Fs ks b) (h1 : r.len ≤ cap) (h2 : cap * r.size ≤ arr.size) (w' : World) (hw : w'.heap = w.heap.push (.cells arr ty (0, 0))) (hos : w'.os = w.os) (htp : w'.tape = w.tape) (hout : w'.output = w.output) :
    SRel C ⟨S.sl, upd S.hp (killUp ks ++ [(n, some (.row e 0 r))]), S.nx⟩ a w' (newρ ρ n (some (w.heap.size, cap))) (putF (kilF Fs ks) n (fadd (f1 w.heap.size) F)) := by
  have hlt : ∀ b, b < w.heap.size → w'.heap[b]? = w.heap[b]? := fun b hb => by rw [hw, Array.getElem?_push, if_neg (Nat.ne_of_lt hb)]
  have hsz : w'.heap.size = w.heap.size + 1 := by rw [hw, Array.size_push]
  have hk : ∀ k ∈ ks, k < S.nx := fun k h' => by
    obtain ⟨r, k1, _⟩ := hlive k h'
    exact live_lt h.mem k1
  have own : ∀ b, 1 ≤ sumL Fs ks b → b < w.heap.size ∧ (C.w0.heap.size ≤ b ∨ 1 ≤ C.F0 b) := fun b hb => h.mem.mine b (Nat.le_trans hb (sumL_le Fs b S.nx hks hk))
  refine h.make hg ks hks hlive (.row e 0 r) (some (w.heap.size, cap)) _ w' (by omega) hos htp hout (fun b hb _ => hlt b hb) (fun b => ?_) (fun M => ?_)
  · have := hF b
    by_cases e : b = w.heap.size
    · subst e
      have : F w.heap.size = 0 := by
        rcases Nat.eq_zero_or_pos (F w.heap.size) with h0 | h0
        · exact h0
        · have := (own _ (Nat.le_trans h0 (hF _))).1; omega
      rw [if_pos (by omega)]
      simp; omega
    · simp [f1_at, e]; omega
  · refine .inr ⟨w.heap.size, cap, arr, ty, F, newρ_self .., ?_, h1, h2, hc.mono (fun b hb => ?_) (fun b hb => hlt b (own b (Nat.le_trans hb (hF b))).1), rfl⟩
    · show w'.heap[w.heap.size]? = _
      rw [hw, Array.getElem?_push, if_pos rfl]
    · rcases hb with hb | ⟨hb1, hb2⟩
      · exact M.zl b hb
      · obtain ⟨o1, o2⟩ := own b hb1
        refine ⟨.inr (.inr ⟨o2, by show b < w'.heap.size; omega, ?_⟩), hlt b o1⟩
        have g1 := sumTo_put (kilF Fs ks) (fadd (f1 w.heap.size) F) b (live_lt h.mem hg)
        have g2 := sumTo_kil Fs b S.nx ks hks hk
        have g3 := h.mem.one b
        have g4 : f1 w.heap.size b = 0 := by rw [f1_at, if_neg (by omega)]
        have g5 := sumTo_le (kilF Fs ks) b (live_lt h.mem hg)
        simp [g4] at g1
        omega
theorem CellsRel.ofFz {w : World} {Z : Zs} : ∀ {cs : List Cell} {vs : List Value}, (∀ (j : Nat) (c : Cell), cs[j]? = some c → ∃ v, vs[j]? = some v ∧ CellRel w Z c v fz) → CellsRel w Z cs vs fz
  | [], _, _ => rfl
  | c :: cs, [], h => by obtain ⟨v, hv, _⟩ := h 0 c rfl; cases hv
  | c :: cs, v :: vs, h => by
    obtain ⟨v', hv, hr⟩ := h 0 c rfl
    cases hv
    exact ⟨fz, fz, hr, CellsRel.ofFz (fun j c hc => by simpa using h (j + 1) c (by simpa using hc)), (fadd_fz _).symm⟩
/-- The empty row of an element type: its size, and its zeros. -/
theorem emptyRow_size {e : Nat} {r : Row} (T : TOK P tt) (h : emptyRow tt e = some r) : ∃ te, tt e = some te ∧ te.size = r.size ∧ (∀ n x, te.k ≠ .array n x) ∧ 0 < te.size := by
  unfold emptyRow at h
  split at h
  all_goals try (cases h; done)
  · rename_i k sz bs hq
    cases h
    refine ⟨_, hq, ?_, by simp, (T e _ hq).some.1⟩
    have := (T e _ hq).cells (by simp)
    rw [scalar_leaf (by simp [scalarTy, hq])] at this
    simpa [Row.size] using this
  · rename_i sz bs hq
    cases h
    refine ⟨_, hq, ?_, by simp, (T e _ hq).some.1⟩
    have := (T e _ hq).cells (by simp)
    rw [scalar_leaf (by simp [scalarTy, hq])] at this
    simpa [Row.size] using this
  · rename_i sz bs hq
    cases h
    refine ⟨_, hq, ?_, by simp, (T e _ hq).some.1⟩
    have := (T e _ hq).cells (by simp)
    rw [scalar_leaf (by simp [scalarTy, hq])] at this
    simpa [Row.size] using this
  · rename_i e' sz bs hq
    cases h
    refine ⟨_, hq, ?_, by simp, (T e _ hq).some.1⟩
    have := (T e _ hq).cells (by simp)
    rw [scalar_leaf (by simp [scalarTy, hq])] at this
    simpa [Row.size] using this
  · rename_i fs sz bs hq
    obtain ⟨_, h⟩ := bif_some h
    cases h
    refine ⟨_, hq, ?_, by simp, (T e _ hq).some.1⟩
    have := (T e _ hq).cells (by simp)
    simpa [Row.size] using this

theorem zeroLeaf_gi (sg : List Bool) (f : Nat) : gi (sg.map zeroLeaf) f = 0 := by
  unfold gi
  rw [List.getElem?_map]
  cases sg[f]? with
  | none => rfl
  | some b => cases b <;> rfl
theorem zeroLeaf_gl (sg : List Bool) (f : Nat) : gl (sg.map zeroLeaf) f = [] := by
  unfold gl
  rw [List.getElem?_map]
  cases sg[f]? with
  | none => rfl
  | some b => cases b <;> rfl
theorem zeroRow_len (m : Nat) (r : Row) : (zeroRow m r).len = m := by cases r <;> simp [zeroRow, Row.len]
theorem zeroRow_size (m : Nat) (r : Row) : (zeroRow m r).size = r.size := by cases r <;> rfl
/-- One zero, cell by cell. -/
theorem zero_cell {e : Nat} {r : Row} (T : TOK P tt) (h : emptyRow tt e = some r) {w : World} {Z : Zs} (m i f : Nat) (hi : i < m) (hf : f < r.size) : ∃ c v, (zeroRow m r).cells[i * r.size + f]? = some c ∧ ((leafTypes tt depth e).map (zeroV tt))[f]? = some v ∧ CellRel w Z c v fz := by
  unfold emptyRow at h
  split at h
  all_goals try (cases h; done)
  · rename_i k sz bs hq
    cases h
    have : f = 0 := by simp [Row.size] at hf; exact hf
    subst this
    rw [scalar_leaf (by simp [scalarTy, hq])]
    exact ⟨.sc (.int k 0), .int k 0, by simp [zeroRow, Row.cells, Row.size, hi], by simp [zeroV, hq], rfl, rfl⟩
  · rename_i sz bs hq
    cases h
    have : f = 0 := by simp [Row.size] at hf; exact hf
    subst this
    rw [scalar_leaf (by simp [scalarTy, hq])]
    exact ⟨.sc (.bool false), .bool false, by simp [zeroRow, Row.cells, Row.size, hi], by simp [zeroV, hq], rfl, rfl⟩
  · rename_i sz bs hq
    cases h
    have : f = 0 := by simp [Row.size] at hf; exact hf
    subst this
    rw [scalar_leaf (by simp [scalarTy, hq])]
    exact ⟨.sc (.string ByteArray.empty), .string ByteArray.empty, by simp [zeroRow, Row.cells, Row.size, hi], by simp [zeroV, hq], rfl, rfl⟩
  · rename_i e' sz bs hq
    cases h
    have : f = 0 := by simp [Row.size] at hf; exact hf
    subst this
    rw [scalar_leaf (by simp [scalarTy, hq])]
    exact ⟨.sl true [], .slice none 0 0, by simp [zeroRow, Row.cells, Row.size, hi], by simp [zeroV, hq], .inl ⟨rfl, rfl, rfl⟩⟩
  · rename_i fs sz bs hq
    obtain ⟨hall, h⟩ := bif_some h
    cases h
    simp only [Row.size, List.length_map] at hf
    have hfl : ((leafTypes tt depth e).map (zeroV tt))[f]? = some (zeroV tt (leafTypes tt depth e)[f]) := by simp [hf]
    have hck := List.all_eq_true.1 hall _ (List.getElem_mem hf)
    simp only [zeroRow]
    have hget := recs_get ((leafTypes tt depth e).map (isSl tt)) true (List.replicate m (((leafTypes tt depth e).map (isSl tt)).map zeroLeaf)) i f (by simpa using hf)
    simp only [Row.size] at hget ⊢
    rw [hget, hfl]
    simp only [List.getElem?_replicate, hi, if_true, Option.bind_some, zeroLeaf_gi, zeroLeaf_gl, List.getElem?_map, List.getElem?_eq_getElem hf, Option.map_some]
    refine ⟨_, _, rfl, rfl, ?_⟩
    generalize (leafTypes tt depth e)[f] = t at hck
    unfold leafOK at hck
    split at hck
    · rename_i e' sz' bs' hq'
      simp only [isSl, hq', if_true, zeroV]
      exact .inl ⟨rfl, rfl, rfl⟩
    · rename_i k sz' bs' hq'
      have := of_decide_eq_true hck
      subst this
      simp only [isSl, hq', zeroV]
      exact ⟨rfl, rfl⟩
    · cases hck
theorem made_get (z : Array Value) (m j : Nat) (hj : j < m) (hz : 0 < z.size) : (madeCells z m).toList[j]? = z.toList[j % z.size]? := by
  have hm : j % z.size < z.size := Nat.mod_lt _ hz
  simp [madeCells, hj, hm, getElem!_pos]
theorem made_rel {e : Nat} {r : Row} (T : TOK P tt) (h : emptyRow tt e = some r) {w : World} {Z : Zs} (z : Array Value) (hz : z.toList = (leafTypes tt depth e).map (zeroV tt)) (hs : z.size = r.size) (hp : 0 < r.size) (m : Nat) : CellsRel w Z (zeroRow m r).cells (madeCells z (m * r.size)).toList fz := by
  refine CellsRel.ofFz fun j c hc => ?_
  have hj : j < m * r.size := by
    have := (List.getElem?_eq_some_iff.1 hc).1
    rwa [Row.cells_length, zeroRow_len, zeroRow_size] at this
  have hi : j / r.size < m := (Nat.div_lt_iff_lt_mul hp).2 hj
  have hf : j % r.size < r.size := Nat.mod_lt _ hp
  obtain ⟨c', v, h1, h2, h3⟩ := zero_cell T h (w := w) (Z := Z) m _ _ hi hf
  rw [Nat.mul_comm, Nat.div_add_mod] at h1
  rw [hc] at h1; cases h1
  exact ⟨v, by rw [made_get z _ _ hj (by omega), hs, hz]; exact h2, h3⟩
theorem own_rel {C : Cx} {w' : World} {ρ' : Place} {hp' : Nat → Option Root} {nx : Nat} {Fs' : Nat → FP} {id b cap : Nat} (hlt : id < nx) (hρ : ρ' id = some (b, cap)) {e v : Nat} {r : Row} (hroot : hp' id = some (.row e v r)) : AVRel (C.env w' ρ' hp' nx Fs') (.l (.own id)) (.slice (some ⟨b, 0, none⟩) r.len cap) :=
  ⟨hlt, fun root hr => by
    simp only [Cx.env] at hr ⊢
    rw [hroot] at hr; cases hr
    exact ⟨r, rfl, by rw [hρ]; rfl⟩⟩
theorem evMakeSlice_sound (T : TOK P tt) (h : SRel C S a w ρ Fs) {o : Oper} {t : Nat} {l c : Operand} (ho : o.op = .makeSlice t l c) {E : Eff} (he : evMakeSlice (R := Eff) tt n t l c (St.rd C.N S.sl l) some = some E) (hg : S.hp n = some .ghost) : ∃ w' ρ' Fs' u, Out P C S o E a w w' ρ' Fs' u := by
  unfold evMakeSlice at he
  obtain ⟨hsame, he⟩ := bif_some he
  split at he
  · rename_i e hel
    split at he
    · rename_i r hr
      obtain ⟨k, m, hl, he⟩ := asI_some he
      obtain ⟨hc, he⟩ := chk_some he
      obtain ⟨h0, h1⟩ := and_bool hc
      have h0 := of_decide_eq_true h0
      have h1 := of_decide_eq_true h1
      cases he
      have hv : a.eval l = .int k m := rd_l h hl
      have hv2 : ∃ k', a.eval c = .int k' m := by
        cases l with
        | tmp x => cases c with
          | tmp y => simp only [sameOperand] at hsame; have := eq_of_beq hsame; subst this; exact ⟨k, hv⟩
          | _ => cases hsame
        | const x => cases x with
          | int k1 a1 => cases c with
            | const y => cases y with
              | int k2 a2 =>
                simp only [sameOperand] at hsame
                have := eq_of_beq hsame
                subst this
                have hv' : Value.int k1 a1 = .int k m := hv
                cases hv'
                exact ⟨k2, rfl⟩
              | _ => cases hsame
            | _ => cases hsame
          | _ => cases c <;> cases hsame
        | _ => cases c <;> cases hsame
      obtain ⟨k', hv2⟩ := hv2
      obtain ⟨te, q1, q2, q3, q4⟩ := emptyRow_size T hr
      obtain ⟨i, z, z1, z2, z3, z4, z5, z6⟩ := zero_facts T q1 q3
      have hb : bytesOf tt e = i.bytes := by simp [bytesOf, q1, z5]
      have hzs : z.cells.size = r.size := by
        have := congrArg List.length z3
        simp only [Array.length_toList, List.length_map] at this
        omega
      rw [hb] at h1
      have hbp : 0 < i.bytes := by rw [z5]; exact (T e te q1).some.2
      have hm : m.toNat ≤ room := Nat.le_trans (Nat.le_mul_of_pos_right _ hbp) h1
      simp only [room] at hm h1
      have hrun := run_make (P := P) w t e i z (slice_facts T hel) z1 z2 k k' m m h0 (Int.le_refl _) (by
        have : ((i.bytes * m.toNat : Nat) : Int) ≤ 281474976710656 := by rw [Nat.mul_comm]; omega
        rw [Int.natCast_mul] at this
        rwa [Int.toNat_of_nonneg h0] at this) (by omega)
      have hlen : (zeroRow m.toNat r).len = m.toNat := zeroRow_len _ _
      have hsz : (zeroRow m.toNat r).size = r.size := zeroRow_size _ _
      refine ⟨_, _, _, .slice (some ⟨w.heap.size, 0, none⟩) m.toNat m.toNat, .inl ?_, SRel.newRow h hg [] (by simp) (by simp) e (zeroRow m.toNat r) (madeCells z.cells (m.toNat * i.size)) e m.toNat fz ?_ (by simp) (by rw [hlen]; exact Nat.le_refl _) (by rw [hsz, size_madeCells]; rw [z4, q2]; exact Nat.le_refl _) (w.alloc (.cells (madeCells z.cells (m.toNat * i.size)) e)) rfl rfl rfl rfl, ?_⟩
      · simp only [execOp, ho]
        refine run_v ?_
        rw [hv, hv2]
        exact hrun
      · rw [z4, q2]
        exact made_rel T hr z.cells z3 hzs (by omega) _
      · have := own_rel (C := C) (w' := w.alloc (.cells (madeCells z.cells (m.toNat * i.size)) e)) (ρ' := newρ ρ n (some (w.heap.size, m.toNat))) (hp' := upd S.hp [(n, some (.row e 0 (zeroRow m.toNat r)))]) (nx := S.nx) (Fs' := putF (kilF Fs []) n (fadd (f1 w.heap.size) fz)) (live_lt h.mem hg) (newρ_self ..) (e := e) (v := 0) (r := zeroRow m.toNat r) (by simp [upd])
        rw [hlen] at this
        exact this
    · cases he
  · cases he
end
end Go.Proofs.Ytfkejiljabmaaaa.V
