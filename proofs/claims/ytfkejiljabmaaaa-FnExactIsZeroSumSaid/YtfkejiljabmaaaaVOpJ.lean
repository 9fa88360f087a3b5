/- What the operations do: stores. Conditions: the types' table holds of the program. -/
import Derived.Test.YtfkejiljabmaaaaVOpI
set_option linter.unusedVariables false
set_option linter.unusedSimpArgs false
namespace Go.Proofs.Ytfkejiljabmaaaa.V
open Go

section
variable {P : Program} {tt : TT} {C : Cx} {S : St} {a : Act} {w : World} {ρ : Place} {Fs : Nat → FP} {n : Nat}

theorem set_seg {α : Type} (l : List α) (o : Nat) (v : α) (h : o < l.length) : l.take o ++ [v] ++ l.drop (o + 1) = l.set o v := by
  rw [List.set_eq_take_append_cons_drop, if_pos h]; simp
theorem run_store1 {t : TypeId} {i : TypeInfo} (hi : P.info? t = some i) (h1 : i.size = 1) {w : World} {b o : Nat} {arr : Array Value} {ty : TypeId} (hb : w.heap[b]? = some (.cells arr ty (0, 0))) {v : Value} (hone : v.oneCell' = true) (hfit : o < arr.size) :
    (Instr.storeAt t (.pointer (some ⟨b, o, none⟩)) v).run P w = .ok () (w.setRow b (arr.toList.set o v).toArray) := by
  have hc := one_cells hone
  have := run_storeAt' hi hb (v := v) (by rw [hc, h1]; rfl) (fun u hu => by rw [hc] at hu; simp at hu; subst hu; exact hone) (o := o) (by omega)
  rw [this, hc, h1]
  congr 3
  exact set_seg arr.toList o v (by simpa using hfit)
theorem scalar_one (T : TOK P tt) {t : Nat} (h : scalarTy tt t = true) : ∃ i, P.info? t = some i ∧ i.size = 1 := by
  have hl := scalar_leaf h
  unfold scalarTy at h
  split at h
  all_goals try (cases h; done)
  all_goals
    rename_i hq
    obtain ⟨i, z, z1, _, _, z4, _, z6⟩ := zero_facts T hq (by simp)
    exact ⟨i, z1, by rw [z4, z6, hl]; rfl⟩
theorem Out.stored {o : Oper} {t : Nat} {p x : Operand} (ho : o.op = .store t p x) {w' : World} {up : List (Nat × Option Root)} {nx : Nat} {rl rc : List Nat} {ρ' : Place} {Fs' : Nat → FP} (hr : (Instr.storeAt t (a.eval p) (a.eval x)).run P w = .ok () w') (hs : SRel C ⟨S.sl, upd S.hp up, S.nx⟩ a w' ρ' Fs') : ∃ w' ρ' Fs' u, Out P C S o ⟨.l .undef, up, nx, rl, rc⟩ a w w' ρ' Fs' u :=
  ⟨w', ρ', Fs', undef, .inr ⟨by simp only [execOp, ho]; exact run_u hr, rfl⟩, hs, rfl⟩
/-- A row of the call's own, with its memory. -/
theorem row_mem (m : MRel C S.hp S.nx w ρ Fs) {id e ver : Nat} {r : Row} (h : S.hp id = some (.row e ver r)) {b cap : Nat} (hρ : ρ id = some (b, cap)) (hl : 0 < r.len) : ∃ arr ty F, w.heap[b]? = some (.cells arr ty (0, 0)) ∧ r.len ≤ cap ∧ cap * r.size ≤ arr.size ∧ CellsRel w (C.ZL w (sumTo S.nx Fs)) r.cells arr.toList F ∧ Fs id = fadd (f1 b) F ∧ F b = 0 := by
  rcases m.roots id _ h with ⟨_, h2, _⟩ | ⟨b', cap', arr, ty, F, h1, h2, h3, h4, h5, h6⟩
  · omega
  · simp only [Cx.env] at h1 h2
    rw [hρ] at h1; cases h1
    have t1 := sumTo_le Fs b (live_lt m h)
    have t2 := m.one b
    rw [h6] at t1
    simp at t1
    exact ⟨arr, ty, F, h2, h3, h4, h5, h6, by omega⟩
theorem flatMap_set {α β : Type} (g : α → List β) (n : Nat) (h : ∀ x, (g x).length = n) (f : Nat) (hf : f < n) (c : β) (y : α) : ∀ (l : List α) (i : Nat) (x : α), l[i]? = some x → g y = (g x).set f c → (l.set i y).flatMap g = (l.flatMap g).set (i * n + f) c
  | [], i, x, hx, _ => by simp at hx
  | z :: l, 0, x, hx, hy => by
    simp at hx; subst hx
    simp only [List.set_cons_zero, List.flatMap_cons, Nat.zero_mul, Nat.zero_add, hy]
    rw [List.set_append_left _ _ (by rw [h]; exact hf)]
  | z :: l, i + 1, x, hx, hy => by
    have e : (i + 1) * n + f = n + (i * n + f) := by rw [Nat.succ_mul]; omega
    simp only [List.set_cons_succ, List.flatMap_cons, e]
    rw [flatMap_set g n h f hf c y l i x (by simpa using hx) hy, List.set_append_right _ _ (by rw [h]; omega), h, Nat.add_sub_cancel_left]
theorem setLeaf_get (sg : List Bool) (r : List Leaf) (f : Nat) (x : Leaf) (g : Nat) : (setLeaf sg r f x)[g]? = (sg[g]?).map fun b => if g = f then x else if b then .ints (gl r g) else .int (gi r g) := by
  unfold setLeaf
  rw [List.getElem?_map, List.getElem?_zipIdx]
  cases sg[g]? with
  | none => rfl
  | some b =>
    simp only [Option.map_some, Nat.zero_add]
    by_cases e : g = f
    · simp [e]
    · simp [e, cond_eq_ite, beq_iff_eq]
theorem setLeaf_cells (o : Bool) (sg : List Bool) (r : List Leaf) (f : Nat) (x : Leaf) (c : Cell) (hc : ∃ b, sg[f]? = some b ∧ c = if b then .sl o (match x with | .ints l => l | _ => []) else .sc (.int .i64 (match x with | .int n => n | _ => 0))) : recCells o (setLeaf sg r f x) 0 sg = (recCells o r 0 sg).set f c := by
  obtain ⟨b, hb, hc⟩ := hc
  have hf : f < sg.length := (List.getElem?_eq_some_iff.1 hb).1
  apply List.ext_getElem?
  intro j
  rw [recCells_get, List.getElem?_set, recCells_get]
  simp only [Nat.zero_add, recCells_length]
  by_cases e : f = j
  · subst e
    rw [if_pos rfl, if_pos hf, hb]
    simp only [Option.map_some, gi, gl, setLeaf_get, hb, if_true]
    rw [hc]
    cases b <;> cases x <;> rfl
  · rw [if_neg e]
    cases hj : sg[j]? with
    | none => rfl
    | some b' =>
      have e' : ¬ j = f := fun h => e h.symm
      cases b' <;> simp [gi, gl, setLeaf_get, hj, e']
theorem CellsRel.split {w : World} {Z : Zs} : ∀ {cs ds : List Cell} {vs : List Value} {F : FP}, CellsRel w Z (cs ++ ds) vs F → ∃ F1 F2, CellsRel w Z cs (vs.take cs.length) F1 ∧ CellsRel w Z ds (vs.drop cs.length) F2 ∧ F = fadd F1 F2
  | [], ds, vs, F, h => ⟨fz, F, rfl, by simpa using h, (fz_fadd F).symm⟩
  | c :: cs, ds, v :: vs, F, ⟨F1, F2, h1, h2, hF⟩ => by
    obtain ⟨G1, G2, g1, g2, g3⟩ := CellsRel.split h2
    exact ⟨fadd F1 G1, G2, ⟨F1, G1, h1, by simpa using g1, rfl⟩, by simpa using g2, by rw [hF, g3, fadd_assoc]⟩
theorem innerLen_flat {r r' : Row} (h : r.deep = false) : r.deep = true → (∀ i f, (innerOf r' i f).length = (innerOf r i f).length) := fun h' => by rw [h] at h'; cases h'
theorem like_row {w w' : World} {q : Option (Nat × Nat)} {e v e' v' : Nat} {r r' : Row} (hl : r'.len = r.len) (hs : r'.size = r.size) (hv : v ≤ v') (hsl : ∀ f, r'.slAt f = r.slAt f) (hd : v' = v → r.deep = false) : Like w w' q (.row e v r) (.row e' v' r') :=
  ⟨hl, hs, hv, hsl, fun h1 h2 => by rw [hd h1] at h2; cases h2⟩
theorem evStore_box (T : TOK P tt) (h : SRel C S a w ρ Fs) {o : Oper} {t : Nat} {p x : Operand} (ho : o.op = .store t p x) {id k bt : Nat} {cells xs : List LV} (hp : St.rd C.N S.sl p = .one (.l (.bptr id k))) (hroot : S.hp id = some (.box bt cells)) (hxs : aggCells S.hp (St.rd C.N S.sl x) = some xs) (h1 : xs.length = sizeOf' tt t) (h1' : 0 < xs.length) (h2 : k + xs.length ≤ cells.length) {nx : Nat} {rl rc : List Nat} :
    ∃ w' ρ' Fs' u, Out P C S o ⟨.l .undef, [(id, some (.box bt (setMany cells k xs)))], nx, rl, rc⟩ a w w' ρ' Fs' u := by
  obtain ⟨hlt, hre, b, cap, hρ, hv⟩ := rd_l h hp
  obtain ⟨b', cap', vs, ty, g1, g2, g3, g4⟩ := h.mem.roots id _ hroot
  simp only [Cx.env] at hρ g1 g2
  rw [hρ] at g1; cases g1
  obtain ⟨hx1, hx2⟩ := aggCells_sound h.mem hxs (h.rd x)
  have hxl := hx1.length
  have hcl := g3.length
  simp only [Array.length_toList] at hxl hcl
  have hte : ∃ e, tt t = some e := by
    cases hq : tt t with
    | none => exact absurd h1 (by simp only [sizeOf', hq]; exact Nat.ne_of_gt h1')
    | some e => exact ⟨e, rfl⟩
  obtain ⟨e, hq⟩ := hte
  obtain ⟨i, i1, i2, _⟩ := (T t e hq).info
  have hsz : i.size = xs.length := by rw [i2, h1]; simp [sizeOf', hq]
  have hs1 : (a.eval x).cells.size = i.size := by omega
  have hs2 : k + i.size ≤ vs.size := by omega
  have hrun := run_storeAt' (P := P) i1 g2 (o := k) (v := a.eval x) hs1 hx2 hs2
  rw [← hv] at hrun
  have hFs : Fs id = f1 b := g4
  have := h.turn [] (by simp) (by simp) id (by simp) _ (.box bt (setMany cells k xs)) hroot (f1 b) (w.setRow b (vs.toList.take k ++ (a.eval x).cells.toList ++ vs.toList.drop (k + i.size)).toArray) (setRow_size ..) rfl rfl rfl
    (fun b' hb' h0 => setRow_other w b _ (by rintro rfl; rw [hFs] at h0; simp at h0)) (fun b' => by rw [hFs]; omega) trivial
    (fun M => ⟨b, cap, _, ty, hρ, setRow_heap w b vs _ ty _ g2, by
      have hgo : ∀ E' : Env, Mono (C.env w ρ S.hp S.nx Fs) E' → LVsRel E' (setMany cells k xs) (vs.toList.take k ++ (a.eval x).cells.toList ++ vs.toList.drop (k + i.size)) := fun E' M => by
        rw [setMany_eq xs cells k h2, hsz, List.append_assoc]
        exact LVsRel.append ((g3.take k).mono M) (LVsRel.append (hx1.mono M) ((g3.drop _).mono M))
      exact hgo _ M, rfl⟩)
  exact Out.stored ho hrun this
/-- A cell of a row stored: the row stays whose it was. -/
theorem store_cell (T : TOK P tt) (h : SRel C S a w ρ Fs) {o : Oper} {t : Nat} {p x : Operand} (ho : o.op = .store t p x) {id e ver i f : Nat} {r : Row} (hp : St.rd C.N S.sl p = .one (.l (.eptr id i f))) (hroot : S.hp id = some (.row e ver r)) (hs : scalarTy tt t = true) (hf : f < r.size)
    (c : Cell) (r' : Row) (ver' e' : Nat) (hcells : r'.cells = r.cells.set (i * r.size + f) c) (hsc : ∃ u, r.cells[i * r.size + f]? = some (.sc u)) (hv : CellRel w (C.ZL w (sumTo S.nx Fs)) c (a.eval x) fz) (hone : (a.eval x).oneCell' = true) (hlen : r'.len = r.len) (hsize : r'.size = r.size)
    (hl : ∀ w', Like w w' (ρ id) (.row e ver r) (.row e' ver' r')) {nx : Nat} {rl rc : List Nat} : ∃ w' ρ' Fs' u, Out P C S o ⟨.l .undef, killUp [] ++ [(id, some (.row e' ver' r'))], nx, rl, rc⟩ a w w' ρ' Fs' u := by
  obtain ⟨hlt, hx2⟩ := rd_l h hp
  obtain ⟨r1, e1, hi, b, cap, hρ, hpv⟩ := hx2 _ hroot
  cases e1
  simp only [Cx.env] at hρ
  obtain ⟨arr, ty, F, g1, g2, g3, g4, g5, g6⟩ := row_mem h.mem hroot hρ (by omega)
  obtain ⟨ti, t1, t2⟩ := scalar_one T hs
  have hjl : i * r.size + f < r.cells.length := by
    rw [Row.cells_length]
    have := rec_lt (n := r.size) hi
    omega
  obtain ⟨u, hu⟩ := hsc
  obtain ⟨v0, F1, F2, k1, k2, k3, k4⟩ := g4.get hu
  have hjs : i * r.size + f < arr.size := by simpa using (List.getElem?_eq_some_iff.1 k1).1
  obtain ⟨_, hF1⟩ := k2
  subst hF1
  rw [fz_fadd] at k3
  have hnew := k4 c (a.eval x) fz hv
  rw [fz_fadd, ← k3] at hnew
  have hrun := run_store1 (P := P) t1 t2 g1 hone hjs
  rw [← hpv] at hrun
  refine Out.stored ho hrun (SRel.turnRow h [] (by simp) (by simp) (by simp) hroot hρ g1 e' ver' r' F ?_ (fun b' => by rw [g5]; simp; omega) (by rw [g5]; simp) (by omega) (by rw [hsize]; simpa using g3) (hl _))
  rw [hcells]
  simp only [List.toList_toArray]
  exact hnew.mono (fun b hb => ⟨.inl hb, rfl⟩) (fun b _ => rfl)
/-- Cells of a row stored, together with what they own. -/
theorem store_own (T : TOK P tt) (h : SRel C S a w ρ Fs) {o : Oper} {t : Nat} {p x : Operand} (ho : o.op = .store t p x) {id b cap off : Nat} {root : Root} (hpv : a.eval p = .pointer (some ⟨b, off, none⟩)) (hroot : S.hp id = some root) (hρ : ρ id = some (b, cap)) {arr : Array Value} {ty : TypeId} {F : FP} (g1 : w.heap[b]? = some (.cells arr ty (0, 0))) (g5 : Fs id = fadd (f1 b) F) (g6 : F b = 0)
    {ks : List Nat} (hks : Took S.hp ks) (hidk : id ∉ ks) {A B D B' : List Cell} (hcs : CellsRel w (C.ZL w (sumTo S.nx Fs)) (A ++ (B ++ D)) arr.toList F) (hA : A.length = off) (hB : B'.length = B.length)
    {ti : TypeInfo} (t1 : P.info? t = some ti) (t2 : ti.size = B.length) (hvl : (a.eval x).cells.size = B.length) (hone : ∀ u ∈ (a.eval x).cells.toList, u.oneCell' = true) {Fv : FP} (hv : CellsRel w (Zu C w S.nx Fs ks Fv) B' (a.eval x).cells.toList Fv) (hFv : ∀ b, Fv b ≤ sumL Fs ks b)
    (own : Bool) (r' : Row) (ver' e' : Nat) (hct : own = true → r'.cells = A ++ (B' ++ D)) (hcf : own = false → r'.cells = (A ++ (B' ++ D)).map Cell.frz) (hlen : r'.len ≤ cap) (hsize : cap * r'.size ≤ arr.size)
    (hl : ∀ w', Like w w' (ρ id) root (.row e' ver' r')) {nx : Nat} {rl rc : List Nat} : ∃ w' ρ' Fs' u, Out P C S o ⟨.l .undef, killUp ks ++ [(id, some (.row e' ver' r'))], nx, rl, rc⟩ a w w' ρ' Fs' u := by
  obtain ⟨FA, F2, h1, h2, hF1⟩ := CellsRel.split hcs
  obtain ⟨FB, FD, h3, h4, hF2⟩ := CellsRel.split h2
  have hidlt := live_lt h.mem hroot
  have hks' : ∀ k ∈ ks, k < S.nx := hks.lt h.mem (Sub.refl _)
  have htot : ∀ b', Fs id b' + sumL Fs ks b' ≤ 1 := fun b' => Nat.le_trans (sumL_out Fs b' S.nx hks.1 hks' hidlt hidk) (h.mem.one b')
  have hlenle : (A ++ (B ++ D)).length ≤ arr.toList.length := hcs.length
  simp only [List.length_append, Array.length_toList] at hlenle
  have hrun := run_storeAt' (P := P) t1 g1 (o := off) (v := a.eval x) (by rw [hvl, t2]) hone (by omega)
  rw [← hpv] at hrun
  -- the new cells, told with what they own
  have hz : ∀ G : FP, (∀ b', G b' ≤ Fs id b' + sumL Fs ks b') → ∀ b', C.ZL w (sumTo S.nx Fs) b' → Zt C w S.nx Fs id ks b G b' := fun G _ b' hb => .inl hb
  have hFid : ∀ b', F b' + f1 b b' = Fs id b' := fun b' => by rw [g5]; simp; omega
  let G : FP := fadd FA (fadd Fv FD)
  have hG : ∀ b', G b' + f1 b b' ≤ Fs id b' + sumL Fs ks b' := fun b' => by
    have := hFid b'
    have := hFv b'
    rw [hF1, hF2] at *
    simp [G] at *
    omega
  have hGb : G b = 0 := by
    have := hG b
    have := htot b
    simp at *
    omega
  have hkb : sumL Fs ks b = 0 := by
    have := htot b
    have := hFid b
    simp at *
    omega
  have hZu : ∀ b', Zu C w S.nx Fs ks Fv b' → Zt C w S.nx Fs id ks b G b' := fun b' hb => by
    rcases hb with hb | ⟨k1, k2⟩
    · exact .inl hb
    · have := htot b'
      have := hFid b'
      refine .inr ⟨by omega, ?_, by rintro rfl; omega⟩
      have e1 : F b' = 0 := by omega
      rw [hF1, hF2] at e1
      simp at e1
      simp [G]; omega
  have hnew : CellsRel w (Zt C w S.nx Fs id ks b G) (A ++ (B' ++ D)) (arr.toList.take off ++ ((a.eval x).cells.toList ++ arr.toList.drop (off + ti.size))) G := by
    have ha : CellsRel w (Zt C w S.nx Fs id ks b G) A (arr.toList.take off) FA := by rw [← hA]; exact h1.mono (fun b hb => ⟨.inl hb, rfl⟩) (fun b _ => rfl)
    have hd : CellsRel w (Zt C w S.nx Fs id ks b G) D (arr.toList.drop (off + ti.size)) FD := by
      rw [List.drop_drop, hA] at h4
      rw [t2]
      exact h4.mono (fun b hb => ⟨.inl hb, rfl⟩) (fun b _ => rfl)
    have hb' : CellsRel w (Zt C w S.nx Fs id ks b G) B' (a.eval x).cells.toList Fv := hv.mono (fun b hb => ⟨hZu b hb, rfl⟩) (fun b _ => rfl)
    exact CellsRel.append ha (by rw [List.length_take, Array.length_toList]; omega) (CellsRel.append hb' (by rw [Array.length_toList]; omega) hd)
  have hfin : ∃ F', CellsRel w (Zt C w S.nx Fs id ks b F') r'.cells (arr.toList.take off ++ ((a.eval x).cells.toList ++ arr.toList.drop (off + ti.size))) F' ∧ ∀ b', F' b' + f1 b b' ≤ Fs id b' + sumL Fs ks b' := by
    cases own with
    | true => rw [hct rfl]; exact ⟨G, hnew, hG⟩
    | false =>
      rw [hcf rfl]
      refine ⟨fz, hnew.frz (fun b' hb => ?_) (fun b' hb => .inr ⟨?_, rfl, ?_⟩), fun b' => ?_⟩
      · rcases hb with hb | ⟨k1, _, k3⟩
        · exact .inl hb
        · exact .inr ⟨k1, rfl, k3⟩
      · have := hG b'; omega
      · rintro rfl; omega
      · have := hG b'; simp; omega
  obtain ⟨F', k1, k2⟩ := hfin
  rw [List.append_assoc] at hrun
  refine Out.stored ho hrun (SRel.turnRow h ks hks.1 (fun k hk => by obtain ⟨e, v, r, hh⟩ := hks.2 k hk; rw [hh]; simp) hidk hroot hρ g1 e' ver' r' F' ?_ k2 (by have := hFid b; simp at this; omega) hlen ?_ (hl _))
  · simpa using k1
  · have e1 : (arr.toList.take off ++ ((a.eval x).cells.toList ++ arr.toList.drop (off + ti.size))).length = arr.size := by
      simp only [List.length_append, List.length_take, List.length_drop, Array.length_toList, hvl, t2]
      omega
    rw [List.size_toArray, e1]
    exact hsize
end
end Go.Proofs.Ytfkejiljabmaaaa.V
