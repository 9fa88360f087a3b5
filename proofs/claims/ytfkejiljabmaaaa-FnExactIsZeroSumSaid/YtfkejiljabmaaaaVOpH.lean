/- What the operations do: rows out of values. Conditions: the types' table holds of the program. -/
import Derived.Test.YtfkejiljabmaaaaVOpG
set_option linter.unusedVariables false
set_option linter.unusedSimpArgs false
namespace Go.Proofs.Ytfkejiljabmaaaa.V
open Go

section
variable {P : Program} {tt : TT} {C : Cx} {S : St} {a : Act} {w : World} {ρ : Place} {Fs : Nat → FP} {n : Nat}

/-- The roots that are used up, out of a part of the heap. -/
def Took (hp' : Nat → Option Root) (ks : List Nat) : Prop := ks.Nodup ∧ ∀ k ∈ ks, ∃ e v r, hp' k = some (.row e v r)
def Sub (hp' hp : Nat → Option Root) : Prop := ∀ j r, hp' j = some r → hp j = some r
theorem Sub.refl (hp : Nat → Option Root) : Sub hp hp := fun _ _ h => h
theorem Sub.kill {hp' hp : Nat → Option Root} (h : Sub hp' hp) (ks : List Nat) : Sub (kill hp' ks) hp := fun j r hj => h j r (kill_some hj).2
theorem Took.nil (hp' : Nat → Option Root) : Took hp' [] := ⟨by simp, by simp⟩
theorem Took.join {hp' : Nat → Option Root} {ks ks' : List Nat} (h : Took hp' ks) (h' : Took (kill hp' ks) ks') : Took hp' (ks ++ ks') := by
  refine ⟨List.nodup_append.2 ⟨h.1, h'.1, fun a ha b hb => ?_⟩, fun k hk => ?_⟩
  · rintro rfl
    obtain ⟨e, v, r, h2⟩ := h'.2 a hb
    exact (kill_some h2).1 ha
  · rcases List.mem_append.1 hk with hk | hk
    · exact h.2 k hk
    · obtain ⟨e, v, r, h2⟩ := h'.2 k hk
      exact ⟨e, v, r, (kill_some h2).2⟩
theorem Took.live {hp' hp : Nat → Option Root} {ks : List Nat} (h : Took hp' ks) (hs : Sub hp' hp) : ∀ k ∈ ks, ∃ r, hp k = some r ∧ r.real := fun k hk => by
  obtain ⟨e, v, r, h2⟩ := h.2 k hk
  exact ⟨_, hs _ _ h2, trivial⟩
theorem Took.lt (m : MRel C S.hp S.nx w ρ Fs) {hp' : Nat → Option Root} {ks : List Nat} (h : Took hp' ks) (hs : Sub hp' S.hp) : ∀ k ∈ ks, k < S.nx := fun k hk => by
  obtain ⟨r, h2, _⟩ := h.live hs k hk
  exact live_lt m h2
theorem sumL_append (Fs : Nat → FP) (b : Nat) : ∀ ks ks' : List Nat, sumL Fs (ks ++ ks') b = sumL Fs ks b + sumL Fs ks' b
  | [], ks' => by simp [sumL]
  | k :: ks, ks' => by simp [sumL, sumL_append Fs b ks ks', Nat.add_assoc]
theorem scalars_fz {w : World} {Z : Zs} : ∀ {cs : List Cell} {vs : List Value} {F : FP}, (∀ c ∈ cs, ∃ v, c = .sc v) → CellsRel w Z cs vs F → F = fz
  | [], _, _, _, h => h
  | c :: cs, v :: vs, F, hc, ⟨F1, F2, h1, h2, hF⟩ => by
    obtain ⟨u, rfl⟩ := hc c (by simp)
    have := scalars_fz (fun c' hc' => hc c' (by simp [hc'])) h2
    rw [hF, h1.2, this, fadd_fz]
/-- An owned row of ints, as a cell. -/
theorem own_cell (m : MRel C S.hp S.nx w ρ Fs) {id e ver : Nat} {l : List Int} (hroot : S.hp id = some (.row e ver (.ints .i64 l))) (hi : Nat) (hhi : hi ≤ l.length) {v : Value} (hv : v = hdr (ρ id) hi) {Z : Zs} : ∃ F, CellRel w Z (.sl true (l.take hi)) v F ∧ ∀ b, F b ≤ Fs id b := by
  rcases m.roots id _ hroot with ⟨h1, h2, h3⟩ | ⟨b, cap, arr, ty, F', h1, h2, h3, h4, h5, h6⟩
  · simp only [Cx.env] at h1
    simp only [Row.len] at h2
    have hl : l = [] := List.eq_nil_of_length_eq_zero h2
    subst hl
    exact ⟨fz, .inl ⟨by rw [hv, h1]; rfl, by simp, rfl⟩, fun b => by simp⟩
  · simp only [Cx.env] at h1 h2
    have hF' : F' = fz := scalars_fz (fun c hc => by simp only [Row.cells, List.mem_map] at hc; obtain ⟨x, _, rfl⟩ := hc; exact ⟨_, rfl⟩) h5
    simp only [Row.len, Row.size, Nat.mul_one] at h3 h4
    refine ⟨f1 b, .inr ⟨b, cap, arr, ty, ?_, h2, by simp; omega, h4, fun j z hj => ?_, rfl⟩, fun b' => by rw [h6, hF', fadd_fz]; exact Nat.le_refl _⟩
    · rw [hv, h1]
      simp only [hdr, List.length_take]
      rw [Nat.min_eq_left hhi]
    · rw [List.getElem?_take] at hj
      split at hj
      · obtain ⟨v', F1, F2, q1, q2, _⟩ := h5.get (j := j) (c := .sc (.int .i64 z)) (by simp [Row.cells, hj])
        obtain ⟨rfl, _⟩ := q2
        simpa using q1
      · cases hj
theorem elemSl_sound (m : MRel C S.hp S.nx w ρ Fs) {hp' : Nat → Option Root} (hs : Sub hp' S.hp) {x : LV} {o : Bool} {l : List Int} {ks : List Nat} (he : elemSl hp' x = some (o, l, ks)) {v : Value} (hv : LVRel (C.env w ρ S.hp S.nx Fs) x v) : ∃ F, CellRel w (C.ZL w (sumTo S.nx Fs)) (.sl o l) v F ∧ (∀ b, F b ≤ sumL Fs ks b) ∧ Took hp' ks ∧ (F ≠ fz → o = true) ∧ v.oneCell' = true := by
  unfold elemSl at he
  split at he
  · cases he
    exact ⟨fz, .inl ⟨hv, rfl, rfl⟩, fun b => by simp, Took.nil _, fun h => absurd rfl h, by rw [hv]; rfl⟩
  · rename_i p l'
    cases he
    obtain ⟨A, cap, h1, h2, h3⟩ := hv
    refine ⟨fz, ⟨rfl, A, cap, h1, h2, fun hne => ?_⟩, fun b => by simp, Took.nil _, fun h => absurd rfl h, by rw [h1]; rfl⟩
    obtain ⟨ad, e, h0, vs, h4, h5⟩ := h3 (by simp only [Row.len]; intro h; exact hne (List.eq_nil_of_length_eq_zero h))
    refine ⟨ad, e, ?_, fun j z hj => ?_⟩
    · cases p
      · exact h0
      · exact .inr h0
    · obtain ⟨v', F1, F2, q1, q2, _⟩ := h5.get (j := j) (c := .sc (.int .i64 z)) (by simp [Row.cells, hj])
      obtain ⟨rfl, _⟩ := q2
      have := h4 j (by simp [Row.cells]; exact (List.getElem?_eq_some_iff.1 hj).1)
      rw [q1] at this
      exact this
  · rename_i id
    split at he
    · rename_i e ver l' hroot
      cases he
      obtain ⟨_, hx⟩ := hv
      obtain ⟨r', e1, e2⟩ := hx _ (hs _ _ hroot)
      cases e1
      obtain ⟨F, h1, h2⟩ := own_cell m (hs _ _ hroot) l.length (Nat.le_refl _) e2 (Z := C.ZL w (sumTo S.nx Fs))
      rw [List.take_length] at h1
      exact ⟨F, h1, fun b => by have := h2 b; simp [sumL]; exact this, ⟨by simp, fun k hk => by simp at hk; subst hk; exact ⟨_, _, _, hroot⟩⟩, fun _ => rfl, by rw [e2]; exact hdr_one _ _⟩
    · cases he
  · rename_i id hi
    split at he
    · rename_i e ver l' hroot
      cases he
      obtain ⟨_, hx⟩ := hv
      obtain ⟨r', e1, _, e3, e2⟩ := hx _ (hs _ _ hroot)
      cases e1
      have e4 : v = hdr (ρ id) hi := by
        rw [e2]
        simp only [Cx.env]
        cases hρ : ρ id with
        | none => rfl
        | some q =>
          obtain ⟨b, cap⟩ := q
          simp only [subHdr, hdr, Row.size, Nat.zero_mul, Nat.sub_zero]
          split <;> rfl
      obtain ⟨F, h1, h2⟩ := own_cell m (hs _ _ hroot) hi e3 e4 (Z := C.ZL w (sumTo S.nx Fs))
      exact ⟨F, h1, fun b => by have := h2 b; simp [sumL]; exact this, ⟨by simp, fun k hk => by simp at hk; subst hk; exact ⟨_, _, _, hroot⟩⟩, fun _ => rfl, by rw [e4]; exact hdr_one _ _⟩
    · cases he
  · cases he

/-! ### Joining cells -/
theorem join_le (m : MRel C S.hp S.nx w ρ Fs) {hp' : Nat → Option Root} (hs : Sub hp' S.hp) {ks ks' : List Nat} (h : Took hp' (ks ++ ks')) (b : Nat) : sumL Fs ks b + sumL Fs ks' b ≤ 1 := by
  have h1 := sumL_le Fs b S.nx h.1 (h.lt m hs)
  have h2 := m.one b
  rw [sumL_append] at h1
  omega
theorem cells_join (m : MRel C S.hp S.nx w ρ Fs) {hp' : Nat → Option Root} (hs : Sub hp' S.hp) {ks ks' : List Nat} (ht : Took hp' (ks ++ ks')) {cs cs' : List Cell} {vs vs' : List Value} {F F' : FP}
    (h : CellsRel w (Zu C w S.nx Fs ks F) cs vs F) (hl : vs.length = cs.length) (h' : CellsRel w (Zu C w S.nx Fs ks' F') cs' vs' F') (hF : ∀ b, F b ≤ sumL Fs ks b) (hF' : ∀ b, F' b ≤ sumL Fs ks' b) :
    CellsRel w (Zu C w S.nx Fs (ks ++ ks') (fadd F F')) (cs ++ cs') (vs ++ vs') (fadd F F') ∧ ∀ b, fadd F F' b ≤ sumL Fs (ks ++ ks') b := by
  refine ⟨CellsRel.append (h.mono (fun b hb => ⟨?_, rfl⟩) (fun b _ => rfl)) hl (h'.mono (fun b hb => ⟨?_, rfl⟩) (fun b _ => rfl)), fun b => ?_⟩
  · rcases hb with hb | ⟨h1, h2⟩
    · exact .inl hb
    · have := join_le m hs ht b
      have := hF' b
      exact .inr ⟨by rw [sumL_append]; omega, by simp; omega⟩
  · rcases hb with hb | ⟨h1, h2⟩
    · exact .inl hb
    · have := join_le m hs ht b
      have := hF b
      exact .inr ⟨by rw [sumL_append]; omega, by simp; omega⟩
  · have := hF b
    have := hF' b
    rw [sumL_append]; simp; omega
theorem cells_freeze {ks : List Nat} {cs : List Cell} {vs : List Value} {F : FP} (h : CellsRel w (Zu C w S.nx Fs ks F) cs vs F) (hF : ∀ b, F b ≤ sumL Fs ks b) : CellsRel w (Zu C w S.nx Fs ks fz) (cs.map Cell.frz) vs fz :=
  h.frz (fun b hb => hb.imp (fun h => h) (fun h => ⟨h.1, rfl⟩)) (fun b hb => .inr ⟨Nat.le_trans hb (hF b), rfl⟩)
/-- Owned or not: whichever is asked for. -/
theorem cells_seal {ks : List Nat} {cs ct cf : List Cell} {vs : List Value} {F : FP} (h : CellsRel w (Zu C w S.nx Fs ks F) cs vs F) (hF : ∀ b, F b ≤ sumL Fs ks b) (o : Bool) (h1 : o = true → ct = cs) (h2 : o = false → cf = cs.map Cell.frz) : ∃ F', CellsRel w (Zu C w S.nx Fs ks F') (if o then ct else cf) vs F' ∧ ∀ b, F' b ≤ sumL Fs ks b := by
  cases o with
  | true => rw [h1 rfl]; exact ⟨F, h, hF⟩
  | false => rw [h2 rfl]; exact ⟨fz, cells_freeze h hF, fun b => by simp⟩
theorem cell_one {c : Cell} {v : Value} {F : FP} {ks : List Nat} (h : CellRel w (C.ZL w (sumTo S.nx Fs)) c v F) : CellsRel w (Zu C w S.nx Fs ks F) [c] [v] F :=
  ⟨F, fz, h.mono (fun b hb => ⟨.inl hb, rfl⟩) (fun b _ => rfl), rfl, (fadd_fz _).symm⟩
theorem recCells_cons (o : Bool) (x : Leaf) (r : List Leaf) : ∀ (sg : List Bool) (f : Nat), recCells o (x :: r) (f + 1) sg = recCells o r f sg
  | [], _ => rfl
  | true :: sg, f => by simp only [recCells, recCells_cons o x r sg]; simp [gl]
  | false :: sg, f => by simp only [recCells, recCells_cons o x r sg]; simp [gi]
theorem recCells_frz (o : Bool) (r : List Leaf) : ∀ (sg : List Bool) (f : Nat), (recCells o r f sg).map Cell.frz = recCells false r f sg
  | [], _ => rfl
  | true :: sg, f => by simp [recCells, recCells_frz o r sg, Cell.frz]
  | false :: sg, f => by simp [recCells, recCells_frz o r sg, Cell.frz]
theorem recCells_own (o o' : Bool) (r : List Leaf) (sg : List Bool) (f : Nat) : (if o then recCells true r f sg else recCells false r f sg) = recCells o r f sg := by cases o <;> rfl
theorem elemRec_sound (m : MRel C S.hp S.nx w ρ Fs) : ∀ (sg : List Bool) (hp' : Nat → Option Root) (xs : List LV) (vs : List Value) (o : Bool) (r : List Leaf) (ks : List Nat), Sub hp' S.hp → elemRec hp' sg xs = some (o, r, ks) → LVsRel (C.env w ρ S.hp S.nx Fs) xs vs →
    ∃ F, CellsRel w (Zu C w S.nx Fs ks F) (recCells o r 0 sg) vs F ∧ (∀ b, F b ≤ sumL Fs ks b) ∧ Took hp' ks ∧ vs.length = sg.length ∧ ∀ u ∈ vs, u.oneCell' = true := by
  intro sg
  induction sg with
  | nil =>
    intro hp' xs vs o r ks hs he hv
    cases xs with
    | nil =>
      cases vs with
      | nil => simp only [elemRec, Option.some.injEq, Prod.mk.injEq] at he; obtain ⟨rfl, rfl, rfl⟩ := he; exact ⟨fz, rfl, fun b => by simp, Took.nil _, rfl, by simp⟩
      | cons v vs => exact absurd hv id
    | cons x xs => simp [elemRec] at he
  | cons b sg ih =>
    intro hp' xs vs o r ks hs he hv
    cases xs with
    | nil => cases b <;> simp [elemRec] at he
    | cons x xs =>
      cases vs with
      | nil => exact absurd hv id
      | cons v vs =>
        cases b with
        | false =>
          cases x with
          | i k z =>
            cases k with
            | i64 =>
              simp only [elemRec] at he
              split at he
              · rename_i o' r' ks' hq
                cases he
                obtain ⟨F, h1, h2, h3, h4, h5⟩ := ih hp' xs vs _ _ _ hs hq hv.2
                have hv1 : v = .int .i64 z := hv.1
                refine ⟨F, ?_, h2, h3, by simp [h4], fun u hu => ?_⟩
                · simp only [recCells, recCells_cons, gi, Nat.zero_add]
                  exact ⟨fz, F, ⟨hv1, rfl⟩, h1, (fz_fadd F).symm⟩
                · rcases List.mem_cons.1 hu with rfl | hu
                  · rw [hv1]; rfl
                  · exact h5 u hu
              · cases he
            | _ => simp [elemRec] at he
          | _ => simp [elemRec] at he
        | true =>
          simp only [elemRec] at he
          split at he
          · rename_i o1 l ks1 hq1
            split at he
            · rename_i o2 r' ks2 hq2
              cases he
              obtain ⟨F1, a1, a2, a3, a4, a5⟩ := elemSl_sound m hs hq1 hv.1
              obtain ⟨F2, b1, b2, b3, b4, b5⟩ := ih _ xs vs _ _ _ (hs.kill ks1) hq2 hv.2
              have ht := a3.join b3
              obtain ⟨j1, j2⟩ := cells_join m hs ht (cell_one a1) rfl b1 a2 b2
              obtain ⟨F', s1, s2⟩ := cells_seal j1 j2 (o1 && o2) (ct := recCells true (.ints l :: r') 0 (true :: sg)) (cf := recCells false (.ints l :: r') 0 (true :: sg))
                (fun ho => by obtain ⟨rfl, rfl⟩ := and_bool ho; simp [recCells, recCells_cons, gl])
                (fun _ => by simp [recCells, recCells_cons, gl, recCells_frz, Cell.frz])
              refine ⟨F', ?_, s2, ht, by simp [b4], fun u hu => ?_⟩
              · rw [recCells_own _ true] at s1; exact s1
              · rcases List.mem_cons.1 hu with rfl | hu
                · exact a5
                · exact b5 u hu
            · cases he
          · cases he

/-! ### Rows -/
def AVsRel (E : Env) : List AV → List Value → Prop
  | [], [] => True
  | x :: xs, v :: vs => AVRel E x v ∧ AVsRel E xs vs
  | _, _ => False
abbrev flat (vs : List Value) : List Value := vs.flatMap fun v => v.cells.toList
theorem flat_cons (v : Value) (vs : List Value) : flat (v :: vs) = v.cells.toList ++ flat vs := by simp [flat]
theorem row_nil {r : Row} (h : r.len = 0) : r.cells = [] := List.eq_nil_of_length_eq_zero (by rw [Row.cells_length, h, Nat.zero_mul])
theorem rowOf_ints {hp : Nat → Option Root} {k : IntKind} {xs : List AV} {r : Row} {ks : List Nat} (h : rowOf hp (.ints k []) xs = some (r, ks)) : ∃ l, r = .ints k l := by
  cases xs with
  | nil => simp only [rowOf, Option.some.injEq, Prod.mk.injEq] at h; exact ⟨_, h.1.symm⟩
  | cons x xs =>
    cases x with
    | tup _ => simp [rowOf] at h
    | one x => cases x with
      | agg _ => simp [rowOf] at h
      | l x => cases x with
        | i k' z =>
          simp only [rowOf] at h
          obtain ⟨_, h⟩ := bif_some h
          split at h
          · simp only [Option.some.injEq, Prod.mk.injEq] at h; exact ⟨_, h.1.symm⟩
          · cases h
        | _ => simp [rowOf] at h
theorem rowOf_recs {hp : Nat → Option Root} {sg : List Bool} {xs : List AV} {r : Row} {ks : List Nat} (h : rowOf hp (.recs sg true []) xs = some (r, ks)) : ∃ o l, r = .recs sg o l := by
  cases xs with
  | nil => simp only [rowOf, Option.some.injEq, Prod.mk.injEq] at h; exact ⟨_, _, h.1.symm⟩
  | cons x xs =>
    cases x with
    | tup _ => simp [rowOf] at h
    | one x => cases x with
      | l _ => simp [rowOf] at h
      | agg x =>
        simp only [rowOf] at h
        split at h
        · split at h
          · simp only [Option.some.injEq, Prod.mk.injEq] at h; exact ⟨_, _, h.1.symm⟩
          · cases h
        · cases h
theorem rowOf_sound (m : MRel C S.hp S.nx w ρ Fs) : ∀ (xs : List AV) (vs : List Value) (hp' : Nat → Option Root) (r0 r : Row) (ks : List Nat), Sub hp' S.hp → r0.len = 0 → rowOf hp' r0 xs = some (r, ks) → AVsRel (C.env w ρ S.hp S.nx Fs) xs vs →
    ∃ F, CellsRel w (Zu C w S.nx Fs ks F) r.cells (flat vs) F ∧ (∀ b, F b ≤ sumL Fs ks b) ∧ Took hp' ks ∧ r.len = xs.length ∧ r.size = r0.size ∧ (∀ v ∈ vs, v.cells.size = r0.size) ∧ vs.length = xs.length ∧ (∀ u ∈ flat vs, u.oneCell' = true) ∧ r.deep = r0.deep ∧ (r0.isRecs = false → ∀ v ∈ vs, v.oneCell' = true) := by
  intro xs
  induction xs with
  | nil =>
    intro vs hp' r0 r ks hs h0 he hv
    cases vs with
    | cons v vs => exact absurd hv id
    | nil =>
      have : r0 = r ∧ ks = [] := by
        cases r0 <;> simp only [rowOf, Option.some.injEq, Prod.mk.injEq] at he <;> exact ⟨he.1, he.2.symm⟩
      obtain ⟨rfl, rfl⟩ := this
      rw [row_nil h0]
      exact ⟨fz, rfl, fun b => by simp, Took.nil _, h0, rfl, by simp, rfl, by simp [flat], rfl, by simp⟩
  | cons x xs ih =>
    intro vs hp' r0 r ks hs h0 he hv
    cases vs with
    | nil => exact absurd hv id
    | cons v vs =>
      obtain ⟨hv1, hv2⟩ := hv
      have plain : ∀ (c : Cell) (r1 r2 : Row) (ks' : List Nat) (u : Value), v = u → u.oneCell' = true → (∀ Z, CellRel w Z c u fz) → r1.len = 0 → r1.size = 1 → r0.size = 1 → r1.isRecs = false → r.deep = r0.deep → rowOf hp' r1 xs = some (r2, ks') → r.cells = c :: r2.cells → ks = ks' → r.len = r2.len + 1 → r.size = 1 →
          ∃ F, CellsRel w (Zu C w S.nx Fs ks F) r.cells (flat (v :: vs)) F ∧ (∀ b, F b ≤ sumL Fs ks b) ∧ Took hp' ks ∧ r.len = (x :: xs).length ∧ r.size = r0.size ∧ (∀ v' ∈ v :: vs, v'.cells.size = r0.size) ∧ (v :: vs).length = (x :: xs).length ∧ (∀ u ∈ flat (v :: vs), u.oneCell' = true) ∧ r.deep = r0.deep ∧ (r0.isRecs = false → ∀ u ∈ v :: vs, u.oneCell' = true) := by
        intro c r1 r2 ks' u hvu hone hc hr1 hs1 hs0 hir hde hq hcells hks hlen hsize
        obtain ⟨F, h1, h2, h3, h4, h5, h6, h7, h8, h9, h10⟩ := ih vs hp' r1 r2 ks' hs hr1 hq hv2
        subst hks hvu
        have hcl : v.cells = #[v] := one_cells hone
        refine ⟨F, ?_, h2, h3, by simp [hlen, h4], by rw [hsize, hs0], fun v' hv' => ?_, by simp [h7], fun u hu => ?_, hde, fun _ u hu => ?_⟩
        · rw [hcells, flat_cons, hcl]
          exact ⟨fz, F, hc _, h1, (fz_fadd F).symm⟩
        · rcases List.mem_cons.1 hv' with rfl | hv'
          · rw [hcl, hs0]; rfl
          · rw [h6 v' hv', hs1, hs0]
        · rw [flat_cons, hcl] at hu
          rcases List.mem_append.1 hu with hu | hu
          · simp at hu; subst hu; exact hone
          · exact h8 u hu
        · rcases List.mem_cons.1 hu with rfl | hu
          · exact hone
          · exact h10 hir u hu
      unfold rowOf at he
      split at he
      · rename_i heq; cases heq
      · rename_i k _ k' z xs' heq
        cases heq
        by_cases hk : k = k'
        · subst hk
          simp only [decide_true, cond_true] at he
          split at he
          · rename_i k2 l ks' hq
            simp only [Option.some.injEq, Prod.mk.injEq] at he
            obtain ⟨rfl, rfl⟩ := he
            obtain ⟨_, e⟩ := rowOf_ints hq
            cases e
            exact plain (.sc (.int k z)) (.ints k []) (.ints k l) _ (.int k z) hv1 rfl (fun Z => ⟨rfl, rfl⟩) rfl rfl rfl rfl rfl hq rfl rfl rfl rfl
          · cases he
        · simp [hk] at he
      · rename_i z xs' heq
        cases heq
        split at he
        · rename_i l ks' hq
          cases he
          exact plain (.sc (.bool z)) (.bools []) (.bools l) _ (.bool z) hv1 rfl (fun Z => ⟨rfl, rfl⟩) rfl rfl rfl rfl rfl hq rfl rfl rfl rfl
        · cases he
      · rename_i z xs' heq
        cases heq
        split at he
        · rename_i l ks' hq
          cases he
          exact plain (.sc (.string z)) (.strs []) (.strs l) _ (.string z) hv1 rfl (fun Z => ⟨rfl, rfl⟩) rfl rfl rfl rfl rfl hq rfl rfl rfl rfl
        · cases he
      · rename_i z xs' heq
        cases heq
        split at he
        · rename_i o1 y ks1 hq1
          split at he
          · rename_i o2 l ks2 hq2
            cases he
            obtain ⟨F1, a1, a2, a3, a4, a5⟩ := elemSl_sound m hs hq1 hv1
            obtain ⟨F2, b1, b2, b3, b4, b5, b6, b7, b8, b9, b10⟩ := ih vs _ _ _ _ (hs.kill ks1) rfl hq2 hv2
            have ht := a3.join b3
            have hcl : v.cells = #[v] := one_cells a5
            obtain ⟨j1, j2⟩ := cells_join m hs ht (cell_one a1) rfl b1 a2 b2
            obtain ⟨F', s1, s2⟩ := cells_seal j1 j2 (o1 && o2) (ct := (Row.rows true (y :: l)).cells) (cf := (Row.rows false (y :: l)).cells)
              (fun ho => by obtain ⟨rfl, rfl⟩ := and_bool ho; simp [Row.cells])
              (fun _ => by simp [Row.cells, Cell.frz, Function.comp_def])
            refine ⟨F', ?_, s2, ht, by simp only [Row.len] at b4 ⊢; simp [b4], rfl, fun v' hv' => ?_, by simp [b7], fun u hu => ?_, rfl, fun _ u hu => ?_⟩
            · rw [flat_cons, hcl]
              have : (if (o1 && o2) = true then (Row.rows true (y :: l)).cells else (Row.rows false (y :: l)).cells) = (Row.rows (o1 && o2) (y :: l)).cells := by cases (o1 && o2) <;> rfl
              rw [this] at s1
              exact s1
            · rcases List.mem_cons.1 hv' with rfl | hv'
              · rw [hcl]; rfl
              · rw [b6 v' hv']; rfl
            · rw [flat_cons, hcl] at hu
              rcases List.mem_append.1 hu with hu | hu
              · simp at hu; subst hu; exact a5
              · exact b8 u hu
            · rcases List.mem_cons.1 hu with rfl | hu
              · exact a5
              · exact b10 rfl u hu
          · cases he
        · cases he
      · rename_i sg _ _ z xs' heq
        cases heq
        split at he
        · rename_i o1 y ks1 hq1
          split at he
          · rename_i _ o2 l ks2 hq2
            cases he
            obtain ⟨us, rfl, hus⟩ := hv1
            obtain ⟨F1, a1, a2, a3, a4, a5⟩ := elemRec_sound m _ _ _ _ _ _ _ hs hq1 hus
            obtain ⟨F2, b1, b2, b3, b4, b5, b6, b7, b8, b9, b10⟩ := ih vs _ _ _ _ (hs.kill ks1) rfl hq2 hv2
            have ht := a3.join b3
            obtain ⟨_, _, e⟩ := rowOf_recs hq2
            cases e
            obtain ⟨j1, j2⟩ := cells_join m hs ht a1 (by rw [recCells_length, a4]) b1 a2 b2
            obtain ⟨F', s1, s2⟩ := cells_seal j1 j2 (o1 && o2) (ct := (Row.recs sg true (y :: l)).cells) (cf := (Row.recs sg false (y :: l)).cells)
              (fun ho => by obtain ⟨rfl, rfl⟩ := and_bool ho; simp [Row.cells])
              (fun _ => by
                have := frz_cells (Row.recs sg o2 l)
                simp only [Row.frz] at this
                simp only [Row.cells, List.flatMap_cons, List.map_append, recCells_frz] at this ⊢
                rw [← this])
            refine ⟨F', ?_, s2, ht, by simp only [Row.len] at b4 ⊢; simp [b4], rfl, fun v' hv' => ?_, by simp [b7], fun u hu => ?_, rfl, fun hh => by cases hh⟩
            · rw [flat_cons]
              have : (if (o1 && o2) = true then (Row.recs sg true (y :: l)).cells else (Row.recs sg false (y :: l)).cells) = (Row.recs sg (o1 && o2) (y :: l)).cells := by cases (o1 && o2) <;> rfl
              rw [this] at s1
              exact s1
            · rcases List.mem_cons.1 hv' with rfl | hv'
              · simp [Value.cells, Row.size, a4]
              · rw [b6 v' hv']; rfl
            · rw [flat_cons] at hu
              rcases List.mem_append.1 hu with hu | hu
              · exact a5 u (by simpa [Value.cells] using hu)
              · exact b8 u hu
          · cases he
        · cases he
      · cases he
end
end Go.Proofs.Ytfkejiljabmaaaa.V
