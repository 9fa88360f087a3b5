/- What the operations do: alloc, build, rows out of values. Conditions: the types' table holds of the program. -/
import Derived.Test.YtfkejiljabmaaaaVOpF
set_option linter.unusedVariables false
set_option linter.unusedSimpArgs false
namespace Go.Proofs.Ytfkejiljabmaaaa.V
open Go

section
variable {P : Program} {tt : TT} {C : Cx} {S : St} {a : Act} {w : World} {ρ : Place} {Fs : Nat → FP} {n : Nat}

theorem bptr_new {C : Cx} {w' : World} {ρ' : Place} {hp' : Nat → Option Root} {nx : Nat} {Fs' : Nat → FP} {id b cap : Nat} (hlt : id < nx) (hρ : ρ' id = some (b, cap)) {root : Root} (hroot : hp' id = some root) (hre : root.real) : AVRel (C.env w' ρ' hp' nx Fs') (.l (.bptr id 0)) (.pointer (some ⟨b, 0, none⟩)) :=
  ⟨hlt, fun r hr => by simp only [Cx.env] at hr; rw [hroot] at hr; cases hr; exact hre, b, cap, hρ, rfl⟩
theorem evAlloc_sound (T : TOK P tt) (h : SRel C S a w ρ Fs) {o : Oper} {t : Nat} (ho : o.op = .alloc t) {E : Eff} (he : evAlloc (R := Eff) tt n t some = some E) (hg : S.hp n = some .ghost) : ∃ w' ρ' Fs' u, Out P C S o E a w w' ρ' Fs' u := by
  have box : ∀ (e : TE), tt t = some e → (∀ n x, e.k ≠ .array n x) → ∃ w' ρ' Fs' u, Out P C S o ⟨.l (.bptr n 0), [(n, some (.box t ((leafTypes tt depth t).map (zeroLV tt))))], n + 1, [], []⟩ a w w' ρ' Fs' u := fun e hq hk => by
    obtain ⟨i, z, z1, z2, z3, z4, z5, z6⟩ := zero_facts T hq hk
    refine ⟨_, _, _, .pointer (some ⟨w.heap.size, 0, none⟩), .inl ?_, SRel.newBox h hg t _ z.cells t (by rw [z3]; exact zeros_rel _ tt _), bptr_new (root := .box t ((leafTypes tt depth t).map (zeroLV tt))) (live_lt h.mem hg) (newρ_self ..) (by simp [upd]) trivial⟩
    simp only [execOp, ho]
    exact run_v (run_alloc_any z1 z2 w)
  unfold evAlloc at he
  split at he
  · rename_i fs sz bs hq
    cases he
    exact box _ hq (by simp)
  · rename_i m e sz bs hq
    split at he
    · rename_i r hr
      obtain ⟨hc, he⟩ := bif_some he
      obtain ⟨hc, h3⟩ := and_bool hc
      obtain ⟨h1, h2⟩ := and_bool hc
      cases he
      obtain ⟨i, i1, i2, i3, z, z1, z2⟩ := (T t _ hq).info
      have h2 := eq_of_beq h2
      have hzl : z.cells.toList = List.replicate m (zeroV tt e) := z2
      obtain ⟨te, q1, q2, q3, q4⟩ := emptyRow_size T hr
      have hlf : leafTypes tt depth e = [e] ∧ (∀ j, j < m → ∃ c, (zeroRow m r).cells[j]? = some c ∧ CellRel w (Zu C w S.nx Fs [] fz) c (zeroV tt e) fz) := by
        have hl := (T e te q1).cells q3
        obtain ⟨i', z', _, _, _, _, _, y6⟩ := zero_facts T q1 q3
        have : (leafTypes tt depth e).length = 1 := by omega
        have hone : leafTypes tt depth e = [e] := by
          unfold emptyRow at hr
          split at hr
          all_goals try (cases hr; done)
          all_goals first
            | (obtain ⟨_, hr⟩ := bif_some hr; cases hr; simp [Row.deep] at h3; done)
            | (rename_i hq'; exact scalar_leaf (by simp [scalarTy, hq']))
        refine ⟨hone, fun j hj => ?_⟩
        obtain ⟨c, v, k1, k2, k3⟩ := zero_cell T hr (w := w) (Z := Zu C w S.nx Fs [] fz) m j 0 hj (by omega)
        rw [hone] at k2
        simp at k2
        subst k2
        rw [h2, Nat.mul_one, Nat.add_zero] at k1
        exact ⟨c, k1, k3⟩
      have hlen : (zeroRow m r).len = m := zeroRow_len _ _
      have hsz : (zeroRow m r).size = 1 := by rw [zeroRow_size]; exact h2
      have hzs : z.cells.size = m := by
        have := congrArg List.length hzl
        simpa using this
      refine ⟨_, _, _, .pointer (some ⟨w.heap.size, 0, none⟩), .inl ?_, SRel.newRow h hg [] (by simp) (by simp) t (zeroRow m r) z.cells t m fz ?_ (by simp) (by rw [hlen]; exact Nat.le_refl _) (by rw [hsz, hzs]; omega) (w.alloc (.cells z.cells t)) rfl rfl rfl rfl, ?_⟩
      · simp only [execOp, ho]
        exact run_v (run_alloc_any i1 z1 w)
      · refine CellsRel.ofFz fun j c hc => ?_
        have hj : j < m := by
          have := (List.getElem?_eq_some_iff.1 hc).1
          rw [Row.cells_length, hlen, hsz] at this
          omega
        obtain ⟨c', k1, k2⟩ := hlf.2 j hj
        rw [hc] at k1; cases k1
        exact ⟨_, by rw [hzl]; simp [hj], k2⟩
      · refine ⟨live_lt h.mem hg, fun root hr' => ?_⟩
        simp only [Cx.env] at hr' ⊢
        have : upd S.hp [(n, some (.row t 0 (zeroRow m r)))] n = some (.row t 0 (zeroRow m r)) := by simp [upd]
        rw [this] at hr'
        cases hr'
        exact ⟨_, rfl, hlen, w.heap.size, m, newρ_self .., rfl⟩
    · cases he
  · rename_i e hk1 hk2 hq
    obtain ⟨hs, he⟩ := bif_some he
    cases he
    rw [show [zeroLV tt t] = (leafTypes tt depth t).map (zeroLV tt) by rw [scalar_leaf hs]; rfl]
    refine box e hq fun n x hx => ?_
    obtain ⟨k, sz, bs⟩ := e
    simp only at hx
    subst hx
    simp [scalarTy, hq] at hs
  · cases he

/-! ### Structs -/
theorem setMany_rel {E : Env} : ∀ (xs : List LV) (us : List Value), LVsRel E xs us → ∀ (zs : List LV) (vs : List Value) (k : Nat), LVsRel E zs vs → LVsRel E (setMany zs k xs) ((us.zipIdx 0).foldl (fun cs (x : Value × Nat) => cs.set (k + x.2) x.1) vs) := by
  have gen : ∀ (xs : List LV) (us : List Value) (s : Nat), LVsRel E xs us → ∀ (zs : List LV) (vs : List Value) (k : Nat), LVsRel E zs vs → LVsRel E (setMany zs (k + s) xs) ((us.zipIdx s).foldl (fun cs (x : Value × Nat) => cs.set (k + x.2) x.1) vs) := by
    intro xs
    induction xs with
    | nil => intro us s h zs vs k hz; cases us with
      | nil => exact hz
      | cons u us => exact absurd h id
    | cons x xs ih => intro us s h zs vs k hz; cases us with
      | nil => exact absurd h id
      | cons u us =>
        simp only [List.zipIdx_cons, List.foldl_cons, setMany]
        refine ih us (s + 1) h.2 _ _ k ?_
        have : ∀ (zs : List LV) (vs : List Value) (k : Nat), LVsRel E zs vs → LVsRel E (zs.set k x) (vs.set k u) := by
          intro zs
          induction zs with
          | nil => intro vs k hz; cases vs with
            | nil => exact hz
            | cons v vs => exact absurd hz id
          | cons z zs ih2 => intro vs k hz; cases vs with
            | nil => exact absurd hz id
            | cons v vs => cases k with
              | zero => exact ⟨h.1, hz.2⟩
              | succ k => exact ⟨hz.1, ih2 vs k hz.2⟩
        exact this zs vs _ hz
  intro xs us h zs vs k hz
  exact gen xs us 0 h zs vs k hz
theorem foldl_arr (k : Nat) : ∀ (us : List Value) (s : Nat) (cs : Array Value), ((us.zipIdx s).foldl (fun cs (x : Value × Nat) => cs.setIfInBounds (k + x.2) x.1) cs).toList = (us.zipIdx s).foldl (fun cs (x : Value × Nat) => cs.set (k + x.2) x.1) cs.toList
  | [], s, cs => rfl
  | u :: us, s, cs => by
    simp only [List.zipIdx_cons, List.foldl_cons]
    rw [foldl_arr k us (s + 1)]
    simp
theorem setMany_length (xs : List LV) : ∀ (zs : List LV) (k : Nat), (setMany zs k xs).length = zs.length := by
  induction xs with
  | nil => intro zs k; rfl
  | cons x xs ih => intro zs k; simp [setMany, ih]
theorem fill_sound (T : TOK P tt) (m : MRel C S.hp S.nx w ρ Fs) {fs : List (Nat × Nat)} {fields : Array Field} (hf : fields.toList.map (fun f => (f.offset, f.type)) = fs) (places : List (Nat × Nat)) (hpl : fields.toList.mapM (fun f => (P.info? f.type).map fun i => (f.offset, i.size)) = some places) (env : Operand → Value) (hrd : ∀ x, AVRel (C.env w ρ S.hp S.nx Fs) (St.rd C.N S.sl x) (env x)) :
    ∀ (ps : List (Nat × Operand)) (zero : List LV) (zs : Array Value) (xs : List LV), LVsRel (C.env w ρ S.hp S.nx Fs) zero zs.toList → fillParts tt S.hp fs zero (ps.map fun p => (p.1, St.rd C.N S.sl p.2)) = some xs →
    ∃ cells, Instr.fill (places.toArray[·]?) zs (ps.map fun p => (p.1, env p.2)) = some cells ∧ LVsRel (C.env w ρ S.hp S.nx Fs) xs cells.toList := by
  have hlook : ∀ (i off ft : Nat) (e : TE), fs[i]? = some (off, ft) → tt ft = some e → places.toArray[i]? = some (off, e.size) := by
    intro i off ft e h1 h2
    subst hf
    rw [List.getElem?_map] at h1
    cases hfi : fields.toList[i]? with
    | none => rw [hfi] at h1; cases h1
    | some f =>
      rw [hfi] at h1
      simp only [Option.map_some, Option.some.injEq, Prod.mk.injEq] at h1
      obtain ⟨rfl, rfl⟩ := h1
      obtain ⟨ti, t1, t2, _⟩ := (T _ _ h2).info
      have : ∀ (l : List Field) (ps : List (Nat × Nat)), l.mapM (fun f => (P.info? f.type).map fun i => (f.offset, i.size)) = some ps → ∀ j : Nat, l[j]? = some f → ps[j]? = some (f.offset, ti.size) := by
        intro l
        induction l with
        | nil => intro ps _ j hj; simp at hj
        | cons g l ih =>
          intro ps hps j hj
          simp only [List.mapM_cons, Option.bind_eq_bind, Option.pure_def] at hps
          cases hi : P.info? g.type with
          | none => simp [hi] at hps
          | some gi =>
            cases hr : l.mapM (fun f => (P.info? f.type).map fun i => (f.offset, i.size)) with
            | none => simp [hi, hr] at hps
            | some rest =>
              simp [hi, hr] at hps
              subst hps
              cases j with
              | zero =>
                simp at hj
                subst hj
                rw [t1] at hi; cases hi
                rfl
              | succ j => simpa using ih rest hr j (by simpa using hj)
      rw [List.getElem?_toArray, this _ _ hpl i hfi, t2]
  intro ps
  induction ps with
  | nil => intro zero zs xs hz he; simp only [List.map_nil, fillParts, Option.some.injEq] at he; subst he; exact ⟨zs, rfl, hz⟩
  | cons p ps ih =>
    intro zero zs xs hz he
    obtain ⟨i, x⟩ := p
    simp only [List.map_cons, fillParts] at he
    split at he
    · rename_i off ft ys h1 h2
      split at he
      · rename_i e h3
        obtain ⟨h4, he⟩ := bif_some he
        obtain ⟨h5, h6⟩ := and_bool h4
        have h5 := eq_of_beq h5
        have h6 := Nat.le_of_ble_eq_true h6
        obtain ⟨hr, _⟩ := aggCells_sound m h2 (hrd x)
        have hl := hr.length
        have hzl := hz.length
        simp only [Array.length_toList] at hl hzl
        have hstep := setMany_rel ys _ hr zero zs.toList off hz
        rw [← foldl_arr] at hstep
        obtain ⟨cells, g1, g2⟩ := ih _ _ xs hstep he
        refine ⟨cells, ?_, g2⟩
        simp only [List.map_cons]
        unfold Instr.fill
        rw [hlook i off ft e h1 h3]
        simp only []
        rw [if_neg (by simp; omega)]
        rw [← g1]
        congr 1
        rw [← Array.foldl_toList, Array.toList_zipIdx]
      · cases he
    · cases he
theorem evBuild_sound (T : TOK P tt) (h : SRel C S a w ρ Fs) {o : Oper} {t : Nat} {ps : Array (Nat × Operand)} (ho : o.op = .build t ps) {E : Eff} (he : evBuild (R := Eff) tt S.hp n t (ps.toList.map fun p => (p.1, St.rd C.N S.sl p.2)) some = some E) : ∃ u, Out P C S o E a w w ρ Fs u := by
  unfold evBuild at he
  split at he
  · rename_i fs sz bs hq
    split at he
    · rename_i xs hxs
      cases he
      obtain ⟨fields, f1, f2, f3⟩ := (T t _ hq).desc
      obtain ⟨i, z, z1, z2, z3, z4, z5, z6⟩ := zero_facts T hq (by simp)
      have hpl : ∃ places, fields.toList.mapM (fun f => (P.info? f.type).map fun i => (f.offset, i.size)) = some places := by
        have : ∀ l : List Field, (∀ f ∈ l, ∃ i, P.info? f.type = some i ∧ i.size ≠ 0) → ∃ places, l.mapM (fun f => (P.info? f.type).map fun i => (f.offset, i.size)) = some places := by
          intro l
          induction l with
          | nil => intro _; exact ⟨[], rfl⟩
          | cons f l ih =>
            intro hl
            obtain ⟨i, hi, _⟩ := hl f (by simp)
            obtain ⟨ps, hps⟩ := ih (fun g hg => hl g (by simp [hg]))
            exact ⟨(f.offset, i.size) :: ps, by simp [List.mapM_cons, hi, hps]⟩
        exact this _ f3
      obtain ⟨places, hpl⟩ := hpl
      obtain ⟨cells, c1, c2⟩ := fill_sound T h.mem f2 places hpl a.eval h.rd ps.toList _ z.cells xs (by rw [z3]; exact zeros_rel _ tt _) hxs
      refine ⟨.agg cells, Out.pure h rfl ?_ ⟨cells.toList, by simp, c2⟩⟩
      simp only [execOp, ho]
      refine run_v (run_build w t _ cells ?_)
      simp only [Program.built, z1, f1, z2, hpl]
      simpa using c1
    · cases he
  · rename_i m e sz bs hq
    split at he
    · rename_i te hps hte
      cases he
      obtain ⟨i, i1, i2, i3, z, z1, z2⟩ := (T t _ hq).info
      have hzl : z.cells.toList = List.replicate m (zeroV tt e) := z2
      obtain ⟨ie, e1, _⟩ := (T e _ hte).info
      have hd : P.underlying t = some (.array m e) := (T t _ hq).desc
      have hps0 : ps.toList = [] := by simpa using hps
      refine ⟨.agg z.cells, Out.pure h rfl ?_ ⟨z.cells.toList, by simp, ?_⟩⟩
      · simp only [execOp, ho]
        refine run_v (run_build w t _ z.cells ?_)
        simp only [Program.built, i1, hd, z1, e1]
        simp [hps0, Instr.fill]
      · rw [hzl]
        have : ∀ k, LVsRel (C.env w ρ S.hp S.nx Fs) (List.replicate k (zeroLV tt e)) (List.replicate k (zeroV tt e)) := by
          intro k
          induction k with
          | zero => trivial
          | succ k ih => exact ⟨zeroLV_rel _ tt e, ih⟩
        exact this m
    · cases he
  · cases he
end
end Go.Proofs.Ytfkejiljabmaaaa.V
