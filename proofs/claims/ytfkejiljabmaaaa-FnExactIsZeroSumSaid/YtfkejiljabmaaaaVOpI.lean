/- What the operations do: rows out of values, and stores. Conditions: the types' table holds of the program. -/
import Derived.Test.YtfkejiljabmaaaaVOpH
import Derived.Laws.CopyRow
set_option linter.unusedVariables false
set_option linter.unusedSimpArgs false
namespace Go.Proofs.Ytfkejiljabmaaaa.V
open Go

section
variable {P : Program} {tt : TT} {C : Cx} {S : St} {a : Act} {w : World} {ρ : Place} {Fs : Nat → FP} {n : Nat}

/-! ### A slice out of its parts -/
theorem inOrder_sound (env : Operand → Value) (nt : Nat) (sl : Nat → AV) : ∀ (ps : List (Nat × Operand)) (i : Nat) (xs : List AV), inOrder i (ps.map fun p => (p.1, St.rd nt sl p.2)) = some xs → xs = ps.map (fun p => St.rd nt sl p.2) ∧ (ps.map fun p => (p.1, env p.2)) = ((ps.map fun p => env p.2).zipIdx i).map (fun x => (x.2, x.1))
  | [], i, xs, h => by simp only [List.map_nil, inOrder, Option.some.injEq] at h; subst h; exact ⟨rfl, rfl⟩
  | p :: ps, i, xs, h => by
    simp only [List.map_cons, inOrder] at h
    obtain ⟨h1, h⟩ := bif_some h
    have h1 := eq_of_beq h1
    split at h
    · rename_i ys hq
      simp only [Option.some.injEq] at h
      subst h
      obtain ⟨g1, g2⟩ := inOrder_sound env nt sl ps (i + 1) ys hq
      subst g1
      refine ⟨rfl, ?_⟩
      simp only [List.map_cons, List.zipIdx_cons, g2, h1]
    · cases h
theorem rds_rel (h : SRel C S a w ρ Fs) : ∀ ps : List (Nat × Operand), AVsRel (C.env w ρ S.hp S.nx Fs) (ps.map fun p => St.rd C.N S.sl p.2) (ps.map fun p => a.eval p.2)
  | [] => trivial
  | p :: ps => ⟨h.rd p.2, rds_rel h ps⟩
theorem emptyRow_len {e : Nat} {r : Row} (h : emptyRow tt e = some r) : r.len = 0 := by
  unfold emptyRow at h
  split at h
  all_goals first
    | (obtain ⟨_, h⟩ := bif_some h; cases h; rfl)
    | (cases h; rfl)
    | cases h
theorem run_buildSlice' (w : World) (t e : TypeId) (len : Nat) (parts : Array (Nat × Value)) (vs : List Value) (ie : TypeInfo) (z : Value) (hu : P.underlying t = some (.slice e)) (hie : P.info? e = some ie) (hz : ie.zero = some z) (hsmall : len * ie.size ≤ 16777216) (hs : 0 < ie.size)
    (hp : parts.toList = (vs.zipIdx 0).map (fun x => (x.2, x.1))) (hl : vs.length = len) (hv : ∀ v ∈ vs, v.cells.size = ie.size) :
    (Instr.buildSlice t len parts).run P w = .ok (.slice (some ⟨w.heap.size, 0, none⟩) len len) (w.alloc (.cells (flat vs).toArray e)) := by
  by_cases h0 : len = 0
  · subst h0
    have hvs : vs = [] := List.eq_nil_of_length_eq_zero hl
    subst hvs
    have hp' : parts.toList = [] := by simpa using hp
    have hnil : parts = #[] := by apply Array.ext'; simpa using hp'
    subst hnil
    simp [Instr.buildSlice, run_underlying hu, sizeOf, typeInfo, hie, newRow, Instr.fill, flat]
    congr 2
    apply Array.ext'
    simp
  · refine run_buildSlice w t e len parts _ ie z hu hie hz (by omega) (by have := Nat.mul_pos (Nat.pos_of_ne_zero h0) hs; omega) ?_
    rw [hp]
    exact Great.fill_whole hs vs _ hv (by simp [hl])
theorem evBuildSlice_sound (T : TOK P tt) (h : SRel C S a w ρ Fs) {o : Oper} {t len : Nat} {ps : Array (Nat × Operand)} (ho : o.op = .buildSlice t len ps) {E : Eff} (he : evBuildSlice (R := Eff) tt S.hp n t len (ps.toList.map fun p => (p.1, St.rd C.N S.sl p.2)) some = some E) (hg : S.hp n = some .ghost) : ∃ w' ρ' Fs' u, Out P C S o E a w w' ρ' Fs' u := by
  unfold evBuildSlice at he
  split at he
  · rename_i e hel
    split at he
    · rename_i r0 xs hr0 hxs
      obtain ⟨hc, he⟩ := bif_some he
      obtain ⟨hl, hsm⟩ := and_bool hc
      have hl := eq_of_beq hl
      have hsm := Nat.le_of_ble_eq_true hsm
      split at he
      · rename_i r ks hr
        cases he
        obtain ⟨g1, g2⟩ := inOrder_sound a.eval C.N S.sl ps.toList 0 xs hxs
        have hrel := rds_rel h ps.toList
        rw [← g1] at hrel
        obtain ⟨F, k1, k2, k3, k4, k5, k6, k7, k8, _, _⟩ := rowOf_sound h.mem xs _ S.hp r0 r ks (Sub.refl _) (emptyRow_len hr0) hr hrel
        obtain ⟨te, q1, q2, q3, q4⟩ := emptyRow_size T hr0
        obtain ⟨i, z, z1, z2, z3, z4, z5, z6⟩ := zero_facts T q1 q3
        have hfl : (flat (ps.toList.map fun p => a.eval p.2)).length = len * r0.size := by
          have : ∀ l : List Value, (∀ v ∈ l, v.cells.size = r0.size) → (flat l).length = l.length * r0.size := by
            intro l
            induction l with
            | nil => intro _; simp [flat]
            | cons v l ih =>
              intro hv
              rw [flat_cons, List.length_append, ih (fun u hu => hv u (by simp [hu])), Array.length_toList, hv v (by simp), List.length_cons, Nat.succ_mul]
              omega
          rw [this _ k6, k7, hl]
        refine ⟨_, _, _, .slice (some ⟨w.heap.size, 0, none⟩) len len, .inl ?_, SRel.newRow h hg ks k3.1 (k3.live (Sub.refl _)) e r (flat (ps.toList.map fun p => a.eval p.2)).toArray e len F (by simpa using k1) k2 (by omega) (by rw [k5]; simp only [List.size_toArray]; omega) (w.alloc (.cells (flat (ps.toList.map fun p => a.eval p.2)).toArray e)) rfl rfl rfl rfl, ?_⟩
        · simp only [execOp, ho]
          refine run_v (run_buildSlice' w t e len _ _ i z (slice_facts T hel) z1 z2 (by rw [z4, q2]; exact hsm) (by omega) ?_ (by rw [k7, hl]) (fun v hv => by rw [k6 v hv, z4, q2]))
          rw [Array.toList_map, g2]
        · have := own_rel (C := C) (w' := w.alloc (.cells (flat (ps.toList.map fun p => a.eval p.2)).toArray e)) (ρ' := newρ ρ n (some (w.heap.size, len))) (hp' := upd S.hp (killUp ks ++ [(n, some (.row e 0 r))])) (nx := S.nx) (Fs' := putF (kilF Fs ks) n (fadd (f1 w.heap.size) F)) (live_lt h.mem hg) (newρ_self ..) (e := e) (v := 0) (r := r) (by rw [upd_append, upd_one, if_pos rfl])
          rw [k4, hl] at this
          exact this
      · cases he
    · cases he
  · cases he

/-! ### Stores -/
theorem run_storeAt' {t : TypeId} {i : TypeInfo} (hi : P.info? t = some i) {w : World} {b o : Nat} {arr : Array Value} {ty : TypeId} (hb : w.heap[b]? = some (.cells arr ty (0, 0))) {v : Value} (hs : v.cells.size = i.size) (hone : ∀ u ∈ v.cells.toList, u.oneCell' = true) (hfit : o + i.size ≤ arr.size) :
    (Instr.storeAt t (.pointer (some ⟨b, o, none⟩)) v).run P w = .ok () (w.setRow b (arr.toList.take o ++ v.cells.toList ++ arr.toList.drop (o + i.size)).toArray) := by
  unfold Instr.storeAt
  rw [run_then (x := (⟨b, o, none⟩ : Addr)) (w' := w) rfl]
  unfold storeVar
  rw [run_then (run_sizeOf' hi)]
  have := run_storeCells_at P b o ty v.cells.toList 0 arr w hb (by simp [hs]; exact hfit) hone
  simp only [Nat.add_zero, Array.length_toList, hs] at this
  simp [hs, this]
theorem setRow_other (w : World) (g : Nat) (cs : Array Value) {b : Nat} (h : b ≠ g) : (w.setRow g cs).heap[b]? = w.heap[b]? := by
  simp [World.setRow, Array.getElem?_modify, Ne.symm h]
theorem setRow_size (w : World) (g : Nat) (cs : Array Value) : (w.setRow g cs).heap.size = w.heap.size := by simp [World.setRow]
/-- Blocks that a turned root gave up may be read. -/
def Zt (C : Cx) (w : World) (nx : Nat) (Fs : Nat → FP) (id : Nat) (ks : List Nat) (b : Nat) (F : FP) : Zs := fun b' => C.ZL w (sumTo nx Fs) b' ∨ (1 ≤ Fs id b' + sumL Fs ks b' ∧ F b' = 0 ∧ b' ≠ b)
theorem SRel.turnRow (h : SRel C S a w ρ Fs) (ks : List Nat) (hks : ks.Nodup) (hlive : ∀ k ∈ ks, S.hp k ≠ none) {id : Nat} (hid : id ∉ ks) {root : Root} (hr0 : S.hp id = some root) {b cap : Nat} (hρ : ρ id = some (b, cap)) {arr arr' : Array Value} {ty : TypeId} (hb : w.heap[b]? = some (.cells arr ty (0, 0))) (e ver : Nat) (r : Row) (F : FP)
    (hc : CellsRel w (Zt C w S.nx Fs id ks b F) r.cells arr'.toList F) (hF : ∀ b', F b' + f1 b b' ≤ Fs id b' + sumL Fs ks b') (hown : 1 ≤ Fs id b) (h1 : r.len ≤ cap) (h2 : cap * r.size ≤ arr'.size) (hl : Like w (w.setRow b arr') (ρ id) root (.row e ver r)) :
    SRel C ⟨S.sl, upd S.hp (killUp ks ++ [(id, some (.row e ver r))]), S.nx⟩ a (w.setRow b arr') ρ (putF (kilF Fs ks) id (fadd (f1 b) F)) := by
  have hk : ∀ k ∈ ks, k < S.nx := fun k h' => by
    cases e : S.hp k with
    | none => exact absurd e (hlive k h')
    | some r => exact live_lt h.mem e
  have hidlt := live_lt h.mem hr0
  have htot : ∀ b', Fs id b' + sumL Fs ks b' ≤ sumTo S.nx Fs b' := fun b' => sumL_out Fs b' S.nx hks hk hidlt hid
  have hFb : F b = 0 := by
    have := hF b
    have := htot b
    have := h.mem.one b
    simp at *
    omega
  refine h.turn ks hks hlive id hid root _ hr0 _ (w.setRow b arr') (setRow_size ..) rfl rfl rfl (fun b' hb' h0 => setRow_other w b arr' (by rintro rfl; omega)) (fun b' => by have := hF b'; simp; omega) hl (fun M => ?_)
  refine .inr ⟨b, cap, arr', ty, F, hρ, setRow_heap w b arr arr' ty _ hb, h1, h2, hc.mono (fun b' hb' => ?_) (fun b' hb' => setRow_other w b arr' (by rintro rfl; omega)), rfl⟩
  rcases hb' with hb' | ⟨g1, g2, g3⟩
  · exact M.zl b' hb'
  · obtain ⟨o1, o2⟩ := h.mem.mine b' (Nat.le_trans g1 (htot b'))
    refine ⟨.inr (.inr ⟨o2, by show b' < (w.setRow b arr').heap.size; rw [setRow_size]; exact o1, ?_⟩), setRow_other w b arr' g3⟩
    have k1 := sumTo_put (kilF Fs ks) (fadd (f1 b) F) b' hidlt
    have k2 := sumTo_kil Fs b' S.nx ks hks hk
    have k3 : kilF Fs ks id = Fs id := by simp [kilF, hid]
    have k4 := h.mem.one b'
    have k5 : f1 b b' = 0 := by rw [f1_at, if_neg g3]
    rw [k3] at k1
    simp [k5] at k1
    omega
theorem turn_seal {id : Nat} {ks : List Nat} {b : Nat} {cs ct cf : List Cell} {vs : List Value} {F : FP} (h : CellsRel w (C.ZL w (sumTo S.nx Fs)) cs vs F) (hF : ∀ b', F b' + f1 b b' ≤ Fs id b' + sumL Fs ks b') (hFb : F b = 0) (o : Bool) (h1 : o = true → ct = cs) (h2 : o = false → cf = cs.map Cell.frz) : ∃ F', CellsRel w (Zt C w S.nx Fs id ks b F') (if o then ct else cf) vs F' ∧ ∀ b', F' b' + f1 b b' ≤ Fs id b' + sumL Fs ks b' := by
  cases o with
  | true => rw [h1 rfl]; exact ⟨F, h.mono (fun b hb => ⟨.inl hb, rfl⟩) (fun b _ => rfl), hF⟩
  | false =>
    rw [h2 rfl]
    refine ⟨fz, h.frz (fun b hb => .inl hb) (fun b' hb => .inr ⟨?_, rfl, ?_⟩), fun b' => ?_⟩
    · have := hF b'; omega
    · rintro rfl; omega
    · have := hF b'; simp; omega
theorem LVsRel.append {E : Env} : ∀ {xs ys : List LV} {us vs : List Value}, LVsRel E xs us → LVsRel E ys vs → LVsRel E (xs ++ ys) (us ++ vs)
  | [], _, [], _, _, h => h
  | x :: xs, _, u :: us, _, h, h' => ⟨h.1, LVsRel.append h.2 h'⟩
theorem setMany_mid : ∀ (xs A B D : List LV), B.length = xs.length → setMany (A ++ (B ++ D)) A.length xs = A ++ (xs ++ D)
  | [], A, B, D, h => by have : B = [] := List.eq_nil_of_length_eq_zero h
                         subst this; rfl
  | x :: xs, A, [], D, h => by simp at h
  | x :: xs, A, y :: B, D, h => by
    have e : (A ++ ((y :: B) ++ D)).set A.length x = (A ++ [x]) ++ (B ++ D) := by
      rw [List.set_append_right _ _ (Nat.le_refl _)]
      simp
    have e2 : A.length + 1 = (A ++ [x]).length := by simp
    rw [setMany, e, e2, setMany_mid xs (A ++ [x]) B D (by simpa using h)]
    simp
theorem setMany_eq (xs zs : List LV) (k : Nat) (h : k + xs.length ≤ zs.length) : setMany zs k xs = zs.take k ++ (xs ++ zs.drop (k + xs.length)) := by
  have e : zs = zs.take k ++ ((zs.drop k).take xs.length ++ zs.drop (k + xs.length)) := by
    rw [← List.drop_drop, List.take_append_drop, List.take_append_drop]
  have hk : (zs.take k).length = k := by simp; omega
  have := setMany_mid xs (zs.take k) ((zs.drop k).take xs.length) (zs.drop (k + xs.length)) (by simp; omega)
  rw [← e, hk] at this
  exact this
end
end Go.Proofs.Ytfkejiljabmaaaa.V
