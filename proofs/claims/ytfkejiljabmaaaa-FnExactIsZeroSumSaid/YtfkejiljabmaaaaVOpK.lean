/- What the operations do: stores, all of them. Conditions: the types' table holds of the program. -/
import Derived.Test.YtfkejiljabmaaaaVOpJ
set_option linter.unusedVariables false
set_option linter.unusedSimpArgs false
namespace Go.Proofs.Ytfkejiljabmaaaa.V
open Go

section
variable {P : Program} {tt : TT} {C : Cx} {S : St} {a : Act} {w : World} {ρ : Place} {Fs : Nat → FP} {n : Nat}

theorem size_facts (T : TOK P tt) {t : Nat} {e : TE} (h : tt t = some e) : ∃ i, P.info? t = some i ∧ i.size = e.size := by
  obtain ⟨i, i1, i2, _⟩ := (T t e h).info
  exact ⟨i, i1, i2⟩
theorem slAt_nd {r : Row} (h : r.deep = false) (f : Nat) : r.slAt f = false := by
  cases hs : r.slAt f with
  | false => rfl
  | true => rw [slAt_deep hs] at h; cases h
theorem seg3 {α : Type} (l : List α) (i : Nat) (h : i < l.length) : l = l.take i ++ ([l[i]] ++ l.drop (i + 1)) := by
  rw [List.singleton_append, List.getElem_cons_drop, List.take_append_drop]
theorem ltake_len {α : Type} (l : List α) (i : Nat) (h : i < l.length) : (l.take i).length = i := by simp; omega
theorem set_split {α : Type} (l : List α) (i : Nat) (y : α) (h : i < l.length) : l.set i y = l.take i ++ (y :: l.drop (i + 1)) := by
  rw [List.set_eq_take_append_cons_drop, if_pos h]
/-- Into a row of slices. -/
theorem store_rows (T : TOK P tt) (h : SRel C S a w ρ Fs) {o : Oper} {t : Nat} {p x : Operand} (ho : o.op = .store t p x) {id i : Nat} (hp : St.rd C.N S.sl p = .one (.l (.eptr id i 0))) {root : Root} (hroot : S.hp id = some root) {own : Bool} {l : List (List Int)} (hr : root.row? = some (.rows own l)) (hs : scalarTy tt t = true)
    {c : Cell} (hroots : RowRel w (C.ZL w (sumTo S.nx Fs)) (ρ id) ((Row.rows own l).cells.set i c) l.length 1 (Fs id))
    {y : LV} (hx : St.rd C.N S.sl x = .one (.l y)) {o' : Bool} {z : List Int} {ks : List Nat} (he : elemSl S.hp y = some (o', z, ks)) (hidk : id ∉ ks) (e' ver' : Nat)
    (hl : ∀ w', Like w w' (ρ id) root (.row e' ver' (.rows (own && o') (l.set i z)))) {nx : Nat} {rl rc : List Nat} : ∃ w' ρ' Fs' u, Out P C S o ⟨.l .undef, killUp ks ++ [(id, some (.row e' ver' (.rows (own && o') (l.set i z))))], nx, rl, rc⟩ a w w' ρ' Fs' u := by
  obtain ⟨hlt, hx2⟩ := rd_l h hp
  obtain ⟨r1, e1, hi, b, cap, hρ, hpv⟩ := hx2 _ hroot
  rw [hr] at e1; cases e1
  simp only [Cx.env, Row.len, Row.size, Nat.mul_one, Nat.add_zero] at hρ hi hpv
  obtain ⟨F1, k1, k2, k3, k4, k5⟩ := elemSl_sound h.mem (Sub.refl _) he (rd_l h hx)
  rcases hroots with ⟨_, h0, _⟩ | ⟨b', cap', arr, ty, F, g1, g2, g3, g4, g5, g6⟩
  · omega
  rw [hρ] at g1; cases g1
  have g7 : F b = 0 := by
    have t1 := sumTo_le Fs b (live_lt h.mem hroot)
    have t2 := h.mem.one b
    rw [g6] at t1
    simp at t1
    omega
  obtain ⟨ti, t1, t2⟩ := scalar_one T hs
  have hcl : (Row.rows own l).cells.length = l.length := by simp [Row.cells]
  have hseg := set_split (Row.rows own l).cells i c (by omega)
  rw [hseg] at g5
  have hone := one_cells k5
  refine store_own T h ho hpv hroot hρ g2 g6 g7 k3 hidk (A := (Row.rows own l).cells.take i) (B := [c]) (D := (Row.rows own l).cells.drop (i + 1)) (B' := [.sl o' z]) g5 (ltake_len _ _ (by omega)) rfl t1 (by rw [t2]; rfl) (by rw [hone]; rfl) (fun u hu => by rw [hone] at hu; simp at hu; subst hu; exact k5) (by rw [hone]; exact cell_one k1) k2 (own && o') _ ver' e'
    (fun hh => ?_) (fun _ => ?_) (by simp only [Row.len, List.length_set]; exact g3) (by simpa [Row.size] using g4) hl
  · obtain ⟨rfl, rfl⟩ := and_bool hh
    show (l.set i z).map _ = _
    rw [set_split l i z hi]
    simp [Row.cells, List.map_take, List.map_drop]
  · show (l.set i z).map _ = _
    rw [set_split l i z hi]
    rename_i hf
    simp [Row.cells, List.map_take, List.map_drop, Cell.frz, Function.comp_def, hf]
/-- Into a slice inside a row of slices. -/
theorem store_inner (T : TOK P tt) (h : SRel C S a w ρ Fs) {o : Oper} {t : Nat} {p x : Operand} (ho : o.op = .store t p x) {id ver i f j e : Nat} {l : List (List Int)} {z : Int} (hp : St.rd C.N S.sl p = .one (.l (.iptr id ver i f j))) (hroot : S.hp id = some (.row e ver (.rows true l))) (hs : scalarTy tt t = true) (hx : St.rd C.N S.sl x = .one (.l (.i .i64 z))) {nx : Nat} {rl rc : List Nat} :
    ∃ w' ρ' Fs' u, Out P C S o ⟨.l .undef, [(id, some (.row e ver (.rows true (l.set i ((l.getD i []).set j z)))))], nx, rl, rc⟩ a w w' ρ' Fs' u := by
  obtain ⟨hlt, hx2⟩ := rd_l h hp
  obtain ⟨_, _, hx3⟩ := hx2 _ hroot
  obtain ⟨k1, k2, k3, A0, n0, cap0, k4, hpv⟩ := hx3 e _ rfl
  have hv : a.eval x = .int .i64 z := rd_l h hx
  simp only [Row.slAt] at k1
  have hf0 := eq_of_beq k1
  subst hf0
  simp only [Row.len] at k2
  have hgd : l.getD i [] = l[i] := by simp [k2]
  simp only [innerOf, hgd] at k3
  simp only [Row.size, Nat.mul_one, Nat.add_zero, Cx.env] at k4
  cases hρ : ρ id with
  | none => rw [hρ] at k4; cases k4
  | some q =>
    obtain ⟨b, cap⟩ := q
    rw [hρ] at k4
    obtain ⟨arr, ty, F, g1, g2, g3, g4, g5, g6⟩ := row_mem h.mem hroot hρ (by simp only [Row.len]; omega)
    simp only [cellAt] at k4
    rw [cell?_plain g1] at k4
    have hcl : (Row.rows true l).cells.length = l.length := by simp [Row.cells]
    have hcs := seg3 (Row.rows true l).cells i (by omega)
    have hci : (Row.rows true l).cells[i]'(by omega) = .sl true l[i] := by simp [Row.cells]
    rw [hci] at hcs
    have hale := g4.length
    simp only [Array.length_toList] at hale
    have has := seg3 arr.toList i (by simp; omega)
    have g4' := g4
    rw [hcs] at g4'
    obtain ⟨FA, F2, s1, s2, s3⟩ := CellsRel.split g4'
    obtain ⟨FB, FD, s4, s5, s6⟩ := CellsRel.split s2
    have hAl : ((Row.rows true l).cells.take i).length = i := ltake_len _ _ (by omega)
    rw [hAl] at s1 s4 s5
    have hvi : arr.toList[i]'(by simp; omega) = .slice (some A0) n0 cap0 := by
      have : arr.toList[i]? = some (.slice (some A0) n0 cap0) := by simpa using k4
      exact (List.getElem?_eq_some_iff.1 this).2
    have hdrop : arr.toList.drop i = .slice (some A0) n0 cap0 :: arr.toList.drop (i + 1) := by
      rw [← hvi, List.getElem_cons_drop]
    rw [hdrop] at s4 s5
    simp only [List.length_singleton, List.take_succ_cons, List.take_zero, List.drop_succ_cons, List.drop_zero] at s4 s5
    obtain ⟨G1, G2, r1, r2, r3⟩ := s4
    have hG2 : G2 = fz := r2
    subst hG2
    rw [fadd_fz] at r3
    subst r3
    rcases r1 with ⟨_, hnil, _⟩ | ⟨b2, cap2, arr2, ty2, q1, q2, q3, q4, q5, q6⟩
    · rw [hnil] at k3; simp at k3
    simp only [Value.slice.injEq, Option.some.injEq] at q1
    obtain ⟨rfl, rfl, rfl⟩ := q1
    obtain ⟨ti, t1, t2⟩ := scalar_one T hs
    rw [plain_add, Nat.zero_add] at hpv
    have hrun := run_store1 (P := P) t1 t2 q2 (o := j) (v := a.eval x) (by rw [hv]; rfl) (by omega)
    rw [← hpv] at hrun
    have hFb2 : ∀ b', F b' = FA b' + (f1 b2 b' + FD b') := fun b' => by rw [s3, s6, q6]; simp
    have hone : ∀ b', Fs id b' ≤ 1 := fun b' => Nat.le_trans (sumTo_le Fs b' (live_lt h.mem hroot)) (h.mem.one b')
    have hb2 : Fs id b2 = 1 := by
      have h1 := hone b2
      have h2 := hFb2 b2
      have h3 : Fs id b2 = f1 b b2 + F b2 := by rw [g5]; rfl
      simp at h2
      omega
    have hne : b ≠ b2 := by
      rintro rfl
      have h2 := hFb2 b
      simp at h2
      omega
    have hz2 : FA b2 = 0 ∧ FD b2 = 0 := by
      have h2 := hFb2 b2
      have h3 : Fs id b2 = f1 b b2 + F b2 := by rw [g5]; rfl
      simp at h2
      omega
    have hlset : ∀ i' f', (innerOf (.rows true (l.set i ((l.getD i []).set j z))) i' f').length = (innerOf (.rows true l) i' f').length := fun i' f' => by
      simp only [innerOf, List.getD_eq_getElem?_getD, List.getElem?_set]
      by_cases ei : i = i'
      · subst ei; simp [k2]
      · simp [ei]
    have := h.turn [] (by simp) (by simp) id (by simp) _ (.row e ver (.rows true (l.set i ((l.getD i []).set j z)))) hroot (Fs id) (w.setRow b2 (arr2.toList.set j (a.eval x)).toArray) (setRow_size ..) rfl rfl rfl
      (fun b' hb' h0 => setRow_other w b2 _ (by rintro rfl; omega)) (fun b' => by simp [sumL]) ⟨by simp [Row.len], rfl, Nat.le_refl _, fun _ => rfl, fun _ _ => ⟨hlset, fun b' cap' hq => by rw [hρ] at hq; cases hq; exact setRow_other w b2 _ hne⟩⟩
      (fun M => by
        have hmv : ∀ {cs : List Cell} {vs : List Value} {G : FP}, CellsRel w (C.ZL w (sumTo S.nx Fs)) cs vs G → G b2 = 0 → CellsRel (w.setRow b2 (arr2.toList.set j (a.eval x)).toArray) (C.ZL (w.setRow b2 (arr2.toList.set j (a.eval x)).toArray) (sumTo S.nx (putF (kilF Fs []) id (Fs id)))) cs vs G := fun hc hG =>
          hc.mono (fun b' hb' => M.zl b' hb') (fun b' hb' => setRow_other w b2 _ (by rintro rfl; omega))
        refine .inr ⟨b, cap, arr, ty, F, hρ, by rw [show (C.env (w.setRow b2 (arr2.toList.set j (a.eval x)).toArray) ρ (upd S.hp (killUp [] ++ [(id, some (.row e ver (.rows true (l.set i ((l.getD i []).set j z)))))])) S.nx (putF (kilF Fs []) id (Fs id))).w = w.setRow b2 (arr2.toList.set j (a.eval x)).toArray from rfl, setRow_other w b2 _ hne]; exact g1, by simp only [Row.len, List.length_set]; exact g2, g3, ?_, g5⟩
        have hcs' : (Row.rows true (l.set i ((l.getD i []).set j z))).cells = (Row.rows true l).cells.take i ++ ([.sl true (l[i].set j z)] ++ (Row.rows true l).cells.drop (i + 1)) := by
          show (l.set i _).map _ = _
          rw [set_split l i _ k2, hgd]
          simp [Row.cells, List.map_take, List.map_drop]
        rw [hcs', has, hvi]
        have hF' : F = fadd FA (fadd (f1 b2) FD) := by rw [s3, s6, q6]
        rw [hF']
        refine CellsRel.append (hmv s1 hz2.1) (by rw [hAl]; simp; omega) (CellsRel.append (F := f1 b2) ?_ rfl (hmv s5 hz2.2))
        refine ⟨f1 b2, fz, .inr ⟨b2, cap0, (arr2.toList.set j (a.eval x)).toArray, ty2, by simp, setRow_heap w b2 arr2 _ ty2 _ q2, by simp; exact q3, by simp; exact q4, fun j' n' hj' => ?_, rfl⟩, rfl, (fadd_fz _).symm⟩
        rw [List.getElem?_set] at hj'
        simp only [List.getElem?_toArray, List.getElem?_set]
        by_cases ej : j = j'
        · subst ej
          rw [if_pos rfl] at hj' ⊢
          have hjs : j < arr2.toList.length := by simp; omega
          simp only [k3, if_true, Option.some.injEq] at hj'
          subst hj'
          simp [hjs, hv]
          omega
        · rw [if_neg ej] at hj' ⊢
          simpa using q5 j' n' hj')
    exact Out.stored ho hrun this
theorem evStore_sound (T : TOK P tt) (h : SRel C S a w ρ Fs) {o : Oper} {t : Nat} {p x : Operand} (ho : o.op = .store t p x) {E : Eff} (he : evStore (R := Eff) tt S.hp n t (St.rd C.N S.sl p) (St.rd C.N S.sl x) some = some E) : ∃ w' ρ' Fs' u, Out P C S o E a w w' ρ' Fs' u := by
  unfold evStore at he
  split at he
  · rename_i id k hp
    split at he
    · rename_i bt cells xs hroot hxs
      obtain ⟨h1, he⟩ := bif_some he
      obtain ⟨h2, he⟩ := bif_some he
      cases he
      obtain ⟨h1, h3⟩ := and_bool h1
      exact evStore_box T h ho hp hroot hxs (eq_of_beq h1) (by simpa [Nat.blt_eq] using h3) (of_decide_eq_true h2)
    · cases he
  · rename_i id i f hp
    split at he
    · rename_i te hte
      split at he
      · rename_i bt ver r hroot
        obtain ⟨hc, he⟩ := bif_some he
        split at he
        · rename_i r' ks bump hst
          cases hel : ks.elem id with
          | true => rw [hel] at he; cases he
          | false =>
            rw [hel] at he
            cases he
            have hidk : id ∉ ks := fun hh => by rw [List.elem_iff.2 hh] at hel; cases hel
            obtain ⟨hlt, hx2⟩ := rd_l h hp
            obtain ⟨r1, e1, hi, b, cap, hρ, hpv⟩ := hx2 _ hroot
            cases e1
            simp only [Cx.env] at hρ
            have scal : isStruct tt t = false → scalarTy tt t = true ∧ f < r.size := fun hs => by
              rw [hs] at hc
              obtain ⟨h1, h2⟩ := and_bool hc
              exact ⟨h1, by simpa [Nat.blt_eq] using h2⟩
            have stru : isStruct tt t = true → te.size = r.size ∧ f = 0 ∧ r.isRecs = true := fun hs => by
              rw [hs] at hc
              obtain ⟨h1, h2⟩ := and_bool hc
              obtain ⟨h3, h4⟩ := and_bool h1
              exact ⟨eq_of_beq h3, eq_of_beq h4, h2⟩
            cases r with
            | ints k l =>
              have hns : isStruct tt t = false := by
                cases hq : isStruct tt t with
                | false => rfl
                | true => have := (stru hq).2.2; cases this
              obtain ⟨hs, hf⟩ := scal hns
              simp only [Row.size] at hf
              have hf0 : f = 0 := by omega
              subst hf0
              simp only [Row.len] at hi
              simp only [storeOwn] at hst
              split at hst
              · rename_i k' z hx
                obtain ⟨hk, hst⟩ := bif_some hst
                have hk := of_decide_eq_true hk
                subst hk
                simp only [Option.some.injEq, Prod.mk.injEq] at hst
                obtain ⟨rfl, rfl, rfl⟩ := hst
                have hv : a.eval x = .int k z := rd_l h hx
                exact store_cell T h ho hp hroot hs (by simp [Row.size]) (.sc (.int k z)) (.ints k (l.set i z)) ver bt (by simp [Row.cells, Row.size, List.map_set]) ⟨.int k l[i], by simp [Row.cells, Row.size, hi]⟩ ⟨hv, rfl⟩ (by rw [hv]; rfl) (by simp [Row.len]) rfl (fun w' => like_row (by simp [Row.len]) rfl (Nat.le_refl _) (fun _ => rfl) (fun _ => rfl))
              · cases hst
            | bools l =>
              have hns : isStruct tt t = false := by
                cases hq : isStruct tt t with
                | false => rfl
                | true => have := (stru hq).2.2; cases this
              obtain ⟨hs, hf⟩ := scal hns
              simp only [Row.size] at hf
              have hf0 : f = 0 := by omega
              subst hf0
              simp only [Row.len] at hi
              simp only [storeOwn] at hst
              split at hst
              · rename_i z hx
                simp only [Option.some.injEq, Prod.mk.injEq] at hst
                obtain ⟨rfl, rfl, rfl⟩ := hst
                have hv : a.eval x = .bool z := rd_l h hx
                exact store_cell T h ho hp hroot hs (by simp [Row.size]) (.sc (.bool z)) (.bools (l.set i z)) ver bt (by simp [Row.cells, Row.size, List.map_set]) ⟨.bool l[i], by simp [Row.cells, Row.size, hi]⟩ ⟨hv, rfl⟩ (by rw [hv]; rfl) (by simp [Row.len]) rfl (fun w' => like_row (by simp [Row.len]) rfl (Nat.le_refl _) (fun _ => rfl) (fun _ => rfl))
              · cases hst
            | strs l =>
              have hns : isStruct tt t = false := by
                cases hq : isStruct tt t with
                | false => rfl
                | true => have := (stru hq).2.2; cases this
              obtain ⟨hs, hf⟩ := scal hns
              simp only [Row.size] at hf
              have hf0 : f = 0 := by omega
              subst hf0
              simp only [Row.len] at hi
              simp only [storeOwn] at hst
              split at hst
              · rename_i z hx
                simp only [Option.some.injEq, Prod.mk.injEq] at hst
                obtain ⟨rfl, rfl, rfl⟩ := hst
                have hv : a.eval x = .string z := rd_l h hx
                exact store_cell T h ho hp hroot hs (by simp [Row.size]) (.sc (.string z)) (.strs (l.set i z)) ver bt (by simp [Row.cells, Row.size, List.map_set]) ⟨.string l[i], by simp [Row.cells, Row.size, hi]⟩ ⟨hv, rfl⟩ (by rw [hv]; rfl) (by simp [Row.len]) rfl (fun w' => like_row (by simp [Row.len]) rfl (Nat.le_refl _) (fun _ => rfl) (fun _ => rfl))
              · cases hst
            | rows own l =>
              have hns : isStruct tt t = false := by
                cases hq : isStruct tt t with
                | false => rfl
                | true => have := (stru hq).2.2; cases this
              obtain ⟨hs, hf⟩ := scal hns
              simp only [Row.size] at hf
              have hf0 : f = 0 := by omega
              subst hf0
              simp only [Row.len] at hi
              simp only [storeOwn] at hst
              split at hst
              · rename_i y hx
                split at hst
                · rename_i o' z ks' hel'
                  simp only [Option.some.injEq, Prod.mk.injEq] at hst
                  obtain ⟨rfl, rfl, rfl⟩ := hst
                  have hrr := h.mem.roots id _ hroot
                  simp only [RootRel, Cx.env] at hrr
                  have hset : (Row.rows own l).cells.set i (.sl own l[i]) = (Row.rows own l).cells := by
                    have : (Row.rows own l).cells[i]? = some (.sl own l[i]) := by simp [Row.cells, hi]
                    apply List.ext_getElem?
                    intro j
                    rw [List.getElem?_set]
                    by_cases e : i = j
                    · subst e; rw [if_pos rfl, this, if_pos (List.getElem?_eq_some_iff.1 this).1]
                    · rw [if_neg e]
                  exact store_rows T h ho hp hroot rfl hs (c := .sl own l[i]) (by rw [hset]; exact hrr) hx hel' hidk bt (ver + 1) (fun w' => like_row (by simp [Row.len]) rfl (Nat.le_succ _) (fun _ => rfl) (fun hh => by omega))
                · cases hst
              · cases hst
            | recs sg own l =>
              simp only [Row.len] at hi
              have hseg : l = l.take i ++ ([l[i]] ++ l.drop (i + 1)) := seg3 l i hi
              have hA : ((l.take i).flatMap fun r => recCells own r 0 sg).length = i * sg.length := by
                rw [flatMap_length _ sg.length (fun r => recCells_length ..), ltake_len l i hi]
              simp only [storeOwn] at hst
              split at hst
              · rename_i xs hx
                obtain ⟨hag, hst⟩ := bif_some hst
                split at hst
                · rename_i o' z ks' hel'
                  simp only [Option.some.injEq, Prod.mk.injEq] at hst
                  obtain ⟨rfl, rfl, rfl⟩ := hst
                  obtain ⟨hsz, hf0, _⟩ := stru hag
                  subst hf0
                  simp only [Row.size] at hsz
                  obtain ⟨arr, ty, F, g1, g2, g3, g4, g5, g6⟩ := row_mem h.mem hroot hρ (by simp only [Row.len]; omega)
                  have hv : AVRel (C.env w ρ S.hp S.nx Fs) (.one (.agg xs)) (a.eval x) := by have := h.rd x; rwa [hx] at this
                  obtain ⟨us, hus, hrel⟩ := hv
                  obtain ⟨Fv, v1, v2, v3, v4, v5⟩ := elemRec_sound h.mem sg _ xs us o' z ks' (Sub.refl _) hel' hrel
                  obtain ⟨ti, t1, t2⟩ := size_facts T hte
                  have hcs : (Row.recs sg own l).cells = ((l.take i).flatMap fun r => recCells own r 0 sg) ++ (recCells own l[i] 0 sg ++ ((l.drop (i + 1)).flatMap fun r => recCells own r 0 sg)) := by
                    refine (congrArg (List.flatMap fun r => recCells own r 0 sg) hseg).trans ?_
                    simp only [List.flatMap_append, List.flatMap_cons, List.flatMap_nil, List.append_nil]
                  rw [hcs] at g4
                  have hvc : (a.eval x).cells.toList = us := by rw [hus]; simp [Value.cells]
                  have hvs : (a.eval x).cells.size = sg.length := by rw [← Array.length_toList, hvc, v4]
                  exact store_own T h ho hpv hroot hρ g1 g5 g6 v3 hidk (A := (l.take i).flatMap fun r => recCells own r 0 sg) (B := recCells own l[i] 0 sg) (D := (l.drop (i + 1)).flatMap fun r => recCells own r 0 sg) (B' := recCells o' z 0 sg) g4 (by rw [hA]; rfl) (by rw [recCells_length, recCells_length]) t1 (by rw [t2, hsz, recCells_length]) (by rw [hvs, recCells_length]) (by rw [hvc]; exact v5) (by rw [hvc]; exact v1) v2 (own && o') (.recs sg (own && o') (l.set i z)) (ver + 1) bt
                    (fun hh => by
                      obtain ⟨rfl, rfl⟩ := and_bool hh
                      show (l.set i z).flatMap _ = _
                      rw [set_split l i z hi]
                      simp)
                    (fun hh => by
                      rw [hh]
                      show (l.set i z).flatMap _ = _
                      rw [set_split l i z hi]
                      simp [List.map_flatMap, recCells_frz])
                    (by simp only [Row.len, List.length_set]; exact g2) g3 (fun w' => like_row (by simp [Row.len]) rfl (Nat.le_succ _) (fun _ => rfl) (fun hh => by omega))
                · cases hst
              · rename_i z hx
                cases hag : isStruct tt t with
                | true => rw [hag] at hst; cases hst
                | false =>
                  rw [hag] at hst
                  simp only [cond_false] at hst
                  obtain ⟨hs, hf⟩ := scal hag
                  simp only [Row.size] at hf
                  split at hst
                  · rename_i hsg
                    simp only [Option.some.injEq, Prod.mk.injEq] at hst
                    obtain ⟨rfl, rfl, rfl⟩ := hst
                    have hv : a.eval x = .int .i64 z := rd_l h hx
                    have hli : l[i]? = some l[i] := List.getElem?_eq_getElem hi
                    have hgd : l.getD i [] = l[i] := by simp [hi]
                    refine store_cell T h ho hp hroot hs hf (.sc (.int .i64 z)) (.recs sg own (l.set i (setLeaf sg (l.getD i []) f (.int z)))) (ver + 1) bt ?_ ?_ ⟨hv, rfl⟩ (by rw [hv]; rfl) (by simp [Row.len]) rfl (fun w' => like_row (by simp [Row.len]) rfl (Nat.le_succ _) (fun _ => rfl) (fun hh => by omega))
                    · simp only [Row.cells, Row.size]
                      refine flatMap_set (fun r => recCells own r 0 sg) sg.length (fun r => recCells_length ..) f hf _ _ l i l[i] hli ?_
                      rw [hgd]
                      exact setLeaf_cells own sg l[i] f (.int z) _ ⟨false, hsg, rfl⟩
                    · have := recs_get sg own l i f hf
                      rw [hli, hsg] at this
                      exact ⟨_, this⟩
                  · cases hst
              · cases hst
        · cases he
      · rename_i bt ver l i' f' hroot
        replace he := bif_some he
        obtain ⟨hc, he⟩ := he
        obtain ⟨hf0, hs⟩ := and_bool hc
        have hf0 := eq_of_beq hf0
        replace he := chk_some he
        obtain ⟨hii, he⟩ := he
        have hii := eq_of_beq hii
        subst hf0 hii
        split at he
        · rename_i y hx
          split at he
          · rename_i z ks hel
            cases helm : ks.elem id with
            | true => rw [helm] at he; cases he
            | false =>
              rw [helm] at he
              cases he
              have hidk : id ∉ ks := fun hh => by rw [List.elem_iff.2 hh] at helm; cases helm
              have hrr := h.mem.roots id _ hroot
              obtain ⟨h1, h2, h3⟩ := hrr
              simp only [Row.size] at h2
              have hf0 : f' = 0 := by omega
              subst hf0
              simp only [Row.size, Nat.mul_one, Nat.add_zero, Cx.env] at h3
              exact store_rows T h ho hp hroot rfl hs (c := .free) h3 hx hel hidk bt (ver + 1) (fun w' => ⟨by simp [Row.len], rfl, Nat.lt_succ_self _⟩)
          · cases he
        · cases he
      · cases he
    · cases he
  · rename_i id m hp
    split at he
    · rename_i k e sz bs hq
      split at he
      · rename_i bt ver r xs r0 hroot hx hr0
        replace he := bif_some he
        obtain ⟨hc, he⟩ := he
        obtain ⟨hc, c9⟩ := and_bool hc
        obtain ⟨hc, c8⟩ := and_bool hc
        obtain ⟨hc, c7⟩ := and_bool hc
        obtain ⟨hc, c6⟩ := and_bool hc
        obtain ⟨hc, c5⟩ := and_bool hc
        obtain ⟨hc, c4⟩ := and_bool hc
        obtain ⟨c2, c3⟩ := and_bool hc
        have c2 := eq_of_beq c2
        have c3 := eq_of_beq c3
        have c4 := eq_of_beq c4
        have c6 := eq_of_beq c6
        have c8 := eq_of_beq c8
        have c9 : 0 < k := by simpa [Nat.blt_eq] using c9
        have c5 : r0.deep = false := by simpa using c5
        have c7 : r.deep = false := by simpa using c7
        split at he
        · rename_i r' hr'
          cases he
          obtain ⟨hlt, hx2⟩ := rd_l h hp
          obtain ⟨r1, e1, hrl, b, cap, hρ, hpv⟩ := hx2 _ hroot
          cases e1
          simp only [Cx.env] at hρ
          obtain ⟨arr, ty, F, g1, g2, g3, g4, g5, g6⟩ := row_mem h.mem hroot hρ (by omega)
          unfold arrRow at hr'
          split at hr'
          · rename_i r2 hr2
            simp only [Option.some.injEq] at hr'
            subst hr'
            have hv : AVRel (C.env w ρ S.hp S.nx Fs) (.one (.agg xs)) (a.eval x) := by have := h.rd x; rwa [hx] at this
            obtain ⟨us, hus, hrel⟩ := hv
            have hrels : ∀ (xs : List LV) (us : List Value), LVsRel (C.env w ρ S.hp S.nx Fs) xs us → AVsRel (C.env w ρ S.hp S.nx Fs) (xs.map fun x => .l x) us := by
              intro xs
              induction xs with
              | nil => intro us hh; cases us <;> exact hh
              | cons y ys ih => intro us hh; cases us with
                | nil => exact hh
                | cons u us => exact ⟨hh.1, ih us hh.2⟩
            have hsub : Sub (fun _ => none) S.hp := fun j r hj => by cases hj
            obtain ⟨Fv, v1, v2, v3, v4, v5, v6, v7, v8, v9, v10⟩ := rowOf_sound h.mem _ us _ r0 r2 [] hsub (emptyRow_len hr0) hr2 (hrels xs us hrel)
            have hir : r0.isRecs = false := by cases r0 <;> first | rfl | (simp [Row.deep] at c5; done)
            have hone : ∀ u ∈ us, u.cells = #[u] := fun u hu => one_cells (v10 hir u hu)
            have hfl : flat us = us := by
              have : ∀ l : List Value, (∀ u ∈ l, u.cells = #[u]) → flat l = l := by
                intro l
                induction l with
                | nil => intro _; rfl
                | cons u l ih => intro hl; rw [flat_cons, hl u (by simp), ih (fun q hq => hl q (by simp [hq]))]; rfl
              exact this us hone
            rw [hfl] at v1 v8
            have hdd : r2.deep = false ∧ r2.size = 1 := ⟨by rw [v9]; exact c5, by rw [v5]; exact c4⟩
            obtain ⟨ti, t1, t2⟩ := size_facts T hq
            have hszt : ti.size = k := by rw [t2, ← c8]; simp [sizeOf', hq]
            have hvc : (a.eval x).cells.toList = us := by rw [hus]; simp [Value.cells]
            have hul : us.length = k := by rw [v7, List.length_map, c2]
            have hrcl : r.cells.length = k := by rw [Row.cells_length, c6, hrl, c3, Nat.mul_one]
            have hr2l : r2.cells.length = k := by rw [Row.cells_length, hdd.2, v4, List.length_map, c2, Nat.mul_one]
            have hvs : (a.eval x).cells.size = k := by rw [← Array.length_toList, hvc, hul]
            exact store_own T h ho hpv hroot hρ g1 g5 g6 (Took.nil _) (by simp) (A := []) (B := r.cells) (D := []) (B' := r2.cells) (ks := []) (by simpa using g4) rfl (by omega) t1 (by omega) (by omega) (by rw [hvc]; exact v8) (by rw [hvc]; exact v1) v2 true r2 (ver + 1) bt (fun _ => by simp) (fun hh => by cases hh) (by rw [v4, List.length_map]; omega) (by rw [hdd.2]; rw [c6] at g3; exact g3)
              (fun w' => like_row (by rw [v4, List.length_map]; omega) (by rw [hdd.2, c6]) (Nat.le_succ _) (fun f => by rw [slAt_nd c7, slAt_nd hdd.1]) (fun hh => by omega))
          · cases hr'
        · cases he
      · cases he
    · cases he
  · rename_i id ver i f j hp
    split at he
    · rename_i bt v' r z hroot hx
      replace he := bif_some he
      obtain ⟨hc, he⟩ := he
      obtain ⟨h1, h2⟩ := and_bool hc
      have h1 := eq_of_beq h1
      subst h1
      split at he
      · rename_i r' hr'
        cases he
        cases r with
        | rows own l =>
          cases own with
          | false => cases hr'
          | true =>
            simp only [setInner, Option.some.injEq] at hr'
            subst hr'
            exact store_inner T h ho hp hroot h2 hx
        | _ => cases hr'
      · cases he
    · cases he
  · cases he
end
end Go.Proofs.Ytfkejiljabmaaaa.V
